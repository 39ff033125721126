/- The plain law of RouteSplits, third part: the law itself. -/
import Derived.Test.YtdbbgdgjmlcgcaaDoorPv
set_option linter.unusedVariables false
set_option linter.unusedSimpArgs false
namespace Go.Proofs.YtdbbgdgjmlcgcaaDoor.PRoute
open Go.RowKit Go.Proofs.YtdbbgdgjmlcgcaaDoorW.PrintWords Go.Proofs.YtdbbgdgjmlcgcaaDoorW.PrintLast Go.Proofs.YtdbbgdgjmlcgcaaDoorW.PrintMore

theorem ext_le (s : ByteArray) (a b : Nat) : (s.extract a b).size ≤ s.size := by rw [ByteArray.size_extract]; omega
theorem pcs_bounds (c : UInt8) : ∀ (l pre : List UInt8), (pcs c pre l).length ≤ l.length + 1 ∧ ∀ p ∈ pcs c pre l, p.length ≤ pre.length + l.length
  | [], pre => ⟨by simp [pcs], fun p hp => by
    simp [pcs] at hp
    subst hp
    simp⟩
  | b :: l, pre => by
    unfold pcs
    split
    · obtain ⟨h1, h2⟩ := pcs_bounds c l []
      refine ⟨by simp; omega, fun p hp => ?_⟩
      rcases List.mem_cons.1 hp with rfl | hp
      · simp
      · have := h2 p hp
        simp at this ⊢
        omega
    · obtain ⟨h1, h2⟩ := pcs_bounds c l (pre ++ [b])
      refine ⟨by simp; omega, fun p hp => ?_⟩
      have := h2 p hp
      simp at this ⊢
      omega
theorem pieces_len (c : UInt8) (s : ByteArray) : (pieces c s).length ≤ s.size + 1 := by
  have := (pcs_bounds c s.data.toList []).1
  rw [data_length] at this
  unfold pieces
  rw [List.length_map]
  exact this
theorem pieces_size (c : UInt8) (s : ByteArray) : ∀ x ∈ pieces c s, x.size ≤ s.size := by
  intro x hx
  obtain ⟨p, hp, rfl⟩ := List.mem_map.1 hx
  have := (pcs_bounds c s.data.toList []).2 p hp
  rw [data_length] at this
  simpa [mkB_size] using this
theorem cutPrefix1 (c : UInt8) (l : List UInt8) : strings_CutPrefix.f (mkB l) ⟨#[c]⟩ = some (match l with
    | b :: l' => if b = c then (mkB l', true) else (mkB (b :: l'), false)
    | [] => (mkB [], false)) := by
  unfold strings_CutPrefix.f stringslite_CutPrefix.f stringslite_HasPrefix.f
  have e1 : ((⟨#[c]⟩ : ByteArray).size : Int) = 1 := rfl
  rw [e1]
  cases l with
  | nil => rfl
  | cons b l =>
    have e2 : ((mkB (b :: l)).size : Int) = (l.length : Int) + 1 := by rw [mkB_size]; simp
    have e3 : ((mkB (b :: l)).extract 0 (1 : Int).toNat).toList = [b] := by rw [ext_mkB, toL]; simp [mkB_data]
    have e4 : (⟨#[c]⟩ : ByteArray).toList = [c] := toL _
    have e5 : (mkB (b :: l)).extract (1 : Int).toNat (mkB (b :: l)).size = mkB l := by rw [ext_mkB]; simp [mkB_data, mkB_size]
    rw [e2, if_pos (by omega), if_pos (by omega), if_pos (by omega), e3, e4, e5]
    simp only [Option.bind_some]
    by_cases h : b = c
    · subst h
      rw [if_pos (by simp), if_pos (by omega), if_pos (by omega)]
      simp
    · have : ([b] == [c]) = false := by simp [h]
      rw [this]
      simp [h]

/-- What a target says. -/
def outS (P : List ByteArray) (q : ByteArray) (has : Bool) : List ByteArray × ByteArray × Bool × Int := if allOk P = true then (P.map (fun x => (unB x).1), q, has, (0 : Int)) else (([] : List ByteArray), (⟨#[]⟩ : ByteArray), false, (150 : Int))
theorem tSplit (t : ByteArray) : ∃ r, Ev (fun k => route_Split.f k t) r ∧ Ev (fun k => atriumref20_Split.f k t) r ∧ r.1.length ≤ 2000 := by
  by_cases hbig : (t.size : Int) > 1024
  · refine ⟨(([] : List ByteArray), (⟨#[]⟩ : ByteArray), false, (3 : Int)), Ev.congr (fun k => by unfold route_Split.f; rw [if_pos hbig]) (Ev.now _), ?_, by simp⟩
    refine Ev.bind (g := fun k => atriumref20_raw.f k t) (a := (([] : List ByteArray), (⟨#[]⟩ : ByteArray), false, (3 : Int))) (Ev.congr (fun k => by unfold atriumref20_raw.f; rw [if_pos hbig]) (Ev.now _)) ?_
    exact Ev.now _
  have bad : (∀ l, t.data.toList ≠ 47 :: l) → ∃ r, Ev (fun k => route_Split.f k t) r ∧ Ev (fun k => atriumref20_Split.f k t) r ∧ r.1.length ≤ 2000 := by
    intro hno
    refine ⟨(([] : List ByteArray), (⟨#[]⟩ : ByteArray), false, (150 : Int)), ?_, ?_, by simp⟩
    · have hcp : ∀ a : ByteArray, (∃ n, a.data.toList = t.data.toList.take n) → strings_CutPrefix.f a ⟨#[47]⟩ = some (a, false) := by
        rintro a ⟨n, ha⟩
        rw [← mkB_of a, ha, cutPrefix1]
        cases hl : t.data.toList.take n with
        | nil => rfl
        | cons b l =>
          have hb : ¬ b = 47 := by
            rintro rfl
            cases ht : t.data.toList with
            | nil => rw [ht] at hl; simp at hl
            | cons b' l' =>
              cases n with
              | zero => simp at hl
              | succ n =>
                rw [ht, List.take_succ_cons] at hl
                injection hl with h1 h2
                exact hno l' (by rw [ht, h1])
          simp [hb]
      refine Ev.congr (fun k => ?_) (Ev.now _)
      unfold route_Split.f
      rw [if_neg hbig, tcut t 63 (by omega)]
      simp only [Option.bind_some]
      cases hp : posn 63 t.data.toList with
      | none =>
        simp only
        rw [hcp t ⟨t.data.toList.length, by rw [List.take_length]⟩]
        rfl
      | some o =>
        simp only
        rw [hcp (t.extract 0 o) ⟨o, by rw [Lib.extract_data]; simp⟩]
        rfl
    · refine Ev.bind (g := fun k => atriumref20_raw.f k t) (a := (([] : List ByteArray), (⟨#[]⟩ : ByteArray), false, (150 : Int))) ?_ (Ev.now _)
      have hj : Ev (fun k => atriumref20_raw.j0 k t true) (([] : List ByteArray), (⟨#[]⟩ : ByteArray), false, (150 : Int)) := Ev.step (fun k => by simp only [atriumref20_raw.j0]; rw [if_pos trivial]) (Ev.now _)
      refine Ev.congr (fun k => ?_) hj
      unfold atriumref20_raw.f
      rw [if_neg hbig]
      cases ht : t.data.toList with
      | nil => rw [if_pos (by rw [toL, ht])]
      | cons b l =>
        obtain ⟨hb, hlt, _⟩ := bt_drop (s := t) (i := 0) (c := b) (l := l) (by rw [List.drop_zero, ht])
        have hne : ¬ (b.toNat : Int) = 47 := fun h => hno l (by rw [ht]; congr 1; exact UInt8.toNat_inj.1 (by show b.toNat = 47; omega))
        rw [if_neg (by rw [toL, ht]; simp), if_pos (by omega), show bt t 0 = (b.toNat : Int) from hb, bne_iff_ne.2 hne]
  cases ht : t.data.toList with
  | nil => exact bad (fun l h => by rw [ht] at h; cases h)
  | cons b l =>
    by_cases hb47 : b = 47
    case neg => exact bad (fun l' h => hb47 (by rw [ht] at h; exact (List.cons.inj h).1))
    subst hb47
    have hsz : t.size = l.length + 1 := by rw [← data_length, ht]; rfl
    have hmk : t = mkB (47 :: l) := by rw [← ht, mkB_of]
    -- one way for both kinds of targets
    have main : ∀ (X q : ByteArray) (has : Bool) (o : Nat), 1 ≤ o → o ≤ t.size → X.size ≤ t.size → t.extract 1 o = X → posI 63 t = (o : Int) → (if o = t.size then ((⟨#[]⟩ : ByteArray), false) else (t.extract (o + 1) t.size, true)) = (q, has) →
        (∃ a, strings_Cut.f t ⟨#[63]⟩ = some (a, q, has) ∧ strings_CutPrefix.f a ⟨#[47]⟩ = some (X, true)) → ∃ r, Ev (fun k => route_Split.f k t) r ∧ Ev (fun k => atriumref20_Split.f k t) r ∧ r.1.length ≤ 2000 := by
      intro X q has o ho1 ho2 hX hext hfind hqh ⟨a, hcut, hpre⟩
      have hx : ∀ x ∈ pieces 47 X, x.size ≤ 1000000000 := fun x h => by have := pieces_size 47 X x h; omega
      have hn : (pieces 47 X).length ≤ 1000000000 := by have := pieces_len 47 X; omega
      refine ⟨outS (pieces 47 X) q has, ?_, ?_, ?_⟩
      · refine Ev.congr (f := fun k => route_Split.l0 k [] q has (pieces 47 X) ((pieces 47 X).length : Int) ((0 : Nat) : Int)) (fun k => ?_) ?_
        · unfold route_Split.f
          rw [if_neg hbig, hcut]
          simp only [Option.bind_some]
          rw [hpre]
          simp only [Option.bind_some]
          rw [if_pos trivial, tsplit X 47 (by omega)]
          rfl
        · have := tsplit_l0 _ hx hn q has (pieces 47 X).length 0 [] (by omega) (by omega) (by simp)
          rw [List.drop_zero, List.nil_append] at this
          exact this
      · have hraw : Ev (fun k => atriumref20_raw.f k t) (if allOk (pieces 47 X) = true then (pieces 47 X, q, has, (0 : Int)) else (([] : List ByteArray), (⟨#[]⟩ : ByteArray), false, (150 : Int))) := by
          obtain ⟨hb, hlt, _⟩ := bt_drop (s := t) (i := 0) (c := 47) (l := l) (by rw [List.drop_zero, ht])
          refine Ev.congr (f := fun k => atriumref20_raw.j0 k t false) (fun k => ?_) ?_
          · unfold atriumref20_raw.f
            rw [if_neg hbig, if_neg (by rw [toL, ht]; simp), if_pos (by omega), show bt t 0 = 47 from hb]
            rfl
          · refine Ev.step (f := fun k => (atriumref20_find.f k t 63).bind fun t251 => (if 1 ≤ t251 then (if t251 ≤ (t.size : Int) then ((atriumref20_cut.f k (t.extract 1 (t251 : Int).toNat) 47).bind fun t252 => (atriumref20_raw.l0 k t t251 t252 t252 (t252.length : Int) 0)) else (none)) else (none))) (fun k => ?_) (Ev.bind (rfind t 63 (by omega)) ?_)
            · simp only [atriumref20_raw.j0]
              rw [if_neg (by decide)]
            · rw [hfind]
              simp only [if_pos (show (1 : Int) ≤ (o : Int) by omega), if_pos (show (o : Int) ≤ (t.size : Int) by omega), Int.toNat_natCast, hext]
              refine Ev.bind (rcut X 47 (by omega)) ?_
              have := rraw_l0 _ hx hn t o ho2 (by omega) (pieces 47 X).length 0 (by omega) (by omega)
              rw [List.drop_zero] at this
              by_cases ho : o = t.size
              · rw [if_pos ho] at hqh
                injection hqh with h1 h2
                subst h1 h2
                rw [if_pos ho] at this
                exact this
              · rw [if_neg ho] at hqh
                injection hqh with h1 h2
                rw [if_neg ho, h1, h2] at this
                rw [← h2] at this ⊢
                exact this
        refine Ev.bind hraw ?_
        by_cases hok : allOk (pieces 47 X) = true
        · simp only [if_pos hok]
          have := rsplit_l0 _ hx hn q has (pieces 47 X).length 0 [] (by omega) (by omega) (by simp)
          rw [List.drop_zero, List.nil_append] at this
          unfold outS
          rw [if_pos hok]
          exact this
        · simp only [if_neg hok]
          unfold outS
          rw [if_neg hok]
          exact Ev.now _
      · unfold outS
        split
        · have := pieces_len 47 X
          simp
          omega
        · simp
    have hpos : posn 63 t.data.toList = (posn 63 l).map (· + 1) := by rw [ht]; rfl
    cases hp : posn 63 l with
    | none =>
      rw [hp] at hpos
      have he : t.extract 1 t.size = mkB l := by rw [ext_mkB, ht, hsz]; simp
      refine main (mkB l) ⟨#[]⟩ false t.size (by omega) (Nat.le_refl _) (by rw [mkB_size]; omega) he (posI_none hpos) (if_pos rfl) ⟨t, ?_, ?_⟩
      · rw [tcut t 63 (by omega), hpos]
        rfl
      · rw [hmk, cutPrefix1]
        rfl
    | some o =>
      have hlt := posn_lt hp
      rw [hp] at hpos
      have he : t.extract 1 (o + 1) = mkB (l.take o) := by rw [ext_mkB, ht]; simp
      refine main (mkB (l.take o)) (t.extract (o + 1 + 1) t.size) true (o + 1) (by omega) (by omega) (by rw [mkB_size, List.length_take]; omega) he (posI_some hpos) (if_neg (by omega)) ⟨t.extract 0 (o + 1), ?_, ?_⟩
      · rw [tcut t 63 (by omega), hpos]
        rfl
      · have : t.extract 0 (o + 1) = mkB (47 :: l.take o) := by rw [ext_mkB, ht]; simp
        rw [this, cutPrefix1]
        rfl

theorem tquery_l0 (xs : List ByteArray) (hx : ∀ x ∈ xs, x.size ≤ 1000000000) (hn : xs.length ≤ 1000000001) : ∀ (d i : Nat) (acc : List S32), xs.length - i ≤ d → i ≤ xs.length → acc.length ≤ i →
    ∃ r, Ev (fun k => route_Query.l0 k acc xs (xs.length : Int) (i : Int)) r ∧ Ev (fun k => atriumref20_Query.l0 k acc xs (xs.length : Int) (i : Int)) r ∧ r.1.length ≤ 1000000001 := by
  intro d
  have base : ∀ acc : List S32, acc.length ≤ xs.length → ∃ r, Ev (fun k => route_Query.l0 k acc xs (xs.length : Int) (xs.length : Int)) r ∧ Ev (fun k => atriumref20_Query.l0 k acc xs (xs.length : Int) (xs.length : Int)) r ∧ r.1.length ≤ 1000000001 := by
    intro acc ha
    refine ⟨(acc, 0), Ev.step (fun k => by simp only [route_Query.l0]; rw [if_neg (by omega)]) (Ev.now _), Ev.step (fun k => by simp only [atriumref20_Query.l0]; rw [if_neg (by omega)]) (Ev.now _), by simp; omega⟩
  induction d with
  | zero =>
    intro i acc hd hi ha
    obtain rfl : i = xs.length := by omega
    exact base acc ha
  | succ d ih =>
    intro i acc hd hi ha
    by_cases hlt : i < xs.length
    case neg =>
      obtain rfl : i = xs.length := by omega
      exact base acc ha
    have E : Hw i := Hw.mk' (by omega)
    have hxs := hx _ (List.getElem_mem hlt)
    obtain ⟨x, hxe⟩ : ∃ x, xs[i]'hlt = x := ⟨_, rfl⟩
    rw [hxe] at hxs
    have hrd : rdOf ByteArray.empty xs (i : Int) = x := by rw [rd_at hlt, hxe]
    -- one round of each
    have goR : ∀ r, Ev (fun k => ((strings_Cut.f x (⟨#[61]⟩ : ByteArray)).bind fun bt181 => (if bt181.2.2 = true then ((text_Unescape.f k bt181.1).bind fun bt184 => ((text_Unescape.f k bt181.2.1).bind fun bt186 => (if bt184.2 = 0 then (if bt186.2 = 0 then (if acc.length < 4398046511104 then (route_Query.l0 k (acc ++ [(⟨bt184.1, bt186.1⟩ : S32)]) xs (xs.length : Int) ((i + 1 : Nat) : Int)) else (none)) else (some (([] : List (S32)), 150))) else (some (([] : List (S32)), 150))))) else (some (([] : List (S32)), 150))))) r → Ev (fun k => route_Query.l0 k acc xs (xs.length : Int) (i : Int)) r := by
      intro r hr
      refine Ev.step (fun k => ?_) hr
      simp only [route_Query.l0]
      rw [if_pos (by omega), if_pos (by omega), if_pos (by omega), hrd, E.e1]
    have goD : ∀ r, Ev (fun k => ((atriumref20_find.f k x 61).bind fun t274 => (if t274 = (x.size : Int) then (some (([] : List (S32)), 150)) else (if 0 ≤ t274 then (if t274 ≤ (x.size : Int) then ((atriumref15_Unescape.f k (x.extract 0 (t274 : Int).toNat)).bind fun bt275 => (if 0 ≤ (wrap64 (t274 + 1)) then (if (wrap64 (t274 + 1)) ≤ (x.size : Int) then ((atriumref15_Unescape.f k (x.extract ((wrap64 (t274 + 1)) : Int).toNat x.size)).bind fun bt277 => (if bt275.2 = 0 then (if bt277.2 = 0 then (if acc.length < 4398046511104 then (atriumref20_Query.l0 k (acc ++ [(⟨bt275.1, bt277.1⟩ : S32)]) xs (xs.length : Int) ((i + 1 : Nat) : Int)) else (none)) else (some (([] : List (S32)), 150))) else (some (([] : List (S32)), 150)))) else (none)) else (none))) else (none)) else (none))))) r → Ev (fun k => atriumref20_Query.l0 k acc xs (xs.length : Int) (i : Int)) r := by
      intro r hr
      refine Ev.step (fun k => ?_) hr
      simp only [atriumref20_Query.l0]
      rw [if_pos (by omega), if_pos (by omega), if_pos (by omega), hrd, E.e1]
    cases hp : posn 61 x.data.toList with
    | none =>
      refine ⟨(([] : List S32), (150 : Int)), goR _ ?_, goD _ ?_, by simp⟩
      · rw [tcut x 61 hxs, hp]
        exact Ev.now _
      · refine Ev.bind (rfind x 61 hxs) ?_
        rw [posI_none hp]
        simp only [if_true]
        exact Ev.now _
    | some o =>
      have hlo := posn_lt hp
      rw [data_length] at hlo
      have Eo : Hw o := Hw.mk' (by omega)
      have u1 := tun (x.extract 0 o) (by have := ext_le x 0 o; omega)
      have u2 := tun (x.extract (o + 1) x.size) (by have := ext_le x (o + 1) x.size; omega)
      have v1 := rdun (x.extract 0 o) (by have := ext_le x 0 o; omega)
      have v2 := rdun (x.extract (o + 1) x.size) (by have := ext_le x (o + 1) x.size; omega)
      obtain ⟨r, h1, h2, h3⟩ := ih (i + 1) (acc ++ [(⟨(unB (x.extract 0 o)).1, (unB (x.extract (o + 1) x.size)).1⟩ : S32)]) (by omega) (by omega) (by rw [List.length_append, List.length_singleton]; omega)
      refine ⟨if (unB (x.extract 0 o)).2 = 0 then (if (unB (x.extract (o + 1) x.size)).2 = 0 then r else (([] : List S32), (150 : Int))) else (([] : List S32), (150 : Int)), goR _ ?_, goD _ ?_, ?_⟩
      · rw [tcut x 61 hxs, hp]
        simp only [Option.bind_some, if_true]
        refine Ev.bind u1 (Ev.bind u2 ?_)
        by_cases c1 : (unB (x.extract 0 o)).2 = 0
        · by_cases c2 : (unB (x.extract (o + 1) x.size)).2 = 0
          · simp only [if_pos c1, if_pos c2, if_pos (show acc.length < 4398046511104 by omega)]
            exact h1
          · simp only [if_pos c1, if_neg c2]
            exact Ev.now _
        · simp only [if_neg c1]
          exact Ev.now _
      · refine Ev.bind (rfind x 61 hxs) ?_
        rw [posI_some hp]
        simp only [if_neg (show ¬ (o : Int) = (x.size : Int) by omega), if_pos (show (0 : Int) ≤ (o : Int) by omega), if_pos (show (o : Int) ≤ (x.size : Int) by omega), Eo.e1, Int.toNat_natCast, if_pos (show (0 : Int) ≤ ((o + 1 : Nat) : Int) by omega), if_pos (show ((o + 1 : Nat) : Int) ≤ (x.size : Int) by omega)]
        refine Ev.bind v1 (Ev.bind v2 ?_)
        by_cases c1 : (unB (x.extract 0 o)).2 = 0
        · by_cases c2 : (unB (x.extract (o + 1) x.size)).2 = 0
          · simp only [if_pos c1, if_pos c2, if_pos (show acc.length < 4398046511104 by omega)]
            exact h2
          · simp only [if_pos c1, if_neg c2]
            exact Ev.now _
        · simp only [if_neg c1]
          exact Ev.now _
      · split
        · split
          · exact h3
          · simp
        · simp
theorem tQuery (q : ByteArray) (hq : q.size ≤ 1000000000) : ∃ r, Ev (fun k => route_Query.f k q) r ∧ Ev (fun k => atriumref20_Query.f k q) r ∧ r.1.length ≤ 1000000001 := by
  by_cases h : q.toList = ([] : List UInt8)
  · exact ⟨(([] : List S32), 0), Ev.congr (fun k => by unfold route_Query.f; rw [if_pos h]) (Ev.now _), Ev.congr (fun k => by unfold atriumref20_Query.f; rw [if_pos h]) (Ev.now _), by simp⟩
  · have hx : ∀ x ∈ pieces 38 q, x.size ≤ 1000000000 := fun x h => by have := pieces_size 38 q x h; omega
    have hn : (pieces 38 q).length ≤ 1000000001 := by have := pieces_len 38 q; omega
    obtain ⟨r, h1, h2, h3⟩ := tquery_l0 _ hx hn (pieces 38 q).length 0 [] (by omega) (by omega) (by simp)
    refine ⟨r, ?_, ?_, h3⟩
    · refine Ev.congr (fun k => ?_) h1
      unfold route_Query.f
      rw [if_neg h, tsplit q 38 (by omega)]
      rfl
    · refine Ev.congr (f := fun k => (atriumref20_cut.f k q 38).bind fun t270 => (atriumref20_Query.l0 k ([] : List (S32)) t270 (t270.length : Int) 0)) (fun k => ?_) (Ev.bind (rcut q 38 hq) h2)
      unfold atriumref20_Query.f
      rw [if_neg h]

theorem same_l0 (l : List ByteArray) (hl : l.length ≤ 1000000000) : ∀ (d i : Nat), l.length - i ≤ d → i ≤ l.length → Ev (fun k => atriumlaw20_same.l0 k l l (l.length : Int) (i : Int)) true := by
  intro d
  induction d with
  | zero =>
    intro i hd hi
    exact Ev.step (f := fun k => some true) (fun k => by simp only [atriumlaw20_same.l0]; rw [if_neg (by omega)]) (Ev.now _)
  | succ d ih =>
    intro i hd hi
    by_cases hlt : i < l.length
    case neg => exact Ev.step (f := fun k => some true) (fun k => by simp only [atriumlaw20_same.l0]; rw [if_neg (by omega)]) (Ev.now _)
    have E : Hw i := Hw.mk' (by omega)
    refine Ev.step (fun k => ?_) (ih (i + 1) (by omega) (by omega))
    simp only [atriumlaw20_same.l0]
    rw [if_pos (by omega), if_pos (by omega), if_pos (by omega), if_pos (by omega), if_pos trivial, E.e1]
theorem same_self (l : List ByteArray) (hl : l.length ≤ 1000000000) : Ev (fun k => atriumlaw20_same.f k l l) true :=
  Ev.congr (fun k => by unfold atriumlaw20_same.f; rw [if_pos rfl]; rfl) (same_l0 l hl l.length 0 (by omega) (by omega))
theorem splits_l0 (l : List S32) (hl : l.length ≤ 1000000001) : ∀ (d i : Nat), l.length - i ≤ d → i ≤ l.length → Ev (fun k => atriumlaw20_RouteSplits.l0 k l l (l.length : Int) (i : Int)) true := by
  intro d
  induction d with
  | zero =>
    intro i hd hi
    exact Ev.step (f := fun k => some true) (fun k => by simp only [atriumlaw20_RouteSplits.l0]; rw [if_neg (by omega)]) (Ev.now _)
  | succ d ih =>
    intro i hd hi
    by_cases hlt : i < l.length
    case neg => exact Ev.step (f := fun k => some true) (fun k => by simp only [atriumlaw20_RouteSplits.l0]; rw [if_neg (by omega)]) (Ev.now _)
    have E : Hw i := Hw.mk' (by omega)
    refine Ev.step (fun k => ?_) (ih (i + 1) (by omega) (by omega))
    simp only [atriumlaw20_RouteSplits.l0]
    rw [if_pos (by omega), if_pos (by omega), if_pos (by omega), if_pos (by omega), E.e1]
    simp
/-- The law. -/
theorem RouteSplits (a b : ByteArray) (hb : b.size ≤ 1000000000) : ∃ k, atriumlaw20_RouteSplits.f k a b = some true := by
  obtain ⟨r, h1, h2, h3⟩ := tSplit a
  obtain ⟨q, g1, g2, g3⟩ := tQuery b hb
  apply Ev.rounds
  unfold atriumlaw20_RouteSplits.f
  refine Ev.bind h1 (Ev.bind h2 ?_)
  simp only [atriumlaw20_awake.f, Option.bind_some, if_true, bne_self_eq_false, Bool.false_eq_true, if_false]
  refine Ev.bind (same_self r.1 (by omega)) ?_
  simp only [if_true]
  refine Ev.step (f := fun k => (route_Query.f k b).bind fun bt296 => ((atriumref20_Query.f k b).bind fun bt300 => (if (bt296.1.length : Int) = (bt300.1.length : Int) then (atriumlaw20_RouteSplits.j1 k bt296.1 bt300.1 (bt296.2 != bt300.2)) else (atriumlaw20_RouteSplits.j1 k bt296.1 bt300.1 true)))) (fun k => ?_) (Ev.bind g1 (Ev.bind g2 ?_))
  · simp only [atriumlaw20_RouteSplits.j0]
    rw [if_neg (by decide)]
  · simp only [if_true, bne_self_eq_false]
    refine Ev.step (fun k => ?_) (splits_l0 q.1 g3 q.1.length 0 (by omega) (by omega))
    simp only [atriumlaw20_RouteSplits.j1]
    rw [if_neg (by decide)]
    rfl
end Go.Proofs.YtdbbgdgjmlcgcaaDoor.PRoute
