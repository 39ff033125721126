/- The plain law of RouteSplits, first part: what is escaped, cut and found. -/
import Derived.Test.YtdbbgdgjmlcgcaaDoorPRoutex10
import Derived.Lib.IndexBytes
set_option linter.unusedVariables false
set_option linter.unusedSimpArgs false
namespace Go.Proofs.YtdbbgdgjmlcgcaaDoor.PRoute
open Go.RowKit Go.Proofs.YtdbbgdgjmlcgcaaDoorW.PrintWords Go.Proofs.YtdbbgdgjmlcgcaaDoorW.PrintLast Go.Proofs.YtdbbgdgjmlcgcaaDoorW.PrintMore

theorem w64q {i : Int} (h0 : -9223372036854775808 ≤ i) (h1 : i ≤ 9223372036854775807) : wrap64 i = i := by unfold wrap64; omega
theorem w64n {i n : Nat} (h1 : i + n ≤ 9223372036854775807) : wrap64 ((i : Int) + (n : Int)) = ((i + n : Nat) : Int) := by unfold wrap64; omega
theorem w64n1 {i : Nat} (h1 : i + 1 ≤ 9223372036854775807) : wrap64 ((i : Int) + 1) = ((i + 1 : Nat) : Int) := by unfold wrap64; omega
theorem w64n2 {i : Nat} (h1 : i + 2 ≤ 9223372036854775807) : wrap64 ((i : Int) + 2) = ((i + 2 : Nat) : Int) := by unfold wrap64; omega
/-- The sums of a round, hidden. -/
structure Hw (i : Nat) : Prop where
  e1 : wrap64 ((i : Int) + 1) = ((i + 1 : Nat) : Int)
  e2 : wrap64 ((i : Int) + 2) = ((i + 2 : Nat) : Int)
  e3 : wrap64 (((i + 2 : Nat) : Int) + 1) = ((i + 3 : Nat) : Int)
theorem Hw.mk' {i : Nat} (h : i ≤ 1000000000000) : Hw i := ⟨w64n1 (by omega), w64n2 (by omega), w64n1 (i := i + 2) (by omega)⟩
/-- A string of bytes. -/
def mkB (l : List UInt8) : ByteArray := ⟨l.toArray⟩
theorem mkB_data (l : List UInt8) : (mkB l).data.toList = l := rfl
theorem mkB_of (s : ByteArray) : mkB s.data.toList = s := by obtain ⟨⟨l⟩⟩ := s; rfl
theorem mkB_size (l : List UInt8) : (mkB l).size = l.length := rfl
theorem toL (s : ByteArray) : s.toList = s.data.toList := ByteArray.toList_eq ..
theorem bt_drop {s : ByteArray} {i : Nat} {c : UInt8} {l : List UInt8} (h : s.data.toList.drop i = c :: l) : bt s (i : Int) = (c.toNat : Int) ∧ i < s.size ∧ s.data.toList.drop (i + 1) = l := by
  have hi : i < s.data.toList.length := by
    rcases Nat.lt_or_ge i s.data.toList.length with h' | h'
    · exact h'
    · rw [List.drop_eq_nil_of_le h'] at h; cases h
  rw [List.drop_eq_getElem_cons hi] at h
  obtain ⟨h1, h2⟩ := List.cons.inj h
  have hi2 : i < s.size := by rwa [data_length] at hi
  refine ⟨?_, hi2, h2⟩
  have := bt_at s (i : Int) (by rw [Int.toNat_natCast]; exact hi2)
  rw [← this, ← h1]
  rfl
theorem drop_none {s : ByteArray} {i : Nat} (h : s.data.toList.drop i = []) : s.size ≤ i := by
  have := List.drop_eq_nil_iff.1 h
  rwa [data_length] at this

/-- What a digit says. -/
def hexv (c : UInt8) : Option Nat := if 48 ≤ c.toNat ∧ c.toNat ≤ 57 then some (c.toNat - 48) else if 65 ≤ c.toNat ∧ c.toNat ≤ 70 then some (c.toNat - 55) else if 97 ≤ c.toNat ∧ c.toNat ≤ 102 then some (c.toNat - 87) else none
def hexi (c : UInt8) : Int := match hexv c with
  | some n => n
  | none => -1
theorem hexv_lt {c : UInt8} {n : Nat} (h : hexv c = some n) : n < 16 := by
  unfold hexv at h
  repeat (split at h; · injection h; omega)
  cases h
theorem tdigit_all : ∀ n : Fin 256, text_digit.f (n.val : Int) = some (hexi (UInt8.ofNat n.val)) := by decide +kernel
theorem rhex_all : ∀ n : Fin 256, atriumref15_hex.f 1 (n.val : Int) = some (hexi (UInt8.ofNat n.val)) := by decide +kernel
theorem tdigit (c : UInt8) : text_digit.f (c.toNat : Int) = some (hexi c) := by
  have := tdigit_all ⟨c.toNat, c.toNat_lt⟩
  simpa using this
theorem rhex (c : UInt8) : Ev (fun k => atriumref15_hex.f k (c.toNat : Int)) (hexi c) :=
  Ev.of (atriumref15_hex.mono _) (k := 1) (by have := rhex_all ⟨c.toNat, c.toNat_lt⟩; simpa using this)
theorem byte_or : ∀ a : Fin 16, ∀ b : Fin 16, (Go.bits .or .i64 (wrap64 ((a.val : Int) * 16)) (b.val : Int)) % 256 = (((UInt8.ofNat (a.val * 16 + b.val)).toNat : Nat) : Int) := by decide +kernel
theorem byte_sum : ∀ a : Fin 16, ∀ b : Fin 16, (wrap64 ((wrap64 (16 * (a.val : Int))) + (b.val : Int))) % 256 = (((UInt8.ofNat (a.val * 16 + b.val)).toNat : Nat) : Int) := by decide +kernel

/-- What an escaped text says. -/
def unescS : List UInt8 → Option (List UInt8)
  | [] => some []
  | c :: l => if c = 37 then
      match l with
      | a :: b :: l' => match hexv a, hexv b with
        | some x, some y => (unescS l').map (UInt8.ofNat (x * 16 + y) :: ·)
        | _, _ => none
      | _ => none
    else (unescS l).map (c :: ·)
theorem unescS_ne {c : UInt8} (h : ¬ c = 37) (l : List UInt8) : unescS (c :: l) = (unescS l).map (c :: ·) := by
  conv => lhs; unfold unescS
  rw [if_neg h]
def resU (out : List Int) : Option (List UInt8) → ByteArray × Int
  | some m => (strOfNums (out ++ m.map fun c => (c.toNat : Int)), 0)
  | none => (⟨#[]⟩, 150)
theorem resU_cons (out : List Int) (c : UInt8) (x : Option (List UInt8)) : resU out (x.map (c :: ·)) = resU (out ++ [(c.toNat : Int)]) x := by
  cases x <;> simp [resU]

theorem tun_l0 (s : ByteArray) (hs : s.size ≤ 1000000000) : ∀ (n i : Nat) (l : List UInt8) (out : List Int), l.length ≤ n → s.data.toList.drop i = l → out.length ≤ i → i ≤ s.size →
    Ev (fun k => text_Unescape.l0 k s out (i : Int)) (resU out (unescS l)) := by
  intro n
  induction n with
  | zero =>
    intro i l out hl hd ho hi
    obtain rfl : l = [] := List.eq_nil_of_length_eq_zero (by omega)
    have := drop_none hd
    exact Ev.step (fun k => by simp only [text_Unescape.l0]; rw [if_neg (by omega)]) (by simpa [resU, unescS] using Ev.now _)
  | succ n ih =>
    intro i l out hl hd ho hi
    cases l with
    | nil =>
      have := drop_none hd
      exact Ev.step (fun k => by simp only [text_Unescape.l0]; rw [if_neg (by omega)]) (by simpa [resU, unescS] using Ev.now _)
    | cons c l =>
      obtain ⟨hb, hlt, hd1⟩ := bt_drop hd
      have hl' : l.length ≤ n := by simpa using hl
      have E : Hw i := Hw.mk' (by omega)
      by_cases hc : c = 37
      · subst hc
        have hj : Ev (fun k => text_Unescape.j1 k s out (i : Int) true) ((⟨#[]⟩ : ByteArray), (150 : Int)) := Ev.step (fun k => by simp only [text_Unescape.j1]; rw [if_pos trivial]) (Ev.now _)
        have short : ∀ l', l = l' → l'.length < 2 → Ev (fun k => text_Unescape.l0 k s out (i : Int)) (resU out (unescS (37 :: l))) := by
          intro l' hll hl2
          have hsz : s.size ≤ i + 2 := by
            have : (s.data.toList.drop (i + 1)).length = l.length := by rw [hd1]
            rw [List.length_drop, data_length] at this
            subst hll
            omega
          have hr : resU out (unescS (37 :: l)) = ((⟨#[]⟩ : ByteArray), (150 : Int)) := by
            subst hll
            match l, hl2 with
            | [], _ => rfl
            | [a], _ => rfl
          rw [hr]
          refine Ev.step (f := fun k => text_Unescape.j1 k s out (i : Int) true) (fun k => ?_) hj
          simp only [text_Unescape.l0]
          rw [if_pos (by omega), if_pos (by omega), hb, if_pos (by decide), E.e2, if_pos (by omega)]
        match l, hl', hd1, short with
        | [], _, _, short => exact short _ rfl (by simp)
        | [a], _, _, short => exact short _ rfl (by simp)
        | a :: b :: l', hl', hd1, short =>
          obtain ⟨ha, hlt1, hd2⟩ := bt_drop hd1
          obtain ⟨hbb, hlt2, hd3⟩ := bt_drop hd2
          have bad : hexi a < 0 ∨ hexi b < 0 → Ev (fun k => text_Unescape.l0 k s out (i : Int)) ((⟨#[]⟩ : ByteArray), (150 : Int)) := by
            intro h
            refine Ev.step (f := fun k => text_Unescape.j1 k s out (i : Int) true) (fun k => ?_) hj
            simp only [text_Unescape.l0]
            rw [if_pos (by omega), if_pos (by omega), hb, if_pos (by decide), E.e2, if_neg (by omega), E.e1, if_pos (by omega), if_pos (by omega), ha, tdigit]
            simp only [Option.bind_some]
            by_cases h1 : hexi a < 0
            · rw [if_pos h1]
            · rw [if_neg h1, if_pos (by omega), if_pos (by omega), show ((i + 2 : Nat) : Int) = ((i + 1 + 1 : Nat) : Int) by omega, hbb, tdigit]
              simp only [Option.bind_some]
              rw [decide_eq_true (by omega)]
          show Ev _ (resU out (unescS (37 :: a :: b :: l')))
          unfold unescS
          rw [if_pos rfl]
          cases hxa : hexv a with
          | none => simpa [hxa, resU] using bad (.inl (by simp [hexi, hxa]))
          | some x =>
            cases hxb : hexv b with
            | none => simpa [hxa, hxb, resU] using bad (.inr (by simp [hexi, hxb]))
            | some y =>
              have hx := hexv_lt hxa
              have hy := hexv_lt hxb
              have ea : hexi a = (x : Int) := by simp [hexi, hxa]
              have eb : hexi b = (y : Int) := by simp [hexi, hxb]
              simp only [hxa, hxb, resU_cons]
              have hor := byte_or ⟨x, hx⟩ ⟨y, hy⟩
              simp only at hor
              refine Ev.step (f := fun k => text_Unescape.j1 k s out (i : Int) false) (fun k => ?_) ?_
              · simp only [text_Unescape.l0]
                rw [if_pos (by omega), if_pos (by omega), hb, if_pos (by decide), E.e2, if_neg (by omega), E.e1, if_pos (by omega), if_pos (by omega), ha, tdigit]
                simp only [Option.bind_some]
                rw [if_neg (by omega), if_pos (by omega), if_pos (by omega), show ((i + 2 : Nat) : Int) = ((i + 1 + 1 : Nat) : Int) by omega, hbb, tdigit]
                simp only [Option.bind_some]
                rw [decide_eq_false (by omega)]
              · refine Ev.step (f := fun k => text_Unescape.l0 k s (out ++ [(((UInt8.ofNat (x * 16 + y)).toNat : Nat) : Int)]) ((i + 3 : Nat) : Int)) (fun k => ?_) (ih (i + 3) l' (out ++ [(((UInt8.ofNat (x * 16 + y)).toNat : Nat) : Int)]) (by simp at hl'; omega) hd3 (by rw [List.length_append, List.length_singleton]; omega) (by omega))
                simp only [text_Unescape.j1]
                rw [if_neg (by decide), E.e1, E.e2, if_pos (by omega), if_pos (by omega), ha, tdigit]
                simp only [Option.bind_some]
                rw [if_pos (by omega), if_pos (by omega), show bt s ((i + 2 : Nat) : Int) = (b.toNat : Int) from hbb, tdigit]
                simp only [Option.bind_some]
                rw [if_pos (by omega), E.e3, ea, eb, hor]
      · have hne : ¬ (c.toNat : Int) = 37 := fun h => hc (UInt8.toNat_inj.1 (by show c.toNat = 37; omega))
        have hu : unescS (c :: l) = (unescS l).map (c :: ·) := unescS_ne hc l
        rw [hu, resU_cons]
        refine Ev.step (f := fun k => text_Unescape.l0 k s (out ++ [(c.toNat : Int)]) ((i + 1 : Nat) : Int)) (fun k => ?_) (ih (i + 1) l _ hl' hd1 (by simp; omega) (by omega))
        simp only [text_Unescape.l0]
        rw [if_pos (by omega), if_pos (by omega), hb, if_neg hne, if_pos (by omega), E.e1]

theorem run_l0 (s : ByteArray) (hs : s.size ≤ 1000000000) : ∀ (n i : Nat) (l : List UInt8) (out : List Int), l.length ≤ n → s.data.toList.drop i = l → out.length ≤ i → i ≤ s.size →
    Ev (fun k => atriumref15_Unescape.l0 k s out (i : Int)) (resU out (unescS l)) := by
  intro n
  induction n with
  | zero =>
    intro i l out hl hd ho hi
    obtain rfl : l = [] := List.eq_nil_of_length_eq_zero (by omega)
    have := drop_none hd
    exact Ev.step (fun k => by simp only [atriumref15_Unescape.l0]; rw [if_neg (by omega)]) (by simpa [resU, unescS] using Ev.now _)
  | succ n ih =>
    intro i l out hl hd ho hi
    cases l with
    | nil =>
      have := drop_none hd
      exact Ev.step (fun k => by simp only [atriumref15_Unescape.l0]; rw [if_neg (by omega)]) (by simpa [resU, unescS] using Ev.now _)
    | cons c l =>
      obtain ⟨hb, hlt, hd1⟩ := bt_drop hd
      have hl' : l.length ≤ n := by simpa using hl
      have E : Hw i := Hw.mk' (by omega)
      by_cases hc : c = 37
      · subst hc
        have hj : Ev (fun k => atriumref15_Unescape.j1 k s out (i : Int) true) ((⟨#[]⟩ : ByteArray), (150 : Int)) := Ev.step (fun k => by simp only [atriumref15_Unescape.j1]; rw [if_pos trivial]) (Ev.now _)
        have short : ∀ l', l = l' → l'.length < 2 → Ev (fun k => atriumref15_Unescape.l0 k s out (i : Int)) (resU out (unescS (37 :: l))) := by
          intro l' hll hl2
          have hsz : s.size ≤ i + 2 := by
            have : (s.data.toList.drop (i + 1)).length = l.length := by rw [hd1]
            rw [List.length_drop, data_length] at this
            subst hll
            omega
          have hr : resU out (unescS (37 :: l)) = ((⟨#[]⟩ : ByteArray), (150 : Int)) := by
            subst hll
            match l, hl2 with
            | [], _ => rfl
            | [a], _ => rfl
          rw [hr]
          refine Ev.step (f := fun k => atriumref15_Unescape.j1 k s out (i : Int) true) (fun k => ?_) hj
          simp only [atriumref15_Unescape.l0]
          rw [if_pos (by omega), if_pos (by omega), hb, if_pos (by decide), E.e2, if_pos (by omega)]
        match l, hl', hd1, short with
        | [], _, _, short => exact short _ rfl (by simp)
        | [a], _, _, short => exact short _ rfl (by simp)
        | a :: b :: l', hl', hd1, short =>
          obtain ⟨ha, hlt1, hd2⟩ := bt_drop hd1
          obtain ⟨hbb, hlt2, hd3⟩ := bt_drop hd2
          have hbb : bt s ((i + 2 : Nat) : Int) = (b.toNat : Int) := hbb
          have first : ∀ r, Ev (fun k => if hexi a < 0 then atriumref15_Unescape.j1 k s out (i : Int) true else (atriumref15_hex.f k (b.toNat : Int)).bind fun t => atriumref15_Unescape.j1 k s out (i : Int) (decide (t < 0))) r → Ev (fun k => atriumref15_Unescape.l0 k s out (i : Int)) r := by
            intro r hr
            refine Ev.step (f := fun k => (atriumref15_hex.f k (a.toNat : Int)).bind fun t => if t < 0 then atriumref15_Unescape.j1 k s out (i : Int) true else (atriumref15_hex.f k (b.toNat : Int)).bind fun t => atriumref15_Unescape.j1 k s out (i : Int) (decide (t < 0))) (fun k => ?_) (Ev.bind (rhex a) hr)
            simp only [atriumref15_Unescape.l0]
            rw [if_pos (by omega), if_pos (by omega), hb, if_pos (by decide), E.e2, if_neg (by omega), E.e1, if_pos (by omega), if_pos (by omega), ha]
            simp only [if_pos (show (0 : Int) ≤ ((i + 2 : Nat) : Int) by omega), if_pos (show ((i + 2 : Nat) : Int) < (s.size : Int) by omega), hbb]
          have bad : hexi a < 0 ∨ hexi b < 0 → Ev (fun k => atriumref15_Unescape.l0 k s out (i : Int)) ((⟨#[]⟩ : ByteArray), (150 : Int)) := by
            intro h
            apply first
            by_cases h1 : hexi a < 0
            · simpa [h1] using hj
            · have h2 : hexi b < 0 := by omega
              simp only [if_neg h1]
              refine Ev.bind (rhex b) ?_
              simpa [h2] using hj
          show Ev _ (resU out (unescS (37 :: a :: b :: l')))
          unfold unescS
          rw [if_pos rfl]
          cases hxa : hexv a with
          | none => simpa [hxa, resU] using bad (.inl (by simp [hexi, hxa]))
          | some x =>
            cases hxb : hexv b with
            | none => simpa [hxa, hxb, resU] using bad (.inr (by simp [hexi, hxb]))
            | some y =>
              have hx := hexv_lt hxa
              have hy := hexv_lt hxb
              have ea : hexi a = (x : Int) := by simp [hexi, hxa]
              have eb : hexi b = (y : Int) := by simp [hexi, hxb]
              simp only [hxa, hxb, resU_cons]
              have hor := byte_sum ⟨x, hx⟩ ⟨y, hy⟩
              simp only at hor
              apply first
              simp only [if_neg (show ¬ hexi a < 0 by omega)]
              refine Ev.bind (rhex b) ?_
              rw [decide_eq_false (show ¬ hexi b < 0 by omega)]
              refine Ev.step (f := fun k => (atriumref15_hex.f k (a.toNat : Int)).bind fun t => (atriumref15_hex.f k (b.toNat : Int)).bind fun u => atriumref15_Unescape.l0 k s (out ++ [(wrap64 ((wrap64 (16 * t)) + u)) % 256]) ((i + 3 : Nat) : Int)) (fun k => ?_) (Ev.bind (rhex a) (Ev.bind (rhex b) ?_))
              · simp only [atriumref15_Unescape.j1]
                rw [if_neg (by decide), E.e1, E.e2, if_pos (by omega), if_pos (by omega), ha]
                simp only [if_pos (show (0 : Int) ≤ ((i + 2 : Nat) : Int) by omega), if_pos (show ((i + 2 : Nat) : Int) < (s.size : Int) by omega), hbb, if_pos (show out.length < 140737488355328 by omega), E.e3]
              · rw [ea, eb, hor]
                exact ih (i + 3) l' (out ++ [(((UInt8.ofNat (x * 16 + y)).toNat : Nat) : Int)]) (by simp at hl'; omega) hd3 (by rw [List.length_append, List.length_singleton]; omega) (by omega)
      · have hne : ¬ (c.toNat : Int) = 37 := fun h => hc (UInt8.toNat_inj.1 (by show c.toNat = 37; omega))
        have hu : unescS (c :: l) = (unescS l).map (c :: ·) := unescS_ne hc l
        rw [hu, resU_cons]
        refine Ev.step (f := fun k => atriumref15_Unescape.l0 k s (out ++ [(c.toNat : Int)]) ((i + 1 : Nat) : Int)) (fun k => ?_) (ih (i + 1) l _ hl' hd1 (by simp; omega) (by omega))
        simp only [atriumref15_Unescape.l0]
        rw [if_pos (by omega), if_pos (by omega), hb, if_neg hne, if_pos (by omega), E.e1]

/-- What a text says: both ways. -/
def unB (s : ByteArray) : ByteArray × Int := resU [] (unescS s.data.toList)
theorem tun (s : ByteArray) (hs : s.size ≤ 1000000000) : Ev (fun k => text_Unescape.f k s) (unB s) := tun_l0 s hs s.data.toList.length 0 s.data.toList [] (Nat.le_refl _) rfl (Nat.le_refl _) (Nat.zero_le _)
theorem rdun (s : ByteArray) (hs : s.size ≤ 1000000000) : Ev (fun k => atriumref15_Unescape.f k s) (unB s) := run_l0 s hs s.data.toList.length 0 s.data.toList [] (Nat.le_refl _) rfl (Nat.le_refl _) (Nat.zero_le _)
theorem unB_code (s : ByteArray) : (unB s).2 = 0 ∨ unB s = (⟨#[]⟩, 150) := by
  unfold unB
  cases unescS s.data.toList with
  | none => exact .inr rfl
  | some m => exact .inl rfl
end Go.Proofs.YtdbbgdgjmlcgcaaDoor.PRoute
