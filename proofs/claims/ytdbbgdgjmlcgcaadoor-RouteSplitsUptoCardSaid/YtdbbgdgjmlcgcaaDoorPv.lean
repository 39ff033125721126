/- The plain law of RouteSplits, second part: pieces, queries, pairs; the law itself. -/
import Derived.Test.YtdbbgdgjmlcgcaaDoorPq
set_option linter.unusedVariables false
set_option linter.unusedSimpArgs false
namespace Go.Proofs.YtdbbgdgjmlcgcaaDoor.PRoute
open Go.RowKit Go.Proofs.YtdbbgdgjmlcgcaaDoorW.PrintWords Go.Proofs.YtdbbgdgjmlcgcaaDoorW.PrintLast Go.Proofs.YtdbbgdgjmlcgcaaDoorW.PrintMore

/-- Pieces between bytes; pre: what of the first piece is behind us. -/
def pcs (c : UInt8) : List UInt8 → List UInt8 → List (List UInt8)
  | pre, [] => [pre]
  | pre, b :: l => if b = c then pre :: pcs c [] l else pcs c (pre ++ [b]) l
theorem pcs_hit (c : UInt8) (rest : List UInt8) : ∀ (a pre : List UInt8), c ∉ a → pcs c pre (a ++ c :: rest) = (pre ++ a) :: pcs c [] rest
  | [], pre, _ => by simp [pcs]
  | b :: a, pre, h => by
    have hb : ¬ b = c := fun e => h (by simp [e])
    simp only [List.cons_append, pcs, if_neg hb]
    rw [pcs_hit c rest a (pre ++ [b]) (fun h' => h (List.mem_cons_of_mem _ h'))]
    simp
theorem pcs_miss (c : UInt8) : ∀ (a pre : List UInt8), c ∉ a → pcs c pre a = [pre ++ a]
  | [], pre, _ => by simp [pcs]
  | b :: a, pre, h => by
    have hb : ¬ b = c := fun e => h (by simp [e])
    simp only [pcs, if_neg hb]
    rw [pcs_miss c a (pre ++ [b]) (fun h' => h (List.mem_cons_of_mem _ h'))]
    simp
theorem splitK_pcs (c : UInt8) : ∀ (k : Nat) (s : List UInt8), s.count c = k → Lib.splitK [c] 0 k s = pcs c [] s
  | 0, s, h => by
    rw [pcs_miss c s [] (List.count_eq_zero.1 h)]
    rfl
  | k + 1, s, h => by
    have hmem : c ∈ s := List.count_pos_iff.1 (by omega)
    have hne : Lib.indexByte s c ≠ -1 := by
      intro e
      obtain ⟨j, hj, hjc⟩ := List.mem_iff_getElem.1 hmem
      exact Lib.indexByte_none e j (by rw [List.getElem?_eq_getElem hj, hjc])
    have hge := Lib.indexByte_ge s c
    obtain ⟨o, ho⟩ : ∃ o : Nat, Lib.indexByte s c = o := ⟨(Lib.indexByte s c).toNat, by omega⟩
    obtain ⟨h1, h2⟩ := Lib.indexByte_some ho
    obtain ⟨hlt, hoc⟩ := List.getElem?_eq_some_iff.1 h1
    have hs : s = s.take o ++ c :: s.drop (o + 1) := by
      conv => lhs; rw [← List.take_append_drop o s, List.drop_eq_getElem_cons hlt, hoc]
    have hnot : c ∉ s.take o := by
      intro hm
      obtain ⟨j, hj, hjc⟩ := List.mem_iff_getElem.1 hm
      have hj2 : j < o := by simp at hj; omega
      have := h2 j hj2
      rw [List.getElem_take] at hjc
      exact this (by rw [List.getElem?_eq_getElem (by omega), hjc])
    have hcount : (s.drop (o + 1)).count c = k := by
      rw [hs, List.count_append, List.count_eq_zero.2 hnot, List.count_cons_self] at h
      omega
    have e1 : (Lib.index s [c] == -1) = false := by rw [Lib.index_one, beq_eq_false_iff_ne]; exact hne
    have e2 : (Lib.index s [c]).toNat = o := by rw [Lib.index_one, ho]; rfl
    unfold Lib.splitK
    rw [if_neg (by rw [e1]; decide), e2, splitK_pcs c k _ (by simpa using hcount)]
    conv => rhs; rw [hs, pcs_hit c _ _ [] hnot]
    simp
theorem map_mkB (l : List ByteArray) : (l.map (·.data.toList)).map mkB = l := by
  rw [List.map_map]
  conv => rhs; rw [← List.map_id l]
  apply List.map_congr_left
  intro x _
  exact mkB_of x
/-- The pieces of a text. -/
def pieces (c : UInt8) (s : ByteArray) : List ByteArray := (pcs c [] s.data.toList).map mkB
theorem tsplit (s : ByteArray) (c : UInt8) (hs : s.size < 4294967281) : strings_Split.f s ⟨#[c]⟩ = some (pieces c s) := by
  unfold strings_Split.f strings_genSplit.f
  rw [if_pos ⟨rfl, hs, rfl, rfl⟩]
  simp only [Option.bind_some]
  congr 1
  rw [← map_mkB (Lib.splitB ⟨#[c]⟩ 0 (Lib.countB s ⟨#[c]⟩) s), Lib.splitB_data]
  unfold pieces
  congr 1
  exact splitK_pcs c _ _ (by show s.data.toList.count c = Lib.count s.data.toList [c]; rw [Lib.count_one])

theorem ext_mkB (s : ByteArray) (a b : Nat) : s.extract a b = mkB ((s.data.toList.drop a).take (b - a)) := by rw [← mkB_of (s.extract a b), Lib.extract_data]
theorem take_more {s : List UInt8} {f i : Nat} {c : UInt8} {l : List UInt8} (hf : f ≤ i) (h : s.drop i = c :: l) : (s.drop f).take (i + 1 - f) = (s.drop f).take (i - f) ++ [c] := by
  obtain ⟨d, rfl⟩ : ∃ d, i = f + d := ⟨i - f, by omega⟩
  have h' : (s.drop f).drop d = c :: l := by rw [List.drop_drop]; exact h
  generalize s.drop f = t at h' ⊢
  have hlt : d < t.length := by
    rcases Nat.lt_or_ge d t.length with h2 | h2
    · exact h2
    · rw [List.drop_eq_nil_of_le h2] at h'; cases h'
  rw [List.drop_eq_getElem_cons hlt] at h'
  rw [show f + d + 1 - f = d + 1 by omega, show f + d - f = d by omega, List.take_succ_eq_append_getElem hlt, (List.cons.inj h').1]

theorem rcut_l0 (s : ByteArray) (c : UInt8) (hs : s.size ≤ 1000000000) : ∀ (n i f : Nat) (l : List UInt8) (acc : List ByteArray), l.length ≤ n → s.data.toList.drop i = l → f ≤ i → i ≤ s.size → acc.length ≤ i →
    Ev (fun k => atriumref20_cut.l0 k s (c.toNat : Int) acc (f : Int) (i : Int)) (acc ++ (pcs c ((s.data.toList.drop f).take (i - f)) l).map mkB) := by
  intro n
  induction n with
  | zero =>
    intro i f l acc hl hd hf hi ha
    obtain rfl : l = [] := List.eq_nil_of_length_eq_zero (by omega)
    have hsz := drop_none hd
    have E : Hw i := Hw.mk' (by omega)
    refine Ev.step (f := fun k => atriumref20_cut.l0 k s (c.toNat : Int) (acc ++ [s.extract f i]) ((i + 1 : Nat) : Int) ((i + 1 : Nat) : Int)) (fun k => ?_) (Ev.step (f := fun k => some (acc ++ [s.extract f i])) (fun k => ?_) ?_)
    · simp only [atriumref20_cut.l0]
      rw [if_pos (by omega), if_pos (by omega), if_pos (by omega), if_pos (by omega), if_pos (by omega), E.e1, Int.toNat_natCast, Int.toNat_natCast]
    · simp only [atriumref20_cut.l0]
      rw [if_neg (by omega)]
    · rw [ext_mkB]
      exact Ev.now _
  | succ n ih =>
    intro i f l acc hl hd hf hi ha
    have E : Hw i := Hw.mk' (by omega)
    cases l with
    | nil =>
      have hsz := drop_none hd
      refine Ev.step (f := fun k => atriumref20_cut.l0 k s (c.toNat : Int) (acc ++ [s.extract f i]) ((i + 1 : Nat) : Int) ((i + 1 : Nat) : Int)) (fun k => ?_) (Ev.step (f := fun k => some (acc ++ [s.extract f i])) (fun k => ?_) ?_)
      · simp only [atriumref20_cut.l0]
        rw [if_pos (by omega), if_pos (by omega), if_pos (by omega), if_pos (by omega), if_pos (by omega), E.e1, Int.toNat_natCast, Int.toNat_natCast]
      · simp only [atriumref20_cut.l0]
        rw [if_neg (by omega)]
      · rw [ext_mkB]
        exact Ev.now _
    | cons b l =>
      obtain ⟨hb, hlt, hd1⟩ := bt_drop hd
      by_cases hc : b = c
      · subst hc
        have h2 := ih (i + 1) (i + 1) l (acc ++ [s.extract f i]) (by simpa using hl) hd1 (Nat.le_refl _) (by omega) (by rw [List.length_append, List.length_singleton]; omega)
        simp only [Nat.sub_self, List.take_zero] at h2
        refine Ev.step (f := fun k => atriumref20_cut.l0 k s (b.toNat : Int) (acc ++ [s.extract f i]) ((i + 1 : Nat) : Int) ((i + 1 : Nat) : Int)) (fun k => ?_) ?_
        · simp only [atriumref20_cut.l0]
          rw [if_pos (by omega), if_neg (by omega), if_pos (by omega), if_pos (by omega), hb, if_pos rfl, if_pos (by omega), if_pos (by omega), if_pos (by omega), E.e1, Int.toNat_natCast, Int.toNat_natCast]
        · simp only [pcs, if_pos]
          rw [ext_mkB] at h2 ⊢
          simpa using h2
      · have hne : ¬ (b.toNat : Int) = (c.toNat : Int) := fun h => hc (UInt8.toNat_inj.1 (by omega))
        have h2 := ih (i + 1) f l acc (by simpa using hl) hd1 (by omega) (by omega) (by omega)
        rw [take_more hf hd] at h2
        refine Ev.step (f := fun k => atriumref20_cut.l0 k s (c.toNat : Int) acc (f : Int) ((i + 1 : Nat) : Int)) (fun k => ?_) ?_
        · simp only [atriumref20_cut.l0]
          rw [if_pos (by omega), if_neg (by omega), if_pos (by omega), if_pos (by omega), hb, if_neg hne, E.e1]
        · simp only [pcs, if_neg hc]
          exact h2
theorem rcut (s : ByteArray) (c : UInt8) (hs : s.size ≤ 1000000000) : Ev (fun k => atriumref20_cut.f k s (c.toNat : Int)) (pieces c s) := by
  have := rcut_l0 s c hs s.data.toList.length 0 0 s.data.toList [] (Nat.le_refl _) rfl (Nat.le_refl _) (Nat.zero_le _) (Nat.le_refl _)
  exact (by simpa [pieces] using this : Ev (fun k => atriumref20_cut.l0 k s (c.toNat : Int) [] 0 0) (pieces c s))

/-- Where a byte stands. -/
def posn (c : UInt8) : List UInt8 → Option Nat
  | [] => none
  | b :: l => if b = c then some 0 else (posn c l).map (· + 1)
theorem posn_ix (c : UInt8) : ∀ l, Lib.indexByte l c = match posn c l with
    | some o => (o : Int)
    | none => -1
  | [] => rfl
  | b :: l => by
    unfold Lib.indexByte posn
    rw [posn_ix c l]
    by_cases h : b = c
    · simp [h]
    · rw [if_neg (by simpa using h), if_neg h]
      cases posn c l with
      | none => simp
      | some o =>
        simp
theorem posn_lt {c : UInt8} : ∀ {l : List UInt8} {o : Nat}, posn c l = some o → o < l.length
  | [], o, h => by cases h
  | b :: l, o, h => by
    unfold posn at h
    split at h
    · injection h with h; simp; omega
    · cases hp : posn c l with
      | none => rw [hp] at h; cases h
      | some p =>
        rw [hp] at h
        simp at h
        have := posn_lt hp
        simp
        omega
theorem rfind_l0 (s : ByteArray) (c : UInt8) (hs : s.size ≤ 1000000000) : ∀ (n i : Nat) (l : List UInt8), l.length ≤ n → s.data.toList.drop i = l → i ≤ s.size →
    Ev (fun k => atriumref20_find.l0 k s (c.toNat : Int) (i : Int)) (match posn c l with
      | some o => ((i + o : Nat) : Int)
      | none => (s.size : Int)) := by
  intro n
  induction n with
  | zero =>
    intro i l hl hd hi
    obtain rfl : l = [] := List.eq_nil_of_length_eq_zero (by omega)
    have hsz := drop_none hd
    exact Ev.step (f := fun k => some (s.size : Int)) (fun k => by simp only [atriumref20_find.l0]; rw [if_neg (by omega)]) (Ev.now _)
  | succ n ih =>
    intro i l hl hd hi
    cases l with
    | nil =>
      have hsz := drop_none hd
      exact Ev.step (f := fun k => some (s.size : Int)) (fun k => by simp only [atriumref20_find.l0]; rw [if_neg (by omega)]) (Ev.now _)
    | cons b l =>
      have E : Hw i := Hw.mk' (by omega)
      obtain ⟨hb, hlt, hd1⟩ := bt_drop hd
      by_cases hc : b = c
      · subst hc
        refine Ev.step (f := fun k => some (i : Int)) (fun k => ?_) (by simpa [posn] using Ev.now _)
        simp only [atriumref20_find.l0]
        rw [if_pos (by omega), if_pos (by omega), hb, if_pos rfl]
      · have hne : ¬ (b.toNat : Int) = (c.toNat : Int) := fun h => hc (UInt8.toNat_inj.1 (by omega))
        have h2 := ih (i + 1) l (by simpa using hl) hd1 (by omega)
        refine Ev.step (f := fun k => atriumref20_find.l0 k s (c.toNat : Int) ((i + 1 : Nat) : Int)) (fun k => ?_) ?_
        · simp only [atriumref20_find.l0]
          rw [if_pos (by omega), if_pos (by omega), hb, if_neg hne, E.e1]
        · unfold posn
          rw [if_neg hc]
          cases hp : posn c l with
          | none => rw [hp] at h2; exact h2
          | some o =>
            rw [hp] at h2
            simp only [Option.map_some] at h2 ⊢
            rw [show i + (o + 1) = i + 1 + o by omega]
            exact h2
/-- Where a byte stands first; the length: nowhere. -/
def posI (c : UInt8) (s : ByteArray) : Int := match posn c s.data.toList with
      | some o => (o : Int)
      | none => (s.size : Int)
theorem posI_some {c : UInt8} {s : ByteArray} {o : Nat} (h : posn c s.data.toList = some o) : posI c s = (o : Int) := by unfold posI; rw [h]
theorem posI_none {c : UInt8} {s : ByteArray} (h : posn c s.data.toList = none) : posI c s = (s.size : Int) := by unfold posI; rw [h]
theorem rfind (s : ByteArray) (c : UInt8) (hs : s.size ≤ 1000000000) : Ev (fun k => atriumref20_find.f k s (c.toNat : Int)) (posI c s) := by
  have := rfind_l0 s c hs s.data.toList.length 0 s.data.toList (Nat.le_refl _) rfl (Nat.zero_le _)
  simp only [Nat.zero_add] at this
  exact this
theorem tcut (s : ByteArray) (c : UInt8) (hs : s.size ≤ 1000000000) : strings_Cut.f s ⟨#[c]⟩ = some (match posn c s.data.toList with
      | some o => (s.extract 0 o, s.extract (o + 1) s.size, true)
      | none => (s, ⟨#[]⟩, false)) := by
  unfold strings_Cut.f stringslite_Cut.f stringslite_Index.f
  rw [if_pos (show (⟨#[c]⟩ : ByteArray).size = 1 from rfl)]
  simp only [Option.bind_some]
  have hix : Lib.indexByte s.data.toList ((⟨#[c]⟩ : ByteArray).data.toList.headD 0) = match posn c s.data.toList with
    | some o => (o : Int)
    | none => -1 := posn_ix c _
  rw [hix]
  cases hp : posn c s.data.toList with
  | none => rfl
  | some o =>
    have hlt := posn_lt hp
    rw [data_length] at hlt
    have E : Hw o := Hw.mk' (by omega)
    have E1 : wrap64 ((o : Int) + ((⟨#[c]⟩ : ByteArray).size : Int)) = ((o + 1 : Nat) : Int) := E.e1
    simp only [E1]
    rw [if_pos (by omega), if_pos (by omega), if_pos (by omega), if_pos (by omega), if_pos (by omega), Int.toNat_natCast, Int.toNat_natCast]
    rfl

/-- All pieces may be. -/
def allOk (xs : List ByteArray) : Bool := xs.all fun x => decide ((unB x).2 = 0)
theorem allOk_cons (x : ByteArray) (xs : List ByteArray) : allOk (x :: xs) = (decide ((unB x).2 = 0) && allOk xs) := rfl
theorem rd_at {xs : List ByteArray} {i : Nat} (h : i < xs.length) : rdOf ByteArray.empty xs (i : Int) = xs[i]'h := by
  unfold rdOf
  rw [Int.toNat_natCast, List.getD_eq_getElem?_getD, List.getElem?_eq_getElem h]
  rfl
section
variable (xs : List ByteArray) (hx : ∀ x ∈ xs, x.size ≤ 1000000000) (hn : xs.length ≤ 1000000000)
include hx hn
theorem tsplit_l0 (q : ByteArray) (has : Bool) : ∀ (d i : Nat) (acc : List ByteArray), xs.length - i ≤ d → i ≤ xs.length → acc.length ≤ i →
    Ev (fun k => route_Split.l0 k acc q has xs (xs.length : Int) (i : Int)) (if allOk (xs.drop i) = true then (acc ++ (xs.drop i).map (fun x => (unB x).1), q, has, (0 : Int)) else (([] : List ByteArray), (⟨#[]⟩ : ByteArray), false, (150 : Int))) := by
  intro d
  have base : ∀ (acc : List ByteArray), Ev (fun k => route_Split.l0 k acc q has xs (xs.length : Int) (xs.length : Int)) (if allOk (xs.drop xs.length) = true then (acc ++ (xs.drop xs.length).map (fun x => (unB x).1), q, has, (0 : Int)) else (([] : List ByteArray), (⟨#[]⟩ : ByteArray), false, (150 : Int))) := by
    intro acc
    refine Ev.step (f := fun k => some (acc, q, has, (0 : Int))) (fun k => ?_) ?_
    · simp only [route_Split.l0]
      rw [if_neg (by omega)]
    · rw [List.drop_length]
      simpa [allOk] using Ev.now _
  induction d with
  | zero =>
    intro i acc hd hi ha
    obtain rfl : i = xs.length := by omega
    exact base acc
  | succ d ih =>
    intro i acc hd hi ha
    by_cases hlt : i < xs.length
    case neg =>
      obtain rfl : i = xs.length := by omega
      exact base acc
    have E : Hw i := Hw.mk' (by omega)
    refine Ev.step (f := fun k => (text_Unescape.f k (xs[i]'hlt)).bind fun bt135 => (if bt135.2 = 0 then (if acc.length < 8796093022208 then (route_Split.l0 k (acc ++ [bt135.1]) q has xs (xs.length : Int) ((i + 1 : Nat) : Int)) else (none)) else (some (([] : List ByteArray), (⟨#[]⟩ : ByteArray), false, bt135.2)))) (fun k => ?_) (Ev.bind (tun _ (hx _ (List.getElem_mem hlt))) ?_)
    · simp only [route_Split.l0]
      rw [if_pos (by omega), if_pos (by omega), if_pos (by omega), rd_at hlt, E.e1]
    · rw [List.drop_eq_getElem_cons hlt]
      rcases unB_code (xs[i]'hlt) with h | h
      · simp only [if_pos h, if_pos (show acc.length < 8796093022208 by omega)]
        have h2 := ih (i + 1) (acc ++ [(unB (xs[i]'hlt)).1]) (by omega) (by omega) (by rw [List.length_append, List.length_singleton]; omega)
        have e : allOk ((xs[i]'hlt) :: xs.drop (i + 1)) = allOk (xs.drop (i + 1)) := by rw [allOk_cons, decide_eq_true h, Bool.true_and]
        rw [e]
        rw [List.append_assoc] at h2
        exact h2
      · have e : allOk ((xs[i]'hlt) :: xs.drop (i + 1)) = false := by rw [allOk_cons, decide_eq_false (by rw [h]; decide), Bool.false_and]
        simp only [e, h]
        exact Ev.now _
theorem rraw_l0 (t : ByteArray) (o : Nat) (ho : o ≤ t.size) (ht : t.size ≤ 1000000000) : ∀ (d i : Nat), xs.length - i ≤ d → i ≤ xs.length →
    Ev (fun k => atriumref20_raw.l0 k t (o : Int) xs xs (xs.length : Int) (i : Int)) (if allOk (xs.drop i) = true then (if o = t.size then (xs, (⟨#[]⟩ : ByteArray), false, (0 : Int)) else (xs, t.extract (o + 1) t.size, true, (0 : Int))) else (([] : List ByteArray), (⟨#[]⟩ : ByteArray), false, (150 : Int))) := by
  intro d
  have base : Ev (fun k => atriumref20_raw.l0 k t (o : Int) xs xs (xs.length : Int) (xs.length : Int)) (if allOk (xs.drop xs.length) = true then (if o = t.size then (xs, (⟨#[]⟩ : ByteArray), false, (0 : Int)) else (xs, t.extract (o + 1) t.size, true, (0 : Int))) else (([] : List ByteArray), (⟨#[]⟩ : ByteArray), false, (150 : Int))) := by
    have E : Hw o := Hw.mk' (by omega)
    rw [List.drop_length, if_pos (by rfl)]
    by_cases h : o = t.size
    · rw [if_pos h]
      refine Ev.step (f := fun k => some (xs, (⟨#[]⟩ : ByteArray), false, (0 : Int))) (fun k => ?_) (Ev.now _)
      simp only [atriumref20_raw.l0]
      rw [if_neg (by omega), if_pos (by omega)]
    · rw [if_neg h]
      refine Ev.step (f := fun k => some (xs, t.extract (o + 1) t.size, true, (0 : Int))) (fun k => ?_) (Ev.now _)
      simp only [atriumref20_raw.l0]
      rw [if_neg (by omega), if_neg (by omega), E.e1, if_pos (by omega), if_pos (by omega), Int.toNat_natCast]
  induction d with
  | zero =>
    intro i hd hi
    obtain rfl : i = xs.length := by omega
    exact base
  | succ d ih =>
    intro i hd hi
    by_cases hlt : i < xs.length
    case neg =>
      obtain rfl : i = xs.length := by omega
      exact base
    have E : Hw i := Hw.mk' (by omega)
    refine Ev.step (f := fun k => (atriumref15_Unescape.f k (xs[i]'hlt)).bind fun bt256 => (if bt256.2 = 0 then (atriumref20_raw.l0 k t (o : Int) xs xs (xs.length : Int) ((i + 1 : Nat) : Int)) else (some (([] : List ByteArray), (⟨#[]⟩ : ByteArray), false, (150 : Int))))) (fun k => ?_) (Ev.bind (rdun _ (hx _ (List.getElem_mem hlt))) ?_)
    · simp only [atriumref20_raw.l0]
      rw [if_pos (by omega), if_pos (by omega), if_pos (by omega), rd_at hlt, E.e1]
    · rw [List.drop_eq_getElem_cons hlt]
      rcases unB_code (xs[i]'hlt) with h | h
      · simp only [if_pos h]
        have h2 := ih (i + 1) (by omega) (by omega)
        have e : allOk ((xs[i]'hlt) :: xs.drop (i + 1)) = allOk (xs.drop (i + 1)) := by rw [allOk_cons, decide_eq_true h, Bool.true_and]
        rw [e]
        exact h2
      · have e : allOk ((xs[i]'hlt) :: xs.drop (i + 1)) = false := by rw [allOk_cons, decide_eq_false (by rw [h]; decide), Bool.false_and]
        simp only [e, h]
        exact Ev.now _
theorem rsplit_l0 (q : ByteArray) (has : Bool) : ∀ (d i : Nat) (acc : List ByteArray), xs.length - i ≤ d → i ≤ xs.length → acc.length ≤ i →
    Ev (fun k => atriumref20_Split.l0 k q has acc xs (xs.length : Int) (i : Int)) (acc ++ (xs.drop i).map (fun x => (unB x).1), q, has, (0 : Int)) := by
  intro d
  have base : ∀ (acc : List ByteArray), Ev (fun k => atriumref20_Split.l0 k q has acc xs (xs.length : Int) (xs.length : Int)) (acc ++ (xs.drop xs.length).map (fun x => (unB x).1), q, has, (0 : Int)) := by
    intro acc
    refine Ev.step (f := fun k => some (acc, q, has, (0 : Int))) (fun k => ?_) ?_
    · simp only [atriumref20_Split.l0]
      rw [if_neg (by omega)]
    · rw [List.drop_length]
      simpa using Ev.now _
  induction d with
  | zero =>
    intro i acc hd hi ha
    obtain rfl : i = xs.length := by omega
    exact base acc
  | succ d ih =>
    intro i acc hd hi ha
    by_cases hlt : i < xs.length
    case neg =>
      obtain rfl : i = xs.length := by omega
      exact base acc
    have E : Hw i := Hw.mk' (by omega)
    refine Ev.step (f := fun k => (atriumref15_Unescape.f k (xs[i]'hlt)).bind fun bt265 => (if acc.length < 8796093022208 then (atriumref20_Split.l0 k q has (acc ++ [bt265.1]) xs (xs.length : Int) ((i + 1 : Nat) : Int)) else (none))) (fun k => ?_) (Ev.bind (rdun _ (hx _ (List.getElem_mem hlt))) ?_)
    · simp only [atriumref20_Split.l0]
      rw [if_pos (by omega), if_pos (by omega), if_pos (by omega), rd_at hlt, E.e1]
    · simp only [List.drop_eq_getElem_cons hlt, if_pos (show acc.length < 8796093022208 by omega)]
      have h2 := ih (i + 1) (acc ++ [(unB (xs[i]'hlt)).1]) (by omega) (by omega) (by rw [List.length_append, List.length_singleton]; omega)
      rw [List.append_assoc] at h2
      exact h2
end
end Go.Proofs.YtdbbgdgjmlcgcaaDoor.PRoute
