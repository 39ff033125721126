/- What the program makes of texts: pieces, escapes. -/
-- YtdbbgdgjmlcgcaaDoorB
import Derived.Test.YtdbbgdgjmlcgcaaDoorPRouteBx7
import Derived.Lib.IndexBytes
import Derived.Lib.SplitLaws
set_option linter.unusedVariables false
set_option linter.unusedSimpArgs false
namespace Go.Proofs.YtdbbgdgjmlcgcaaDoor.PRouteB
open Go.RowKit Go.Proofs.YtdbbgdgjmlcgcaaDoorW.PrintWords Go.Proofs.YtdbbgdgjmlcgcaaDoorW.PrintLast Go.Proofs.YtdbbgdgjmlcgcaaDoorW.PrintMore

theorem w64q {i : Int} (h0 : -9223372036854775808 ≤ i) (h1 : i ≤ 9223372036854775807) : wrap64 i = i := by unfold wrap64; omega
theorem w64n {i n : Nat} (h1 : i + n ≤ 9223372036854775807) : wrap64 ((i : Int) + (n : Int)) = ((i + n : Nat) : Int) := by unfold wrap64; omega
theorem w64n1 {i : Nat} (h1 : i + 1 ≤ 9223372036854775807) : wrap64 ((i : Int) + 1) = ((i + 1 : Nat) : Int) := by unfold wrap64; omega
theorem w64n2 {i : Nat} (h1 : i + 2 ≤ 9223372036854775807) : wrap64 ((i : Int) + 2) = ((i + 2 : Nat) : Int) := by unfold wrap64; omega
/-- The sums of a round, hidden. -/
structure Hw (i : Nat) : Prop where
  e1 : wrap64 ((i : Int) + 1) = ((i + 1 : Nat) : Int)
  e2 : wrap64 ((i : Int) + 2) = ((i + 2 : Nat) : Int)
  e3 : wrap64 (((i + 2 : Nat) : Int) + 1) = ((i + 3 : Nat) : Int)
theorem Hw.mk' {i : Nat} (h : i ≤ 1000000000000) : Hw i := ⟨w64n1 (by omega), w64n2 (by omega), w64n1 (i := i + 2) (by omega)⟩
/-- A string of bytes. -/
def mkB (l : List UInt8) : ByteArray := ⟨l.toArray⟩
theorem mkB_data (l : List UInt8) : (mkB l).data.toList = l := rfl
theorem mkB_of (s : ByteArray) : mkB s.data.toList = s := by obtain ⟨⟨l⟩⟩ := s; rfl
theorem mkB_size (l : List UInt8) : (mkB l).size = l.length := rfl
theorem toL (s : ByteArray) : s.toList = s.data.toList := ByteArray.toList_eq ..
theorem bt_drop {s : ByteArray} {i : Nat} {c : UInt8} {l : List UInt8} (h : s.data.toList.drop i = c :: l) : bt s (i : Int) = (c.toNat : Int) ∧ i < s.size ∧ s.data.toList.drop (i + 1) = l := by
  have hi : i < s.data.toList.length := by
    rcases Nat.lt_or_ge i s.data.toList.length with h' | h'
    · exact h'
    · rw [List.drop_eq_nil_of_le h'] at h; cases h
  rw [List.drop_eq_getElem_cons hi] at h
  obtain ⟨h1, h2⟩ := List.cons.inj h
  have hi2 : i < s.size := by rwa [data_length] at hi
  refine ⟨?_, hi2, h2⟩
  have := bt_at s (i : Int) (by rw [Int.toNat_natCast]; exact hi2)
  rw [← this, ← h1]
  rfl
theorem drop_none {s : ByteArray} {i : Nat} (h : s.data.toList.drop i = []) : s.size ≤ i := by
  have := List.drop_eq_nil_iff.1 h
  rwa [data_length] at this

/-- What a digit says. -/
def hexv (c : UInt8) : Option Nat := if 48 ≤ c.toNat ∧ c.toNat ≤ 57 then some (c.toNat - 48) else if 65 ≤ c.toNat ∧ c.toNat ≤ 70 then some (c.toNat - 55) else if 97 ≤ c.toNat ∧ c.toNat ≤ 102 then some (c.toNat - 87) else none
def hexi (c : UInt8) : Int := match hexv c with
  | some n => n
  | none => -1
theorem hexv_lt {c : UInt8} {n : Nat} (h : hexv c = some n) : n < 16 := by
  unfold hexv at h
  repeat (split at h; · injection h; omega)
  cases h
theorem tdigit_all : ∀ n : Fin 256, text_digit.f (n.val : Int) = some (hexi (UInt8.ofNat n.val)) := by decide +kernel
theorem tdigit (c : UInt8) : text_digit.f (c.toNat : Int) = some (hexi c) := by
  have := tdigit_all ⟨c.toNat, c.toNat_lt⟩
  simpa using this
theorem byte_or : ∀ a : Fin 16, ∀ b : Fin 16, (Go.bits .or .i64 (wrap64 ((a.val : Int) * 16)) (b.val : Int)) % 256 = (((UInt8.ofNat (a.val * 16 + b.val)).toNat : Nat) : Int) := by decide +kernel
/-- What an escaped text says. -/
def unescS : List UInt8 → Option (List UInt8)
  | [] => some []
  | c :: l => if c = 37 then
      match l with
      | a :: b :: l' => match hexv a, hexv b with
        | some x, some y => (unescS l').map (UInt8.ofNat (x * 16 + y) :: ·)
        | _, _ => none
      | _ => none
    else (unescS l).map (c :: ·)
theorem unescS_ne {c : UInt8} (h : ¬ c = 37) (l : List UInt8) : unescS (c :: l) = (unescS l).map (c :: ·) := by
  conv => lhs; unfold unescS
  rw [if_neg h]
def resU (out : List Int) : Option (List UInt8) → ByteArray × Int
  | some m => (strOfNums (out ++ m.map fun c => (c.toNat : Int)), 0)
  | none => (⟨#[]⟩, 150)
theorem resU_cons (out : List Int) (c : UInt8) (x : Option (List UInt8)) : resU out (x.map (c :: ·)) = resU (out ++ [(c.toNat : Int)]) x := by
  cases x <;> simp [resU]

theorem tun_l0 (s : ByteArray) (hs : s.size ≤ 1000000000) : ∀ (n i : Nat) (l : List UInt8) (out : List Int), l.length ≤ n → s.data.toList.drop i = l → out.length ≤ i → i ≤ s.size →
    Ev (fun k => text_Unescape.l0 k s out (i : Int)) (resU out (unescS l)) := by
  intro n
  induction n with
  | zero =>
    intro i l out hl hd ho hi
    obtain rfl : l = [] := List.eq_nil_of_length_eq_zero (by omega)
    have := drop_none hd
    exact Ev.step (fun k => by simp only [text_Unescape.l0]; rw [if_neg (by omega)]) (by simpa [resU, unescS] using Ev.now _)
  | succ n ih =>
    intro i l out hl hd ho hi
    cases l with
    | nil =>
      have := drop_none hd
      exact Ev.step (fun k => by simp only [text_Unescape.l0]; rw [if_neg (by omega)]) (by simpa [resU, unescS] using Ev.now _)
    | cons c l =>
      obtain ⟨hb, hlt, hd1⟩ := bt_drop hd
      have hl' : l.length ≤ n := by simpa using hl
      have E : Hw i := Hw.mk' (by omega)
      by_cases hc : c = 37
      · subst hc
        have hj : Ev (fun k => text_Unescape.j1 k s out (i : Int) true) ((⟨#[]⟩ : ByteArray), (150 : Int)) := Ev.step (fun k => by simp only [text_Unescape.j1]; rw [if_pos trivial]) (Ev.now _)
        have short : ∀ l', l = l' → l'.length < 2 → Ev (fun k => text_Unescape.l0 k s out (i : Int)) (resU out (unescS (37 :: l))) := by
          intro l' hll hl2
          have hsz : s.size ≤ i + 2 := by
            have : (s.data.toList.drop (i + 1)).length = l.length := by rw [hd1]
            rw [List.length_drop, data_length] at this
            subst hll
            omega
          have hr : resU out (unescS (37 :: l)) = ((⟨#[]⟩ : ByteArray), (150 : Int)) := by
            subst hll
            match l, hl2 with
            | [], _ => rfl
            | [a], _ => rfl
          rw [hr]
          refine Ev.step (f := fun k => text_Unescape.j1 k s out (i : Int) true) (fun k => ?_) hj
          simp only [text_Unescape.l0]
          rw [if_pos (by omega), if_pos (by omega), hb, if_pos (by decide), E.e2, if_pos (by omega)]
        match l, hl', hd1, short with
        | [], _, _, short => exact short _ rfl (by simp)
        | [a], _, _, short => exact short _ rfl (by simp)
        | a :: b :: l', hl', hd1, short =>
          obtain ⟨ha, hlt1, hd2⟩ := bt_drop hd1
          obtain ⟨hbb, hlt2, hd3⟩ := bt_drop hd2
          have bad : hexi a < 0 ∨ hexi b < 0 → Ev (fun k => text_Unescape.l0 k s out (i : Int)) ((⟨#[]⟩ : ByteArray), (150 : Int)) := by
            intro h
            refine Ev.step (f := fun k => text_Unescape.j1 k s out (i : Int) true) (fun k => ?_) hj
            simp only [text_Unescape.l0]
            rw [if_pos (by omega), if_pos (by omega), hb, if_pos (by decide), E.e2, if_neg (by omega), E.e1, if_pos (by omega), if_pos (by omega), ha, tdigit]
            simp only [Option.bind_some]
            by_cases h1 : hexi a < 0
            · rw [if_pos h1]
            · rw [if_neg h1, if_pos (by omega), if_pos (by omega), show ((i + 2 : Nat) : Int) = ((i + 1 + 1 : Nat) : Int) by omega, hbb, tdigit]
              simp only [Option.bind_some]
              rw [decide_eq_true (by omega)]
          show Ev _ (resU out (unescS (37 :: a :: b :: l')))
          unfold unescS
          rw [if_pos rfl]
          cases hxa : hexv a with
          | none => simpa [hxa, resU] using bad (.inl (by simp [hexi, hxa]))
          | some x =>
            cases hxb : hexv b with
            | none => simpa [hxa, hxb, resU] using bad (.inr (by simp [hexi, hxb]))
            | some y =>
              have hx := hexv_lt hxa
              have hy := hexv_lt hxb
              have ea : hexi a = (x : Int) := by simp [hexi, hxa]
              have eb : hexi b = (y : Int) := by simp [hexi, hxb]
              simp only [hxa, hxb, resU_cons]
              have hor := byte_or ⟨x, hx⟩ ⟨y, hy⟩
              simp only at hor
              refine Ev.step (f := fun k => text_Unescape.j1 k s out (i : Int) false) (fun k => ?_) ?_
              · simp only [text_Unescape.l0]
                rw [if_pos (by omega), if_pos (by omega), hb, if_pos (by decide), E.e2, if_neg (by omega), E.e1, if_pos (by omega), if_pos (by omega), ha, tdigit]
                simp only [Option.bind_some]
                rw [if_neg (by omega), if_pos (by omega), if_pos (by omega), show ((i + 2 : Nat) : Int) = ((i + 1 + 1 : Nat) : Int) by omega, hbb, tdigit]
                simp only [Option.bind_some]
                rw [decide_eq_false (by omega)]
              · refine Ev.step (f := fun k => text_Unescape.l0 k s (out ++ [(((UInt8.ofNat (x * 16 + y)).toNat : Nat) : Int)]) ((i + 3 : Nat) : Int)) (fun k => ?_) (ih (i + 3) l' (out ++ [(((UInt8.ofNat (x * 16 + y)).toNat : Nat) : Int)]) (by simp at hl'; omega) hd3 (by rw [List.length_append, List.length_singleton]; omega) (by omega))
                simp only [text_Unescape.j1]
                rw [if_neg (by decide), E.e1, E.e2, if_pos (by omega), if_pos (by omega), ha, tdigit]
                simp only [Option.bind_some]
                rw [if_pos (by omega), if_pos (by omega), show bt s ((i + 2 : Nat) : Int) = (b.toNat : Int) from hbb, tdigit]
                simp only [Option.bind_some]
                rw [if_pos (by omega), E.e3, ea, eb, hor]
      · have hne : ¬ (c.toNat : Int) = 37 := fun h => hc (UInt8.toNat_inj.1 (by show c.toNat = 37; omega))
        have hu : unescS (c :: l) = (unescS l).map (c :: ·) := unescS_ne hc l
        rw [hu, resU_cons]
        refine Ev.step (f := fun k => text_Unescape.l0 k s (out ++ [(c.toNat : Int)]) ((i + 1 : Nat) : Int)) (fun k => ?_) (ih (i + 1) l _ hl' hd1 (by simp; omega) (by omega))
        simp only [text_Unescape.l0]
        rw [if_pos (by omega), if_pos (by omega), hb, if_neg hne, if_pos (by omega), E.e1]

/-- What a text says: both ways. -/
def unB (s : ByteArray) : ByteArray × Int := resU [] (unescS s.data.toList)
theorem tun (s : ByteArray) (hs : s.size ≤ 1000000000) : Ev (fun k => text_Unescape.f k s) (unB s) := tun_l0 s hs s.data.toList.length 0 s.data.toList [] (Nat.le_refl _) rfl (Nat.le_refl _) (Nat.zero_le _)
theorem unB_code (s : ByteArray) : (unB s).2 = 0 ∨ unB s = (⟨#[]⟩, 150) := by
  unfold unB
  cases unescS s.data.toList with
  | none => exact .inr rfl
  | some m => exact .inl rfl


/-- Pieces between bytes; pre: what of the first piece is behind us. -/
def pcs (c : UInt8) : List UInt8 → List UInt8 → List (List UInt8)
  | pre, [] => [pre]
  | pre, b :: l => if b = c then pre :: pcs c [] l else pcs c (pre ++ [b]) l
theorem pcs_hit (c : UInt8) (rest : List UInt8) : ∀ (a pre : List UInt8), c ∉ a → pcs c pre (a ++ c :: rest) = (pre ++ a) :: pcs c [] rest
  | [], pre, _ => by simp [pcs]
  | b :: a, pre, h => by
    have hb : ¬ b = c := fun e => h (by simp [e])
    simp only [List.cons_append, pcs, if_neg hb]
    rw [pcs_hit c rest a (pre ++ [b]) (fun h' => h (List.mem_cons_of_mem _ h'))]
    simp
theorem pcs_miss (c : UInt8) : ∀ (a pre : List UInt8), c ∉ a → pcs c pre a = [pre ++ a]
  | [], pre, _ => by simp [pcs]
  | b :: a, pre, h => by
    have hb : ¬ b = c := fun e => h (by simp [e])
    simp only [pcs, if_neg hb]
    rw [pcs_miss c a (pre ++ [b]) (fun h' => h (List.mem_cons_of_mem _ h'))]
    simp
theorem splitK_pcs (c : UInt8) : ∀ (k : Nat) (s : List UInt8), s.count c = k → Lib.splitK [c] 0 k s = pcs c [] s
  | 0, s, h => by
    rw [pcs_miss c s [] (List.count_eq_zero.1 h)]
    rfl
  | k + 1, s, h => by
    have hmem : c ∈ s := List.count_pos_iff.1 (by omega)
    have hne : Lib.indexByte s c ≠ -1 := by
      intro e
      obtain ⟨j, hj, hjc⟩ := List.mem_iff_getElem.1 hmem
      exact Lib.indexByte_none e j (by rw [List.getElem?_eq_getElem hj, hjc])
    have hge := Lib.indexByte_ge s c
    obtain ⟨o, ho⟩ : ∃ o : Nat, Lib.indexByte s c = o := ⟨(Lib.indexByte s c).toNat, by omega⟩
    obtain ⟨h1, h2⟩ := Lib.indexByte_some ho
    obtain ⟨hlt, hoc⟩ := List.getElem?_eq_some_iff.1 h1
    have hs : s = s.take o ++ c :: s.drop (o + 1) := by
      conv => lhs; rw [← List.take_append_drop o s, List.drop_eq_getElem_cons hlt, hoc]
    have hnot : c ∉ s.take o := by
      intro hm
      obtain ⟨j, hj, hjc⟩ := List.mem_iff_getElem.1 hm
      have hj2 : j < o := by simp at hj; omega
      have := h2 j hj2
      rw [List.getElem_take] at hjc
      exact this (by rw [List.getElem?_eq_getElem (by omega), hjc])
    have hcount : (s.drop (o + 1)).count c = k := by
      rw [hs, List.count_append, List.count_eq_zero.2 hnot, List.count_cons_self] at h
      omega
    have e1 : (Lib.index s [c] == -1) = false := by rw [Lib.index_one, beq_eq_false_iff_ne]; exact hne
    have e2 : (Lib.index s [c]).toNat = o := by rw [Lib.index_one, ho]; rfl
    unfold Lib.splitK
    rw [if_neg (by rw [e1]; decide), e2, splitK_pcs c k _ (by simpa using hcount)]
    conv => rhs; rw [hs, pcs_hit c _ _ [] hnot]
    simp
theorem map_mkB (l : List ByteArray) : (l.map (·.data.toList)).map mkB = l := by
  rw [List.map_map]
  conv => rhs; rw [← List.map_id l]
  apply List.map_congr_left
  intro x _
  exact mkB_of x
/-- The pieces of a text. -/
def pieces (c : UInt8) (s : ByteArray) : List ByteArray := (pcs c [] s.data.toList).map mkB
theorem tsplit (s : ByteArray) (c : UInt8) (hs : s.size < 4294967281) : strings_Split.f s ⟨#[c]⟩ = some (pieces c s) := by
  unfold strings_Split.f strings_genSplit.f
  rw [if_pos ⟨rfl, hs, rfl, rfl⟩]
  simp only [Option.bind_some]
  congr 1
  rw [← map_mkB (Lib.splitB ⟨#[c]⟩ 0 (Lib.countB s ⟨#[c]⟩) s), Lib.splitB_data]
  unfold pieces
  congr 1
  exact splitK_pcs c _ _ (by show s.data.toList.count c = Lib.count s.data.toList [c]; rw [Lib.count_one])

theorem ext_mkB (s : ByteArray) (a b : Nat) : s.extract a b = mkB ((s.data.toList.drop a).take (b - a)) := by rw [← mkB_of (s.extract a b), Lib.extract_data]
/-- Where a byte stands. -/
def posn (c : UInt8) : List UInt8 → Option Nat
  | [] => none
  | b :: l => if b = c then some 0 else (posn c l).map (· + 1)
theorem posn_ix (c : UInt8) : ∀ l, Lib.indexByte l c = match posn c l with
    | some o => (o : Int)
    | none => -1
  | [] => rfl
  | b :: l => by
    unfold Lib.indexByte posn
    rw [posn_ix c l]
    by_cases h : b = c
    · simp [h]
    · rw [if_neg (by simpa using h), if_neg h]
      cases posn c l with
      | none => simp
      | some o =>
        simp
theorem posn_lt {c : UInt8} : ∀ {l : List UInt8} {o : Nat}, posn c l = some o → o < l.length
  | [], o, h => by cases h
  | b :: l, o, h => by
    unfold posn at h
    split at h
    · injection h with h; simp; omega
    · cases hp : posn c l with
      | none => rw [hp] at h; cases h
      | some p =>
        rw [hp] at h
        simp at h
        have := posn_lt hp
        simp
        omega
theorem tcut (s : ByteArray) (c : UInt8) (hs : s.size ≤ 1000000000) : strings_Cut.f s ⟨#[c]⟩ = some (match posn c s.data.toList with
      | some o => (s.extract 0 o, s.extract (o + 1) s.size, true)
      | none => (s, ⟨#[]⟩, false)) := by
  unfold strings_Cut.f stringslite_Cut.f stringslite_Index.f
  rw [if_pos (show (⟨#[c]⟩ : ByteArray).size = 1 from rfl)]
  simp only [Option.bind_some]
  have hix : Lib.indexByte s.data.toList ((⟨#[c]⟩ : ByteArray).data.toList.headD 0) = match posn c s.data.toList with
    | some o => (o : Int)
    | none => -1 := posn_ix c _
  rw [hix]
  cases hp : posn c s.data.toList with
  | none => rfl
  | some o =>
    have hlt := posn_lt hp
    rw [data_length] at hlt
    have E : Hw o := Hw.mk' (by omega)
    have E1 : wrap64 ((o : Int) + ((⟨#[c]⟩ : ByteArray).size : Int)) = ((o + 1 : Nat) : Int) := E.e1
    simp only [E1]
    rw [if_pos (by omega), if_pos (by omega), if_pos (by omega), if_pos (by omega), if_pos (by omega), Int.toNat_natCast, Int.toNat_natCast]
    rfl

/-- All pieces may be. -/
def allOk (xs : List ByteArray) : Bool := xs.all fun x => decide ((unB x).2 = 0)
theorem allOk_cons (x : ByteArray) (xs : List ByteArray) : allOk (x :: xs) = (decide ((unB x).2 = 0) && allOk xs) := rfl
theorem rd_at {xs : List ByteArray} {i : Nat} (h : i < xs.length) : rdOf ByteArray.empty xs (i : Int) = xs[i]'h := by
  unfold rdOf
  rw [Int.toNat_natCast, List.getD_eq_getElem?_getD, List.getElem?_eq_getElem h]
  rfl
section
variable (xs : List ByteArray) (hx : ∀ x ∈ xs, x.size ≤ 1000000000) (hn : xs.length ≤ 1000000000)
include hx hn
theorem tsplit_l0 (q : ByteArray) (has : Bool) : ∀ (d i : Nat) (acc : List ByteArray), xs.length - i ≤ d → i ≤ xs.length → acc.length ≤ i →
    Ev (fun k => route_Split.l0 k acc q has xs (xs.length : Int) (i : Int)) (if allOk (xs.drop i) = true then (acc ++ (xs.drop i).map (fun x => (unB x).1), q, has, (0 : Int)) else (([] : List ByteArray), (⟨#[]⟩ : ByteArray), false, (150 : Int))) := by
  intro d
  have base : ∀ (acc : List ByteArray), Ev (fun k => route_Split.l0 k acc q has xs (xs.length : Int) (xs.length : Int)) (if allOk (xs.drop xs.length) = true then (acc ++ (xs.drop xs.length).map (fun x => (unB x).1), q, has, (0 : Int)) else (([] : List ByteArray), (⟨#[]⟩ : ByteArray), false, (150 : Int))) := by
    intro acc
    refine Ev.step (f := fun k => some (acc, q, has, (0 : Int))) (fun k => ?_) ?_
    · simp only [route_Split.l0]
      rw [if_neg (by omega)]
    · rw [List.drop_length]
      simpa [allOk] using Ev.now _
  induction d with
  | zero =>
    intro i acc hd hi ha
    obtain rfl : i = xs.length := by omega
    exact base acc
  | succ d ih =>
    intro i acc hd hi ha
    by_cases hlt : i < xs.length
    case neg =>
      obtain rfl : i = xs.length := by omega
      exact base acc
    have E : Hw i := Hw.mk' (by omega)
    refine Ev.step (f := fun k => (text_Unescape.f k (xs[i]'hlt)).bind fun bt135 => (if bt135.2 = 0 then (if acc.length < 8796093022208 then (route_Split.l0 k (acc ++ [bt135.1]) q has xs (xs.length : Int) ((i + 1 : Nat) : Int)) else (none)) else (some (([] : List ByteArray), (⟨#[]⟩ : ByteArray), false, bt135.2)))) (fun k => ?_) (Ev.bind (tun _ (hx _ (List.getElem_mem hlt))) ?_)
    · simp only [route_Split.l0]
      rw [if_pos (by omega), if_pos (by omega), if_pos (by omega), rd_at hlt, E.e1]
    · rw [List.drop_eq_getElem_cons hlt]
      rcases unB_code (xs[i]'hlt) with h | h
      · simp only [if_pos h, if_pos (show acc.length < 8796093022208 by omega)]
        have h2 := ih (i + 1) (acc ++ [(unB (xs[i]'hlt)).1]) (by omega) (by omega) (by rw [List.length_append, List.length_singleton]; omega)
        have e : allOk ((xs[i]'hlt) :: xs.drop (i + 1)) = allOk (xs.drop (i + 1)) := by rw [allOk_cons, decide_eq_true h, Bool.true_and]
        rw [e]
        rw [List.append_assoc] at h2
        exact h2
      · have e : allOk ((xs[i]'hlt) :: xs.drop (i + 1)) = false := by rw [allOk_cons, decide_eq_false (by rw [h]; decide), Bool.false_and]
        simp only [e, h]
        exact Ev.now _
end


theorem ext_le (s : ByteArray) (a b : Nat) : (s.extract a b).size ≤ s.size := by rw [ByteArray.size_extract]; omega
theorem pcs_bounds (c : UInt8) : ∀ (l pre : List UInt8), (pcs c pre l).length ≤ l.length + 1 ∧ ∀ p ∈ pcs c pre l, p.length ≤ pre.length + l.length
  | [], pre => ⟨by simp [pcs], fun p hp => by
    simp [pcs] at hp
    subst hp
    simp⟩
  | b :: l, pre => by
    unfold pcs
    split
    · obtain ⟨h1, h2⟩ := pcs_bounds c l []
      refine ⟨by simp; omega, fun p hp => ?_⟩
      rcases List.mem_cons.1 hp with rfl | hp
      · simp
      · have := h2 p hp
        simp at this ⊢
        omega
    · obtain ⟨h1, h2⟩ := pcs_bounds c l (pre ++ [b])
      refine ⟨by simp; omega, fun p hp => ?_⟩
      have := h2 p hp
      simp at this ⊢
      omega
theorem pieces_len (c : UInt8) (s : ByteArray) : (pieces c s).length ≤ s.size + 1 := by
  have := (pcs_bounds c s.data.toList []).1
  rw [data_length] at this
  unfold pieces
  rw [List.length_map]
  exact this
theorem pieces_size (c : UInt8) (s : ByteArray) : ∀ x ∈ pieces c s, x.size ≤ s.size := by
  intro x hx
  obtain ⟨p, hp, rfl⟩ := List.mem_map.1 hx
  have := (pcs_bounds c s.data.toList []).2 p hp
  rw [data_length] at this
  simpa [mkB_size] using this
theorem cutPrefix1 (c : UInt8) (l : List UInt8) : strings_CutPrefix.f (mkB l) ⟨#[c]⟩ = some (match l with
    | b :: l' => if b = c then (mkB l', true) else (mkB (b :: l'), false)
    | [] => (mkB [], false)) := by
  unfold strings_CutPrefix.f stringslite_CutPrefix.f stringslite_HasPrefix.f
  have e1 : ((⟨#[c]⟩ : ByteArray).size : Int) = 1 := rfl
  rw [e1]
  cases l with
  | nil => rfl
  | cons b l =>
    have e2 : ((mkB (b :: l)).size : Int) = (l.length : Int) + 1 := by rw [mkB_size]; simp
    have e3 : ((mkB (b :: l)).extract 0 (1 : Int).toNat).toList = [b] := by rw [ext_mkB, toL]; simp [mkB_data]
    have e4 : (⟨#[c]⟩ : ByteArray).toList = [c] := toL _
    have e5 : (mkB (b :: l)).extract (1 : Int).toNat (mkB (b :: l)).size = mkB l := by rw [ext_mkB]; simp [mkB_data, mkB_size]
    rw [e2, if_pos (by omega), if_pos (by omega), if_pos (by omega), e3, e4, e5]
    simp only [Option.bind_some]
    by_cases h : b = c
    · subst h
      rw [if_pos (by simp), if_pos (by omega), if_pos (by omega)]
      simp
    · have : ([b] == [c]) = false := by simp [h]
      rw [this]
      simp [h]

/-- What a target says. -/
def outS (P : List ByteArray) (q : ByteArray) (has : Bool) : List ByteArray × ByteArray × Bool × Int := if allOk P = true then (P.map (fun x => (unB x).1), q, has, (0 : Int)) else (([] : List ByteArray), (⟨#[]⟩ : ByteArray), false, (150 : Int))
end Go.Proofs.YtdbbgdgjmlcgcaaDoor.PRouteB
