/- The plain law of RouteBack, first part: escapes and digits, the program's and the document's. -/
import Derived.Test.YtdbbgdgjmlcgcaaDoorBLf
import Derived.Test.YtdbbgdgjmlcgcaaDoorPRouteBx8
import Derived.Lib.ItoaNum
set_option linter.unusedVariables false
set_option linter.unusedSimpArgs false
namespace Go.Proofs.YtdbbgdgjmlcgcaaDoor.PRouteB
open Go.RowKit Go.Proofs.YtdbbgdgjmlcgcaaDoorW.PrintWords Go.Proofs.YtdbbgdgjmlcgcaaDoorW.PrintLast Go.Proofs.YtdbbgdgjmlcgcaaDoorW.PrintMore

/-- The digits. -/
def hexD : List UInt8 := [48, 49, 50, 51, 52, 53, 54, 55, 56, 57, 65, 66, 67, 68, 69, 70]
def hx (n : Nat) : UInt8 := hexD.getD n 0
theorem hexv_hx : ∀ n : Fin 16, hexv (hx n.val) = some n.val := by decide
theorem hx_ne : ∀ n : Fin 16, hx n.val ≠ 63 ∧ hx n.val ≠ 47 := by decide
def letB (c : UInt8) : Bool := (decide (97 ≤ c.toNat) && decide (c.toNat ≤ 122)) || ((decide (65 ≤ c.toNat) && decide (c.toNat ≤ 90)) || (decide (48 ≤ c.toNat) && decide (c.toNat ≤ 57)))
def markB (c : UInt8) : Bool := c == 45 || c == 46 || c == 95 || c == 126
/-- What stays as it is. -/
def plainB (c : UInt8) : Bool := letB c || markB c
def escC (c : UInt8) : List UInt8 := if plainB c = true then [c] else [37, hx (c.toNat / 16), hx (c.toNat % 16)]
/-- A text, escaped. -/
def escS : List UInt8 → List UInt8
  | [] => []
  | c :: l => escC c ++ escS l
theorem plain_ne (c : UInt8) (h : plainB c = true) : c ≠ 63 ∧ c ≠ 47 ∧ c ≠ 37 := by
  refine ⟨?_, ?_, ?_⟩ <;> (rintro rfl; revert h; decide)
theorem escC_ne (c : UInt8) : ∀ x ∈ escC c, x ≠ 63 ∧ x ≠ 47 := by
  intro x hx'
  unfold escC at hx'
  split at hx'
  · rename_i h
    obtain rfl := List.mem_singleton.1 hx'
    exact ⟨(plain_ne _ h).1, (plain_ne _ h).2.1⟩
  · have h1 : c.toNat / 16 < 16 := by have := UInt8.toNat_lt c; omega
    have h2 : c.toNat % 16 < 16 := by omega
    simp only [List.mem_cons, List.not_mem_nil, or_false] at hx'
    rcases hx' with rfl | rfl | rfl
    · decide
    · exact hx_ne ⟨_, h1⟩
    · exact hx_ne ⟨_, h2⟩
theorem escS_ne : ∀ (l : List UInt8), ∀ x ∈ escS l, x ≠ 63 ∧ x ≠ 47
  | [], x, h => by cases h
  | c :: r, x, h => by
    rcases List.mem_append.1 h with h | h
    · exact escC_ne c x h
    · exact escS_ne r x h
theorem escC_len (c : UInt8) : (escC c).length ≤ 3 := by unfold escC; split <;> simp
theorem escS_length : ∀ (l : List UInt8), (escS l).length ≤ 3 * l.length
  | [] => by simp [escS]
  | c :: r => by
    have h1 := escS_length r
    have h2 := escC_len c
    simp [escS]
    omega
theorem escS_nil {l : List UInt8} (h : escS l = []) : l = [] := by
  cases l with
  | nil => rfl
  | cons c r =>
    exfalso
    unfold escS at h
    have := (List.append_eq_nil_iff.1 h).1
    unfold escC at this
    split at this <;> cases this
theorem unesc_escS : ∀ (l : List UInt8), unescS (escS l) = some l
  | [] => rfl
  | c :: r => by
    have ih := unesc_escS r
    unfold escS escC
    by_cases hb : plainB c = true
    · rw [if_pos hb]
      show unescS (c :: escS r) = _
      rw [unescS_ne (plain_ne c hb).2.2, ih]
      rfl
    · rw [if_neg hb]
      show unescS (37 :: hx (c.toNat / 16) :: hx (c.toNat % 16) :: escS r) = _
      have h1 : c.toNat / 16 < 16 := by have := UInt8.toNat_lt c; omega
      have h2 : c.toNat % 16 < 16 := by omega
      have d1 := hexv_hx ⟨_, h1⟩
      have d2 := hexv_hx ⟨_, h2⟩
      simp only at d1 d2
      unfold unescS
      rw [if_pos rfl]
      simp only [d1, d2]
      rw [ih, show c.toNat / 16 * 16 + c.toNat % 16 = c.toNat by omega]
      simp

theorem let_all : ∀ n : Fin 256, text_letter.f (n.val : Int) = some (letB (UInt8.ofNat n.val)) := by decide +kernel
theorem mark_all : ∀ n : Fin 256, (strings_IndexByte.f (⟨#[45, 46, 95, 126]⟩ : ByteArray) (n.val : Int)).map (fun x => decide (x ≥ 0)) = some (markB (UInt8.ofNat n.val)) := by decide +kernel
theorem and_all : ∀ n : Fin 256, 0 ≤ (Go.bits .and .u8 (n.val : Int) 15) ∧ (Go.bits .and .u8 (n.val : Int) 15) < 16 ∧ bt (⟨#[48, 49, 50, 51, 52, 53, 54, 55, 56, 57, 65, 66, 67, 68, 69, 70]⟩ : ByteArray) ((n.val : Int) / 16) = ((hx (n.val / 16)).toNat : Int) ∧
    bt (⟨#[48, 49, 50, 51, 52, 53, 54, 55, 56, 57, 65, 66, 67, 68, 69, 70]⟩ : ByteArray) (Go.bits .and .u8 (n.val : Int) 15) = ((hx (n.val % 16)).toNat : Int) := by decide +kernel
theorem let_at (c : UInt8) : text_letter.f (c.toNat : Int) = some (letB c) := by have := let_all ⟨c.toNat, c.toNat_lt⟩; simpa using this
theorem mark_at (c : UInt8) : ∃ x, strings_IndexByte.f (⟨#[45, 46, 95, 126]⟩ : ByteArray) (c.toNat : Int) = some x ∧ (x ≥ 0 ↔ markB c = true) := by
  have h := mark_all ⟨c.toNat, c.toNat_lt⟩
  obtain ⟨x, hxx⟩ : ∃ x, strings_IndexByte.f (⟨#[45, 46, 95, 126]⟩ : ByteArray) (c.toNat : Int) = some x := ⟨_, rfl⟩
  refine ⟨x, hxx, ?_⟩
  simp only [hxx, Option.map_some] at h
  have h := Option.some.inj h
  have e : (UInt8.ofNat c.toNat) = c := by simp
  rw [e] at h
  rw [← h]
  simp
def numsOf (l : List UInt8) : List Int := l.map fun c => (c.toNat : Int)
theorem tesc_l0 (s : ByteArray) (hs : s.size ≤ 1000000000) : ∀ (n i : Nat) (l out : List UInt8), l.length ≤ n → s.data.toList.drop i = l → out.length ≤ 3 * i → i ≤ s.size →
    Ev (fun k => text_Escape.l0 k s (numsOf out) (s.size : Int) (i : Int)) (mkB (out ++ escS l)) := by
  intro n
  induction n with
  | zero =>
    intro i l out hl hd ho hi
    obtain rfl : l = [] := List.eq_nil_of_length_eq_zero (by omega)
    have := drop_none hd
    refine Ev.step (f := fun k => some (strOfNums (numsOf out))) (fun k => by simp only [text_Escape.l0]; rw [if_neg (by omega)]) ?_
    unfold numsOf
    rw [strOfNums_map]
    simpa [escS] using Ev.now _
  | succ n ih =>
    intro i l out hl hd ho hi
    cases l with
    | nil =>
      have := drop_none hd
      refine Ev.step (f := fun k => some (strOfNums (numsOf out))) (fun k => by simp only [text_Escape.l0]; rw [if_neg (by omega)]) ?_
      unfold numsOf
      rw [strOfNums_map]
      simpa [escS] using Ev.now _
    | cons c l =>
      obtain ⟨hb, hlt, hd1⟩ := bt_drop hd
      have E : Hw i := Hw.mk' (by omega)
      have hlen : (numsOf out).length = out.length := by simp [numsOf]
      have hl2 := escC_len c
      have nx := ih (i + 1) l (out ++ escC c) (by simpa using hl) hd1 (by rw [List.length_append]; omega) (by omega)
      have e1 : out ++ escC c ++ escS l = out ++ escS (c :: l) := by rw [List.append_assoc]; rfl
      have e2 : numsOf (out ++ escC c) = numsOf out ++ numsOf (escC c) := by simp [numsOf]
      rw [e1, e2] at nx
      refine Ev.step (f := fun k => text_Escape.l0 k s (numsOf out ++ numsOf (escC c)) (s.size : Int) ((i + 1 : Nat) : Int)) (fun k => ?_) nx
      simp only [text_Escape.l0]
      rw [if_pos (by omega), if_pos (by omega), if_pos (by omega), hb, let_at, E.e1]
      simp only [Option.bind_some]
      by_cases h1 : letB c = true
      · rw [if_pos h1, if_pos (by omega)]
        have : escC c = [c] := by unfold escC plainB; rw [h1, Bool.true_or, if_pos rfl]
        rw [this]
        rfl
      · rw [if_neg h1]
        obtain ⟨x, hxx, hxm⟩ := mark_at c
        rw [hxx]
        simp only [Option.bind_some]
        by_cases h2 : markB c = true
        · rw [if_pos (hxm.2 h2), if_pos (by omega)]
          have : escC c = [c] := by unfold escC plainB; rw [h2, Bool.or_true, if_pos rfl]
          rw [this]
          rfl
        · rw [if_neg (fun h => h2 (hxm.1 h))]
          have hc := c.toNat_lt
          obtain ⟨a1, a2, a3, a4⟩ := and_all ⟨c.toNat, c.toNat_lt⟩
          simp only at a1 a2 a3 a4
          have hp : ¬ plainB c = true := by unfold plainB; simp [h1, h2]
          have : escC c = [37, hx (c.toNat / 16), hx (c.toNat % 16)] := by unfold escC; rw [if_neg hp]
          rw [this, if_pos (by omega), if_pos (by omega), if_pos a1, if_pos a2, a3, a4, if_pos (by rw [hlen]; simp; omega)]
          rfl
theorem tesc (s : ByteArray) (hs : s.size ≤ 1000000000) : Ev (fun k => text_Escape.f k s) (mkB (escS s.data.toList)) := tesc_l0 s hs s.data.toList.length 0 s.data.toList [] (Nat.le_refl _) rfl (Nat.le_refl _) (Nat.zero_le _)

theorem rlet_all : ∀ n : Fin 256, atriumref15_letter.f (n.val : Int) = some ((decide (97 ≤ n.val) && decide (n.val ≤ 122)) || (decide (65 ≤ n.val) && decide (n.val ≤ 90))) := by decide +kernel
theorem rdig_all : ∀ n : Fin 256, atriumref15_digit.f (n.val : Int) = some (decide (48 ≤ n.val) && decide (n.val ≤ 57)) := by decide +kernel
theorem ramong_all : ∀ n : Fin 256, atriumref15_among.f 10 (⟨#[45, 46, 95, 126]⟩ : ByteArray) (n.val : Int) = some (markB (UInt8.ofNat n.val)) := by decide +kernel
theorem ramong (c : UInt8) : Ev (fun k => atriumref15_among.f k (⟨#[45, 46, 95, 126]⟩ : ByteArray) (c.toNat : Int)) (markB c) :=
  Ev.of (atriumref15_among.mono _ _) (k := 10) (by have := ramong_all ⟨c.toNat, c.toNat_lt⟩; simpa using this)
theorem tdiv_all : ∀ n : Fin 256, 0 ≤ ((Int.tdiv (n.val : Int) 16) % 256) ∧ ((Int.tdiv (n.val : Int) 16) % 256) < 16 ∧ 0 ≤ (Int.tmod (n.val : Int) 16) ∧ (Int.tmod (n.val : Int) 16) < 16 ∧
    bt (⟨#[48, 49, 50, 51, 52, 53, 54, 55, 56, 57, 65, 66, 67, 68, 69, 70]⟩ : ByteArray) ((Int.tdiv (n.val : Int) 16) % 256) = ((hx (n.val / 16)).toNat : Int) ∧
    bt (⟨#[48, 49, 50, 51, 52, 53, 54, 55, 56, 57, 65, 66, 67, 68, 69, 70]⟩ : ByteArray) (Int.tmod (n.val : Int) 16) = ((hx (n.val % 16)).toNat : Int) := by decide +kernel
theorem mkB_app (a b : List UInt8) : mkB a ++ mkB b = mkB (a ++ b) := by simp [mkB, ByteArray.ext_iff]
theorem str1 (c : UInt8) : strOfNums [(c.toNat : Int)] = mkB [c] := strOfNums_map [c]
theorem str3 (a b c : UInt8) : strOfNums [(a.toNat : Int), (b.toNat : Int), (c.toNat : Int)] = mkB [a, b, c] := strOfNums_map [a, b, c]
theorem resc_l0 (s : ByteArray) (hs : s.size ≤ 1000000000) : ∀ (n i : Nat) (l out : List UInt8), l.length ≤ n → s.data.toList.drop i = l → out.length ≤ 3 * i → i ≤ s.size →
    Ev (fun k => atriumref15_Escape.l0 k s (mkB out) (i : Int)) (mkB (out ++ escS l)) := by
  intro n
  induction n with
  | zero =>
    intro i l out hl hd ho hi
    obtain rfl : l = [] := List.eq_nil_of_length_eq_zero (by omega)
    have := drop_none hd
    refine Ev.step (f := fun k => some (mkB out)) (fun k => by simp only [atriumref15_Escape.l0]; rw [if_neg (by omega)]) ?_
    simpa [escS] using Ev.now _
  | succ n ih =>
    intro i l out hl hd ho hi
    cases l with
    | nil =>
      have := drop_none hd
      refine Ev.step (f := fun k => some (mkB out)) (fun k => by simp only [atriumref15_Escape.l0]; rw [if_neg (by omega)]) ?_
      simpa [escS] using Ev.now _
    | cons c l =>
      obtain ⟨hb, hlt, hd1⟩ := bt_drop hd
      have E : Hw i := Hw.mk' (by omega)
      have hl2 := escC_len c
      have nx := ih (i + 1) l (out ++ escC c) (by simpa using hl) hd1 (by rw [List.length_append]; omega) (by omega)
      have e1 : out ++ escC c ++ escS l = out ++ escS (c :: l) := by rw [List.append_assoc]; rfl
      rw [e1, ← mkB_app] at nx
      have hlet : atriumref15_letter.f (c.toNat : Int) = some ((decide (97 ≤ c.toNat) && decide (c.toNat ≤ 122)) || (decide (65 ≤ c.toNat) && decide (c.toNat ≤ 90))) := rlet_all ⟨c.toNat, c.toNat_lt⟩
      have hdig : atriumref15_digit.f (c.toNat : Int) = some (decide (48 ≤ c.toNat) && decide (c.toNat ≤ 57)) := rdig_all ⟨c.toNat, c.toNat_lt⟩
      obtain ⟨L, hL⟩ : ∃ L, ((decide (97 ≤ c.toNat) && decide (c.toNat ≤ 122)) || (decide (65 ≤ c.toNat) && decide (c.toNat ≤ 90))) = L := ⟨_, rfl⟩
      obtain ⟨D, hD⟩ : ∃ D, (decide (48 ≤ c.toNat) && decide (c.toNat ≤ 57)) = D := ⟨_, rfl⟩
      have hLD : letB c = (L || D) := by
        unfold letB
        rw [← hL, ← hD, Bool.or_assoc]
      rw [hL] at hlet
      rw [hD] at hdig
      have hsz : (mkB out).size = out.length := mkB_size out
      have one : escC c = [c] → (mkB out).size + (mkB [c]).size ≤ 9223372036854775807 := fun _ => by rw [mkB_size, mkB_size]; simp; omega
      cases L with
      | true =>
        have e : escC c = [c] := by unfold escC plainB; rw [hLD]; rfl
        rw [e] at nx
        refine Ev.step (fun k => ?_) nx
        simp only [atriumref15_Escape.l0]
        rw [if_pos (by omega), if_pos (by omega), hb, hlet, E.e1]
        simp only [Option.bind_some, if_true, str1]
        rw [if_pos (one e)]
      | false =>
        cases D with
        | true =>
          have e : escC c = [c] := by unfold escC plainB; rw [hLD]; rfl
          rw [e] at nx
          refine Ev.step (fun k => ?_) nx
          simp only [atriumref15_Escape.l0]
          rw [if_pos (by omega), if_pos (by omega), hb, hlet, E.e1, hdig]
          simp only [Option.bind_some, Bool.false_eq_true, if_false, if_true, str1]
          rw [if_pos (one e)]
        | false =>
          obtain ⟨a1, a2, a3, a4, a5, a6⟩ := tdiv_all ⟨c.toNat, c.toNat_lt⟩
          simp only at a1 a2 a3 a4 a5 a6
          by_cases hm : markB c = true
          · have e : escC c = [c] := by unfold escC plainB; rw [hLD, hm]; rfl
            rw [e] at nx
            refine Ev.step (f := fun k => (atriumref15_among.f k (⟨#[45, 46, 95, 126]⟩ : ByteArray) (c.toNat : Int)).bind fun t241 => if t241 = true then (atriumref15_Escape.l0 k s (mkB out ++ mkB [c]) ((i + 1 : Nat) : Int)) else (if (mkB out).size + (mkB [37, hx (c.toNat / 16), hx (c.toNat % 16)]).size ≤ 9223372036854775807 then atriumref15_Escape.l0 k s (mkB out ++ mkB [37, hx (c.toNat / 16), hx (c.toNat % 16)]) ((i + 1 : Nat) : Int) else none)) (fun k => ?_) (Ev.bind (ramong c) ?_)
            · simp only [atriumref15_Escape.l0]
              rw [if_pos (by omega), if_pos (by omega), hb, hlet, E.e1, hdig]
              simp only [Option.bind_some, Bool.false_eq_true, if_false, str1, if_pos (one e), if_pos a1, if_pos a2, if_pos a3, if_pos a4, a5, a6]
              rw [show (37 : Int) = ((37 : UInt8).toNat : Int) from rfl]
              simp only [str3]
            · simp only [if_pos hm]
              exact nx
          · have hp : ¬ plainB c = true := by unfold plainB; rw [hLD]; simp [hm]
            have e : escC c = [37, hx (c.toNat / 16), hx (c.toNat % 16)] := by unfold escC; rw [if_neg hp]
            rw [e] at nx
            have hsz2 : (mkB out).size + (mkB [37, hx (c.toNat / 16), hx (c.toNat % 16)]).size ≤ 9223372036854775807 := by rw [mkB_size, mkB_size]; simp; omega
            have one2 : (mkB out).size + (mkB [c]).size ≤ 9223372036854775807 := by rw [mkB_size, mkB_size]; simp; omega
            refine Ev.step (f := fun k => (atriumref15_among.f k (⟨#[45, 46, 95, 126]⟩ : ByteArray) (c.toNat : Int)).bind fun t241 => if t241 = true then (atriumref15_Escape.l0 k s (mkB out ++ mkB [c]) ((i + 1 : Nat) : Int)) else (atriumref15_Escape.l0 k s (mkB out ++ mkB [37, hx (c.toNat / 16), hx (c.toNat % 16)]) ((i + 1 : Nat) : Int))) (fun k => ?_) (Ev.bind (ramong c) ?_)
            · simp only [atriumref15_Escape.l0]
              rw [if_pos (by omega), if_pos (by omega), hb, hlet, E.e1, hdig]
              simp only [Option.bind_some, Bool.false_eq_true, if_false, str1, if_pos one2, if_pos a1, if_pos a2, if_pos a3, if_pos a4, a5, a6]
              rw [show (37 : Int) = ((37 : UInt8).toNat : Int) from rfl]
              simp only [str3, if_pos hsz2]
            · simp only [if_neg hm]
              exact nx
theorem resc (s : ByteArray) (hs : s.size ≤ 1000000000) : Ev (fun k => atriumref15_Escape.f k s) (mkB (escS s.data.toList)) := resc_l0 s hs s.data.toList.length 0 s.data.toList [] (Nat.le_refl _) rfl (Nat.le_refl _) (Nat.zero_le _)

theorem dec_small {n : Nat} (h : n < 10) : Lib.decDigits n = [UInt8.ofNat (48 + n)] := by rw [Lib.decDigits, dif_pos h]
theorem dec_big {n : Nat} (h : ¬ n < 10) : Lib.decDigits n = Lib.decDigits (n / 10) ++ [UInt8.ofNat (48 + n % 10)] := by rw [Lib.decDigits, dif_neg h]
theorem dec_num {m : Nat} (h : m < 10) : ((UInt8.ofNat (48 + m)).toNat : Int) = ((48 + m : Nat) : Int) := by
  rw [UInt8.toNat_ofNat']
  omega
theorem rdigits_l0 : ∀ (d n : Nat) (acc : List UInt8), n < 10 ^ (d + 1) → n ≤ 9223372036854775807 → acc.length + d ≤ 1000 → Ev (fun k => atriumref20_digits.l0 k (n : Int) (mkB acc)) (mkB (Lib.decDigits n ++ acc)) := by
  have small : ∀ (n : Nat) (acc : List UInt8), n < 10 → acc.length ≤ 1000 → Ev (fun k => atriumref20_digits.l0 k (n : Int) (mkB acc)) (mkB (Lib.decDigits n ++ acc)) := by
    intro n acc h ha
    refine Ev.step (f := fun k => some (mkB (Lib.decDigits n ++ acc))) (fun k => ?_) (Ev.now _)
    simp only [atriumref20_digits.l0]
    have e1 : wrap64 (48 + (n : Int)) % 256 = ((UInt8.ofNat (48 + n)).toNat : Int) := by rw [dec_num h]; unfold wrap64; omega
    rw [if_neg (by omega), e1]
    simp only [Option.bind_some, str1]
    rw [if_pos (by rw [mkB_size, mkB_size]; simp; omega), mkB_app, dec_small h]
  intro d
  induction d with
  | zero => exact fun n acc h _ ha => small n acc (by simpa using h) (by omega)
  | succ d ih =>
    intro n acc h hn ha
    by_cases hs : n < 10
    · exact small n acc hs (by omega)
    · have hm : n % 10 < 10 := by omega
      have e1 : wrap64 (48 + Int.tmod (n : Int) 10) % 256 = ((UInt8.ofNat (48 + n % 10)).toNat : Int) := by
        rw [dec_num hm, show Int.tmod (n : Int) 10 = ((n % 10 : Nat) : Int) from rfl]
        unfold wrap64
        omega
      have e2 : wrap64 (Int.tdiv (n : Int) 10) = ((n / 10 : Nat) : Int) := by
        rw [show Int.tdiv (n : Int) 10 = ((n / 10 : Nat) : Int) from rfl]
        unfold wrap64
        omega
      have nx := ih (n / 10) (UInt8.ofNat (48 + n % 10) :: acc) (by rw [Nat.pow_succ] at h; omega) (by omega) (by simp; omega)
      rw [dec_big hs, List.append_assoc]
      refine Ev.step (fun k => ?_) nx
      simp only [atriumref20_digits.l0]
      rw [if_pos (by omega), e1, e2]
      simp only [Option.bind_some, str1]
      rw [if_pos (by rw [mkB_size, mkB_size]; simp; omega), mkB_app]
      rfl
theorem rdigits (n : Nat) (h : n ≤ 9223372036854775807) : Ev (fun k => atriumref20_digits.f k (n : Int)) (mkB (Lib.decDigits n)) := by
  have := rdigits_l0 20 n [] (by omega) h (by simp)
  rw [List.append_nil] at this
  exact this
theorem dec_digit : ∀ (n : Nat), ∀ c ∈ Lib.decDigits n, 48 ≤ c.toNat ∧ c.toNat ≤ 57 := by
  intro n
  induction n using Nat.strongRecOn with
  | _ n ih =>
    intro c hc
    by_cases h : n < 10
    · rw [dec_small h] at hc
      obtain rfl := List.mem_singleton.1 hc
      have := dec_num h
      omega
    · rw [dec_big h] at hc
      rcases List.mem_append.1 hc with hc | hc
      · exact ih (n / 10) (by omega) c hc
      · obtain rfl := List.mem_singleton.1 hc
        have := dec_num (show n % 10 < 10 by omega)
        omega
theorem dec_ne : ∀ (n : Nat), Lib.decDigits n ≠ [] := by
  intro n h
  by_cases hs : n < 10
  · rw [dec_small hs] at h; cases h
  · rw [dec_big hs] at h; simp at h
theorem dec_len : ∀ (d n : Nat), n < 10 ^ (d + 1) → (Lib.decDigits n).length ≤ d + 1
  | 0, n, h => by rw [dec_small (by simpa using h)]; simp
  | d + 1, n, h => by
    by_cases hs : n < 10
    · rw [dec_small hs]; simp
    · rw [dec_big hs, List.length_append]
      have := dec_len d (n / 10) (by rw [Nat.pow_succ] at h; omega)
      simp
      omega
theorem dec_first : ∀ (n : Nat), 1 ≤ n → (Lib.decDigits n).getD 0 0 ≠ 48 := by
  intro n
  induction n using Nat.strongRecOn with
  | _ n ih =>
    intro h1
    by_cases h : n < 10
    · rw [dec_small h]
      intro e
      have e : UInt8.ofNat (48 + n) = 48 := e
      have := dec_num h
      rw [e] at this
      have h48 : ((48 : UInt8).toNat : Int) = 48 := rfl
      omega
    · rw [dec_big h]
      have := ih (n / 10) (by omega) (by omega)
      cases hd : Lib.decDigits (n / 10) with
      | nil => exact absurd hd (dec_ne _)
      | cons a l => rw [hd] at this; exact this
theorem digF_dec : ∀ (n : Nat) (rest : List UInt8), digF (Lib.decDigits n ++ rest) 0 = digF rest (n : Int) := by
  intro n
  induction n using Nat.strongRecOn with
  | _ n ih =>
    intro rest
    by_cases h : n < 10
    · rw [dec_small h]
      have := dec_num h
      simp only [List.cons_append, List.nil_append, digF]
      rw [if_pos (by omega)]
      congr 1
      omega
    · rw [dec_big h, List.append_assoc, ih (n / 10) (by omega)]
      have := dec_num (show n % 10 < 10 by omega)
      simp only [List.cons_append, List.nil_append, digF]
      rw [if_pos (by omega)]
      congr 1
      omega
/-- What Digits says of a number's digits. -/
theorem digits_itoa (n : Int) (h1 : n ≤ 9223372036854775807) : ∃ r, text_Digits.f (mkB (Lib.itoa n)) 999999999 = some r ∧ (0 ≤ n ∧ n ≤ 999999999 → r = (n, 0)) ∧ (¬ (0 ≤ n ∧ n ≤ 999999999) → r.2 ≠ 0) := by
  refine ⟨_, rfl, ?_, ?_⟩
  · rintro ⟨h0, hm⟩
    obtain ⟨m, rfl⟩ : ∃ m : Nat, n = m := ⟨n.toNat, by omega⟩
    have e : Lib.itoa (m : Int) = Lib.decDigits m := by unfold Lib.itoa; rw [if_neg (by omega), Int.toNat_natCast]
    rw [e, mkB_data]
    have hl := dec_len 8 m (by omega)
    have hp : 1 ≤ (Lib.decDigits m).length := List.length_pos_iff.2 (dec_ne m)
    have hf := digF_dec m []
    rw [List.append_nil] at hf
    unfold digitsF
    rw [if_neg (by
      rintro (h | h | ⟨h, h'⟩)
      · omega
      · omega
      · rcases Nat.eq_zero_or_pos m with rfl | hm1
        · rw [dec_small (by omega)] at h; simp at h
        · exact dec_first m hm1 h'), hf]
    simp only [digF]
    rw [if_neg (by omega)]
  · intro hno
    by_cases h0 : n < 0
    · have e : Lib.itoa n = 45 :: Lib.decDigits n.natAbs := by unfold Lib.itoa; rw [if_pos h0]
      rw [e, mkB_data]
      unfold digitsF
      split
      · decide
      · have : digF (45 :: Lib.decDigits n.natAbs) 0 = none := by rw [digF, if_neg (by decide)]
        rw [this]
        decide
    · obtain ⟨m, rfl⟩ : ∃ m : Nat, n = m := ⟨n.toNat, by omega⟩
      have e : Lib.itoa (m : Int) = Lib.decDigits m := by unfold Lib.itoa; rw [if_neg (by omega), Int.toNat_natCast]
      rw [e, mkB_data]
      have hf := digF_dec m []
      rw [List.append_nil] at hf
      unfold digitsF
      split
      · decide
      · rw [hf]
        simp only [digF]
        rw [if_pos (by omega)]
        decide
end Go.Proofs.YtdbbgdgjmlcgcaaDoor.PRouteB
