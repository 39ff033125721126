/- The plain law of logs' names: what the program finds is what the words say. -/
import Derived.Test.YtpeglajckkbfmaaDoorWn
set_option linter.unusedVariables false
namespace Go.Proofs.YtpeglajckkbfmaaDoor
open Go.RowKit

theorem repeatL_zeros (k : Nat) : Lib.repeatL [48] k = List.replicate k 48 := by
  induction k with
  | zero => rfl
  | succ k ih => simp [Lib.repeatL, ih, List.replicate_succ]
theorem pad6_zero (f i : Nat) (s : List UInt8) (hf : 6 ≤ f + i) : pad6 f i 0 s = List.replicate (6 - i) 48 ++ s := by
  induction f generalizing i s with
  | zero => simp [pad6, show 6 - i = 0 by omega]
  | succ f ih =>
    by_cases h : i < 6
    · have e : pad6 (f + 1) i 0 s = pad6 f (i + 1) 0 (48 :: s) := by simp [pad6, h]
      rw [e, ih _ _ (by omega)]
      obtain ⟨k, hk⟩ : ∃ k, 6 - i = k + 1 := ⟨5 - i, by omega⟩
      rw [show 6 - (i + 1) = k by omega, hk, List.replicate_succ', List.append_assoc]
      rfl
    · rw [pad6_stop _ _ _ _ (by omega) rfl, show 6 - i = 0 by omega]
      rfl
theorem decDigits_pos (u : Nat) : 0 < (Lib.decDigits u).length := by
  unfold Lib.decDigits
  split <;> simp
theorem pad6_pos (u : Nat) : ∀ (f i : Nat) (s : List UInt8), 0 < u → (Lib.decDigits u).length ≤ f → pad6 f i u s = pad6 (f - (Lib.decDigits u).length) (i + (Lib.decDigits u).length) 0 (Lib.decDigits u ++ s) := by
  induction u using Nat.strongRecOn with
  | ind u ih =>
    intro f i s hu hf
    have hp := decDigits_pos u
    obtain ⟨g, rfl⟩ : ∃ g, f = g + 1 := ⟨f - 1, by omega⟩
    have e : pad6 (g + 1) i u s = pad6 g (i + 1) (u / 10) (UInt8.ofNat (48 + u % 10) :: s) := by simp [pad6, hu]
    rw [e]
    by_cases h10 : u < 10
    · have ed : Lib.decDigits u = [UInt8.ofNat (48 + u)] := by unfold Lib.decDigits; simp [h10]
      rw [ed, show u / 10 = 0 by omega, show u % 10 = u by omega]
      simp
    · have ed : Lib.decDigits u = Lib.decDigits (u / 10) ++ [UInt8.ofNat (48 + u % 10)] := by rw [Lib.decDigits]; simp [h10]
      have hl : (Lib.decDigits u).length = (Lib.decDigits (u / 10)).length + 1 := by rw [ed]; simp
      rw [ih (u / 10) (by omega) g (i + 1) _ (by omega) (by omega), ed]
      simp only [List.length_append, List.length_singleton, List.append_assoc, List.singleton_append]
      congr 1 <;> omega
theorem pad6_all (m : Nat) (hm : m < 10 ^ 20) : pad6 30 0 m [] = List.replicate (6 - (Lib.decDigits m).length) 48 ++ Lib.decDigits m := by
  rcases Nat.eq_zero_or_pos m with rfl | hp
  · rw [pad6_zero _ _ _ (by omega)]
    have : Lib.decDigits 0 = [48] := by unfold Lib.decDigits; simp
    rw [this]
    decide
  · have hl := decDigits_length m 20 hm (by omega)
    rw [pad6_pos m 30 0 [] hp (by omega), pad6_zero _ _ _ (by omega)]
    simp
theorem name_eq (pre : List UInt8) (n : Int) (h1 : n ≤ 9223372036854775807) : namedL pre n = refNameL pre n := by
  unfold namedL refNameL
  split
  · rfl
  · rename_i hn
    have e : Lib.itoa n = Lib.decDigits n.toNat := by unfold Lib.itoa; rw [if_neg hn]
    rw [e, pad6_all _ (by omega), repeatL_zeros]

theorem decFrom_append (l m : List UInt8) : ∀ (acc v : Nat), Lib.decFrom acc l = some v → Lib.decFrom acc (l ++ m) = Lib.decFrom v m := by
  induction l with
  | nil => intro acc v h; simp [Lib.decFrom] at h; subst h; rfl
  | cons b r ih =>
    intro acc v h
    simp only [Lib.decFrom, List.cons_append] at h ⊢
    cases hb : Lib.digitVal b with
    | none => rw [hb] at h; cases h
    | some d => rw [hb] at h; exact ih _ _ h
theorem decFrom_zeros (k : Nat) : Lib.decFrom 0 (List.replicate k 48) = some 0 := by
  induction k with
  | zero => rfl
  | succ k ih => simpa [List.replicate_succ, Lib.decFrom, Lib.digitVal] using ih
theorem digit_ofNat (d : Nat) (h : d < 10) : Lib.digitVal (UInt8.ofNat (48 + d)) = some d := by
  have e : (UInt8.ofNat (48 + d)).toNat = 48 + d := by simp; omega
  unfold Lib.digitVal
  rw [e, if_pos (by omega)]
  congr 1; omega
theorem decFrom_dec (u : Nat) : Lib.decFrom 0 (Lib.decDigits u) = some u := by
  induction u using Nat.strongRecOn with
  | ind u ih =>
    by_cases h10 : u < 10
    · have ed : Lib.decDigits u = [UInt8.ofNat (48 + u)] := by unfold Lib.decDigits; simp [h10]
      rw [ed]
      simp only [Lib.decFrom, digit_ofNat u h10]
      congr 1; omega
    · have ed : Lib.decDigits u = Lib.decDigits (u / 10) ++ [UInt8.ofNat (48 + u % 10)] := by rw [Lib.decDigits]; simp [h10]
      rw [ed, decFrom_append _ _ _ _ (ih (u / 10) (by omega))]
      simp only [Lib.decFrom, digit_ofNat (u % 10) (by omega)]
      congr 1; omega
theorem decFrom_name (m k : Nat) : Lib.decFrom 0 (List.replicate k 48 ++ Lib.decDigits m) = some m := by
  rw [decFrom_append _ _ _ _ (decFrom_zeros k), decFrom_dec]
theorem atoi_of_dec {l : List UInt8} {m : Nat} (hl : l.length ≤ 18) (h0 : 0 < l.length) (h : Lib.decFrom 0 l = some m) : Lib.atoiAll l = .ok (m : Int) := by
  rw [Lib.atoiAll_short l hl]
  cases l with
  | nil => simp at h0
  | cons b r =>
    obtain ⟨d, hd⟩ := Lib.digit_of_decFrom (b :: r) 0 m h 0 b rfl
    have hb := Lib.digitVal_eq hd
    have h1 : (b == 45) = false := by rw [beq_eq_false_iff_ne]; intro e; subst e; have := hb.1; simp at this
    have h2 : (b == 43) = false := by rw [beq_eq_false_iff_ne]; intro e; subst e; have := hb.1; simp at this
    simp [Lib.atoi, h1, h2, Lib.decNat, h, Lib.NumEnd.ofOption]
theorem name_form (n : Nat) (hn : n ≤ 2147483647) : ∃ t, namedL wal n = wal ++ t ∧ Lib.decFrom 0 t = some n ∧ 0 < t.length ∧ t.length ≤ 10 := by
  refine ⟨Lib.repeatL [48] (6 - (Lib.itoa (n : Int)).length) ++ Lib.itoa (n : Int), by unfold namedL; rw [if_neg (by omega)], ?_⟩
  have e : Lib.itoa (n : Int) = Lib.decDigits n := by unfold Lib.itoa; rw [if_neg (by omega)]; simp
  have hl := decDigits_length n 10 (by omega) (by omega)
  have hp := decDigits_pos n
  rw [e, repeatL_zeros]
  exact ⟨decFrom_name _ _, by simp; omega, by simp; omega⟩
theorem walNum_name (n : Nat) (hn : n ≤ 2147483647) : walNum (namedL wal n) = ((n : Int), true) := by
  obtain ⟨t, ht, hd, h0, h10⟩ := name_form n hn
  have hp : Lib.hasPrefix (wal ++ t) [119, 97, 108, 45] = true := by simp [Lib.hasPrefix, wal, List.isPrefixOf]
  have hdr : (wal ++ t).drop 4 = t := by simp [wal]
  have ha := atoi_of_dec (by omega) h0 hd
  unfold walNum
  rw [ht, hp, hdr, ha, ← ht]
  simp only [if_true]
  rw [if_neg (by omega), if_neg (by omega)]
  exact if_pos rfl
theorem refNum_name (n : Nat) (hn : n ≤ 2147483647) : refNumL (namedL wal n) = ((n : Int), true) := by
  obtain ⟨t, ht, hd, h0, h10⟩ := name_form n hn
  have hdr : (wal ++ t).drop 4 = t := by simp [wal]
  have hlen : (wal ++ t).length = 4 + t.length := by simp [wal]; omega
  unfold refNumL
  rw [ht, hdr, hd, if_neg (by omega)]
  simp only []
  rw [if_neg (by omega), if_pos (by rw [← name_eq wal n (by omega), ht])]
theorem walNum_cases (l : List UInt8) : walNum l = (0, false) ∨ ∃ n : Nat, n ≤ 2147483647 ∧ namedL wal n = l := by
  unfold walNum
  split
  · split
    · rename_i v _
      split
      · exact .inl rfl
      · split
        · exact .inl rfl
        · split
          · rename_i h1 h2 h3
            refine .inr ⟨v.toNat, by omega, ?_⟩
            rw [show ((v.toNat : Nat) : Int) = v by omega]
            exact h3
          · exact .inl rfl
    · exact .inl rfl
  · exact .inl rfl
theorem refNum_cases (l : List UInt8) : refNumL l = (0, false) ∨ ∃ n : Nat, n ≤ 2147483647 ∧ namedL wal n = l := by
  unfold refNumL
  split
  · exact .inl rfl
  · split
    · exact .inl rfl
    · rename_i v _
      split
      · exact .inl rfl
      · split
        · rename_i h1 h2
          exact .inr ⟨v, by omega, by rw [name_eq wal v (by omega)]; exact h2⟩
        · exact .inl rfl
/-- Whatever the text: both find the same. -/
theorem num_eq (l : List UInt8) : walNum l = refNumL l := by
  rcases walNum_cases l with h | ⟨n, hn, rfl⟩
  · rcases refNum_cases l with h' | ⟨n, hn, rfl⟩
    · rw [h, h']
    · rw [walNum_name n hn, refNum_name n hn]
  · rw [walNum_name n hn, refNum_name n hn]
end Go.Proofs.YtpeglajckkbfmaaDoor
