/- The contracts of the codec package's check sum, in this seat's numbers. -/
import Derived.Test.YtpeglajckkbfmaaDoorCw
import Derived.Test.YtpeglajckkbfmaaDoorCr
set_option linter.unusedVariables false
set_option linter.unusedSimpArgs false
namespace Go.Proofs.YtpeglajckkbfmaaDoor
open Go.RowKit

/-- One bit of a check sum. -/
def crcBit (c : Nat) : Nat := if c % 2 = 1 then (c / 2) ^^^ 2197175160 else c / 2
def crcBits : Nat → Nat → Nat
  | 0, c => c
  | k + 1, c => crcBit (crcBits k c)
def crcFold (l : List UInt8) : Nat := l.foldl (fun c b => crcBits 8 (c ^^^ b.toNat)) 4294967295
def crc (l : List UInt8) : Nat := 4294967295 - crcFold l
theorem xor_lt32 {a b : Nat} (ha : a < 4294967296) (hb : b < 4294967296) : a ^^^ b < 4294967296 := Nat.xor_lt_two_pow (n := 32) ha hb
theorem crcBit_lt {c : Nat} (h : c < 4294967296) : crcBit c < 4294967296 := by
  unfold crcBit
  split
  · exact xor_lt32 (by omega) (by omega)
  · omega
theorem crcBits_lt (k : Nat) {c : Nat} (h : c < 4294967296) : crcBits k c < 4294967296 := by
  induction k with
  | zero => exact h
  | succ k ih => exact crcBit_lt ih
theorem crcFold_snoc (l : List UInt8) (b : UInt8) : crcFold (l ++ [b]) = crcBits 8 (crcFold l ^^^ b.toNat) := by simp [crcFold]
theorem crcFold_lt (l : List UInt8) : crcFold l < 4294967296 := by
  have h : ∀ (l : List UInt8) (c : Nat), c < 4294967296 → l.foldl (fun c b => crcBits 8 (c ^^^ b.toNat)) c < 4294967296 := by
    intro l
    induction l with
    | nil => exact fun _ h => h
    | cons b l ih => exact fun c hc => ih _ (crcBits_lt _ (xor_lt32 hc (by have := b.toNat_lt; omega)))
  exact h l _ (by omega)
theorem and_one32 (c : Nat) (h : c < 4294967296) : bits .and .u32 (c : Int) 1 = ((c % 2 : Nat) : Int) := by
  rw [show (1 : Int) = ((1 : Nat) : Int) from rfl, u32_and_nat _ _ h (by omega), Nat.and_one_is_mod]
theorem crc_odd (c : Nat) (h : c < 4294967296) (ho : c % 2 = 1) : bits .xor .u32 ((c : Int) / 2) 2197175160 = ((crcBit c : Nat) : Int) := by
  rw [show (c : Int) / 2 = ((c / 2 : Nat) : Int) by simp, show (2197175160 : Int) = ((2197175160 : Nat) : Int) from rfl, u32_xor_nat _ _ (by omega) (by omega)]
  simp [crcBit, ho]
theorem crc_even (c : Nat) (h : c < 4294967296) (ho : c % 2 = 0) : bits .xor .u32 ((c : Int) / 2) 0 = ((crcBit c : Nat) : Int) := by
  rw [show (c : Int) / 2 = ((c / 2 : Nat) : Int) by simp, show (0 : Int) = ((0 : Nat) : Int) from rfl, u32_xor_nat _ _ (by omega) (by omega)]
  simp [crcBit, ho]

theorem not32 (c : Nat) (h : c < 4294967296) : bits .xor .u32 IntKind.u32.max (c : Int) = ((4294967295 - c : Nat) : Int) := by
  rw [show IntKind.u32.max = ((4294967295 : Nat) : Int) from rfl, u32_xor_nat _ _ (by omega) h]
  have h1 := BitVec.toNat_not (x := BitVec.ofNat 32 c)
  rw [← BitVec.allOnes_xor, BitVec.toNat_xor, BitVec.toNat_allOnes, BitVec.toNat_ofNat, Nat.mod_eq_of_lt h] at h1
  exact congrArg Int.ofNat (by simpa using h1)
theorem ret_crc (l : List UInt8) : Ending.returned (.int .u32 (bits .xor .u32 IntKind.u32.max (crcFold l : Int))) = .returned (.int .u32 (crc l)) := by
  rw [not32 _ (crcFold_lt l)]; rfl

set_option maxHeartbeats 400000 in
theorem crc_any (w : World) (l : List UInt8) (hl : l.length ≤ 140737488355328)  :
    Calls Tryd.prog 23 #[.string (str l)] w fun x w' => x = .returned (.int .u32 (crc l)) ∧ w = w' := by
  have es : (str l).size = l.length := rfl
  go_enter Tryd.func23, Tryd.ntmps23
  go_wp2_with fail
  go_loop [3, 7] (fun c i => ∃ k : Nat, k ≤ l.length ∧ i = .int .i64 k ∧ c = .int .u32 (crcFold (l.take k))) (fun _ i => l.length - (intOf i).toNat)
  case atStart => exact ⟨0, Nat.zero_le _, rfl, rfl⟩
  case round =>
    obtain ⟨k, hk, rfl, rfl⟩ := hrel
    by_cases hlt : k < l.length
    · have hb := bt_at l k
      have hb8 := bt_lt l k
      have hy := crcFold_lt (l.take k)
      have hsn := crcFold_snoc (l.take k) (l.getD k 0)
      rw [← take_succ hlt] at hsn
      have HS : Hid (crcFold (l.take (k + 1)) = crcBits 8 (crcFold (l.take k) ^^^ bt l k)) := hsn
      clear hsn
      generalize crcFold (l.take k) = y at *
      generalize bt l k = b at *
      have hx : bits .xor .u32 (y : Int) (b : Int) = ((y ^^^ b : Nat) : Int) := u32_xor_nat _ _ hy (by omega)
      have hz := xor_lt32 hy (show b < 4294967296 by omega)
      generalize y ^^^ b = z at *
      clear hy
      go_wp2_with fail
      clear hx hb hb8
      go_loop [3, 16] (fun c i => ∃ j : Nat, j ≤ 8 ∧ i = .int .i64 j ∧ c = .int .u32 (crcBits j z)) (fun _ i => 8 - (intOf i).toNat)
      case atStart => exact ⟨0, Nat.zero_le _, rfl, rfl⟩
      case round =>
        obtain ⟨j, hj, rfl, rfl⟩ := hrel
        by_cases hl8 : j < 8
        · have hc := crcBits_lt j hz
          have hcs : crcBits (j + 1) z = crcBit (crcBits j z) := rfl
          have HC := Lib.hid hcs
          clear hcs
          generalize crcBits j z = c at *
          have ha := and_one32 c hc
          have k1 : bits .and .u32 2197175160 4294967295 = 2197175160 := by decide
          have k0 : bits .and .u32 2197175160 0 = 0 := by decide
          by_cases ho : c % 2 = 1
          · have hcx := crc_odd c hc ho
            rw [ho] at ha
            have HO := Lib.hid ho
            clear ho
            go_wp2
            go_round
            case rel => exact ⟨j + 1, by omega, by go_num, by rw [HC.out]⟩
            case measure => simp [intOf]; omega
          · have ho' : c % 2 = 0 := by omega
            have hcx := crc_even c hc ho'
            rw [ho'] at ha
            have HO := Lib.hid ho
            clear ho ho'
            go_wp2
            go_round
            case rel => exact ⟨j + 1, by omega, by go_num, by rw [HC.out]⟩
            case measure => simp [intOf]; omega
        · obtain rfl : j = 8 := by omega
          go_wp2
          go_round
          case rel => exact ⟨k + 1, by omega, by go_num, by rw [HS.out]⟩
          case measure => simp [intOf]; omega
    · obtain rfl : k = l.length := by omega
      have hc := crcFold_lt l
      go_wp2
      go_ret
      exact ⟨ret_crc l, rfl⟩
end Go.Proofs.YtpeglajckkbfmaaDoor
