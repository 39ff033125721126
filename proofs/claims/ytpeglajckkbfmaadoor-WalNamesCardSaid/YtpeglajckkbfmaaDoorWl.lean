/- The law WalNames, walked. -/
import Derived.Test.YtpeglajckkbfmaaDoorWe
import Derived.Test.YtpeglajckkbfmaaDoorWp
set_option linter.unusedVariables false
set_option linter.unusedSimpArgs false
namespace Go.Proofs.YtpeglajckkbfmaaDoor
open Go.RowKit

theorem records_nil (w : World) : Calls Tryd.prog 20 #[.slice none 0 0] w fun e w' => (∃ a, e = .returned (.func (.func 35) #[] #[.pointer (some a)])) ∧ Only (fun _ => False) w w' := by
  have kc := fun W => run_convert_bytes_nil (P := Tryd.prog) W 23 5 Tryd.underlying23 Tryd.underlying5 0 0 9 Tryd.underlying9
  go_enter Tryd.func20, Tryd.ntmps20
  go_wp2
  go_ret
  exact ⟨⟨_, rfl⟩, (Only.refl _ _).alloc _⟩

set_option maxHeartbeats 1000000 in
set_option maxRecDepth 100000 in
theorem lives_true (w : World) : Calls Tryd.prog 7 #[] w fun e w' => e = .returned (.bool true) ∧ Only (fun _ => False) w w' := by
  go_enter Tryd.func7, Tryd.ntmps7
  go_wp2_with fail
  refine (walNew_zero w).mono ?_
  rintro e w1 ⟨rfl, rfl⟩
  go_wp2_with fail
  have OA : Only (fun _ => False) w (w.alloc (.cells #[.int .i64 0, .bool true] 36)) := (Only.refl _ _).alloc _
  have HB : (w.alloc (.cells #[.int .i64 0, .bool true] 36)).heap[w.heap.size]? = some (.cells #[.int .i64 0, .bool true] 36 (0, 0)) := heap_alloc_new w _
  have hz : w.heap.size < (w.alloc (.cells #[.int .i64 0, .bool true] 36)).heap.size := by simp
  generalize w.alloc (.cells #[.int .i64 0, .bool true] 36) = W at OA HB hz ⊢
  refine (lay_abc W w.heap.size HB).mono ?_
  rintro e w2 ⟨A, cap, rfl, hr, hb, ho⟩
  have O2 := Lib.hid (OA.then ho (fun i e h => by omega))
  obtain ⟨g, cap', cur, hv, hg, hh, hc, _⟩ : ∃ g cap' cur, Value.slice A 10 cap = .slice (some ⟨g, 0, none⟩) 10 cap' ∧ W.heap.size ≤ g ∧ w2.heap[g]? = some (.cells cur 5 (0, 0)) ∧ 10 ≤ cap' ∧ True := by
    rcases hr.2 with ⟨h, _⟩ | ⟨g, c, cur, h1, h2, h3, h4, _⟩
    · cases h
    · exact ⟨g, c, cur, h1, h2, h3, h4, trivial⟩
  rw [hv] at hr ⊢
  have hlog : LogAt w2 g := fun j hj => by
    have hl : (fragOf 1 abc).length = 10 := rfl
    have := hr.cells (g := g) rfl j (.int .u8 ((fragOf 1 abc).getD j 0).toNat) (by rw [byteVals_get, List.getD_eq_getElem?_getD, List.getElem?_eq_getElem (by omega)]; rfl)
    rwa [show (⟨g, 0, none⟩ : Addr).add j = ⟨g, j, none⟩ by unfold Addr.add; split <;> simp_all] at this
  have hgl : g < w2.heap.size := (Array.getElem?_eq_some_iff.1 hh).1
  have HB2 := Lib.hid hb
  have hz2 : w.heap.size < w2.heap.size := Nat.lt_of_lt_of_le hz ho.size
  have HL := Lib.hid hlog
  clear OA HB hr hb ho hv hh hlog
  go_wp2_with fail
  refine (scan_abc w2 g cap' hc HL.out hgl).mono ?_
  rintro e w3 ⟨A3, cap3, rfl, hr, ho⟩
  have O3 := Lib.hid (O2.out.trans ho)
  have hb3 := (ho.block w.heap.size hz2 (fun h => h)).trans HB2.out
  have c0 : w3.cell? ⟨w.heap.size, 0, none⟩ = some (.int .i64 10) := by simp [World.cell?, hb3]
  obtain ⟨g3, hA3, hcell⟩ : ∃ a, A3 = some a ∧ w3.cell? a = some (.string (str abc)) := by
    rcases hr.2 with ⟨h, _⟩ | ⟨g3, c, cur, h1, _⟩
    · cases h
    · injection h1 with h1
      subst h1
      exact ⟨_, rfl, hr.cells (g := g3) rfl 0 _ rfl⟩
  subst hA3
  clear hr ho hb3
  go_wp2_with fail
  refine (length_1020 w3).mono ?_
  rintro e w' ⟨rfl, rfl⟩
  have hab : ((str abc).toList == [97, 98, 99]) = true := by rw [str_toList]; rfl
  go_wp2_with (first | (go_at_call 8; go_in))
  refine (records_nil w3).mono ?_
  rintro e w4 ⟨⟨a, rfl⟩, ho⟩
  have O4 := Lib.hid (O3.out.trans ho)
  clear ho
  have kf : ∀ W, (binOp .neq 54 (.func (.func 35) #[] #[.pointer (some a)]) .nilFunc).run Tryd.prog W = .ok (.bool true) W := fun W => by kernel_rfl
  go_wp2
  go_ret
  exact ⟨rfl, O4.out⟩

theorem walName_any (n : Int) (h0 : -9223372036854775808 ≤ n) (h1 : n ≤ 9223372036854775807) (w : World) (hg : Glob w) :
    Calls Tryd.prog 9 #[.int .i64 n] w fun e w' => e = .returned (.string (str (namedL wal n))) ∧ Only (fun _ => False) w w' := by
  have HN := Lib.hid (named_any wal (by decide) n h0 h1 w hg)
  go_enter Tryd.func9, Tryd.ntmps9
  go_wp2_with fail
  refine HN.out.mono ?_
  rintro e w1 ⟨rfl, o1⟩
  go_wp2
  go_ret
  exact ⟨rfl, o1⟩
theorem namedL_length (n : Int) (h1 : n ≤ 9223372036854775807) : (namedL wal n).length ≤ 1000 := by
  unfold namedL
  split
  · simp
  · have := itoa_length n (by omega) h1
    rw [repeatL_zeros]
    simp [wal]
    omega

set_option maxHeartbeats 1000000 in
set_option maxRecDepth 100000 in
theorem walNames_any (n : Int) (h0 : -9223372036854775808 ≤ n) (h1 : n ≤ 9223372036854775807) (l : List UInt8) (hl : l.length ≤ 140737488351232) (w : World) (hg : Glob w) :
    Calls Tryd.prog 3 #[.int .i64 n, .string (str l)] w fun e w' => e = .returned (.bool true) ∧ Only (fun _ => False) w w' := by
  have HL := Lib.hid hl
  clear hl
  go_enter Tryd.func3, Tryd.ntmps3
  go_wp2_with fail
  refine (lay_nil w _).mono ?_
  rintro e w' ⟨rfl, rfl⟩
  go_wp2_with fail
  have hx := walNumber_any l HL.out w hg
  have hy := refNumber_any l HL.out
  rw [← num_eq l] at hy
  generalize walNum l = x at hx hy
  obtain ⟨v, b⟩ := x
  have HY := Lib.hid hy
  clear hy
  refine hx.mono ?_
  rintro e w1 ⟨rfl, o1⟩
  have O1 := Lib.hid o1
  have G1 := Lib.hid (hg.only o1)
  clear o1 hx hg
  go_wp2_with fail
  refine (HY.out w1).mono ?_
  rintro e w2 ⟨rfl, o2⟩
  have O2 := Lib.hid (O1.out.trans o2)
  have G2 := Lib.hid (G1.out.only o2)
  clear o2
  go_wp2_with fail
  refine (lives_true w2).mono ?_
  rintro e w3 ⟨rfl, o3⟩
  have O3 := Lib.hid (O2.out.trans o3)
  have G3 := Lib.hid (G2.out.only o3)
  clear o3
  go_wp2_with (first | (go_at_call 8; go_in))
  have HN := Lib.hid (walName_any n h0 h1)
  have HR := Lib.hid (refName_any wal (by decide) n h1)
  rw [← name_eq wal n h1] at HR
  have HLN := Lib.hid (namedL_length n h1)
  have HW : Hid (0 ≤ n → n ≤ 2147483647 → walNum (namedL wal n) = (n, true)) := fun a b => by
    obtain ⟨m, rfl⟩ := Int.eq_ofNat_of_zero_le a
    exact walNum_name m (by omega)
  generalize namedL wal n = nm at *
  refine (HN.out w3 G3.out).mono ?_
  rintro e w4 ⟨rfl, o4⟩
  have O4 := Lib.hid (O3.out.trans o4)
  have G4 := Lib.hid (G3.out.only o4)
  clear o4
  go_wp2_with fail
  refine (HR.out w4).mono ?_
  rintro e w5 ⟨rfl, o5⟩
  have O5 := Lib.hid (O4.out.trans o5)
  have G5 := Lib.hid (G4.out.only o5)
  clear o5
  by_cases hn : n < 0
  · go_wp2_with fail
    go_ret
    exact ⟨rfl, O5.out⟩
  · by_cases hm : 2147483647 < n
    · go_wp2_with fail
      go_ret
      exact ⟨rfl, O5.out⟩
    · go_wp2_with fail
      refine (HN.out w5 G5.out).mono ?_
      rintro e w6 ⟨rfl, o6⟩
      have O6 := Lib.hid (O5.out.trans o6)
      have G6 := Lib.hid (G5.out.only o6)
      clear o6
      go_wp2_with fail
      have hx := walNumber_any nm (by have := HLN.out; omega) w6 G6.out
      rw [HW.out (by omega) (by omega)] at hx
      refine hx.mono ?_
      rintro e w7 ⟨rfl, o7⟩
      have O7 := Lib.hid (O6.out.trans o7)
      clear o7 hx
      go_wp2
      go_ret
      exact ⟨rfl, O7.out⟩
end Go.Proofs.YtpeglajckkbfmaaDoor
