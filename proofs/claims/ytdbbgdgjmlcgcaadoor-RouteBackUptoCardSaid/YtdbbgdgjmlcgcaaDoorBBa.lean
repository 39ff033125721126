/- The walk of Target, first part: which way. -/
import Derived.Test.YtdbbgdgjmlcgcaaDoorBBq
import Derived.Test.YtdbbgdgjmlcgcaaDoorPRouteBx7
set_option linter.unusedVariables false
set_option linter.unusedSimpArgs false
namespace Go.Proofs.YtdbbgdgjmlcgcaaDoor.PRouteB
open Go.RowKit Go.Proofs.YtdbbgdgjmlcgcaaDoorW.PrintWords Go.Proofs.YtdbbgdgjmlcgcaaDoorW.PrintLast Go.Proofs.YtdbbgdgjmlcgcaaDoorW.PrintMore
attribute [local go_sem] max2_int min2_int max_two min_two max_three min_three max_four min_four

/-- A route in a block of its own. -/
def rtCells (k : Int) (tok usr : ByteArray) (fr : Int) (me : Bool) : Obj := .cells #[.int .i64 k, .string tok, .string usr, .int .i64 fr, .bool me] 36 (0, 0)
theorem tgt1_any (w : World) (a b : ByteArray) (k' : Int) (me' : Bool) (p : Nat) (k : Int) (tok usr : ByteArray) (fr : Int) (me : Bool) (h : w.heap[p]? = some (rtCells k tok usr fr me)) :
    Calls Tryd.prog 31 #[.agg #[.string a, .string b, .int .i64 k', .bool me'], .pointer (some ⟨p, 0, none⟩)] w fun e w' => e = .returned (.bool (k' == k && me' == me)) ∧ Below w.heap.size w w' := by
  have hp : p < w.heap.size := (Array.getElem?_eq_some_iff.1 h).1
  have HN : w.heap.size ≠ p := by omega
  have c0 : ∀ o, (w.alloc o).cell? ⟨p, 0, none⟩ = some (.int .i64 k) := fun o => blk_cell (blk_alloc h o) 0
  have c4 : ∀ o, (w.alloc o).cell? ⟨p, 4, none⟩ = some (.bool me) := fun o => blk_cell (blk_alloc h o) 4
  have HB := Aside0.mk (Below.refl w.heap.size w)
  clear h
  by_cases hk : k' = k
  · have hk1 : (k' == k) = true := beq_iff_eq.2 hk
    have HK := Aside0.mk hk1
    clear hk
    go_enter Tryd.func31, Tryd.ntmps31
    go_wp2
    repeat (go_quiet (fail); try go_wp2)
    go_ret
    exact ⟨by first | (rw [HK.out]; rfl) | rfl | (simp; done), by first | exact below_alloc HB.out _ | exact pw_below_drewN (below_alloc HB.out _) _⟩
  · have hk1 : (k' == k) = false := beq_eq_false_iff_ne.2 hk
    have HK := Aside0.mk hk1
    clear hk
    go_enter Tryd.func31, Tryd.ntmps31
    go_wp2
    repeat (go_quiet (fail); try go_wp2)
    go_ret
    exact ⟨by first | (rw [HK.out]; rfl) | rfl | (simp; done), by first | exact below_alloc HB.out _ | exact pw_below_drewN (below_alloc HB.out _) _⟩
/-- Where the first way of a kind stands. -/
def ixF (k : Int) (me : Bool) : List S54 → Nat → Int
  | [], _ => -1
  | x :: r, i => if (x.f2 == k && x.f3 == me) = true then (i : Int) else ixF k me r (i + 1)
theorem rd54_at' (xs : List S54) (i : Nat) (h : i < xs.length) : rd_T54 xs (i : Int) = xs[i]'h := by
  unfold rd_T54
  simp [List.getD_eq_getElem?_getD, List.getElem?_eq_getElem h]
set_option maxHeartbeats 1000000 in
set_option maxRecDepth 100000 in
theorem ixf_any (xs : List S54) (A : Option Addr) (c : Nat) (w : World) (hC : Kd.C k54 w A xs.length xs) (hn : xs.length ≤ 1000) (p : Nat) (k : Int) (tok usr : ByteArray) (fr : Int) (me : Bool) (h : w.heap[p]? = some (rtCells k tok usr fr me)) :
    Calls Tryd.prog 30 #[.slice A xs.length c, .func (.func 31) #[] #[.pointer (some ⟨p, 0, none⟩)]] w fun e w' => e = .returned (.int .i64 (ixF k me xs 0)) ∧ Below w.heap.size w w' := by
  have HC := Aside0.mk hC
  have HP := Aside0.mk h
  have HB := Aside0.mk (Below.refl w.heap.size w)
  clear hC h
  go_enter Tryd.func30, Tryd.ntmps30
  go_wp2
  go_loopg [8] xs.length (fun g v8 wr => ∃ i : Nat, v8 = .int .i64 (i : Int) ∧ i + g = xs.length ∧ Aside0 (ixF k me (xs.drop i) i = ixF k me xs 0) ∧ Aside0 (Below w.heap.size w wr))
  case atStart => exact ⟨0, rfl, by omega, ⟨rfl⟩, HB⟩
  case round =>
    clear HB
    obtain ⟨i, rfl, hig, HI, HB⟩ := hrel
    cases gk with
    | zero =>
      obtain rfl : i = xs.length := by omega
      have hR := HI.out
      rw [List.drop_length] at hR
      have HR := Aside0.mk hR
      clear HI hR
      go_wp2
      go_ret
      exact ⟨by rw [← HR.out]; rfl, HB.out⟩
    | succ g =>
      have hi : i < xs.length := by omega
      have hi2 : (i : Int) < (xs.length : Int) := by omega
      obtain ⟨ad, eA, h0, h1, h2, h3⟩ := at_T54 (Kd.C_below HC.out HB.out) (i : Int) (by omega) hi2
      rw [rd54_at' xs i hi] at h0 h1 h2 h3
      subst eA
      have hR := HI.out
      rw [List.drop_eq_getElem_cons hi] at hR
      obtain ⟨x, hx⟩ : ∃ x, xs[i]'hi = x := ⟨_, rfl⟩
      rw [hx] at h0 h1 h2 h3 hR
      obtain ⟨x0, x1, x2, x3⟩ := x
      simp only at h0 h1 h2 h3
      have K := Aside0.mk (tgt1_any wr x0 x1 x2 x3 p k tok usr fr me (blk_below HP.out HB.out))
      simp only [ixF] at hR
      simp only [Int.toNat_natCast] at h0 h1 h2 h3
      by_cases hm : (x2 == k && x3 == me) = true
      · rw [if_pos hm] at hR
        have HR := Aside0.mk hR
        rw [hm] at K
        clear HI hR hx hm hi
        go_wp2_with (first | (go_at_call 31; refine K.out.mono ?_; rintro e w2 ⟨rfl, hb⟩; have HB2 := Aside0.mk (below_step HB.out hb); clear hb))
        go_ret
        exact ⟨by rw [← HR.out]; rfl, HB2.out⟩
      · rw [if_neg hm] at hR
        have HR := Aside0.mk hR
        rw [show (x2 == k && x3 == me) = false by simpa using hm] at K
        clear HI hR hx hm hi
        go_wp2_with (first | (go_at_call 31; refine K.out.mono ?_; rintro e w2 ⟨rfl, hb⟩; have HB2 := Aside0.mk (below_step HB.out hb); clear hb))
        go_roundg g
        case measure => omega
        case rel => exact ⟨i + 1, by first | rfl | (simp; done), by omega, HR, HB2⟩
end Go.Proofs.YtdbbgdgjmlcgcaaDoor.PRouteB
