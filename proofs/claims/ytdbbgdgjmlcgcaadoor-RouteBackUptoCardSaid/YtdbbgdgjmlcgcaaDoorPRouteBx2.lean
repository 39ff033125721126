-- Printed by a program of this claim (wip/printx.py over the print of the kit), with contracts of its own.
import Derived.Test.YtdbbgdgjmlcgcaaDoorPRouteBx0
import Derived.Test.YtdbbgdgjmlcgcaaDoorPRouteBx1
namespace Go.Proofs.YtdbbgdgjmlcgcaaDoor.PRouteB
open Go.RowKit Go.Proofs.YtdbbgdgjmlcgcaaDoorW.PrintWords Go.Proofs.YtdbbgdgjmlcgcaaDoorW.PrintLast Go.Proofs.YtdbbgdgjmlcgcaaDoorW.PrintMore
attribute [local go_sem] max2_int min2_int max_two min_two max_three min_three max_four min_four   -- for this text's walks alone
set_option linter.unusedVariables false
set_option linter.unusedSimpArgs false

/-! ### text_Unescape: function 20 -/
mutual
def text_Unescape.l0 : Nat → ByteArray → List Int → Int → Option (ByteArray × Int)
  | 0, _, _, _ => none
  | k + 1, x0, x4, x5 => if x5 < (x0.size : Int) then (if 0 ≤ x5 then (if (bt x0 x5) = 37 then (if (wrap64 (x5 + 2)) ≥ (x0.size : Int) then (text_Unescape.j1 k x0 x4 x5 true) else (if 0 ≤ (wrap64 (x5 + 1)) then (if (wrap64 (x5 + 1)) < (x0.size : Int) then ((text_digit.f (bt x0 (wrap64 (x5 + 1)))).bind fun t119 => (if t119 < 0 then (text_Unescape.j1 k x0 x4 x5 true) else (if 0 ≤ (wrap64 (x5 + 2)) then (if (wrap64 (x5 + 2)) < (x0.size : Int) then ((text_digit.f (bt x0 (wrap64 (x5 + 2)))).bind fun t120 => (text_Unescape.j1 k x0 x4 x5 (decide (t120 < 0)))) else (none)) else (none)))) else (none)) else (none))) else (if x4.length < 140737488355328 then (text_Unescape.l0 k x0 (x4 ++ [bt x0 x5]) (wrap64 (x5 + 1))) else (none))) else (none)) else (some (strOfNums x4, 0))
def text_Unescape.j1 : Nat → ByteArray → List Int → Int → Bool → Option (ByteArray × Int)
  | 0, _, _, _, _ => none
  | k + 1, x0, x4, x5, x42 => if x42 = true then (some ((⟨#[]⟩ : ByteArray), 150)) else (if 0 ≤ (wrap64 (x5 + 1)) then (if (wrap64 (x5 + 1)) < (x0.size : Int) then ((text_digit.f (bt x0 (wrap64 (x5 + 1)))).bind fun t121 => (if 0 ≤ (wrap64 (x5 + 2)) then (if (wrap64 (x5 + 2)) < (x0.size : Int) then ((text_digit.f (bt x0 (wrap64 (x5 + 2)))).bind fun t122 => (if x4.length < 140737488355328 then (text_Unescape.l0 k x0 (x4 ++ [(Go.bits .or .i64 (wrap64 (t121 * 16)) t122) % 256]) (wrap64 ((wrap64 (x5 + 2)) + 1))) else (none))) else (none)) else (none))) else (none)) else (none))
end
def text_Unescape.f (k : Nat) (a0 : ByteArray) : Option (ByteArray × Int) := text_Unescape.l0 k a0 ([] : List Int) 0
theorem text_Unescape.mono_l : ∀ k, (∀ y0 y1 y2, LeO (text_Unescape.l0 k y0 y1 y2) (text_Unescape.l0 (k + 1) y0 y1 y2)) ∧ (∀ y0 y1 y2 y3, LeO (text_Unescape.j1 k y0 y1 y2 y3) (text_Unescape.j1 (k + 1) y0 y1 y2 y3))
  | 0 => ⟨fun _ _ _ r h => by simp [text_Unescape.l0] at h, fun _ _ _ _ r h => by simp [text_Unescape.j1] at h⟩
  | k + 1 => by
    obtain ⟨ih0, ih1⟩ := text_Unescape.mono_l k
    refine ⟨?_, ?_⟩
    · intro y0 y1 y2
      unfold text_Unescape.l0
      repeat' first
      | (with_reducible exact ih0 _ _ _)
      | (with_reducible exact ih1 _ _ _ _)
      | (with_reducible exact LeO.refl _)
      | (with_reducible exact LeO.none _)
      | (with_reducible refine LeO.ite ?_ ?_)
      | (with_reducible refine LeO.bind ?_ (fun _ => ?_))
      | exact ih0 _ _ _
      | exact ih1 _ _ _ _
      | exact LeO.none _
      | refine LeO.ite ?_ ?_
      | refine LeO.bind ?_ (fun _ => ?_)
    · intro y0 y1 y2 y3
      unfold text_Unescape.j1
      repeat' first
      | (with_reducible exact ih0 _ _ _)
      | (with_reducible exact ih1 _ _ _ _)
      | (with_reducible exact LeO.refl _)
      | (with_reducible exact LeO.none _)
      | (with_reducible refine LeO.ite ?_ ?_)
      | (with_reducible refine LeO.bind ?_ (fun _ => ?_))
      | exact ih0 _ _ _
      | exact ih1 _ _ _ _
      | exact LeO.none _
      | refine LeO.ite ?_ ?_
      | refine LeO.bind ?_ (fun _ => ?_)
theorem text_Unescape.mono : ∀ a0 k, LeO (text_Unescape.f k a0) (text_Unescape.f (k + 1) a0) := by
  intro a0 k
  obtain ⟨ih0, ih1⟩ := text_Unescape.mono_l k
  unfold text_Unescape.f
  repeat' first
      | (with_reducible exact ih0 _ _ _)
      | (with_reducible exact ih1 _ _ _ _)
      | (with_reducible exact LeO.refl _)
      | (with_reducible exact LeO.none _)
      | (with_reducible refine LeO.ite ?_ ?_)
      | (with_reducible refine LeO.bind ?_ (fun _ => ?_))
      | exact ih0 _ _ _
      | exact ih1 _ _ _ _
      | exact LeO.none _
      | refine LeO.ite ?_ ?_
      | refine LeO.bind ?_ (fun _ => ?_)
def text_Unescape.T9 : Bool × List (List Nat × List Nat) := (true, [([], []), ([], []), ([], []), ([2], [2]), ([1, 3], [1, 3]), ([4], [4]), ([5], [5]), ([], []), ([], []), ([8], [8]), ([7, 9], [7, 9]), ([10, 5], [10]), ([6, 11], [6, 11]), ([12], [12]), ([13], [13]), ([0, 14, 11], [0, 14]), ([15, 15, 0, 1, 2, 3, 4, 5, 6, 7, 8, 9, 10, 11, 12, 13, 14, 15], [0, 15])])
def text_Unescape.B9 : List Nat := [0, 0, 0, 4, 14, 30, 62, 0, 0, 256, 896, 1982, 4094, 8190, 16382, 32767, 65535]
theorem text_Unescape.tab9 : rtab .any (opsOf Tryd.f20 9) = text_Unescape.T9 := by kernel_rfl
theorem text_Unescape.bits9 : waitsOk text_Unescape.T9.2 text_Unescape.B9 = true := by kernel_rfl
set_option maxHeartbeats 8000000 in
set_option maxRecDepth 100000 in
theorem text_Unescape.calls (k : Nat) (a0 : ByteArray) (r1 : ByteArray) (r2 : Int) (w : World) (h : text_Unescape.f k a0 = some (r1, r2)) :
    Calls Tryd.prog 20 #[.string a0] w fun e w' => e = .returned (.tuple #[.string r1, .int .i64 r2]) ∧ Below w.heap.size w w' := by
  have HB := Aside0.mk (Below.refl w.heap.size w)
  have H : (text_Unescape.l0 k a0 ([] : List Int) 0) = some (r1, r2) := h
  clear h
  have H' := Aside0.mk H
  clear H
  go_enter Tryd.func20, Tryd.ntmps20
  go_wp2
  go_loopg [4, 5] k (fun kq v4 v5 w' => ∃ (x4_1 : List Int) (x5_1 : Int), v5 = .int .i64 x5_1 ∧ Aside0 (text_Unescape.l0 kq a0 x4_1 x5_1 = some (r1, r2)) ∧ Aside0 (kq ≤ k) ∧ Aside0 (Kd.R (Kd.int .u8) 5 w' w.heap.size (fun _ => True) v4 x4_1) ∧ Aside0 (Below w.heap.size w w'))
  case atStart => exact ⟨(([] : List Int)), (0), (by first | rfl | (simp; done) | (simp [*]; done)), H', ⟨Nat.le_refl _⟩, ⟨by first | exact Kd.R_nil _ _ _ _ _ | exact Kd.N_nil _ _ _ _ _ | exact Kd.V_nil _ _ _ _ _ | exact Kd.Q_nil _ _ _ _ _ | exact Kd.S_nil _ _ _ _ _⟩, ⟨by repeat (first | (with_reducible first | exact HB.out | apply below_alloc | apply pw_below_drewN | apply below_drew1) | exact HB.out)⟩⟩
  case round =>
    clear H'
    obtain ⟨x4_1, x5_1, rfl, HA, HK1, HO_4, HB⟩ := hrel
    cases gk with
    | zero => exact absurd HA.out (by simp [text_Unescape.l0])
    | succ k1 =>
      have H := HA.out
      clear HA
      simp only [text_Unescape.l0] at H
      by_cases c2 : x5_1 < (a0.size : Int)
      · rw [if_pos c2] at H
        have c2b0 : decide (x5_1 < (a0.size : Int)) = true := decide_eq_true c2
        clear c2
        by_cases c3 : 0 ≤ x5_1
        · rw [if_pos c3] at H
          have c3b0 : decide (0 ≤ x5_1) = true := decide_eq_true c3
          clear c3
          by_cases c5 : (bt a0 x5_1) = 37
          · rw [if_pos c5] at H
            have c5b0 : ((bt a0 x5_1) == 37) = true := beq_iff_eq.mpr c5
            have c5b1 : ((bt a0 x5_1) != 37) = false := bne_eq_false_iff_eq.mpr c5
            clear c5
            have HC6 := Aside0.mk H
            clear H
            have p4 : 0 ≤ (x5_1 : Int) := of_decide_eq_true (by first | (with_reducible assumption) | assumption)
            have q4 : x5_1 < (a0.size : Int) := of_decide_eq_true (by first | (with_reducible assumption) | assumption)
            have hx4 := bt_at a0 x5_1
            replace p4 := eq_true p4
            replace q4 := eq_true q4
            go_upto_region 7 with (fail)
            go_cut [42] (fun v42 wc => ∃ (kq : Nat) (x42_5 : Bool), v42 = .bool x42_5 ∧ Aside0 (text_Unescape.j1 kq a0 x4_1 x5_1 x42_5 = some (r1, r2)) ∧ Aside0 (kq ≤ k1) ∧ Aside0 (Kd.R (Kd.int .u8) 5 wc w.heap.size (fun _ => True) u4 x4_1) ∧ Aside0 (Below w.heap.size w wc))
            case first =>
              have H := HC6.out
              clear HC6
              by_cases c7 : (wrap64 (x5_1 + 2)) ≥ (a0.size : Int)
              · rw [if_pos c7] at H
                have c7b0 : decide ((a0.size : Int) ≤ (wrap64 (x5_1 + 2))) = true := decide_eq_true c7
                clear c7
                (first | rw [c7b0] | (simp only [i64_w, i32_w]; rw [c7b0]) | skip)
                have H' := Aside0.mk H
                clear H
                go_wp2
                go_meet
                case rel => exact ⟨_, (true), (by first | rfl | (simp; done) | (simp [*]; done)), H', ⟨by have := HK1.out; first | omega | exact Nat.le_refl _⟩, ⟨by (with_reducible repeat (first | apply Kd.R_alloc | apply Kd.R_drewN | apply Kd.R_drew)); exact HO_4.out⟩, ⟨by repeat (first | (with_reducible first | exact HB.out | apply below_alloc | apply pw_below_drewN | apply below_drew1) | exact HB.out)⟩⟩
              · rw [if_neg c7] at H
                have c7b0 : decide ((a0.size : Int) ≤ (wrap64 (x5_1 + 2))) = false := decide_eq_false c7
                clear c7
                (first | rw [c7b0] | (simp only [i64_w, i32_w]; rw [c7b0]) | skip)
                obtain ⟨ji8, hji8⟩ : ∃ j_ : Int, (wrap64 (x5_1 + 1)) = j_ := ⟨_, rfl⟩
                replace H : (if 0 ≤ (ji8) then (if (ji8) < (a0.size : Int) then ((text_digit.f (bt a0 (ji8))).bind fun t119 => (if t119 < 0 then (text_Unescape.j1 k1 a0 x4_1 x5_1 true) else (if 0 ≤ (wrap64 (x5_1 + 2)) then (if (wrap64 (x5_1 + 2)) < (a0.size : Int) then ((text_digit.f (bt a0 (wrap64 (x5_1 + 2)))).bind fun t120 => (text_Unescape.j1 k1 a0 x4_1 x5_1 (decide (t120 < 0)))) else (none)) else (none)))) else (none)) else (none)) = some (r1, r2) := by first | (rw [hji8] at H; exact H) | (simp only [hji8] at H ⊢; exact H)
                have hji8w : (IntKind.i64.wrap (x5_1 + 1)) = ji8 := (i64_w _).trans hji8
                by_cases c9 : 0 ≤ (ji8)
                · rw [if_pos c9] at H
                  have c9b0 : decide (0 ≤ (ji8)) = true := decide_eq_true c9
                  clear c9
                  by_cases c10 : (ji8) < (a0.size : Int)
                  · rw [if_pos c10] at H
                    have c10b0 : decide ((ji8) < (a0.size : Int)) = true := decide_eq_true c10
                    clear c10
                    replace H := Option.bind_eq_some_iff.mp H
                    obtain ⟨t119, A120, H⟩ := H
                    replace H : (if t119 < 0 then (text_Unescape.j1 k1 a0 x4_1 x5_1 true) else (if 0 ≤ (wrap64 (x5_1 + 2)) then (if (wrap64 (x5_1 + 2)) < (a0.size : Int) then ((text_digit.f (bt a0 (wrap64 (x5_1 + 2)))).bind fun t120 => (text_Unescape.j1 k1 a0 x4_1 x5_1 (decide (t120 < 0)))) else (none)) else (none))) = some (r1, r2) := H
                    have A12 := Aside0.mk A120
                    clear A120
                    by_cases c13 : t119 < 0
                    · rw [if_pos c13] at H
                      have c13b0 : decide (t119 < 0) = true := decide_eq_true c13
                      clear c13
                      have H' := Aside0.mk H
                      clear H
                      have p11 : 0 ≤ ((ji8) : Int) := of_decide_eq_true (by first | (with_reducible assumption) | assumption)
                      have q11 : (ji8) < (a0.size : Int) := of_decide_eq_true (by first | (with_reducible assumption) | assumption)
                      have hx11 := bt_at a0 (ji8)
                      replace p11 := eq_true p11
                      replace q11 := eq_true q11
                      go_wp2_with (first | (go_at_call 39; (with_reducible refine (text_digit.calls (bt a0 (ji8)) t119 _ A12.out).mono ?_); rintro e w' ⟨rfl, ⟨nd, rfl⟩⟩))
                      go_meet
                      case rel => exact ⟨_, (true), (by first | rfl | (simp; done) | (simp [*]; done)), H', ⟨by have := HK1.out; first | omega | exact Nat.le_refl _⟩, ⟨by (with_reducible repeat (first | apply Kd.R_alloc | apply Kd.R_drewN | apply Kd.R_drew)); exact HO_4.out⟩, ⟨by repeat (first | (with_reducible first | exact HB.out | apply below_alloc | apply pw_below_drewN | apply below_drew1) | exact HB.out)⟩⟩
                    · rw [if_neg c13] at H
                      have c13b0 : decide (t119 < 0) = false := decide_eq_false c13
                      clear c13
                      obtain ⟨ji14, hji14⟩ : ∃ j_ : Int, (wrap64 (x5_1 + 2)) = j_ := ⟨_, rfl⟩
                      replace H : (if 0 ≤ (ji14) then (if (ji14) < (a0.size : Int) then ((text_digit.f (bt a0 (ji14))).bind fun t120 => (text_Unescape.j1 k1 a0 x4_1 x5_1 (decide (t120 < 0)))) else (none)) else (none)) = some (r1, r2) := by first | (rw [hji14] at H; exact H) | (simp only [hji14] at H ⊢; exact H)
                      (try rw [hji14] at c7b0)
                      (try rw [hji14] at A12)
                      have hji14w : (IntKind.i64.wrap (x5_1 + 2)) = ji14 := (i64_w _).trans hji14
                      by_cases c15 : 0 ≤ (ji14)
                      · rw [if_pos c15] at H
                        have c15b0 : decide (0 ≤ (ji14)) = true := decide_eq_true c15
                        clear c15
                        by_cases c16 : (ji14) < (a0.size : Int)
                        · rw [if_pos c16] at H
                          have c16b0 : decide ((ji14) < (a0.size : Int)) = true := decide_eq_true c16
                          clear c16
                          replace H := Option.bind_eq_some_iff.mp H
                          obtain ⟨t120, A180, H⟩ := H
                          replace H : (text_Unescape.j1 k1 a0 x4_1 x5_1 (decide (t120 < 0))) = some (r1, r2) := H
                          have A18 := Aside0.mk A180
                          clear A180
                          have H' := Aside0.mk H
                          clear H
                          have p11 : 0 ≤ ((ji8) : Int) := of_decide_eq_true (by first | (with_reducible assumption) | assumption)
                          have q11 : (ji8) < (a0.size : Int) := of_decide_eq_true (by first | (with_reducible assumption) | assumption)
                          have hx11 := bt_at a0 (ji8)
                          replace p11 := eq_true p11
                          replace q11 := eq_true q11
                          go_wp2_with (first | (go_at_call 39; (with_reducible refine (text_digit.calls (bt a0 (ji8)) t119 _ A12.out).mono ?_); rintro e w' ⟨rfl, ⟨nd, rfl⟩⟩; have p17 : 0 ≤ ((ji14) : Int) := of_decide_eq_true (by first | (with_reducible assumption) | assumption); have q17 : (ji14) < (a0.size : Int) := of_decide_eq_true (by first | (with_reducible assumption) | assumption); have hx17 := bt_at a0 (ji14); replace p17 := eq_true p17; replace q17 := eq_true q17) | (go_at_call 39; (with_reducible refine (text_digit.calls (bt a0 (ji14)) t120 _ A18.out).mono ?_); rintro e w' ⟨rfl, ⟨nd, rfl⟩⟩))
                          go_meet
                          case rel => exact ⟨_, (decide (t120 < 0)), (by first | rfl | (simp; done) | (simp [*]; done)), H', ⟨by have := HK1.out; first | omega | exact Nat.le_refl _⟩, ⟨by (with_reducible repeat (first | apply Kd.R_alloc | apply Kd.R_drewN | apply Kd.R_drew)); exact HO_4.out⟩, ⟨by repeat (first | (with_reducible first | exact HB.out | apply below_alloc | apply pw_below_drewN | apply below_drew1) | exact HB.out)⟩⟩
                        · rw [if_neg c16] at H
                          exact absurd H (by simp)
                      · rw [if_neg c15] at H
                        exact absurd H (by simp)
                  · rw [if_neg c10] at H
                    exact absurd H (by simp)
                · rw [if_neg c9] at H
                  exact absurd H (by simp)
            case rest =>
              clear HC6
              try clear c1
              try clear p1
              try clear q1
              try clear hx1
              try clear c2
              try clear c2b0
              try clear p2
              try clear c3
              try clear c3b0
              try clear p4
              try clear q4
              try clear hx4
              try clear c5
              try clear c5b0
              try clear c5b1
              try clear p6
              try clear c7
              try clear c7b0
              try clear c9
              try clear c9b0
              try clear c10
              try clear c10b0
              try clear p11
              try clear q11
              try clear hx11
              try clear c13
              try clear c13b0
              try clear c15
              try clear c15b0
              try clear c16
              try clear c16b0
              try clear p17
              try clear q17
              try clear hx17
              try clear p11
              try clear p17
              try clear p4
              try clear q11
              try clear q17
              try clear q4
              obtain ⟨kq, x42_5, rfl, HA, HJ5, HO_4, HB⟩ := hcut
              cases kq with
              | zero => exact absurd HA.out (by simp [text_Unescape.j1])
              | succ kj5 =>
                have H := HA.out
                clear HA
                simp only [text_Unescape.j1] at H
                by_cases c19 : x42_5 = true
                · subst c19
                  have H1 : (some ((⟨#[]⟩ : ByteArray), 150)) = some (r1, r2) := by rw [if_pos rfl] at H; exact H
                  clear H
                  have H := H1
                  clear H1
                  simp only [Option.some.injEq, Prod.mk.injEq] at H
                  obtain ⟨rfl, rfl⟩ := H
                  go_wp2
                  go_ret2
                  exact ⟨by first | rfl | (simp [errW_none, errW_some] <;> rfl) | (simp [*, errW_none, errW_some] <;> rfl), by repeat (first | (with_reducible first | exact HB.out | apply below_alloc | apply pw_below_drewN | apply below_drew1) | exact HB.out)⟩
                · replace c19 := Bool.eq_false_iff.mpr c19
                  subst c19
                  have H1 : (if 0 ≤ (wrap64 (x5_1 + 1)) then (if (wrap64 (x5_1 + 1)) < (a0.size : Int) then ((text_digit.f (bt a0 (wrap64 (x5_1 + 1)))).bind fun t121 => (if 0 ≤ (wrap64 (x5_1 + 2)) then (if (wrap64 (x5_1 + 2)) < (a0.size : Int) then ((text_digit.f (bt a0 (wrap64 (x5_1 + 2)))).bind fun t122 => (if x4_1.length < 140737488355328 then (text_Unescape.l0 kj5 a0 (x4_1 ++ [(Go.bits .or .i64 (wrap64 (t121 * 16)) t122) % 256]) (wrap64 ((wrap64 (x5_1 + 2)) + 1))) else (none))) else (none)) else (none))) else (none)) else (none)) = some (r1, r2) := by rw [if_neg (show ¬ (false = true) by decide)] at H; exact H
                  clear H
                  have H := H1
                  clear H1
                  obtain ⟨ji20, hji20⟩ : ∃ j_ : Int, (wrap64 (x5_1 + 1)) = j_ := ⟨_, rfl⟩
                  replace H : (if 0 ≤ (ji20) then (if (ji20) < (a0.size : Int) then ((text_digit.f (bt a0 (ji20))).bind fun t121 => (if 0 ≤ (wrap64 (x5_1 + 2)) then (if (wrap64 (x5_1 + 2)) < (a0.size : Int) then ((text_digit.f (bt a0 (wrap64 (x5_1 + 2)))).bind fun t122 => (if x4_1.length < 140737488355328 then (text_Unescape.l0 kj5 a0 (x4_1 ++ [(Go.bits .or .i64 (wrap64 (t121 * 16)) t122) % 256]) (wrap64 ((wrap64 (x5_1 + 2)) + 1))) else (none))) else (none)) else (none))) else (none)) else (none)) = some (r1, r2) := by first | (rw [hji20] at H; exact H) | (simp only [hji20] at H ⊢; exact H)
                  have hji20w : (IntKind.i64.wrap (x5_1 + 1)) = ji20 := (i64_w _).trans hji20
                  by_cases c21 : 0 ≤ (ji20)
                  · rw [if_pos c21] at H
                    have c21b0 : decide (0 ≤ (ji20)) = true := decide_eq_true c21
                    clear c21
                    by_cases c22 : (ji20) < (a0.size : Int)
                    · rw [if_pos c22] at H
                      have c22b0 : decide ((ji20) < (a0.size : Int)) = true := decide_eq_true c22
                      clear c22
                      replace H := Option.bind_eq_some_iff.mp H
                      obtain ⟨t121, A240, H⟩ := H
                      replace H : (if 0 ≤ (wrap64 (x5_1 + 2)) then (if (wrap64 (x5_1 + 2)) < (a0.size : Int) then ((text_digit.f (bt a0 (wrap64 (x5_1 + 2)))).bind fun t122 => (if x4_1.length < 140737488355328 then (text_Unescape.l0 kj5 a0 (x4_1 ++ [(Go.bits .or .i64 (wrap64 (t121 * 16)) t122) % 256]) (wrap64 ((wrap64 (x5_1 + 2)) + 1))) else (none))) else (none)) else (none)) = some (r1, r2) := H
                      have A24 := Aside0.mk A240
                      clear A240
                      obtain ⟨ji25, hji25⟩ : ∃ j_ : Int, (wrap64 (x5_1 + 2)) = j_ := ⟨_, rfl⟩
                      replace H : (if 0 ≤ (ji25) then (if (ji25) < (a0.size : Int) then ((text_digit.f (bt a0 (ji25))).bind fun t122 => (if x4_1.length < 140737488355328 then (text_Unescape.l0 kj5 a0 (x4_1 ++ [(Go.bits .or .i64 (wrap64 (t121 * 16)) t122) % 256]) (wrap64 ((ji25) + 1))) else (none))) else (none)) else (none)) = some (r1, r2) := by first | (rw [hji25] at H; exact H) | (simp only [hji25] at H ⊢; exact H)
                      (try rw [hji25] at A24)
                      have hji25w : (IntKind.i64.wrap (x5_1 + 2)) = ji25 := (i64_w _).trans hji25
                      by_cases c26 : 0 ≤ (ji25)
                      · rw [if_pos c26] at H
                        have c26b0 : decide (0 ≤ (ji25)) = true := decide_eq_true c26
                        clear c26
                        by_cases c27 : (ji25) < (a0.size : Int)
                        · rw [if_pos c27] at H
                          have c27b0 : decide ((ji25) < (a0.size : Int)) = true := decide_eq_true c27
                          clear c27
                          replace H := Option.bind_eq_some_iff.mp H
                          obtain ⟨t122, A290, H⟩ := H
                          replace H : (if x4_1.length < 140737488355328 then (text_Unescape.l0 kj5 a0 (x4_1 ++ [(Go.bits .or .i64 (wrap64 (t121 * 16)) t122) % 256]) (wrap64 ((ji25) + 1))) else (none)) = some (r1, r2) := H
                          have A29 := Aside0.mk A290
                          clear A290
                          by_cases c30 : x4_1.length < 140737488355328
                          · rw [if_pos c30] at H
                            have LMc30 := Aside0.mk c30
                            clear c30
                            obtain ⟨y123, hy123⟩ : ∃ y_ : List Int, y_ = (x4_1 ++ [(Go.bits .or .i64 (wrap64 (t121 * 16)) t122) % 256]) := ⟨_, rfl⟩
                            replace H : (text_Unescape.l0 kj5 a0 y123 (wrap64 ((ji25) + 1))) = some (r1, r2) := by first | (rw [hy123]; with_reducible exact H) | (have H2_ := (Option.bind_some _ _).symm.trans H; rw [hy123]; with_reducible exact H2_) | (have H2_ := (Option.bind_some _ _).symm.trans H; with_reducible exact H2_) | with_reducible exact H | (rw [hy123]; exact H) | exact H
                            have Ny123 := Aside0.mk hy123
                            clear hy123
                            have H' := Aside0.mk H
                            clear H
                            try go_wp2
                            have n0_ := Aside0.mk (Kd.R_drew HO_4.out)
                            have n1_ := Aside0.mk (below_drew1 HB.out)
                            clear HO_4
                            clear HB
                            have HO_4 := n0_
                            have HB := n1_
                            clear n0_ n1_
                            have p23 : 0 ≤ ((ji20) : Int) := of_decide_eq_true (by first | (with_reducible assumption) | assumption)
                            have q23 : (ji20) < (a0.size : Int) := of_decide_eq_true (by first | (with_reducible assumption) | assumption)
                            have hx23 := bt_at a0 (ji20)
                            replace p23 := eq_true p23
                            replace q23 := eq_true q23
                            have p28 : 0 ≤ ((ji25) : Int) := of_decide_eq_true (by first | (with_reducible assumption) | assumption)
                            have q28 : (ji25) < (a0.size : Int) := of_decide_eq_true (by first | (with_reducible assumption) | assumption)
                            have hx28 := bt_at a0 (ji25)
                            replace p28 := eq_true p28
                            replace q28 := eq_true q28
                            refine start_ (n := 17) (S := fun w' => True) (ds := []) #[false, false, false, false, false, false, false, false, false, false, false, false, false, false, false, false, false] (by kernel_rfl) rfl rfl trivial (fun hHeld => ?_); refine with_tabW text_Unescape.tab9 text_Unescape.bits9 (fun HT_ HW_ => ?_)
                            generalize wc.drew = w31 at HO_4 HB hHeld ⊢
                            refine pure_ (i := 0) (N := some 43) (v := ?_) (a' := ?_) #[true, false, false, false, false, false, false, false, false, false, false, false, false, false, false, false, false] rfl rfl (any_of HT_.out (by kernel_rfl)) (fun _ _ _ h => h) (Or.inl ⟨by rfl, ?_⟩) ?_ ?_
                            rotate_left
                            · intro w'
                              go_simp
                              with_reducible rfl
                            rotate_left
                            · simp only [Act.put, List.setIfInBounds_toArray, List.set_cons_zero, List.set_cons_succ, i64_w, i32_w]
                              rfl
                            refine pure_ (i := 1) (N := some 44) (v := ?_) (a' := ?_) #[true, true, false, false, false, false, false, false, false, false, false, false, false, false, false, false, false] rfl rfl (any_of HT_.out (by kernel_rfl)) (fun _ _ _ h => h) (Or.inl ⟨by rfl, ?_⟩) ?_ ?_
                            rotate_left
                            · intro w'
                              go_simp
                              with_reducible rfl
                            rotate_left
                            · simp only [Act.put, List.setIfInBounds_toArray, List.set_cons_zero, List.set_cons_succ, i64_w, i32_w]
                              rfl
                            refine pure_ (i := 2) (N := some 45) (v := ?_) (a' := ?_) #[true, true, true, false, false, false, false, false, false, false, false, false, false, false, false, false, false] rfl rfl (any_of HT_.out (by kernel_rfl)) (fun _ _ _ h => h) (Or.inl ⟨by rfl, ?_⟩) ?_ ?_
                            rotate_left
                            · intro w'
                              go_simp
                              with_reducible rfl
                            rotate_left
                            · simp only [Act.put, List.setIfInBounds_toArray, List.set_cons_zero, List.set_cons_succ, i64_w, i32_w]
                              rfl
                            refine pure_ (i := 3) (N := some 46) (v := ?_) (a' := ?_) #[true, true, true, true, false, false, false, false, false, false, false, false, false, false, false, false, false] rfl rfl (any_of HT_.out (by kernel_rfl)) (fun _ _ _ h => h) (Or.inl ⟨by rfl, ?_⟩) ?_ ?_
                            rotate_left
                            · intro w'
                              go_simp
                              with_reducible rfl
                            rotate_left
                            · simp only [Act.put, List.setIfInBounds_toArray, List.set_cons_zero, List.set_cons_succ, i64_w, i32_w]
                              rfl
                            refine pure_ (i := 7) (N := some 50) (v := ?_) (a' := ?_) #[true, true, true, true, false, false, false, true, false, false, false, false, false, false, false, false, false] rfl rfl (any_of HT_.out (by kernel_rfl)) (fun _ _ _ h => h) (Or.inl ⟨by rfl, ?_⟩) ?_ ?_
                            rotate_left
                            · intro w'
                              go_simp
                              with_reducible rfl
                            rotate_left
                            · simp only [Act.put, List.setIfInBounds_toArray, List.set_cons_zero, List.set_cons_succ, i64_w, i32_w]
                              rfl
                            refine pure_ (i := 8) (N := some 51) (v := ?_) (a' := ?_) #[true, true, true, true, false, false, false, true, true, false, false, false, false, false, false, false, false] rfl rfl (any_of HT_.out (by kernel_rfl)) (fun _ _ _ h => h) (Or.inl ⟨by rfl, ?_⟩) ?_ ?_
                            rotate_left
                            · intro w'
                              go_simp
                              with_reducible rfl
                            rotate_left
                            · simp only [Act.put, List.setIfInBounds_toArray, List.set_cons_zero, List.set_cons_succ, i64_w, i32_w]
                              rfl
                            refine pure_ (i := 9) (N := some 52) (v := ?_) (a' := ?_) #[true, true, true, true, false, false, false, true, true, true, false, false, false, false, false, false, false] rfl rfl (any_of HT_.out (by kernel_rfl)) (fun _ _ _ h => h) (Or.inl ⟨by rfl, ?_⟩) ?_ ?_
                            rotate_left
                            · intro w'
                              go_simp
                              with_reducible rfl
                            rotate_left
                            · simp only [Act.put, List.setIfInBounds_toArray, List.set_cons_zero, List.set_cons_succ, i64_w, i32_w]
                              rfl
                            refine take_ (i := 4) (N := some 47) (v := ?_) (a' := ?_) #[true, true, true, true, true, false, false, true, true, true, false, false, false, false, false, false, false] rfl rfl (take_ofW HT_.out HW_.out (by kernel_rfl)) (fun _ _ _ h => h) (Or.inl ⟨by rfl, ?_⟩) hHeld ?_ ?_
                            rotate_left
                            · intro w' _
                              go_simp
                              with_reducible rfl
                            rotate_left
                            · simp only [Act.put, List.setIfInBounds_toArray, List.set_cons_zero, List.set_cons_succ, i64_w, i32_w]
                              rfl
                            refine take_ (i := 10) (N := some 53) (v := ?_) (a' := ?_) #[true, true, true, true, true, false, false, true, true, true, true, false, false, false, false, false, false] rfl rfl (take_ofW HT_.out HW_.out (by kernel_rfl)) (fun _ _ _ h => h) (Or.inl ⟨by rfl, ?_⟩) hHeld ?_ ?_
                            rotate_left
                            · intro w' _
                              go_simp
                              with_reducible rfl
                            rotate_left
                            · simp only [Act.put, List.setIfInBounds_toArray, List.set_cons_zero, List.set_cons_succ, i64_w, i32_w]
                              rfl
                            refine one_ (i := 5) (N := some 48) #[true, true, true, true, true, true, false, true, true, true, true, false, false, false, false, false, false] rfl rfl (one_of HT_.out (by kernel_rfl)) (by decide) (fun K hK => ?_)
                            refine goes_ Tryd.func39 (by kernel_rfl) rfl #[.int .u8 (bt a0 (ji20))] (by rfl) rfl rfl (by (try simp only [List.map_toArray, List.map_cons, List.map_nil]); first | done | (simp only [hji20]; rfl) | rfl | (simp only [List.length_drop, List.length_take]; rfl)) ?_
                            with_reducible refine (text_digit.calls (bt a0 (ji20)) t121 _ A24.out).mono ?_
                            rintro e w' ⟨rfl, ⟨nd, rfl⟩⟩
                            refine ⟨_, rfl, ?_⟩
                            refine hK.out _ _ trivial (fun hHeld => ?_)
                            clear hK K
                            refine norm_ (a' := ?_) ?_ ?_
                            rotate_left
                            · show Act.put _ (some 48) _ = _
                              simp only [Act.put, List.setIfInBounds_toArray, List.set_cons_zero, List.set_cons_succ, i64_w, i32_w]
                              rfl
                            refine pure_ (i := 6) (N := some 49) (v := ?_) (a' := ?_) #[true, true, true, true, true, true, true, true, true, true, true, false, false, false, false, false, false] rfl rfl (any_of HT_.out (by kernel_rfl)) (fun _ _ _ h => h) (Or.inl ⟨by rfl, ?_⟩) ?_ ?_
                            rotate_left
                            · intro w'
                              go_simp
                              with_reducible rfl
                            rotate_left
                            · simp only [Act.put, List.setIfInBounds_toArray, List.set_cons_zero, List.set_cons_succ, i64_w, i32_w]
                              rfl
                            refine one_ (i := 11) (N := some 54) #[true, true, true, true, true, true, true, true, true, true, true, true, false, false, false, false, false] rfl rfl (one_of HT_.out (by kernel_rfl)) (by decide) (fun K hK => ?_)
                            refine goes_ Tryd.func39 (by kernel_rfl) rfl #[.int .u8 (bt a0 (ji25))] (by rfl) rfl rfl (by (try simp only [List.map_toArray, List.map_cons, List.map_nil]); first | done | (simp only [hji25]; rfl) | rfl | (simp only [List.length_drop, List.length_take]; rfl)) ?_
                            with_reducible refine (text_digit.calls (bt a0 (ji25)) t122 _ A29.out).mono ?_
                            rintro e w' ⟨rfl, ⟨nd, rfl⟩⟩
                            refine ⟨_, rfl, ?_⟩
                            refine hK.out _ _ trivial (fun hHeld => ?_)
                            clear hK K
                            refine norm_ (a' := ?_) ?_ ?_
                            rotate_left
                            · show Act.put _ (some 54) _ = _
                              simp only [Act.put, List.setIfInBounds_toArray, List.set_cons_zero, List.set_cons_succ, i64_w, i32_w]
                              rfl
                            refine pure_ (i := 12) (N := some 55) (v := ?_) (a' := ?_) #[true, true, true, true, true, true, true, true, true, true, true, true, true, false, false, false, false] rfl rfl (any_of HT_.out (by kernel_rfl)) (fun _ _ _ h => h) (Or.inl ⟨by rfl, ?_⟩) ?_ ?_
                            rotate_left
                            · intro w'
                              go_simp
                              with_reducible rfl
                            rotate_left
                            · simp only [Act.put, List.setIfInBounds_toArray, List.set_cons_zero, List.set_cons_succ, i64_w, i32_w]
                              rfl
                            refine pure_ (i := 13) (N := some 56) (v := ?_) (a' := ?_) #[true, true, true, true, true, true, true, true, true, true, true, true, true, true, false, false, false] rfl rfl (any_of HT_.out (by kernel_rfl)) (fun _ _ _ h => h) (Or.inl ⟨by rfl, ?_⟩) ?_ ?_
                            rotate_left
                            · intro w'
                              go_simp
                              with_reducible rfl
                            rotate_left
                            · simp only [Act.put, List.setIfInBounds_toArray, List.set_cons_zero, List.set_cons_succ, i64_w, i32_w]
                              rfl
                            refine one_ (i := 14) (N := some 57) #[true, true, true, true, true, true, true, true, true, true, true, true, true, true, true, false, false] rfl rfl (one_of HT_.out (by kernel_rfl)) (by decide) (fun K hK => ?_)
                            refine value_ (w1 := ?_) (v := ?_) (by rfl) rfl ?_ ?_
                            rotate_left 2
                            · go_simp
                              constructor
                              · rfl
                              · rfl
                            refine hK.out _ _ trivial (fun hHeld => ?_)
                            clear hK K
                            refine norm_ (a' := ?_) ?_ ?_
                            rotate_left
                            · show Act.put _ (some 57) _ = _
                              simp only [Act.put, List.setIfInBounds_toArray, List.set_cons_zero, List.set_cons_succ, i64_w, i32_w]
                              rfl
                            refine one_ (i := 15) (N := some 58) #[true, true, true, true, true, true, true, true, true, true, true, true, true, true, true, true, false] rfl rfl (one_of HT_.out (by kernel_rfl)) (by decide) (fun K hK => ?_)
                            refine Kd.R_append_step (Kd.int .u8) (w0 := w) w.heap.size (by rfl) (.tmp 43) (.tmp 57) 65 5 (.int .u8 0) 1 rfl Tryd.underlying65 info5 rfl (by decide) (by omega) u4 x4_1 ((Go.bits .or .i64 (wrap64 (t121 * 16)) t122) % 256) [.int .u8 ((Go.bits .or .i64 (wrap64 (t121 * 16)) t122) % 256)] (fun _ => True) (fun _ => False) rfl rfl ?aP (fun _ hk => hk.elim) ?aF ?aO ?aB ?aS ?aL ?_
                            (case aP => exact rfl)
                            (case aB => exact (by repeat (first | (with_reducible first | exact HB.out | apply below_alloc | apply pw_below_drewN | apply below_drew1) | exact HB.out)))
                            (case aF => exact (fun _ _ => trivial))
                            (case aO => exact (by (with_reducible repeat (first | apply Kd.R_alloc | apply Kd.R_drewN | apply Kd.R_drew)); exact HO_4.out))
                            (case aS => exact (below_size (by repeat (first | (with_reducible first | exact HB.out | apply below_alloc | apply pw_below_drewN | apply below_drew1) | exact HB.out))))
                            (case aL => have := LMc30.out; omega)
                            intro v124 w32 ho hb hg hat
                            rw [← Ny123.out] at ho
                            have n0_ := Aside0.mk (hb)
                            have n1_ := Aside0.mk (ho)
                            clear HB
                            clear HO_4
                            have HB := n0_
                            have HO125 := n1_
                            clear n0_ n1_
                            clear ho hb hg hat
                            refine hK.out _ _ trivial (fun hHeld => ?_)
                            clear hK K
                            refine norm_ (a' := ?_) ?_ ?_
                            rotate_left
                            · show Act.put _ (some 58) _ = _
                              simp only [Act.put, List.setIfInBounds_toArray, List.set_cons_zero, List.set_cons_succ, i64_w, i32_w]
                              rfl
                            refine pure_ (i := 16) (N := some 4) (v := ?_) (a' := ?_) #[true, true, true, true, true, true, true, true, true, true, true, true, true, true, true, true, true] rfl rfl (any_of HT_.out (by kernel_rfl)) (fun _ _ _ h => h) (Or.inl ⟨by rfl, ?_⟩) ?_ ?_
                            rotate_left
                            · intro w'
                              go_simp
                              with_reducible rfl
                            rotate_left
                            · simp only [Act.put, List.setIfInBounds_toArray, List.set_cons_zero, List.set_cons_succ, i64_w, i32_w]
                              rfl
                            refine done_ (done_of HT_.out (by kernel_rfl)) ?_
                            try go_wp2
                            go_roundg kj5
                            case measure => have := HK1.out; have := HJ5.out; omega
                            case rel => exact ⟨(y123), (wrap64 ((ji25) + 1)), (by first | rfl | (simp; done) | (simp only [← hji25] <;> (first | rfl | simp)) | (simp [*]; done)), H', ⟨by have := HK1.out; have := HJ5.out; omega⟩, ⟨by (with_reducible repeat (first | apply Kd.R_alloc | apply Kd.R_drewN | apply Kd.R_drew)); exact HO125.out⟩, ⟨by repeat (first | (with_reducible first | exact HB.out | apply below_alloc | apply pw_below_drewN | apply below_drew1) | exact HB.out)⟩⟩
                          · rw [if_neg c30] at H
                            exact absurd H (by simp)
                        · rw [if_neg c27] at H
                          exact absurd H (by simp)
                      · rw [if_neg c26] at H
                        exact absurd H (by simp)
                    · rw [if_neg c22] at H
                      exact absurd H (by simp)
                  · rw [if_neg c21] at H
                    exact absurd H (by simp)
          · rw [if_neg c5] at H
            have c5b0 : ((bt a0 x5_1) == 37) = false := beq_eq_false_iff_ne.mpr c5
            have c5b1 : ((bt a0 x5_1) != 37) = true := bne_iff_ne.mpr c5
            by_cases c34 : x4_1.length < 140737488355328
            · rw [if_pos c34] at H
              have LMc34 := Aside0.mk c34
              clear c34
              obtain ⟨y116, hy116⟩ : ∃ y_ : List Int, y_ = (x4_1 ++ [bt a0 x5_1]) := ⟨_, rfl⟩
              replace H : (text_Unescape.l0 k1 a0 y116 (wrap64 (x5_1 + 1))) = some (r1, r2) := by first | (rw [hy116]; with_reducible exact H) | (have H2_ := (Option.bind_some _ _).symm.trans H; rw [hy116]; with_reducible exact H2_) | (have H2_ := (Option.bind_some _ _).symm.trans H; with_reducible exact H2_) | with_reducible exact H | (rw [hy116]; exact H) | exact H
              have Ny116 := Aside0.mk hy116
              clear hy116
              have H' := Aside0.mk H
              clear H
              have p4 : 0 ≤ (x5_1 : Int) := of_decide_eq_true (by first | (with_reducible assumption) | assumption)
              have q4 : x5_1 < (a0.size : Int) := of_decide_eq_true (by first | (with_reducible assumption) | assumption)
              have hx4 := bt_at a0 x5_1
              replace p4 := eq_true p4
              replace q4 := eq_true q4
              have p33 : 0 ≤ (x5_1 : Int) := of_decide_eq_true (by first | (with_reducible assumption) | assumption)
              have q33 : x5_1 < (a0.size : Int) := of_decide_eq_true (by first | (with_reducible assumption) | assumption)
              have hx33 := bt_at a0 x5_1
              replace p33 := eq_true p33
              replace q33 := eq_true q33
              go_wp2_with (first | ((with_reducible refine gate_builtin (b := .append) (xs := #[.tmp 16, .tmp 20]) rfl ?_); at_builtin; refine Kd.R_append (Kd.int .u8) (w0 := w) w.heap.size rfl (.tmp 16) (.tmp 20) 65 5 (.int .u8 0) 1 rfl Tryd.underlying65 info5 rfl (by decide) (by omega) u4 x4_1 (bt a0 x5_1) [.int .u8 (bt a0 x5_1)] (fun _ => True) (fun _ => False) rfl rfl ?aP (fun _ hk => hk.elim) ?aF ?aO ?aB ?aS ?aL ?_; (case aP => exact rfl); (case aB => exact (by repeat (first | (with_reducible first | exact HB.out | apply below_alloc | apply pw_below_drewN | apply below_drew1) | exact HB.out))); (case aF => exact (fun _ _ => trivial)); (case aO => exact (by (with_reducible repeat (first | apply Kd.R_alloc | apply Kd.R_drewN | apply Kd.R_drew)); exact HO_4.out)); (case aS => exact (below_size (by repeat (first | (with_reducible first | exact HB.out | apply below_alloc | apply pw_below_drewN | apply below_drew1) | exact HB.out)))); (case aL => have := LMc34.out; omega); intro v117 w35 ho hb hg hat; rw [← Ny116.out] at ho; have n0_ := Aside0.mk (hb); have n1_ := Aside0.mk (ho); clear HB; clear HO_4; have HB := n0_; have HO118 := n1_; clear n0_ n1_; clear ho hb hg hat))
              go_roundg k1
              case measure => have := HK1.out; omega
              case rel => exact ⟨(y116), (wrap64 (x5_1 + 1)), (by first | rfl | (simp; done) | (simp [*]; done)), H', ⟨by have := HK1.out; omega⟩, ⟨by (with_reducible repeat (first | apply Kd.R_alloc | apply Kd.R_drewN | apply Kd.R_drew)); exact HO118.out⟩, ⟨by repeat (first | (with_reducible first | exact HB.out | apply below_alloc | apply pw_below_drewN | apply below_drew1) | exact HB.out)⟩⟩
            · rw [if_neg c34] at H
              exact absurd H (by simp)
        · rw [if_neg c3] at H
          exact absurd H (by simp)
      · rw [if_neg c2] at H
        have c2b0 : decide (x5_1 < (a0.size : Int)) = false := decide_eq_false c2
        clear c2
        simp only [Option.some.injEq, Prod.mk.injEq] at H
        obtain ⟨rfl, rfl⟩ := H
        have hcv36 := own_string (P := Tryd.prog) Tryd.underlying65 Tryd.underlying5 Tryd.underlying9 (Kd.own_of_R HO_4.out)
        go_wp2
        go_ret2
        exact ⟨by first | rfl | (simp [errW_none, errW_some] <;> rfl) | (simp [*, errW_none, errW_some] <;> rfl), by repeat (first | (with_reducible first | exact HB.out | apply below_alloc | apply pw_below_drewN | apply below_drew1) | exact HB.out)⟩

/-! ### route_Split: function 7 -/
def route_Split.l0 : Nat → List ByteArray → ByteArray → Bool → List ByteArray → Int → Int → Option (List ByteArray × ByteArray × Bool × Int)
  | 0, _, _, _, _, _, _ => none
  | k + 1, x2, x3, x4, x30, x31, x32 => if x32 < x31 then (if 0 ≤ x32 then (if x32 < (x30.length : Int) then ((text_Unescape.f k (rdOf ByteArray.empty x30 x32)).bind fun bt135 => (if bt135.2 = 0 then (if x2.length < 8796093022208 then (route_Split.l0 k (x2 ++ [bt135.1]) x3 x4 x30 x31 (wrap64 (x32 + 1))) else (none)) else (some (([] : List ByteArray), (⟨#[]⟩ : ByteArray), false, bt135.2)))) else (none)) else (none)) else (some (x2, x3, x4, 0))
def route_Split.f (k : Nat) (a0 : ByteArray) : Option (List ByteArray × ByteArray × Bool × Int) := if (a0.size : Int) > 1024 then (some (([] : List ByteArray), (⟨#[]⟩ : ByteArray), false, 3)) else ((strings_Cut.f a0 (⟨#[63]⟩ : ByteArray)).bind fun bt126 => ((strings_CutPrefix.f bt126.1 (⟨#[47]⟩ : ByteArray)).bind fun bt129 => (if bt129.2 = true then ((strings_Split.f bt129.1 (⟨#[47]⟩ : ByteArray)).bind fun t131 => (route_Split.l0 k ([] : List ByteArray) bt126.2.1 bt126.2.2 t131 (t131.length : Int) 0)) else (some (([] : List ByteArray), (⟨#[]⟩ : ByteArray), false, 150)))))
theorem route_Split.mono_l : ∀ k, (∀ y0 y1 y2 y3 y4 y5, LeO (route_Split.l0 k y0 y1 y2 y3 y4 y5) (route_Split.l0 (k + 1) y0 y1 y2 y3 y4 y5))
  | 0 => fun _ _ _ _ _ _ r h => by simp [route_Split.l0] at h
  | k + 1 => by
    have ih0 := route_Split.mono_l k
    · intro y0 y1 y2 y3 y4 y5
      unfold route_Split.l0
      repeat' first
      | (with_reducible exact ih0 _ _ _ _ _ _)
      | (with_reducible exact text_Unescape.mono _ _)
      | (with_reducible exact LeO.refl _)
      | (with_reducible exact LeO.none _)
      | (with_reducible refine LeO.ite ?_ ?_)
      | (with_reducible refine LeO.bind ?_ (fun _ => ?_))
      | exact ih0 _ _ _ _ _ _
      | exact text_Unescape.mono _ _
      | exact LeO.none _
      | refine LeO.ite ?_ ?_
      | refine LeO.bind ?_ (fun _ => ?_)
theorem route_Split.mono : ∀ a0 k, LeO (route_Split.f k a0) (route_Split.f (k + 1) a0) := by
  intro a0 k
  have ih0 := route_Split.mono_l k
  unfold route_Split.f
  repeat' first
      | (with_reducible exact ih0 _ _ _ _ _ _)
      | (with_reducible exact text_Unescape.mono _ _)
      | (with_reducible exact LeO.refl _)
      | (with_reducible exact LeO.none _)
      | (with_reducible refine LeO.ite ?_ ?_)
      | (with_reducible refine LeO.bind ?_ (fun _ => ?_))
      | exact ih0 _ _ _ _ _ _
      | exact text_Unescape.mono _ _
      | exact LeO.none _
      | refine LeO.ite ?_ ?_
      | refine LeO.bind ?_ (fun _ => ?_)
set_option maxHeartbeats 8000000 in
set_option maxRecDepth 100000 in
theorem route_Split.calls (k : Nat) (a0 : ByteArray) (r1 : List ByteArray) (r2 : ByteArray) (r3 : Bool) (r4 : Int) (w : World) (h : route_Split.f k a0 = some (r1, r2, r3, r4)) :
    Calls Tryd.prog 7 #[.string a0] w fun e w' => ∃ v0_ : Value, e = .returned (.tuple #[v0_, .string r2, .bool r3, .int .i64 r4]) ∧ Kd.R Kd.string 9 w' w.heap.size (fun _ => True) v0_ r1 ∧ Below w.heap.size w w' := by
  have HB := Aside0.mk (Below.refl w.heap.size w)
  have H : (if (a0.size : Int) > 1024 then (some (([] : List ByteArray), (⟨#[]⟩ : ByteArray), false, 3)) else ((strings_Cut.f a0 (⟨#[63]⟩ : ByteArray)).bind fun bt126 => ((strings_CutPrefix.f bt126.1 (⟨#[47]⟩ : ByteArray)).bind fun bt129 => (if bt129.2 = true then ((strings_Split.f bt129.1 (⟨#[47]⟩ : ByteArray)).bind fun t131 => (route_Split.l0 k ([] : List ByteArray) bt126.2.1 bt126.2.2 t131 (t131.length : Int) 0)) else (some (([] : List ByteArray), (⟨#[]⟩ : ByteArray), false, 150)))))) = some (r1, r2, r3, r4) := h
  clear h
  by_cases c2 : (a0.size : Int) > 1024
  · rw [if_pos c2] at H
    have c2b0 : decide (1024 < (a0.size : Int)) = true := decide_eq_true c2
    have c2b1 : decide (1024 < a0.size) = true := decide_eq_true (by omega)
    clear c2
    simp only [Option.some.injEq, Prod.mk.injEq] at H
    obtain ⟨rfl, rfl, rfl, rfl⟩ := H
    go_enter Tryd.func7, Tryd.ntmps7
    go_wp2
    refine bodyPost_ret (results_list (rs := [.tmp 2, .tmp 3, .tmp 4, .tmp 5]) rfl (by simp) (.tmp (.tmp (.tmp (.tmp .nil))))) rfl ?_
    exact ⟨_, by first | rfl | (simp [errW_none, errW_some] <;> rfl) | (simp [*, errW_none, errW_some] <;> rfl), by first | exact Kd.R_nil _ _ _ _ _ | exact Kd.N_nil _ _ _ _ _ | exact Kd.V_nil _ _ _ _ _ | exact Kd.Q_nil _ _ _ _ _ | exact Kd.S_nil _ _ _ _ _, by repeat (first | (with_reducible first | exact HB.out | apply below_alloc | apply pw_below_drewN | apply below_drew1) | exact HB.out)⟩
  · rw [if_neg c2] at H
    have c2b0 : decide (1024 < (a0.size : Int)) = false := decide_eq_false c2
    have c2b1 : decide (1024 < a0.size) = false := decide_eq_false (by omega)
    clear c2
    replace H := Option.bind_eq_some_iff.mp H
    obtain ⟨⟨t126, t127, t128⟩, A30, H⟩ := H
    replace H : ((strings_CutPrefix.f t126 (⟨#[47]⟩ : ByteArray)).bind fun bt129 => (if bt129.2 = true then ((strings_Split.f bt129.1 (⟨#[47]⟩ : ByteArray)).bind fun t131 => (route_Split.l0 k ([] : List ByteArray) t127 t128 t131 (t131.length : Int) 0)) else (some (([] : List ByteArray), (⟨#[]⟩ : ByteArray), false, 150)))) = some (r1, r2, r3, r4) := H
    have A3 := Aside0.mk A30
    clear A30
    replace H := Option.bind_eq_some_iff.mp H
    obtain ⟨⟨t129, t130⟩, A40, H⟩ := H
    replace H : (if t130 = true then ((strings_Split.f t129 (⟨#[47]⟩ : ByteArray)).bind fun t131 => (route_Split.l0 k ([] : List ByteArray) t127 t128 t131 (t131.length : Int) 0)) else (some (([] : List ByteArray), (⟨#[]⟩ : ByteArray), false, 150))) = some (r1, r2, r3, r4) := H
    have A4 := Aside0.mk A40
    clear A40
    by_cases c5 : t130 = true
    · subst c5
      have H1 : ((strings_Split.f t129 (⟨#[47]⟩ : ByteArray)).bind fun t131 => (route_Split.l0 k ([] : List ByteArray) t127 t128 t131 (t131.length : Int) 0)) = some (r1, r2, r3, r4) := by rw [if_pos rfl] at H; exact H
      clear H
      have H := H1
      clear H1
      replace H := Option.bind_eq_some_iff.mp H
      obtain ⟨t131, A60, H⟩ := H
      replace H : (route_Split.l0 k ([] : List ByteArray) t127 t128 t131 (t131.length : Int) 0) = some (r1, r2, r3, r4) := H
      have A6 := Aside0.mk A60
      clear A60
      have H' := Aside0.mk H
      clear H
      go_enter Tryd.func7, Tryd.ntmps7
      go_wp2_with (first | ((with_reducible refine gate_callee (f := 17) rfl ?_); refine goesL_ (some 18) rfl rfl Tryd.func17 (by kernel_rfl) rfl #[.string a0, .string (⟨#[63]⟩ : ByteArray)] rfl (by (try simp only [List.map_toArray, List.map_cons, List.map_nil]); first | done | rfl | (simp only [List.length_drop, List.length_take]; rfl)) ?_; (with_reducible refine (strings_Cut.calls a0 (⟨#[63]⟩ : ByteArray) t126 t127 t128 _ A3.out).mono ?_); rintro e w' ⟨rfl, ⟨nd, rfl⟩⟩; refine ⟨_, rfl, ?_⟩) | ((with_reducible refine gate_callee (f := 18) rfl ?_); refine goesL_ (some 24) rfl rfl Tryd.func18 (by kernel_rfl) rfl #[.string t126, .string (⟨#[47]⟩ : ByteArray)] rfl (by (try simp only [List.map_toArray, List.map_cons, List.map_nil]); first | done | rfl | (simp only [List.length_drop, List.length_take]; rfl)) ?_; (with_reducible refine (strings_CutPrefix.calls t126 (⟨#[47]⟩ : ByteArray) t129 true _ A4.out).mono ?_); rintro e w' ⟨rfl, ⟨nd, rfl⟩⟩; refine ⟨_, rfl, ?_⟩) | ((with_reducible refine gate_callee (f := 19) rfl ?_); refine goesL_ (some 30) rfl rfl Tryd.func19 (by kernel_rfl) rfl #[.string t129, .string (⟨#[47]⟩ : ByteArray)] rfl (by (try simp only [List.map_toArray, List.map_cons, List.map_nil]); first | done | rfl | (simp only [List.length_drop, List.length_take]; rfl)) ?_; (with_reducible refine (strings_Split.calls t129 (⟨#[47]⟩ : ByteArray) t131 _ A6.out).mono ?_); rintro e w7 ⟨v132, rfl, ho0, hb⟩; refine ⟨_, rfl, ?_⟩; have n0_ := Aside0.mk (Kd.R_lower ho0 (below_size (by repeat (first | (with_reducible first | exact HB.out | apply below_alloc | apply pw_below_drewN | apply below_drew1) | exact HB.out)))); have n1_ := Aside0.mk (below_step (by repeat (first | (with_reducible first | exact HB.out | apply below_alloc | apply pw_below_drewN | apply below_drew1) | exact HB.out)) hb); clear HB; have HO133 := n0_; have HB := n1_; clear n0_ n1_; (try clear hb); (try clear hb2); (try clear hk); (try clear hi); (try clear ho0); obtain ⟨Ao8, co8, eo8⟩ := Kd.R_slice HO133.out; subst eo8))
      go_loopg [2, 3, 4, 32] k (fun kq v2 v3 v4 v32 w' => ∃ (x2_1 : List ByteArray) (x3_1 : ByteArray) (x4_1 : Bool) (x32_1 : Int), v3 = .string x3_1 ∧ v4 = .bool x4_1 ∧ v32 = .int .i64 x32_1 ∧ Aside0 (route_Split.l0 kq x2_1 x3_1 x4_1 t131 (t131.length : Int) x32_1 = some (r1, r2, r3, r4)) ∧ Aside0 (kq ≤ k) ∧ Aside0 (Kd.R Kd.string 9 w' w.heap.size (fun k_ => some k_ ≠ ((.slice Ao8 t131.length co8) : Value).ownBlock) v2 x2_1) ∧ Aside0 (Kd.R Kd.string 9 w' w.heap.size (fun k_ => some k_ ≠ (v2 : Value).ownBlock) (.slice Ao8 t131.length co8) t131) ∧ Aside0 (Below w.heap.size w w'))
      case atStart => exact ⟨(([] : List ByteArray)), (t127), (t128), (0), (by first | rfl | (simp; done) | (simp [*]; done)), (by first | rfl | (simp; done) | (simp [*]; done)), (by first | rfl | (simp; done) | (simp [*]; done)), H', ⟨Nat.le_refl _⟩, ⟨by first | exact Kd.R_nil _ _ _ _ _ | exact Kd.N_nil _ _ _ _ _ | exact Kd.V_nil _ _ _ _ _ | exact Kd.Q_nil _ _ _ _ _ | exact Kd.S_nil _ _ _ _ _⟩, ⟨by (with_reducible repeat (first | apply Kd.R_alloc | apply Kd.R_drewN | apply Kd.R_drew)); exact Kd.R_mono HO133.out (fun _ hk => (by simp [Value.ownBlock]))⟩, ⟨by repeat (first | (with_reducible first | exact HB.out | apply below_alloc | apply pw_below_drewN | apply below_drew1) | exact HB.out)⟩⟩
      case round =>
        clear H'
        try clear c1
        try clear c2
        try clear c2b0
        try clear c2b1
        try clear p2
        try clear c5
        try clear c7
        obtain ⟨x2_1, x3_1, x4_1, x32_1, rfl, rfl, rfl, HA, HK1, HO_2, HO_30, HB⟩ := hrel
        cases gk with
        | zero => exact absurd HA.out (by simp [route_Split.l0])
        | succ k1 =>
          have H := HA.out
          clear HA
          simp only [route_Split.l0] at H
          by_cases c9 : x32_1 < (t131.length : Int)
          · rw [if_pos c9] at H
            have c9b0 : decide (x32_1 < (t131.length : Int)) = true := decide_eq_true c9
            clear c9
            by_cases c10 : 0 ≤ x32_1
            · rw [if_pos c10] at H
              have c10b0 : decide (0 ≤ x32_1) = true := decide_eq_true c10
              clear c10
              by_cases c11 : x32_1 < (t131.length : Int)
              · rw [if_pos c11] at H
                have c11b0 : decide (x32_1 < (t131.length : Int)) = true := decide_eq_true c11
                clear c11
                replace H := Option.bind_eq_some_iff.mp H
                obtain ⟨⟨t135, t136⟩, A120, H⟩ := H
                replace H : (if t136 = 0 then (if x2_1.length < 8796093022208 then (route_Split.l0 k1 (x2_1 ++ [t135]) x3_1 x4_1 t131 (t131.length : Int) (wrap64 (x32_1 + 1))) else (none)) else (some (([] : List ByteArray), (⟨#[]⟩ : ByteArray), false, t136))) = some (r1, r2, r3, r4) := H
                have A12 := Aside0.mk A120
                clear A120
                by_cases c13 : t136 = 0
                · rw [if_pos c13] at H
                  have c13b0 : (t136 == 0) = true := beq_iff_eq.mpr c13
                  have c13b1 : (t136 != 0) = false := bne_eq_false_iff_eq.mpr c13
                  clear c13
                  by_cases c14 : x2_1.length < 8796093022208
                  · rw [if_pos c14] at H
                    have LMc14 := Aside0.mk c14
                    clear c14
                    obtain ⟨y137, hy137⟩ : ∃ y_ : List ByteArray, y_ = (x2_1 ++ [t135]) := ⟨_, rfl⟩
                    replace H : (route_Split.l0 k1 y137 x3_1 x4_1 t131 (t131.length : Int) (wrap64 (x32_1 + 1))) = some (r1, r2, r3, r4) := by first | (rw [hy137]; with_reducible exact H) | (have H2_ := (Option.bind_some _ _).symm.trans H; rw [hy137]; with_reducible exact H2_) | (have H2_ := (Option.bind_some _ _).symm.trans H; with_reducible exact H2_) | with_reducible exact H | (rw [hy137]; exact H) | exact H
                    have Ny137 := Aside0.mk hy137
                    clear hy137
                    have H' := Aside0.mk H
                    clear H
                    have p134 : 0 ≤ (x32_1 : Int) := of_decide_eq_true (by first | (with_reducible assumption) | assumption)
                    have q134 : x32_1 < (t131.length : Int) := of_decide_eq_true (by first | (with_reducible assumption) | assumption)
                    obtain ⟨ad134, e134, hx134_0⟩ := Kd.at_string (Kd.R_reads' HO_30.out).2.2 x32_1 p134 q134
                    cases e134
                    replace p134 := eq_true p134
                    replace q134 := eq_true q134
                    go_wp2_with (first | ((with_reducible refine gate_callee (f := 20) rfl ?_); refine goesL_ (some 38) rfl rfl Tryd.func20 (by kernel_rfl) rfl #[.string (rdOf ByteArray.empty t131 x32_1)] rfl (by (try simp only [List.map_toArray, List.map_cons, List.map_nil]); first | done | rfl | (simp only [List.length_drop, List.length_take]; rfl)) ?_; (with_reducible refine (text_Unescape.calls k1 (rdOf ByteArray.empty t131 x32_1) t135 t136 _ A12.out).mono ?_); rintro e w15 ⟨rfl, hb⟩; refine ⟨_, rfl, ?_⟩; have n0_ := Aside0.mk (Kd.R_below (by (with_reducible repeat (first | apply Kd.R_alloc | apply Kd.R_drewN | apply Kd.R_drew)); exact HO_2.out) hb); have n1_ := Aside0.mk (Kd.R_below (by (with_reducible repeat (first | apply Kd.R_alloc | apply Kd.R_drewN | apply Kd.R_drew)); exact HO_30.out) hb); have n2_ := Aside0.mk (below_step (by repeat (first | (with_reducible first | exact HB.out | apply below_alloc | apply pw_below_drewN | apply below_drew1) | exact HB.out)) hb); clear HO_2; clear HO_30; clear HB; have HO_2 := n0_; have HO_30 := n1_; have HB := n2_; clear n0_ n1_ n2_; (try clear hb); (try clear hb2); (try clear hk); (try clear hi)) | ((with_reducible refine gate_builtin (b := .append) (xs := #[.tmp 44, .tmp 46]) rfl ?_); at_builtin; refine Kd.R_append Kd.string (w0 := w) w.heap.size rfl (.tmp 44) (.tmp 46) 22 9 (.string ⟨#[]⟩) 16 rfl Tryd.underlying22 info9 rfl (by decide) (by omega) u2 x2_1 t135 [.string t135] (fun k_ => some k_ ≠ (.slice (some ad134) t131.length co8 : Value).ownBlock) (fun _ => False) rfl rfl ?aP (fun _ hk => hk.elim) ?aF ?aO ?aB ?aS ?aL ?_; (case aP => exact rfl); (case aB => exact (by repeat (first | (with_reducible first | exact HB.out | apply below_alloc | apply pw_below_drewN | apply below_drew1) | exact HB.out))); (case aF => exact (fun k_ hk => Kd.fresh' (Kd.R_lt (by (with_reducible repeat (first | apply Kd.R_alloc | apply Kd.R_drewN | apply Kd.R_drew)); exact HO_30.out)) k_ hk)); (case aO => exact (by (with_reducible repeat (first | apply Kd.R_alloc | apply Kd.R_drewN | apply Kd.R_drew)); exact HO_2.out)); (case aS => exact (below_size (by repeat (first | (with_reducible first | exact HB.out | apply below_alloc | apply pw_below_drewN | apply below_drew1) | exact HB.out)))); (case aL => have := LMc14.out; omega); intro v138 w16 ho hb hg hat; rw [← Ny137.out] at ho; have n0_ := Aside0.mk (Kd.R_after (ok := (fun _ => True)) (by (with_reducible repeat (first | apply Kd.R_alloc | apply Kd.R_drewN | apply Kd.R_drew)); exact Kd.R_mono HO_30.out (fun _ hk => ⟨trivial, hk⟩)) hg hat); have n1_ := Aside0.mk (hb); have n2_ := Aside0.mk (ho); clear HO_30; clear HB; clear HO_2; have HO_30 := n0_; have HB := n1_; have HO139 := n2_; clear n0_ n1_ n2_; clear ho hb hg hat))
                    go_roundg k1
                    case measure => have := HK1.out; omega
                    case rel => exact ⟨(y137), (x3_1), (x4_1), (wrap64 (x32_1 + 1)), (by first | rfl | (simp; done) | (simp [*]; done)), (by first | rfl | (simp; done) | (simp [*]; done)), (by first | rfl | (simp; done) | (simp [*]; done)), H', ⟨by have := HK1.out; omega⟩, ⟨by (with_reducible repeat (first | apply Kd.R_alloc | apply Kd.R_drewN | apply Kd.R_drew)); exact HO139.out⟩, ⟨by (with_reducible repeat (first | apply Kd.R_alloc | apply Kd.R_drewN | apply Kd.R_drew)); exact Kd.R_mono HO_30.out (fun _ hk => hk.2)⟩, ⟨by repeat (first | (with_reducible first | exact HB.out | apply below_alloc | apply pw_below_drewN | apply below_drew1) | exact HB.out)⟩⟩
                  · rw [if_neg c14] at H
                    exact absurd H (by simp)
                · rw [if_neg c13] at H
                  have c13b0 : (t136 == 0) = false := beq_eq_false_iff_ne.mpr c13
                  have c13b1 : (t136 != 0) = true := bne_iff_ne.mpr c13
                  simp only [Option.some.injEq, Prod.mk.injEq] at H
                  obtain ⟨rfl, rfl, rfl, rfl⟩ := H
                  have p134 : 0 ≤ (x32_1 : Int) := of_decide_eq_true (by first | (with_reducible assumption) | assumption)
                  have q134 : x32_1 < (t131.length : Int) := of_decide_eq_true (by first | (with_reducible assumption) | assumption)
                  obtain ⟨ad134, e134, hx134_0⟩ := Kd.at_string (Kd.R_reads' HO_30.out).2.2 x32_1 p134 q134
                  cases e134
                  replace p134 := eq_true p134
                  replace q134 := eq_true q134
                  go_wp2_with (first | ((with_reducible refine gate_callee (f := 20) rfl ?_); refine goesL_ (some 38) rfl rfl Tryd.func20 (by kernel_rfl) rfl #[.string (rdOf ByteArray.empty t131 x32_1)] rfl (by (try simp only [List.map_toArray, List.map_cons, List.map_nil]); first | done | rfl | (simp only [List.length_drop, List.length_take]; rfl)) ?_; (with_reducible refine (text_Unescape.calls k1 (rdOf ByteArray.empty t131 x32_1) t135 t136 _ A12.out).mono ?_); rintro e w17 ⟨rfl, hb⟩; refine ⟨_, rfl, ?_⟩; have n0_ := Aside0.mk (Kd.R_below (by (with_reducible repeat (first | apply Kd.R_alloc | apply Kd.R_drewN | apply Kd.R_drew)); exact HO_2.out) hb); have n1_ := Aside0.mk (Kd.R_below (by (with_reducible repeat (first | apply Kd.R_alloc | apply Kd.R_drewN | apply Kd.R_drew)); exact HO_30.out) hb); have n2_ := Aside0.mk (below_step (by repeat (first | (with_reducible first | exact HB.out | apply below_alloc | apply pw_below_drewN | apply below_drew1) | exact HB.out)) hb); clear HO_2; clear HO_30; clear HB; have HO_2 := n0_; have HO_30 := n1_; have HB := n2_; clear n0_ n1_ n2_; (try clear hb); (try clear hb2); (try clear hk); (try clear hi)))
                  refine bodyPost_ret (results_list (rs := [.tmp 2, .tmp 3, .tmp 4, .tmp 5]) rfl (by simp) (.tmp (.tmp (.tmp (.tmp .nil))))) rfl ?_
                  exact ⟨_, by first | rfl | (simp [errW_none, errW_some] <;> rfl) | (simp [*, errW_none, errW_some] <;> rfl), by first | exact Kd.R_nil _ _ _ _ _ | exact Kd.N_nil _ _ _ _ _ | exact Kd.V_nil _ _ _ _ _ | exact Kd.Q_nil _ _ _ _ _ | exact Kd.S_nil _ _ _ _ _, by repeat (first | (with_reducible first | exact HB.out | apply below_alloc | apply pw_below_drewN | apply below_drew1) | exact HB.out)⟩
              · rw [if_neg c11] at H
                exact absurd H (by simp)
            · rw [if_neg c10] at H
              exact absurd H (by simp)
          · rw [if_neg c9] at H
            have c9b0 : decide (x32_1 < (t131.length : Int)) = false := decide_eq_false c9
            clear c9
            simp only [Option.some.injEq, Prod.mk.injEq] at H
            obtain ⟨rfl, rfl, rfl, rfl⟩ := H
            go_wp2
            refine bodyPost_ret (results_list (rs := [.tmp 2, .tmp 3, .tmp 4, .tmp 5]) rfl (by simp) (.tmp (.tmp (.tmp (.tmp .nil))))) rfl ?_
            exact ⟨_, by first | rfl | (simp [errW_none, errW_some] <;> rfl) | (simp [*, errW_none, errW_some] <;> rfl), by (with_reducible repeat (first | apply Kd.R_alloc | apply Kd.R_drewN | apply Kd.R_drew)); exact Kd.R_mono HO_2.out (fun _ hk => trivial), by repeat (first | (with_reducible first | exact HB.out | apply below_alloc | apply pw_below_drewN | apply below_drew1) | exact HB.out)⟩
    · replace c5 := Bool.eq_false_iff.mpr c5
      subst c5
      have H1 : (some (([] : List ByteArray), (⟨#[]⟩ : ByteArray), false, 150)) = some (r1, r2, r3, r4) := by rw [if_neg (show ¬ (false = true) by decide)] at H; exact H
      clear H
      have H := H1
      clear H1
      simp only [Option.some.injEq, Prod.mk.injEq] at H
      obtain ⟨rfl, rfl, rfl, rfl⟩ := H
      go_enter Tryd.func7, Tryd.ntmps7
      go_wp2_with (first | ((with_reducible refine gate_callee (f := 17) rfl ?_); refine goesL_ (some 18) rfl rfl Tryd.func17 (by kernel_rfl) rfl #[.string a0, .string (⟨#[63]⟩ : ByteArray)] rfl (by (try simp only [List.map_toArray, List.map_cons, List.map_nil]); first | done | rfl | (simp only [List.length_drop, List.length_take]; rfl)) ?_; (with_reducible refine (strings_Cut.calls a0 (⟨#[63]⟩ : ByteArray) t126 t127 t128 _ A3.out).mono ?_); rintro e w' ⟨rfl, ⟨nd, rfl⟩⟩; refine ⟨_, rfl, ?_⟩) | ((with_reducible refine gate_callee (f := 18) rfl ?_); refine goesL_ (some 24) rfl rfl Tryd.func18 (by kernel_rfl) rfl #[.string t126, .string (⟨#[47]⟩ : ByteArray)] rfl (by (try simp only [List.map_toArray, List.map_cons, List.map_nil]); first | done | rfl | (simp only [List.length_drop, List.length_take]; rfl)) ?_; (with_reducible refine (strings_CutPrefix.calls t126 (⟨#[47]⟩ : ByteArray) t129 false _ A4.out).mono ?_); rintro e w' ⟨rfl, ⟨nd, rfl⟩⟩; refine ⟨_, rfl, ?_⟩))
      refine bodyPost_ret (results_list (rs := [.tmp 2, .tmp 3, .tmp 4, .tmp 5]) rfl (by simp) (.tmp (.tmp (.tmp (.tmp .nil))))) rfl ?_
      exact ⟨_, by first | rfl | (simp [errW_none, errW_some] <;> rfl) | (simp [*, errW_none, errW_some] <;> rfl), by first | exact Kd.R_nil _ _ _ _ _ | exact Kd.N_nil _ _ _ _ _ | exact Kd.V_nil _ _ _ _ _ | exact Kd.Q_nil _ _ _ _ _ | exact Kd.S_nil _ _ _ _ _, by repeat (first | (with_reducible first | exact HB.out | apply below_alloc | apply pw_below_drewN | apply below_drew1) | exact HB.out)⟩

/-! ### route_ways: function 25 -/
def route_ways.f  : Option ((List (S54))) := some (([(⟨(⟨#[80, 79, 83, 84]⟩ : ByteArray), (⟨#[115, 101, 115, 115, 105, 111, 110, 115]⟩ : ByteArray), 1, false⟩ : S54), (⟨(⟨#[71, 69, 84]⟩ : ByteArray), (⟨#[115, 101, 115, 115, 105, 111, 110, 115, 47, 84]⟩ : ByteArray), 2, false⟩ : S54), (⟨(⟨#[80, 79, 83, 84]⟩ : ByteArray), (⟨#[115, 101, 115, 115, 105, 111, 110, 115, 47, 84, 47, 116, 111, 117, 99, 104]⟩ : ByteArray), 3, false⟩ : S54), (⟨(⟨#[68, 69, 76, 69, 84, 69]⟩ : ByteArray), (⟨#[115, 101, 115, 115, 105, 111, 110, 115, 47, 84]⟩ : ByteArray), 4, false⟩ : S54), (⟨(⟨#[68, 69, 76, 69, 84, 69]⟩ : ByteArray), (⟨#[117, 115, 101, 114, 115, 47, 85, 47, 115, 101, 115, 115, 105, 111, 110, 115]⟩ : ByteArray), 5, false⟩ : S54), (⟨(⟨#[68, 69, 76, 69, 84, 69]⟩ : ByteArray), (⟨#[115, 101, 115, 115, 105, 111, 110, 115]⟩ : ByteArray), 6, false⟩ : S54), (⟨(⟨#[71, 69, 84]⟩ : ByteArray), (⟨#[117, 115, 101, 114, 115, 47, 85, 47, 115, 101, 115, 115, 105, 111, 110, 115]⟩ : ByteArray), 7, false⟩ : S54), (⟨(⟨#[71, 69, 84]⟩ : ByteArray), (⟨#[97, 117, 100, 105, 116]⟩ : ByteArray), 8, false⟩ : S54), (⟨(⟨#[71, 69, 84]⟩ : ByteArray), (⟨#[109, 101]⟩ : ByteArray), 2, true⟩ : S54), (⟨(⟨#[71, 69, 84]⟩ : ByteArray), (⟨#[115, 116, 97, 116, 115]⟩ : ByteArray), 9, false⟩ : S54)] : List (S54)))
set_option maxHeartbeats 8000000 in
set_option maxRecDepth 100000 in
theorem route_ways.calls  (r : List (S54)) (w : World) (h : route_ways.f  = some r) :
    Calls Tryd.prog 25 #[] w fun e w' => ∃ v0_ : Value, e = .returned (v0_) ∧ Kd.R k54 54 w' w.heap.size (fun _ => True) v0_ r ∧ Below w.heap.size w w' := by
  have hu54 := Tryd.underlying54
  have HB := Aside0.mk (Below.refl w.heap.size w)
  have H : (some (([(⟨(⟨#[80, 79, 83, 84]⟩ : ByteArray), (⟨#[115, 101, 115, 115, 105, 111, 110, 115]⟩ : ByteArray), 1, false⟩ : S54), (⟨(⟨#[71, 69, 84]⟩ : ByteArray), (⟨#[115, 101, 115, 115, 105, 111, 110, 115, 47, 84]⟩ : ByteArray), 2, false⟩ : S54), (⟨(⟨#[80, 79, 83, 84]⟩ : ByteArray), (⟨#[115, 101, 115, 115, 105, 111, 110, 115, 47, 84, 47, 116, 111, 117, 99, 104]⟩ : ByteArray), 3, false⟩ : S54), (⟨(⟨#[68, 69, 76, 69, 84, 69]⟩ : ByteArray), (⟨#[115, 101, 115, 115, 105, 111, 110, 115, 47, 84]⟩ : ByteArray), 4, false⟩ : S54), (⟨(⟨#[68, 69, 76, 69, 84, 69]⟩ : ByteArray), (⟨#[117, 115, 101, 114, 115, 47, 85, 47, 115, 101, 115, 115, 105, 111, 110, 115]⟩ : ByteArray), 5, false⟩ : S54), (⟨(⟨#[68, 69, 76, 69, 84, 69]⟩ : ByteArray), (⟨#[115, 101, 115, 115, 105, 111, 110, 115]⟩ : ByteArray), 6, false⟩ : S54), (⟨(⟨#[71, 69, 84]⟩ : ByteArray), (⟨#[117, 115, 101, 114, 115, 47, 85, 47, 115, 101, 115, 115, 105, 111, 110, 115]⟩ : ByteArray), 7, false⟩ : S54), (⟨(⟨#[71, 69, 84]⟩ : ByteArray), (⟨#[97, 117, 100, 105, 116]⟩ : ByteArray), 8, false⟩ : S54), (⟨(⟨#[71, 69, 84]⟩ : ByteArray), (⟨#[109, 101]⟩ : ByteArray), 2, true⟩ : S54), (⟨(⟨#[71, 69, 84]⟩ : ByteArray), (⟨#[115, 116, 97, 116, 115]⟩ : ByteArray), 9, false⟩ : S54)] : List (S54)))) = some r := h
  clear h
  obtain ⟨y140, hy140⟩ : ∃ y_ : List (S54), y_ = (([(⟨(⟨#[80, 79, 83, 84]⟩ : ByteArray), (⟨#[115, 101, 115, 115, 105, 111, 110, 115]⟩ : ByteArray), 1, false⟩ : S54), (⟨(⟨#[71, 69, 84]⟩ : ByteArray), (⟨#[115, 101, 115, 115, 105, 111, 110, 115, 47, 84]⟩ : ByteArray), 2, false⟩ : S54), (⟨(⟨#[80, 79, 83, 84]⟩ : ByteArray), (⟨#[115, 101, 115, 115, 105, 111, 110, 115, 47, 84, 47, 116, 111, 117, 99, 104]⟩ : ByteArray), 3, false⟩ : S54), (⟨(⟨#[68, 69, 76, 69, 84, 69]⟩ : ByteArray), (⟨#[115, 101, 115, 115, 105, 111, 110, 115, 47, 84]⟩ : ByteArray), 4, false⟩ : S54), (⟨(⟨#[68, 69, 76, 69, 84, 69]⟩ : ByteArray), (⟨#[117, 115, 101, 114, 115, 47, 85, 47, 115, 101, 115, 115, 105, 111, 110, 115]⟩ : ByteArray), 5, false⟩ : S54), (⟨(⟨#[68, 69, 76, 69, 84, 69]⟩ : ByteArray), (⟨#[115, 101, 115, 115, 105, 111, 110, 115]⟩ : ByteArray), 6, false⟩ : S54), (⟨(⟨#[71, 69, 84]⟩ : ByteArray), (⟨#[117, 115, 101, 114, 115, 47, 85, 47, 115, 101, 115, 115, 105, 111, 110, 115]⟩ : ByteArray), 7, false⟩ : S54), (⟨(⟨#[71, 69, 84]⟩ : ByteArray), (⟨#[97, 117, 100, 105, 116]⟩ : ByteArray), 8, false⟩ : S54), (⟨(⟨#[71, 69, 84]⟩ : ByteArray), (⟨#[109, 101]⟩ : ByteArray), 2, true⟩ : S54), (⟨(⟨#[71, 69, 84]⟩ : ByteArray), (⟨#[115, 116, 97, 116, 115]⟩ : ByteArray), 9, false⟩ : S54)] : List (S54))) := ⟨_, rfl⟩
  replace H : (some y140) = some r := by first | (rw [hy140]; with_reducible exact H) | (have H2_ := (Option.bind_some _ _).symm.trans H; rw [hy140]; with_reducible exact H2_) | (have H2_ := (Option.bind_some _ _).symm.trans H; with_reducible exact H2_) | with_reducible exact H | (rw [hy140]; exact H) | exact H
  have Ny140 := Aside0.mk hy140
  clear hy140
  obtain rfl := Option.some.inj H
  go_enter Tryd.func25, Tryd.ntmps25
  go_wp2_with (first | ((with_reducible refine gate_dst (N := 11) rfl ?_); refine Kd.R_lit k54 _ 54 ?hg (N := 11) ?hd (xs := ([(⟨(⟨#[80, 79, 83, 84]⟩ : ByteArray), (⟨#[115, 101, 115, 115, 105, 111, 110, 115]⟩ : ByteArray), 1, false⟩ : S54), (⟨(⟨#[71, 69, 84]⟩ : ByteArray), (⟨#[115, 101, 115, 115, 105, 111, 110, 115, 47, 84]⟩ : ByteArray), 2, false⟩ : S54), (⟨(⟨#[80, 79, 83, 84]⟩ : ByteArray), (⟨#[115, 101, 115, 115, 105, 111, 110, 115, 47, 84, 47, 116, 111, 117, 99, 104]⟩ : ByteArray), 3, false⟩ : S54), (⟨(⟨#[68, 69, 76, 69, 84, 69]⟩ : ByteArray), (⟨#[115, 101, 115, 115, 105, 111, 110, 115, 47, 84]⟩ : ByteArray), 4, false⟩ : S54), (⟨(⟨#[68, 69, 76, 69, 84, 69]⟩ : ByteArray), (⟨#[117, 115, 101, 114, 115, 47, 85, 47, 115, 101, 115, 115, 105, 111, 110, 115]⟩ : ByteArray), 5, false⟩ : S54), (⟨(⟨#[68, 69, 76, 69, 84, 69]⟩ : ByteArray), (⟨#[115, 101, 115, 115, 105, 111, 110, 115]⟩ : ByteArray), 6, false⟩ : S54), (⟨(⟨#[71, 69, 84]⟩ : ByteArray), (⟨#[117, 115, 101, 114, 115, 47, 85, 47, 115, 101, 115, 115, 105, 111, 110, 115]⟩ : ByteArray), 7, false⟩ : S54), (⟨(⟨#[71, 69, 84]⟩ : ByteArray), (⟨#[97, 117, 100, 105, 116]⟩ : ByteArray), 8, false⟩ : S54), (⟨(⟨#[71, 69, 84]⟩ : ByteArray), (⟨#[109, 101]⟩ : ByteArray), 2, true⟩ : S54), (⟨(⟨#[71, 69, 84]⟩ : ByteArray), (⟨#[115, 116, 97, 116, 115]⟩ : ByteArray), 9, false⟩ : S54)] : List (S54))) (inner := [.string (⟨#[80, 79, 83, 84]⟩ : ByteArray), .string (⟨#[115, 101, 115, 115, 105, 111, 110, 115]⟩ : ByteArray), .int .i64 1, .bool false, .string (⟨#[71, 69, 84]⟩ : ByteArray), .string (⟨#[115, 101, 115, 115, 105, 111, 110, 115, 47, 84]⟩ : ByteArray), .int .i64 2, .bool false, .string (⟨#[80, 79, 83, 84]⟩ : ByteArray), .string (⟨#[115, 101, 115, 115, 105, 111, 110, 115, 47, 84, 47, 116, 111, 117, 99, 104]⟩ : ByteArray), .int .i64 3, .bool false, .string (⟨#[68, 69, 76, 69, 84, 69]⟩ : ByteArray), .string (⟨#[115, 101, 115, 115, 105, 111, 110, 115, 47, 84]⟩ : ByteArray), .int .i64 4, .bool false, .string (⟨#[68, 69, 76, 69, 84, 69]⟩ : ByteArray), .string (⟨#[117, 115, 101, 114, 115, 47, 85, 47, 115, 101, 115, 115, 105, 111, 110, 115]⟩ : ByteArray), .int .i64 5, .bool false, .string (⟨#[68, 69, 76, 69, 84, 69]⟩ : ByteArray), .string (⟨#[115, 101, 115, 115, 105, 111, 110, 115]⟩ : ByteArray), .int .i64 6, .bool false, .string (⟨#[71, 69, 84]⟩ : ByteArray), .string (⟨#[117, 115, 101, 114, 115, 47, 85, 47, 115, 101, 115, 115, 105, 111, 110, 115]⟩ : ByteArray), .int .i64 7, .bool false, .string (⟨#[71, 69, 84]⟩ : ByteArray), .string (⟨#[97, 117, 100, 105, 116]⟩ : ByteArray), .int .i64 8, .bool false, .string (⟨#[71, 69, 84]⟩ : ByteArray), .string (⟨#[109, 101]⟩ : ByteArray), .int .i64 2, .bool true, .string (⟨#[71, 69, 84]⟩ : ByteArray), .string (⟨#[115, 116, 97, 116, 115]⟩ : ByteArray), .int .i64 9, .bool false]) (ok := fun _ => True) (okp := fun _ => True) ?hr ?hp (fun _ hk => hk) trivial (Below.refl _ _) (Nat.le_refl _) (by simp) ?_; (case hd => rfl); (case hg => rfl); (case hr => first | (go_simp; done) | (go_simp; rfl)); (case hp => exact (Reps.c4 (show Kd.M k54 _ _ _ (⟨(⟨#[80, 79, 83, 84]⟩ : ByteArray), (⟨#[115, 101, 115, 115, 105, 111, 110, 115]⟩ : ByteArray), 1, false⟩ : S54) [.string (⟨#[80, 79, 83, 84]⟩ : ByteArray), .string (⟨#[115, 101, 115, 115, 105, 111, 110, 115]⟩ : ByteArray), .int .i64 1, .bool false] from (k54_mkM _ _ _ (⟨(⟨#[80, 79, 83, 84]⟩ : ByteArray), (⟨#[115, 101, 115, 115, 105, 111, 110, 115]⟩ : ByteArray), 1, false⟩ : S54) )) (Reps.c4 (show Kd.M k54 _ _ _ (⟨(⟨#[71, 69, 84]⟩ : ByteArray), (⟨#[115, 101, 115, 115, 105, 111, 110, 115, 47, 84]⟩ : ByteArray), 2, false⟩ : S54) [.string (⟨#[71, 69, 84]⟩ : ByteArray), .string (⟨#[115, 101, 115, 115, 105, 111, 110, 115, 47, 84]⟩ : ByteArray), .int .i64 2, .bool false] from (k54_mkM _ _ _ (⟨(⟨#[71, 69, 84]⟩ : ByteArray), (⟨#[115, 101, 115, 115, 105, 111, 110, 115, 47, 84]⟩ : ByteArray), 2, false⟩ : S54) )) (Reps.c4 (show Kd.M k54 _ _ _ (⟨(⟨#[80, 79, 83, 84]⟩ : ByteArray), (⟨#[115, 101, 115, 115, 105, 111, 110, 115, 47, 84, 47, 116, 111, 117, 99, 104]⟩ : ByteArray), 3, false⟩ : S54) [.string (⟨#[80, 79, 83, 84]⟩ : ByteArray), .string (⟨#[115, 101, 115, 115, 105, 111, 110, 115, 47, 84, 47, 116, 111, 117, 99, 104]⟩ : ByteArray), .int .i64 3, .bool false] from (k54_mkM _ _ _ (⟨(⟨#[80, 79, 83, 84]⟩ : ByteArray), (⟨#[115, 101, 115, 115, 105, 111, 110, 115, 47, 84, 47, 116, 111, 117, 99, 104]⟩ : ByteArray), 3, false⟩ : S54) )) (Reps.c4 (show Kd.M k54 _ _ _ (⟨(⟨#[68, 69, 76, 69, 84, 69]⟩ : ByteArray), (⟨#[115, 101, 115, 115, 105, 111, 110, 115, 47, 84]⟩ : ByteArray), 4, false⟩ : S54) [.string (⟨#[68, 69, 76, 69, 84, 69]⟩ : ByteArray), .string (⟨#[115, 101, 115, 115, 105, 111, 110, 115, 47, 84]⟩ : ByteArray), .int .i64 4, .bool false] from (k54_mkM _ _ _ (⟨(⟨#[68, 69, 76, 69, 84, 69]⟩ : ByteArray), (⟨#[115, 101, 115, 115, 105, 111, 110, 115, 47, 84]⟩ : ByteArray), 4, false⟩ : S54) )) (Reps.c4 (show Kd.M k54 _ _ _ (⟨(⟨#[68, 69, 76, 69, 84, 69]⟩ : ByteArray), (⟨#[117, 115, 101, 114, 115, 47, 85, 47, 115, 101, 115, 115, 105, 111, 110, 115]⟩ : ByteArray), 5, false⟩ : S54) [.string (⟨#[68, 69, 76, 69, 84, 69]⟩ : ByteArray), .string (⟨#[117, 115, 101, 114, 115, 47, 85, 47, 115, 101, 115, 115, 105, 111, 110, 115]⟩ : ByteArray), .int .i64 5, .bool false] from (k54_mkM _ _ _ (⟨(⟨#[68, 69, 76, 69, 84, 69]⟩ : ByteArray), (⟨#[117, 115, 101, 114, 115, 47, 85, 47, 115, 101, 115, 115, 105, 111, 110, 115]⟩ : ByteArray), 5, false⟩ : S54) )) (Reps.c4 (show Kd.M k54 _ _ _ (⟨(⟨#[68, 69, 76, 69, 84, 69]⟩ : ByteArray), (⟨#[115, 101, 115, 115, 105, 111, 110, 115]⟩ : ByteArray), 6, false⟩ : S54) [.string (⟨#[68, 69, 76, 69, 84, 69]⟩ : ByteArray), .string (⟨#[115, 101, 115, 115, 105, 111, 110, 115]⟩ : ByteArray), .int .i64 6, .bool false] from (k54_mkM _ _ _ (⟨(⟨#[68, 69, 76, 69, 84, 69]⟩ : ByteArray), (⟨#[115, 101, 115, 115, 105, 111, 110, 115]⟩ : ByteArray), 6, false⟩ : S54) )) (Reps.c4 (show Kd.M k54 _ _ _ (⟨(⟨#[71, 69, 84]⟩ : ByteArray), (⟨#[117, 115, 101, 114, 115, 47, 85, 47, 115, 101, 115, 115, 105, 111, 110, 115]⟩ : ByteArray), 7, false⟩ : S54) [.string (⟨#[71, 69, 84]⟩ : ByteArray), .string (⟨#[117, 115, 101, 114, 115, 47, 85, 47, 115, 101, 115, 115, 105, 111, 110, 115]⟩ : ByteArray), .int .i64 7, .bool false] from (k54_mkM _ _ _ (⟨(⟨#[71, 69, 84]⟩ : ByteArray), (⟨#[117, 115, 101, 114, 115, 47, 85, 47, 115, 101, 115, 115, 105, 111, 110, 115]⟩ : ByteArray), 7, false⟩ : S54) )) (Reps.c4 (show Kd.M k54 _ _ _ (⟨(⟨#[71, 69, 84]⟩ : ByteArray), (⟨#[97, 117, 100, 105, 116]⟩ : ByteArray), 8, false⟩ : S54) [.string (⟨#[71, 69, 84]⟩ : ByteArray), .string (⟨#[97, 117, 100, 105, 116]⟩ : ByteArray), .int .i64 8, .bool false] from (k54_mkM _ _ _ (⟨(⟨#[71, 69, 84]⟩ : ByteArray), (⟨#[97, 117, 100, 105, 116]⟩ : ByteArray), 8, false⟩ : S54) )) (Reps.c4 (show Kd.M k54 _ _ _ (⟨(⟨#[71, 69, 84]⟩ : ByteArray), (⟨#[109, 101]⟩ : ByteArray), 2, true⟩ : S54) [.string (⟨#[71, 69, 84]⟩ : ByteArray), .string (⟨#[109, 101]⟩ : ByteArray), .int .i64 2, .bool true] from (k54_mkM _ _ _ (⟨(⟨#[71, 69, 84]⟩ : ByteArray), (⟨#[109, 101]⟩ : ByteArray), 2, true⟩ : S54) )) (Reps.c4 (show Kd.M k54 _ _ _ (⟨(⟨#[71, 69, 84]⟩ : ByteArray), (⟨#[115, 116, 97, 116, 115]⟩ : ByteArray), 9, false⟩ : S54) [.string (⟨#[71, 69, 84]⟩ : ByteArray), .string (⟨#[115, 116, 97, 116, 115]⟩ : ByteArray), .int .i64 9, .bool false] from (k54_mkM _ _ _ (⟨(⟨#[71, 69, 84]⟩ : ByteArray), (⟨#[115, 116, 97, 116, 115]⟩ : ByteArray), 9, false⟩ : S54) )) (Reps.none _ _)))))))))))); intro v141 w1 ho2 hb hg_ hnew_; clear hg_ hnew_; (first | rw [← Ny140.out] at ho2 | (simp only [Int.reduceToNat] at ho2; rw [← Ny140.out] at ho2)); have n0_ := Aside0.mk (Kd.R_lower ho2 (below_size (by repeat (first | (with_reducible first | exact HB.out | apply below_alloc | apply pw_below_drewN | apply below_drew1) | exact HB.out)))); have n1_ := Aside0.mk (below_step (by repeat (first | (with_reducible first | exact HB.out | apply below_alloc | apply pw_below_drewN | apply below_drew1) | exact HB.out)) hb); clear HB; have HO142 := n0_; have HB := n1_; clear n0_ n1_; clear hb ho2))
  go_ret
  exact ⟨_, by first | rfl | (simp [errW_none, errW_some] <;> rfl) | (simp [*, errW_none, errW_some] <;> rfl), by (with_reducible repeat (first | apply Kd.R_alloc | apply Kd.R_drewN | apply Kd.R_drew)); exact HO142.out, by repeat (first | (with_reducible first | exact HB.out | apply below_alloc | apply pw_below_drewN | apply below_drew1) | exact HB.out)⟩

end Go.Proofs.YtdbbgdgjmlcgcaaDoor.PRouteB
