-- Printed by a program of this claim (wip/printx.py over the print of the kit), with contracts of its own.
import Derived.Test.YtdbbgdgjmlcgcaaDoorPRoutex0
import Derived.Test.YtdbbgdgjmlcgcaaDoorPRoutex4
namespace Go.Proofs.YtdbbgdgjmlcgcaaDoor.PRoute
open Go.RowKit Go.Proofs.YtdbbgdgjmlcgcaaDoorW.PrintWords Go.Proofs.YtdbbgdgjmlcgcaaDoorW.PrintLast Go.Proofs.YtdbbgdgjmlcgcaaDoorW.PrintMore
attribute [local go_sem] max2_int min2_int max_two min_two max_three min_three max_four min_four   -- for this text's walks alone
set_option linter.unusedVariables false
set_option linter.unusedSimpArgs false

/-! ### atriumref20_raw: function 21 -/
mutual
def atriumref20_raw.j0 : Nat → ByteArray → Bool → Option (List ByteArray × ByteArray × Bool × Int)
  | 0, _, _ => none
  | k + 1, x0, x21 => if x21 = true then (some (([] : List ByteArray), (⟨#[]⟩ : ByteArray), false, 150)) else ((atriumref20_find.f k x0 63).bind fun t155 => (if 1 ≤ t155 then (if t155 ≤ (x0.size : Int) then ((atriumref20_cut.f k (x0.extract 1 (t155 : Int).toNat) 47).bind fun t156 => (atriumref20_raw.l0 k x0 t155 t156 t156 (t156.length : Int) 0)) else (none)) else (none)))
def atriumref20_raw.l0 : Nat → ByteArray → Int → List ByteArray → List ByteArray → Int → Int → Option (List ByteArray × ByteArray × Bool × Int)
  | 0, _, _, _, _, _, _ => none
  | k + 1, x0, x6, x7, x28, x29, x30 => if x30 < x29 then (if 0 ≤ x30 then (if x30 < (x28.length : Int) then ((atriumref15_Unescape.f k (rdOf ByteArray.empty x28 x30)).bind fun bt160 => (if bt160.2 = 0 then (atriumref20_raw.l0 k x0 x6 x7 x28 x29 (wrap64 (x30 + 1))) else (some (([] : List ByteArray), (⟨#[]⟩ : ByteArray), false, 150)))) else (none)) else (none)) else (if x6 = (x0.size : Int) then (some (x7, (⟨#[]⟩ : ByteArray), false, 0)) else (if 0 ≤ (wrap64 (x6 + 1)) then (if (wrap64 (x6 + 1)) ≤ (x0.size : Int) then (some (x7, x0.extract ((wrap64 (x6 + 1)) : Int).toNat x0.size, true, 0)) else (none)) else (none)))
end
def atriumref20_raw.f (k : Nat) (a0 : ByteArray) : Option (List ByteArray × ByteArray × Bool × Int) := if (a0.size : Int) > 1024 then (some (([] : List ByteArray), (⟨#[]⟩ : ByteArray), false, 3)) else (if a0.toList = ([] : List UInt8) then (atriumref20_raw.j0 k a0 true) else (if 0 < (a0.size : Int) then (atriumref20_raw.j0 k a0 ((bt a0 0) != 47)) else (none)))
theorem atriumref20_raw.mono_l : ∀ k, (∀ y0 y1, LeO (atriumref20_raw.j0 k y0 y1) (atriumref20_raw.j0 (k + 1) y0 y1)) ∧ (∀ y0 y1 y2 y3 y4 y5, LeO (atriumref20_raw.l0 k y0 y1 y2 y3 y4 y5) (atriumref20_raw.l0 (k + 1) y0 y1 y2 y3 y4 y5))
  | 0 => ⟨fun _ _ r h => by simp [atriumref20_raw.j0] at h, fun _ _ _ _ _ _ r h => by simp [atriumref20_raw.l0] at h⟩
  | k + 1 => by
    obtain ⟨ih0, ih1⟩ := atriumref20_raw.mono_l k
    refine ⟨?_, ?_⟩
    · intro y0 y1
      unfold atriumref20_raw.j0
      repeat' first
      | (with_reducible exact ih0 _ _)
      | (with_reducible exact ih1 _ _ _ _ _ _)
      | (with_reducible exact atriumref15_Unescape.mono _ _)
      | (with_reducible exact atriumref20_cut.mono _ _ _)
      | (with_reducible exact atriumref20_find.mono _ _ _)
      | (with_reducible exact LeO.refl _)
      | (with_reducible exact LeO.none _)
      | (with_reducible refine LeO.ite ?_ ?_)
      | (with_reducible refine LeO.bind ?_ (fun _ => ?_))
      | exact ih0 _ _
      | exact ih1 _ _ _ _ _ _
      | exact atriumref15_Unescape.mono _ _
      | exact atriumref20_cut.mono _ _ _
      | exact atriumref20_find.mono _ _ _
      | exact LeO.none _
      | refine LeO.ite ?_ ?_
      | refine LeO.bind ?_ (fun _ => ?_)
    · intro y0 y1 y2 y3 y4 y5
      unfold atriumref20_raw.l0
      repeat' first
      | (with_reducible exact ih0 _ _)
      | (with_reducible exact ih1 _ _ _ _ _ _)
      | (with_reducible exact atriumref15_Unescape.mono _ _)
      | (with_reducible exact atriumref20_cut.mono _ _ _)
      | (with_reducible exact atriumref20_find.mono _ _ _)
      | (with_reducible exact LeO.refl _)
      | (with_reducible exact LeO.none _)
      | (with_reducible refine LeO.ite ?_ ?_)
      | (with_reducible refine LeO.bind ?_ (fun _ => ?_))
      | exact ih0 _ _
      | exact ih1 _ _ _ _ _ _
      | exact atriumref15_Unescape.mono _ _
      | exact atriumref20_cut.mono _ _ _
      | exact atriumref20_find.mono _ _ _
      | exact LeO.none _
      | refine LeO.ite ?_ ?_
      | refine LeO.bind ?_ (fun _ => ?_)
theorem atriumref20_raw.mono : ∀ a0 k, LeO (atriumref20_raw.f k a0) (atriumref20_raw.f (k + 1) a0) := by
  intro a0 k
  obtain ⟨ih0, ih1⟩ := atriumref20_raw.mono_l k
  unfold atriumref20_raw.f
  repeat' first
      | (with_reducible exact ih0 _ _)
      | (with_reducible exact ih1 _ _ _ _ _ _)
      | (with_reducible exact atriumref15_Unescape.mono _ _)
      | (with_reducible exact atriumref20_cut.mono _ _ _)
      | (with_reducible exact atriumref20_find.mono _ _ _)
      | (with_reducible exact LeO.refl _)
      | (with_reducible exact LeO.none _)
      | (with_reducible refine LeO.ite ?_ ?_)
      | (with_reducible refine LeO.bind ?_ (fun _ => ?_))
      | exact ih0 _ _
      | exact ih1 _ _ _ _ _ _
      | exact atriumref15_Unescape.mono _ _
      | exact atriumref20_cut.mono _ _ _
      | exact atriumref20_find.mono _ _ _
      | exact LeO.none _
      | refine LeO.ite ?_ ?_
      | refine LeO.bind ?_ (fun _ => ?_)
set_option maxHeartbeats 8000000 in
set_option maxRecDepth 100000 in
theorem atriumref20_raw.calls (k : Nat) (a0 : ByteArray) (r1 : List ByteArray) (r2 : ByteArray) (r3 : Bool) (r4 : Int) (w : World) (h : atriumref20_raw.f k a0 = some (r1, r2, r3, r4)) :
    Calls Tryd.prog 21 #[.string a0] w fun e w' => ∃ v0_ : Value, e = .returned (.tuple #[v0_, .string r2, .bool r3, .int .i64 r4]) ∧ Kd.R Kd.string 9 w' w.heap.size (fun _ => True) v0_ r1 ∧ Below w.heap.size w w' := by
  have HB := Aside0.mk (Below.refl w.heap.size w)
  have H : (if (a0.size : Int) > 1024 then (some (([] : List ByteArray), (⟨#[]⟩ : ByteArray), false, 3)) else (if a0.toList = ([] : List UInt8) then (atriumref20_raw.j0 k a0 true) else (if 0 < (a0.size : Int) then (atriumref20_raw.j0 k a0 ((bt a0 0) != 47)) else (none)))) = some (r1, r2, r3, r4) := h
  clear h
  by_cases c2 : (a0.size : Int) > 1024
  · rw [if_pos c2] at H
    have c2b0 : decide (1024 < (a0.size : Int)) = true := decide_eq_true c2
    have c2b1 : decide (1024 < a0.size) = true := decide_eq_true (by omega)
    clear c2
    simp only [Option.some.injEq, Prod.mk.injEq] at H
    obtain ⟨rfl, rfl, rfl, rfl⟩ := H
    go_enter Tryd.func21, Tryd.ntmps21
    go_wp2
    repeat (go_quiet (fail); try go_wp2)
    refine bodyPost_ret (results_list (rs := [.tmp 2, .tmp 3, .tmp 4, .tmp 5]) rfl (by simp) (.tmp (.tmp (.tmp (.tmp .nil))))) rfl ?_
    exact ⟨_, by first | rfl | (simp [errW_none, errW_some] <;> rfl) | (simp [*, errW_none, errW_some] <;> rfl), by first | exact Kd.R_nil _ _ _ _ _ | exact Kd.N_nil _ _ _ _ _ | exact Kd.V_nil _ _ _ _ _ | exact Kd.Q_nil _ _ _ _ _ | exact Kd.S_nil _ _ _ _ _, by repeat (first | (with_reducible first | exact HB.out | apply below_alloc | apply pw_below_drewN | apply below_drew1) | exact HB.out)⟩
  · rw [if_neg c2] at H
    have c2b0 : decide (1024 < (a0.size : Int)) = false := decide_eq_false c2
    have c2b1 : decide (1024 < a0.size) = false := decide_eq_false (by omega)
    clear c2
    have HC3 := Aside0.mk H
    clear H
    go_enter Tryd.func21, Tryd.ntmps21
    go_upto_region 3 with (fail)
    repeat (go_quiet (fail); go_upto_region 3 with (fail))
    go_cut [21] (fun v21 wc => ∃ (kq : Nat) (x21_2 : Bool), v21 = .bool x21_2 ∧ Aside0 (atriumref20_raw.j0 kq a0 x21_2 = some (r1, r2, r3, r4)) ∧ Aside0 (kq ≤ k) ∧ Aside0 (Below w.heap.size w wc))
    case first =>
      have H := HC3.out
      clear HC3
      by_cases c4 : a0.toList = ([] : List UInt8)
      · rw [if_pos c4] at H
        have c4b0 : (a0.toList == ([] : List UInt8)) = true := beq_iff_eq.mpr c4
        have c4b1 : (a0.toList != ([] : List UInt8)) = false := bne_eq_false_iff_eq.mpr c4
        clear c4
        (first | rw [c4b0] | (simp only [i64_w, i32_w]; rw [c4b0]) | skip)
        have H' := Aside0.mk H
        clear H
        go_wp2
        repeat (go_quiet (fail); try go_wp2)
        go_meet
        case rel => exact ⟨_, (true), (by first | rfl | (simp; done) | (simp [*]; done)), H', ⟨by first | omega | exact Nat.le_refl _⟩, ⟨by repeat (first | (with_reducible first | exact HB.out | apply below_alloc | apply pw_below_drewN | apply below_drew1) | exact HB.out)⟩⟩
      · rw [if_neg c4] at H
        have c4b0 : (a0.toList == ([] : List UInt8)) = false := beq_eq_false_iff_ne.mpr c4
        have c4b1 : (a0.toList != ([] : List UInt8)) = true := bne_iff_ne.mpr c4
        (first | rw [c4b0] | (simp only [i64_w, i32_w]; rw [c4b0]) | skip)
        by_cases c5 : 0 < (a0.size : Int)
        · rw [if_pos c5] at H
          have c5b0 : decide (0 < (a0.size : Int)) = true := decide_eq_true c5
          have c5b1 : decide (0 < a0.size) = true := decide_eq_true (by omega)
          clear c5
          have H' := Aside0.mk H
          clear H
          have p6 : 0 ≤ (0 : Int) := (by omega)
          have q6 : 0 < a0.size := (by have : (0 : Int) < (a0.size : Int) := of_decide_eq_true (by first | (with_reducible assumption) | assumption); omega)
          have hx6 : ∀ h : 0 < a0.size, ((a0[0]'h).toNat : Int) = bt a0 0 := bt_at a0 0
          clear p6
          have qi6 : (0 < (a0.size : Int)) = True := eq_true (of_decide_eq_true (by first | (with_reducible assumption) | assumption))
          replace q6 := eq_true q6
          go_wp2
          repeat (go_quiet (fail); try go_wp2)
          go_meet
          case rel => exact ⟨_, (((bt a0 0) != 47)), (by first | rfl | (simp; done) | (simp [*]; done)), H', ⟨by first | omega | exact Nat.le_refl _⟩, ⟨by repeat (first | (with_reducible first | exact HB.out | apply below_alloc | apply pw_below_drewN | apply below_drew1) | exact HB.out)⟩⟩
        · rw [if_neg c5] at H
          exact absurd H (by simp)
    case rest =>
      clear HC3
      try clear c2
      try clear c2b0
      try clear c2b1
      try clear p2
      try clear c4
      try clear c4b0
      try clear c4b1
      try clear c5
      try clear c5b0
      try clear c5b1
      try clear p6
      try clear q6
      try clear hx6
      try clear qi6
      try clear p6
      try clear q6
      obtain ⟨kq, x21_2, rfl, HA, HJ2, HB⟩ := hcut
      cases kq with
      | zero => exact absurd HA.out (by simp [atriumref20_raw.j0])
      | succ kj2 =>
        have H := HA.out
        clear HA
        simp only [atriumref20_raw.j0] at H
        by_cases c7 : x21_2 = true
        · subst c7
          have H1 : (some (([] : List ByteArray), (⟨#[]⟩ : ByteArray), false, 150)) = some (r1, r2, r3, r4) := by rw [if_pos rfl] at H; exact H
          clear H
          have H := H1
          clear H1
          simp only [Option.some.injEq, Prod.mk.injEq] at H
          obtain ⟨rfl, rfl, rfl, rfl⟩ := H
          go_wp2
          repeat (go_quiet (fail); try go_wp2)
          refine bodyPost_ret (results_list (rs := [.tmp 2, .tmp 3, .tmp 4, .tmp 5]) rfl (by simp) (.tmp (.tmp (.tmp (.tmp .nil))))) rfl ?_
          exact ⟨_, by first | rfl | (simp [errW_none, errW_some] <;> rfl) | (simp [*, errW_none, errW_some] <;> rfl), by first | exact Kd.R_nil _ _ _ _ _ | exact Kd.N_nil _ _ _ _ _ | exact Kd.V_nil _ _ _ _ _ | exact Kd.Q_nil _ _ _ _ _ | exact Kd.S_nil _ _ _ _ _, by repeat (first | (with_reducible first | exact HB.out | apply below_alloc | apply pw_below_drewN | apply below_drew1) | exact HB.out)⟩
        · replace c7 := Bool.eq_false_iff.mpr c7
          subst c7
          have H1 : ((atriumref20_find.f kj2 a0 63).bind fun t155 => (if 1 ≤ t155 then (if t155 ≤ (a0.size : Int) then ((atriumref20_cut.f kj2 (a0.extract 1 (t155 : Int).toNat) 47).bind fun t156 => (atriumref20_raw.l0 kj2 a0 t155 t156 t156 (t156.length : Int) 0)) else (none)) else (none))) = some (r1, r2, r3, r4) := by rw [if_neg (show ¬ (false = true) by decide)] at H; exact H
          clear H
          have H := H1
          clear H1
          replace H := Option.bind_eq_some_iff.mp H
          obtain ⟨t155, A80, H⟩ := H
          replace H : (if 1 ≤ t155 then (if t155 ≤ (a0.size : Int) then ((atriumref20_cut.f kj2 (a0.extract 1 (t155 : Int).toNat) 47).bind fun t156 => (atriumref20_raw.l0 kj2 a0 t155 t156 t156 (t156.length : Int) 0)) else (none)) else (none)) = some (r1, r2, r3, r4) := H
          have A8 := Aside0.mk A80
          clear A80
          by_cases c9 : 1 ≤ t155
          · rw [if_pos c9] at H
            have c9b0 := eq_true c9
            have c9b1 : decide (1 ≤ t155) = true := decide_eq_true c9
            clear c9
            by_cases c10 : t155 ≤ (a0.size : Int)
            · rw [if_pos c10] at H
              have c10b0 := eq_true c10
              have c10b1 : decide (t155 ≤ (a0.size : Int)) = true := decide_eq_true c10
              clear c10
              replace H := Option.bind_eq_some_iff.mp H
              obtain ⟨t156, A110, H⟩ := H
              replace H : (atriumref20_raw.l0 kj2 a0 t155 t156 t156 (t156.length : Int) 0) = some (r1, r2, r3, r4) := H
              have A11 := Aside0.mk A110
              clear A110
              have H' := Aside0.mk H
              clear H
              go_wp2_with (first | (go_at_call 24; (with_reducible refine (atriumref20_find.calls kj2 a0 63 t155 _ A8.out).mono ?_); rintro e w' ⟨rfl, ⟨nd, rfl⟩⟩; (try first | exact ⟨rfl, _, World.drewN_drewN _ _ _⟩ | exact ⟨rfl, _, Eq.trans (World.drewN_drewN _ _ _) (congrArg (World.drewN _) (Nat.add_assoc _ _ _))⟩)) | (go_at_call 23; (with_reducible refine (atriumref20_cut.calls kj2 (a0.extract 1 (t155 : Int).toNat) 47 t156 _ A11.out).mono ?_); rintro e w12 ⟨v157, rfl, ho0, hb⟩; have n0_ := Aside0.mk (Kd.R_lower ho0 (below_size (by repeat (first | (with_reducible first | exact HB.out | apply below_alloc | apply pw_below_drewN | apply below_drew1) | exact HB.out)))); have n1_ := Aside0.mk (below_step (by repeat (first | (with_reducible first | exact HB.out | apply below_alloc | apply pw_below_drewN | apply below_drew1) | exact HB.out)) hb); clear HB; have HO158 := n0_; have HB := n1_; clear n0_ n1_; (try clear hb); (try clear hb2); (try clear hk); (try clear hi); (try clear ho0); obtain ⟨Ao13, co13, eo13⟩ := Kd.R_slice HO158.out; subst eo13))
              repeat (go_quiet (first | (go_at_call 24; (with_reducible refine (atriumref20_find.calls kj2 a0 63 t155 _ A8.out).mono ?_); rintro e w' ⟨rfl, ⟨nd, rfl⟩⟩; (try first | exact ⟨rfl, _, World.drewN_drewN _ _ _⟩ | exact ⟨rfl, _, Eq.trans (World.drewN_drewN _ _ _) (congrArg (World.drewN _) (Nat.add_assoc _ _ _))⟩)) | (go_at_call 23; (with_reducible refine (atriumref20_cut.calls kj2 (a0.extract 1 (t155 : Int).toNat) 47 t156 _ A11.out).mono ?_); rintro e w12 ⟨v157, rfl, ho0, hb⟩; have n0_ := Aside0.mk (Kd.R_lower ho0 (below_size (by repeat (first | (with_reducible first | exact HB.out | apply below_alloc | apply pw_below_drewN | apply below_drew1) | exact HB.out)))); have n1_ := Aside0.mk (below_step (by repeat (first | (with_reducible first | exact HB.out | apply below_alloc | apply pw_below_drewN | apply below_drew1) | exact HB.out)) hb); clear HB; have HO158 := n0_; have HB := n1_; clear n0_ n1_; (try clear hb); (try clear hb2); (try clear hk); (try clear hi); (try clear ho0); obtain ⟨Ao13, co13, eo13⟩ := Kd.R_slice HO158.out; subst eo13)); try go_wp2_with (first | (go_at_call 24; (with_reducible refine (atriumref20_find.calls kj2 a0 63 t155 _ A8.out).mono ?_); rintro e w' ⟨rfl, ⟨nd, rfl⟩⟩; (try first | exact ⟨rfl, _, World.drewN_drewN _ _ _⟩ | exact ⟨rfl, _, Eq.trans (World.drewN_drewN _ _ _) (congrArg (World.drewN _) (Nat.add_assoc _ _ _))⟩)) | (go_at_call 23; (with_reducible refine (atriumref20_cut.calls kj2 (a0.extract 1 (t155 : Int).toNat) 47 t156 _ A11.out).mono ?_); rintro e w12 ⟨v157, rfl, ho0, hb⟩; have n0_ := Aside0.mk (Kd.R_lower ho0 (below_size (by repeat (first | (with_reducible first | exact HB.out | apply below_alloc | apply pw_below_drewN | apply below_drew1) | exact HB.out)))); have n1_ := Aside0.mk (below_step (by repeat (first | (with_reducible first | exact HB.out | apply below_alloc | apply pw_below_drewN | apply below_drew1) | exact HB.out)) hb); clear HB; have HO158 := n0_; have HB := n1_; clear n0_ n1_; (try clear hb); (try clear hb2); (try clear hk); (try clear hi); (try clear ho0); obtain ⟨Ao13, co13, eo13⟩ := Kd.R_slice HO158.out; subst eo13)))
              go_loopg [30] kj2 (fun kq v30 w' => ∃ (x30_2 : Int), v30 = .int .i64 x30_2 ∧ Aside0 (atriumref20_raw.l0 kq a0 t155 t156 t156 (t156.length : Int) x30_2 = some (r1, r2, r3, r4)) ∧ Aside0 (kq ≤ kj2) ∧ Aside0 (Kd.R Kd.string 9 w' w.heap.size (fun _ => True) (.slice Ao13 t156.length co13) t156) ∧ Aside0 (Kd.R Kd.string 9 w' w.heap.size (fun _ => True) (.slice Ao13 t156.length co13) t156) ∧ Aside0 (Below w.heap.size w w'))
              case atStart => exact ⟨(0), (by first | rfl | (simp; done) | (simp [*]; done)), H', ⟨Nat.le_refl _⟩, ⟨by (with_reducible repeat (first | apply Kd.R_alloc | apply Kd.R_drewN | apply Kd.R_drew)); exact HO158.out⟩, ⟨by (with_reducible repeat (first | apply Kd.R_alloc | apply Kd.R_drewN | apply Kd.R_drew)); exact HO158.out⟩, ⟨by repeat (first | (with_reducible first | exact HB.out | apply below_alloc | apply pw_below_drewN | apply below_drew1) | exact HB.out)⟩⟩
              case round =>
                clear H'
                try clear c1
                try clear c2
                try clear c2b0
                try clear c2b1
                try clear p2
                try clear c4
                try clear c4b0
                try clear c4b1
                try clear c5
                try clear c5b0
                try clear c5b1
                try clear p6
                try clear q6
                try clear hx6
                try clear qi6
                try clear c7
                try clear c9
                try clear c9b0
                try clear c9b1
                try clear c10
                try clear c10b0
                try clear c10b1
                try clear p2
                try clear p6
                try clear q6
                obtain ⟨x30_2, rfl, HA, HK2, HO_7, HO_28, HB⟩ := hrel
                cases gk with
                | zero => exact absurd HA.out (by simp [atriumref20_raw.l0])
                | succ k2 =>
                  have H := HA.out
                  clear HA
                  simp only [atriumref20_raw.l0] at H
                  by_cases c14 : x30_2 < (t156.length : Int)
                  · rw [if_pos c14] at H
                    have c14b0 : decide (x30_2 < (t156.length : Int)) = true := decide_eq_true c14
                    clear c14
                    by_cases c15 : 0 ≤ x30_2
                    · rw [if_pos c15] at H
                      have c15b0 : decide (0 ≤ x30_2) = true := decide_eq_true c15
                      clear c15
                      by_cases c16 : x30_2 < (t156.length : Int)
                      · rw [if_pos c16] at H
                        have c16b0 : decide (x30_2 < (t156.length : Int)) = true := decide_eq_true c16
                        clear c16
                        replace H := Option.bind_eq_some_iff.mp H
                        obtain ⟨⟨t160, t161⟩, A170, H⟩ := H
                        replace H : (if t161 = 0 then (atriumref20_raw.l0 k2 a0 t155 t156 t156 (t156.length : Int) (wrap64 (x30_2 + 1))) else (some (([] : List ByteArray), (⟨#[]⟩ : ByteArray), false, 150))) = some (r1, r2, r3, r4) := H
                        have A17 := Aside0.mk A170
                        clear A170
                        by_cases c18 : t161 = 0
                        · rw [if_pos c18] at H
                          have c18b0 : (t161 == 0) = true := beq_iff_eq.mpr c18
                          have c18b1 : (t161 != 0) = false := bne_eq_false_iff_eq.mpr c18
                          clear c18
                          have H' := Aside0.mk H
                          clear H
                          have p159 : 0 ≤ (x30_2 : Int) := of_decide_eq_true (by first | (with_reducible assumption) | assumption)
                          have q159 : x30_2 < (t156.length : Int) := of_decide_eq_true (by first | (with_reducible assumption) | assumption)
                          obtain ⟨ad159, e159, hx159_0⟩ := Kd.at_string (Kd.R_reads' HO_28.out).2.2 x30_2 p159 q159
                          cases e159
                          replace p159 := eq_true p159
                          replace q159 := eq_true q159
                          go_wp2_with (first | (go_at_call 22; (with_reducible refine (atriumref15_Unescape.calls k2 (rdOf ByteArray.empty t156 x30_2) t160 t161 _ A17.out).mono ?_); rintro e w19 ⟨rfl, hb⟩; have n0_ := Aside0.mk (Kd.R_below (by (with_reducible repeat (first | apply Kd.R_alloc | apply Kd.R_drewN | apply Kd.R_drew)); exact HO_7.out) hb); have n1_ := Aside0.mk (Kd.R_below (by (with_reducible repeat (first | apply Kd.R_alloc | apply Kd.R_drewN | apply Kd.R_drew)); exact HO_28.out) hb); have n2_ := Aside0.mk (below_step (by repeat (first | (with_reducible first | exact HB.out | apply below_alloc | apply pw_below_drewN | apply below_drew1) | exact HB.out)) hb); clear HO_7; clear HO_28; clear HB; have HO_7 := n0_; have HO_28 := n1_; have HB := n2_; clear n0_ n1_ n2_; (try clear hb); (try clear hb2); (try clear hk); (try clear hi)))
                          repeat (go_quiet (first | (go_at_call 22; (with_reducible refine (atriumref15_Unescape.calls k2 (rdOf ByteArray.empty t156 x30_2) t160 t161 _ A17.out).mono ?_); rintro e w19 ⟨rfl, hb⟩; have n0_ := Aside0.mk (Kd.R_below (by (with_reducible repeat (first | apply Kd.R_alloc | apply Kd.R_drewN | apply Kd.R_drew)); exact HO_7.out) hb); have n1_ := Aside0.mk (Kd.R_below (by (with_reducible repeat (first | apply Kd.R_alloc | apply Kd.R_drewN | apply Kd.R_drew)); exact HO_28.out) hb); have n2_ := Aside0.mk (below_step (by repeat (first | (with_reducible first | exact HB.out | apply below_alloc | apply pw_below_drewN | apply below_drew1) | exact HB.out)) hb); clear HO_7; clear HO_28; clear HB; have HO_7 := n0_; have HO_28 := n1_; have HB := n2_; clear n0_ n1_ n2_; (try clear hb); (try clear hb2); (try clear hk); (try clear hi))); try go_wp2_with (first | (go_at_call 22; (with_reducible refine (atriumref15_Unescape.calls k2 (rdOf ByteArray.empty t156 x30_2) t160 t161 _ A17.out).mono ?_); rintro e w19 ⟨rfl, hb⟩; have n0_ := Aside0.mk (Kd.R_below (by (with_reducible repeat (first | apply Kd.R_alloc | apply Kd.R_drewN | apply Kd.R_drew)); exact HO_7.out) hb); have n1_ := Aside0.mk (Kd.R_below (by (with_reducible repeat (first | apply Kd.R_alloc | apply Kd.R_drewN | apply Kd.R_drew)); exact HO_28.out) hb); have n2_ := Aside0.mk (below_step (by repeat (first | (with_reducible first | exact HB.out | apply below_alloc | apply pw_below_drewN | apply below_drew1) | exact HB.out)) hb); clear HO_7; clear HO_28; clear HB; have HO_7 := n0_; have HO_28 := n1_; have HB := n2_; clear n0_ n1_ n2_; (try clear hb); (try clear hb2); (try clear hk); (try clear hi))))
                          go_roundg k2
                          case measure => have := HJ2.out; have := HK2.out; omega
                          case rel => exact ⟨(wrap64 (x30_2 + 1)), (by first | rfl | (simp; done) | (simp [*]; done)), H', ⟨by have := HJ2.out; have := HK2.out; omega⟩, ⟨by (with_reducible repeat (first | apply Kd.R_alloc | apply Kd.R_drewN | apply Kd.R_drew)); exact HO_7.out⟩, ⟨by (with_reducible repeat (first | apply Kd.R_alloc | apply Kd.R_drewN | apply Kd.R_drew)); exact HO_28.out⟩, ⟨by repeat (first | (with_reducible first | exact HB.out | apply below_alloc | apply pw_below_drewN | apply below_drew1) | exact HB.out)⟩⟩
                        · rw [if_neg c18] at H
                          have c18b0 : (t161 == 0) = false := beq_eq_false_iff_ne.mpr c18
                          have c18b1 : (t161 != 0) = true := bne_iff_ne.mpr c18
                          simp only [Option.some.injEq, Prod.mk.injEq] at H
                          obtain ⟨rfl, rfl, rfl, rfl⟩ := H
                          have p159 : 0 ≤ (x30_2 : Int) := of_decide_eq_true (by first | (with_reducible assumption) | assumption)
                          have q159 : x30_2 < (t156.length : Int) := of_decide_eq_true (by first | (with_reducible assumption) | assumption)
                          obtain ⟨ad159, e159, hx159_0⟩ := Kd.at_string (Kd.R_reads' HO_28.out).2.2 x30_2 p159 q159
                          cases e159
                          replace p159 := eq_true p159
                          replace q159 := eq_true q159
                          go_wp2_with (first | (go_at_call 22; (with_reducible refine (atriumref15_Unescape.calls k2 (rdOf ByteArray.empty t156 x30_2) t160 t161 _ A17.out).mono ?_); rintro e w20 ⟨rfl, hb⟩; have n0_ := Aside0.mk (Kd.R_below (by (with_reducible repeat (first | apply Kd.R_alloc | apply Kd.R_drewN | apply Kd.R_drew)); exact HO_7.out) hb); have n1_ := Aside0.mk (Kd.R_below (by (with_reducible repeat (first | apply Kd.R_alloc | apply Kd.R_drewN | apply Kd.R_drew)); exact HO_28.out) hb); have n2_ := Aside0.mk (below_step (by repeat (first | (with_reducible first | exact HB.out | apply below_alloc | apply pw_below_drewN | apply below_drew1) | exact HB.out)) hb); clear HO_7; clear HO_28; clear HB; have HO_7 := n0_; have HO_28 := n1_; have HB := n2_; clear n0_ n1_ n2_; (try clear hb); (try clear hb2); (try clear hk); (try clear hi)))
                          repeat (go_quiet (first | (go_at_call 22; (with_reducible refine (atriumref15_Unescape.calls k2 (rdOf ByteArray.empty t156 x30_2) t160 t161 _ A17.out).mono ?_); rintro e w20 ⟨rfl, hb⟩; have n0_ := Aside0.mk (Kd.R_below (by (with_reducible repeat (first | apply Kd.R_alloc | apply Kd.R_drewN | apply Kd.R_drew)); exact HO_7.out) hb); have n1_ := Aside0.mk (Kd.R_below (by (with_reducible repeat (first | apply Kd.R_alloc | apply Kd.R_drewN | apply Kd.R_drew)); exact HO_28.out) hb); have n2_ := Aside0.mk (below_step (by repeat (first | (with_reducible first | exact HB.out | apply below_alloc | apply pw_below_drewN | apply below_drew1) | exact HB.out)) hb); clear HO_7; clear HO_28; clear HB; have HO_7 := n0_; have HO_28 := n1_; have HB := n2_; clear n0_ n1_ n2_; (try clear hb); (try clear hb2); (try clear hk); (try clear hi))); try go_wp2_with (first | (go_at_call 22; (with_reducible refine (atriumref15_Unescape.calls k2 (rdOf ByteArray.empty t156 x30_2) t160 t161 _ A17.out).mono ?_); rintro e w20 ⟨rfl, hb⟩; have n0_ := Aside0.mk (Kd.R_below (by (with_reducible repeat (first | apply Kd.R_alloc | apply Kd.R_drewN | apply Kd.R_drew)); exact HO_7.out) hb); have n1_ := Aside0.mk (Kd.R_below (by (with_reducible repeat (first | apply Kd.R_alloc | apply Kd.R_drewN | apply Kd.R_drew)); exact HO_28.out) hb); have n2_ := Aside0.mk (below_step (by repeat (first | (with_reducible first | exact HB.out | apply below_alloc | apply pw_below_drewN | apply below_drew1) | exact HB.out)) hb); clear HO_7; clear HO_28; clear HB; have HO_7 := n0_; have HO_28 := n1_; have HB := n2_; clear n0_ n1_ n2_; (try clear hb); (try clear hb2); (try clear hk); (try clear hi))))
                          refine bodyPost_ret (results_list (rs := [.tmp 2, .tmp 3, .tmp 4, .tmp 5]) rfl (by simp) (.tmp (.tmp (.tmp (.tmp .nil))))) rfl ?_
                          exact ⟨_, by first | rfl | (simp [errW_none, errW_some] <;> rfl) | (simp [*, errW_none, errW_some] <;> rfl), by first | exact Kd.R_nil _ _ _ _ _ | exact Kd.N_nil _ _ _ _ _ | exact Kd.V_nil _ _ _ _ _ | exact Kd.Q_nil _ _ _ _ _ | exact Kd.S_nil _ _ _ _ _, by repeat (first | (with_reducible first | exact HB.out | apply below_alloc | apply pw_below_drewN | apply below_drew1) | exact HB.out)⟩
                      · rw [if_neg c16] at H
                        exact absurd H (by simp)
                    · rw [if_neg c15] at H
                      exact absurd H (by simp)
                  · rw [if_neg c14] at H
                    have c14b0 : decide (x30_2 < (t156.length : Int)) = false := decide_eq_false c14
                    clear c14
                    by_cases c21 : t155 = (a0.size : Int)
                    · rw [if_pos c21] at H
                      have c21b0 : (t155 == (a0.size : Int)) = true := beq_iff_eq.mpr c21
                      have c21b1 : (t155 != (a0.size : Int)) = false := bne_eq_false_iff_eq.mpr c21
                      clear c21
                      simp only [Option.some.injEq, Prod.mk.injEq] at H
                      obtain ⟨rfl, rfl, rfl, rfl⟩ := H
                      go_wp2
                      repeat (go_quiet (fail); try go_wp2)
                      refine bodyPost_ret (results_list (rs := [.tmp 2, .tmp 3, .tmp 4, .tmp 5]) rfl (by simp) (.tmp (.tmp (.tmp (.tmp .nil))))) rfl ?_
                      exact ⟨_, by first | rfl | (simp [errW_none, errW_some] <;> rfl) | (simp [*, errW_none, errW_some] <;> rfl), by (with_reducible repeat (first | apply Kd.R_alloc | apply Kd.R_drewN | apply Kd.R_drew)); exact HO_7.out, by repeat (first | (with_reducible first | exact HB.out | apply below_alloc | apply pw_below_drewN | apply below_drew1) | exact HB.out)⟩
                    · rw [if_neg c21] at H
                      have c21b0 : (t155 == (a0.size : Int)) = false := beq_eq_false_iff_ne.mpr c21
                      have c21b1 : (t155 != (a0.size : Int)) = true := bne_iff_ne.mpr c21
                      obtain ⟨ji22, hji22⟩ : ∃ j_ : Int, (wrap64 (t155 + 1)) = j_ := ⟨_, rfl⟩
                      replace H : (if 0 ≤ (ji22) then (if (ji22) ≤ (a0.size : Int) then (some (t156, a0.extract ((ji22) : Int).toNat a0.size, true, 0)) else (none)) else (none)) = some (r1, r2, r3, r4) := by first | (rw [hji22] at H; exact H) | (simp only [hji22] at H ⊢; exact H)
                      have hji22w : (IntKind.i64.wrap (t155 + 1)) = ji22 := (i64_w _).trans hji22
                      by_cases c23 : 0 ≤ (ji22)
                      · rw [if_pos c23] at H
                        have c23b0 := eq_true c23
                        have c23b1 : decide (0 ≤ (ji22)) = true := decide_eq_true c23
                        clear c23
                        by_cases c24 : (ji22) ≤ (a0.size : Int)
                        · rw [if_pos c24] at H
                          have c24b0 := eq_true c24
                          have c24b1 : decide ((ji22) ≤ (a0.size : Int)) = true := decide_eq_true c24
                          clear c24
                          simp only [Option.some.injEq, Prod.mk.injEq] at H
                          obtain ⟨rfl, rfl, rfl, rfl⟩ := H
                          go_wp2
                          repeat (go_quiet (fail); try go_wp2)
                          refine bodyPost_ret (results_list (rs := [.tmp 2, .tmp 3, .tmp 4, .tmp 5]) rfl (by simp) (.tmp (.tmp (.tmp (.tmp .nil))))) rfl ?_
                          exact ⟨_, by first | rfl | (simp [errW_none, errW_some] <;> rfl) | (simp only [← hji22]; first | rfl | (simp [errW_none, errW_some] <;> rfl)) | (simp [*, errW_none, errW_some] <;> rfl), by (with_reducible repeat (first | apply Kd.R_alloc | apply Kd.R_drewN | apply Kd.R_drew)); exact HO_7.out, by repeat (first | (with_reducible first | exact HB.out | apply below_alloc | apply pw_below_drewN | apply below_drew1) | exact HB.out)⟩
                        · rw [if_neg c24] at H
                          exact absurd H (by simp)
                      · rw [if_neg c23] at H
                        exact absurd H (by simp)
            · rw [if_neg c10] at H
              exact absurd H (by simp)
          · rw [if_neg c9] at H
            exact absurd H (by simp)

/-! ### atriumref20_Split: function 8 -/
def atriumref20_Split.l0 : Nat → ByteArray → Bool → List ByteArray → List ByteArray → Int → Int → Option (List ByteArray × ByteArray × Bool × Int)
  | 0, _, _, _, _, _, _ => none
  | k + 1, x7, x8, x10, x25, x26, x27 => if x27 < x26 then (if 0 ≤ x27 then (if x27 < (x25.length : Int) then ((atriumref15_Unescape.f k (rdOf ByteArray.empty x25 x27)).bind fun bt169 => (if x10.length < 8796093022208 then (atriumref20_Split.l0 k x7 x8 (x10 ++ [bt169.1]) x25 x26 (wrap64 (x27 + 1))) else (none))) else (none)) else (none)) else (some (x10, x7, x8, 0))
def atriumref20_Split.f (k : Nat) (a0 : ByteArray) : Option (List ByteArray × ByteArray × Bool × Int) := (atriumref20_raw.f k a0).bind fun bt162 => (if bt162.2.2.2 = 0 then (atriumref20_Split.l0 k bt162.2.1 bt162.2.2.1 ([] : List ByteArray) bt162.1 (bt162.1.length : Int) 0) else (some (([] : List ByteArray), (⟨#[]⟩ : ByteArray), false, bt162.2.2.2)))
theorem atriumref20_Split.mono_l : ∀ k, (∀ y0 y1 y2 y3 y4 y5, LeO (atriumref20_Split.l0 k y0 y1 y2 y3 y4 y5) (atriumref20_Split.l0 (k + 1) y0 y1 y2 y3 y4 y5))
  | 0 => fun _ _ _ _ _ _ r h => by simp [atriumref20_Split.l0] at h
  | k + 1 => by
    have ih0 := atriumref20_Split.mono_l k
    · intro y0 y1 y2 y3 y4 y5
      unfold atriumref20_Split.l0
      repeat' first
      | (with_reducible exact ih0 _ _ _ _ _ _)
      | (with_reducible exact atriumref15_Unescape.mono _ _)
      | (with_reducible exact atriumref20_raw.mono _ _)
      | (with_reducible exact LeO.refl _)
      | (with_reducible exact LeO.none _)
      | (with_reducible refine LeO.ite ?_ ?_)
      | (with_reducible refine LeO.bind ?_ (fun _ => ?_))
      | exact ih0 _ _ _ _ _ _
      | exact atriumref15_Unescape.mono _ _
      | exact atriumref20_raw.mono _ _
      | exact LeO.none _
      | refine LeO.ite ?_ ?_
      | refine LeO.bind ?_ (fun _ => ?_)
theorem atriumref20_Split.mono : ∀ a0 k, LeO (atriumref20_Split.f k a0) (atriumref20_Split.f (k + 1) a0) := by
  intro a0 k
  have ih0 := atriumref20_Split.mono_l k
  unfold atriumref20_Split.f
  repeat' first
      | (with_reducible exact ih0 _ _ _ _ _ _)
      | (with_reducible exact atriumref15_Unescape.mono _ _)
      | (with_reducible exact atriumref20_raw.mono _ _)
      | (with_reducible exact LeO.refl _)
      | (with_reducible exact LeO.none _)
      | (with_reducible refine LeO.ite ?_ ?_)
      | (with_reducible refine LeO.bind ?_ (fun _ => ?_))
      | exact ih0 _ _ _ _ _ _
      | exact atriumref15_Unescape.mono _ _
      | exact atriumref20_raw.mono _ _
      | exact LeO.none _
      | refine LeO.ite ?_ ?_
      | refine LeO.bind ?_ (fun _ => ?_)
set_option maxHeartbeats 8000000 in
set_option maxRecDepth 100000 in
theorem atriumref20_Split.calls (k : Nat) (a0 : ByteArray) (r1 : List ByteArray) (r2 : ByteArray) (r3 : Bool) (r4 : Int) (w : World) (h : atriumref20_Split.f k a0 = some (r1, r2, r3, r4)) :
    Calls Tryd.prog 8 #[.string a0] w fun e w' => ∃ v0_ : Value, e = .returned (.tuple #[v0_, .string r2, .bool r3, .int .i64 r4]) ∧ Kd.R Kd.string 9 w' w.heap.size (fun _ => True) v0_ r1 ∧ Below w.heap.size w w' := by
  have HB := Aside0.mk (Below.refl w.heap.size w)
  have H : ((atriumref20_raw.f k a0).bind fun bt162 => (if bt162.2.2.2 = 0 then (atriumref20_Split.l0 k bt162.2.1 bt162.2.2.1 ([] : List ByteArray) bt162.1 (bt162.1.length : Int) 0) else (some (([] : List ByteArray), (⟨#[]⟩ : ByteArray), false, bt162.2.2.2)))) = some (r1, r2, r3, r4) := h
  clear h
  replace H := Option.bind_eq_some_iff.mp H
  obtain ⟨⟨t162, t163, t164, t165⟩, A20, H⟩ := H
  replace H : (if t165 = 0 then (atriumref20_Split.l0 k t163 t164 ([] : List ByteArray) t162 (t162.length : Int) 0) else (some (([] : List ByteArray), (⟨#[]⟩ : ByteArray), false, t165))) = some (r1, r2, r3, r4) := H
  have A2 := Aside0.mk A20
  clear A20
  by_cases c3 : t165 = 0
  · rw [if_pos c3] at H
    have c3b0 : (t165 == 0) = true := beq_iff_eq.mpr c3
    have c3b1 : (t165 != 0) = false := bne_eq_false_iff_eq.mpr c3
    clear c3
    have H' := Aside0.mk H
    clear H
    go_enter Tryd.func8, Tryd.ntmps8
    go_wp2_with (first | ((with_reducible refine gate_callee (f := 21) rfl ?_); refine goesL_ (some 17) rfl rfl Tryd.func21 (by kernel_rfl) rfl #[.string a0] rfl (by (try simp only [List.map_toArray, List.map_cons, List.map_nil]); first | done | rfl | (simp only [List.length_drop, List.length_take]; rfl)) ?_; (with_reducible refine (atriumref20_raw.calls k a0 t162 t163 t164 t165 _ A2.out).mono ?_); rintro e w4 ⟨v166, rfl, ho0, hb⟩; refine ⟨_, rfl, ?_⟩; have n0_ := Aside0.mk (Kd.R_lower ho0 (below_size (by repeat (first | (with_reducible first | exact HB.out | apply below_alloc | apply pw_below_drewN | apply below_drew1) | exact HB.out)))); have n1_ := Aside0.mk (below_step (by repeat (first | (with_reducible first | exact HB.out | apply below_alloc | apply pw_below_drewN | apply below_drew1) | exact HB.out)) hb); clear HB; have HO167 := n0_; have HB := n1_; clear n0_ n1_; (try clear hb); (try clear hb2); (try clear hk); (try clear hi); (try clear ho0); obtain ⟨Ao5, co5, eo5⟩ := Kd.R_slice HO167.out; subst eo5))
    go_loopg [10, 27] k (fun kq v10 v27 w' => ∃ (x10_1 : List ByteArray) (x27_1 : Int), v27 = .int .i64 x27_1 ∧ Aside0 (atriumref20_Split.l0 kq t163 t164 x10_1 t162 (t162.length : Int) x27_1 = some (r1, r2, r3, r4)) ∧ Aside0 (kq ≤ k) ∧ Aside0 (Kd.R Kd.string 9 w' w.heap.size (fun k_ => some k_ ≠ ((.slice Ao5 t162.length co5) : Value).ownBlock) v10 x10_1) ∧ Aside0 (Kd.R Kd.string 9 w' w.heap.size (fun k_ => some k_ ≠ (v10 : Value).ownBlock) (.slice Ao5 t162.length co5) t162) ∧ Aside0 (Below w.heap.size w w'))
    case atStart => exact ⟨(([] : List ByteArray)), (0), (by first | rfl | (simp; done) | (simp [*]; done)), H', ⟨Nat.le_refl _⟩, ⟨by first | exact Kd.R_nil _ _ _ _ _ | exact Kd.N_nil _ _ _ _ _ | exact Kd.V_nil _ _ _ _ _ | exact Kd.Q_nil _ _ _ _ _ | exact Kd.S_nil _ _ _ _ _⟩, ⟨by (with_reducible repeat (first | apply Kd.R_alloc | apply Kd.R_drewN | apply Kd.R_drew)); exact Kd.R_mono HO167.out (fun _ hk => (by simp [Value.ownBlock]))⟩, ⟨by repeat (first | (with_reducible first | exact HB.out | apply below_alloc | apply pw_below_drewN | apply below_drew1) | exact HB.out)⟩⟩
    case round =>
      clear H'
      try clear c2
      try clear p2
      try clear c3
      try clear c3b0
      try clear c3b1
      obtain ⟨x10_1, x27_1, rfl, HA, HK1, HO_10, HO_25, HB⟩ := hrel
      cases gk with
      | zero => exact absurd HA.out (by simp [atriumref20_Split.l0])
      | succ k1 =>
        have H := HA.out
        clear HA
        simp only [atriumref20_Split.l0] at H
        by_cases c6 : x27_1 < (t162.length : Int)
        · rw [if_pos c6] at H
          have c6b0 : decide (x27_1 < (t162.length : Int)) = true := decide_eq_true c6
          clear c6
          by_cases c7 : 0 ≤ x27_1
          · rw [if_pos c7] at H
            have c7b0 : decide (0 ≤ x27_1) = true := decide_eq_true c7
            clear c7
            by_cases c8 : x27_1 < (t162.length : Int)
            · rw [if_pos c8] at H
              have c8b0 : decide (x27_1 < (t162.length : Int)) = true := decide_eq_true c8
              clear c8
              replace H := Option.bind_eq_some_iff.mp H
              obtain ⟨⟨t169, t170⟩, A90, H⟩ := H
              replace H : (if x10_1.length < 8796093022208 then (atriumref20_Split.l0 k1 t163 t164 (x10_1 ++ [t169]) t162 (t162.length : Int) (wrap64 (x27_1 + 1))) else (none)) = some (r1, r2, r3, r4) := H
              have A9 := Aside0.mk A90
              clear A90
              by_cases c10 : x10_1.length < 8796093022208
              · rw [if_pos c10] at H
                have LMc10 := Aside0.mk c10
                clear c10
                obtain ⟨y171, hy171⟩ : ∃ y_ : List ByteArray, y_ = (x10_1 ++ [t169]) := ⟨_, rfl⟩
                replace H : (atriumref20_Split.l0 k1 t163 t164 y171 t162 (t162.length : Int) (wrap64 (x27_1 + 1))) = some (r1, r2, r3, r4) := by first | (rw [hy171]; with_reducible exact H) | (have H2_ := (Option.bind_some _ _).symm.trans H; rw [hy171]; with_reducible exact H2_) | (have H2_ := (Option.bind_some _ _).symm.trans H; with_reducible exact H2_) | with_reducible exact H | (rw [hy171]; exact H) | exact H
                have Ny171 := Aside0.mk hy171
                clear hy171
                have H' := Aside0.mk H
                clear H
                have p168 : 0 ≤ (x27_1 : Int) := of_decide_eq_true (by first | (with_reducible assumption) | assumption)
                have q168 : x27_1 < (t162.length : Int) := of_decide_eq_true (by first | (with_reducible assumption) | assumption)
                obtain ⟨ad168, e168, hx168_0⟩ := Kd.at_string (Kd.R_reads' HO_25.out).2.2 x27_1 p168 q168
                cases e168
                replace p168 := eq_true p168
                replace q168 := eq_true q168
                go_wp2_with (first | ((with_reducible refine gate_callee (f := 22) rfl ?_); refine goesL_ (some 33) rfl rfl Tryd.func22 (by kernel_rfl) rfl #[.string (rdOf ByteArray.empty t162 x27_1)] rfl (by (try simp only [List.map_toArray, List.map_cons, List.map_nil]); first | done | rfl | (simp only [List.length_drop, List.length_take]; rfl)) ?_; (with_reducible refine (atriumref15_Unescape.calls k1 (rdOf ByteArray.empty t162 x27_1) t169 t170 _ A9.out).mono ?_); rintro e w11 ⟨rfl, hb⟩; refine ⟨_, rfl, ?_⟩; have n0_ := Aside0.mk (Kd.R_below (by (with_reducible repeat (first | apply Kd.R_alloc | apply Kd.R_drewN | apply Kd.R_drew)); exact HO_10.out) hb); have n1_ := Aside0.mk (Kd.R_below (by (with_reducible repeat (first | apply Kd.R_alloc | apply Kd.R_drewN | apply Kd.R_drew)); exact HO_25.out) hb); have n2_ := Aside0.mk (below_step (by repeat (first | (with_reducible first | exact HB.out | apply below_alloc | apply pw_below_drewN | apply below_drew1) | exact HB.out)) hb); clear HO_10; clear HO_25; clear HB; have HO_10 := n0_; have HO_25 := n1_; have HB := n2_; clear n0_ n1_ n2_; (try clear hb); (try clear hb2); (try clear hk); (try clear hi)) | ((with_reducible refine gate_builtin (b := .append) (xs := #[.tmp 36, .tmp 38]) rfl ?_); at_builtin; refine Kd.R_append Kd.string (w0 := w) w.heap.size rfl (.tmp 36) (.tmp 38) 22 9 (.string ⟨#[]⟩) 16 rfl Tryd.underlying22 info9 rfl (by decide) (by omega) u10 x10_1 t169 [.string t169] (fun k_ => some k_ ≠ (.slice (some ad168) t162.length co5 : Value).ownBlock) (fun _ => False) rfl rfl ?aP (fun _ hk => hk.elim) ?aF ?aO ?aB ?aS ?aL ?_; (case aP => exact rfl); (case aB => exact (by repeat (first | (with_reducible first | exact HB.out | apply below_alloc | apply pw_below_drewN | apply below_drew1) | exact HB.out))); (case aF => exact (fun k_ hk => Kd.fresh' (Kd.R_lt (by (with_reducible repeat (first | apply Kd.R_alloc | apply Kd.R_drewN | apply Kd.R_drew)); exact HO_25.out)) k_ hk)); (case aO => exact (by (with_reducible repeat (first | apply Kd.R_alloc | apply Kd.R_drewN | apply Kd.R_drew)); exact HO_10.out)); (case aS => exact (below_size (by repeat (first | (with_reducible first | exact HB.out | apply below_alloc | apply pw_below_drewN | apply below_drew1) | exact HB.out)))); (case aL => have := LMc10.out; omega); intro v172 w12 ho hb hg hat; rw [← Ny171.out] at ho; have n0_ := Aside0.mk (Kd.R_after (ok := (fun _ => True)) (by (with_reducible repeat (first | apply Kd.R_alloc | apply Kd.R_drewN | apply Kd.R_drew)); exact Kd.R_mono HO_25.out (fun _ hk => ⟨trivial, hk⟩)) hg hat); have n1_ := Aside0.mk (hb); have n2_ := Aside0.mk (ho); clear HO_25; clear HB; clear HO_10; have HO_25 := n0_; have HB := n1_; have HO173 := n2_; clear n0_ n1_ n2_; clear ho hb hg hat))
                go_roundg k1
                case measure => have := HK1.out; omega
                case rel => exact ⟨(y171), (wrap64 (x27_1 + 1)), (by first | rfl | (simp; done) | (simp [*]; done)), H', ⟨by have := HK1.out; omega⟩, ⟨by (with_reducible repeat (first | apply Kd.R_alloc | apply Kd.R_drewN | apply Kd.R_drew)); exact HO173.out⟩, ⟨by (with_reducible repeat (first | apply Kd.R_alloc | apply Kd.R_drewN | apply Kd.R_drew)); exact Kd.R_mono HO_25.out (fun _ hk => hk.2)⟩, ⟨by repeat (first | (with_reducible first | exact HB.out | apply below_alloc | apply pw_below_drewN | apply below_drew1) | exact HB.out)⟩⟩
              · rw [if_neg c10] at H
                exact absurd H (by simp)
            · rw [if_neg c8] at H
              exact absurd H (by simp)
          · rw [if_neg c7] at H
            exact absurd H (by simp)
        · rw [if_neg c6] at H
          have c6b0 : decide (x27_1 < (t162.length : Int)) = false := decide_eq_false c6
          clear c6
          simp only [Option.some.injEq, Prod.mk.injEq] at H
          obtain ⟨rfl, rfl, rfl, rfl⟩ := H
          go_wp2
          refine bodyPost_ret (results_list (rs := [.tmp 2, .tmp 3, .tmp 4, .tmp 5]) rfl (by simp) (.tmp (.tmp (.tmp (.tmp .nil))))) rfl ?_
          exact ⟨_, by first | rfl | (simp [errW_none, errW_some] <;> rfl) | (simp [*, errW_none, errW_some] <;> rfl), by (with_reducible repeat (first | apply Kd.R_alloc | apply Kd.R_drewN | apply Kd.R_drew)); exact Kd.R_mono HO_10.out (fun _ hk => trivial), by repeat (first | (with_reducible first | exact HB.out | apply below_alloc | apply pw_below_drewN | apply below_drew1) | exact HB.out)⟩
  · rw [if_neg c3] at H
    have c3b0 : (t165 == 0) = false := beq_eq_false_iff_ne.mpr c3
    have c3b1 : (t165 != 0) = true := bne_iff_ne.mpr c3
    simp only [Option.some.injEq, Prod.mk.injEq] at H
    obtain ⟨rfl, rfl, rfl, rfl⟩ := H
    go_enter Tryd.func8, Tryd.ntmps8
    go_wp2_with (first | ((with_reducible refine gate_callee (f := 21) rfl ?_); refine goesL_ (some 17) rfl rfl Tryd.func21 (by kernel_rfl) rfl #[.string a0] rfl (by (try simp only [List.map_toArray, List.map_cons, List.map_nil]); first | done | rfl | (simp only [List.length_drop, List.length_take]; rfl)) ?_; (with_reducible refine (atriumref20_raw.calls k a0 t162 t163 t164 t165 _ A2.out).mono ?_); rintro e w13 ⟨v166, rfl, ho0, hb⟩; refine ⟨_, rfl, ?_⟩; have n0_ := Aside0.mk (Kd.R_lower ho0 (below_size (by repeat (first | (with_reducible first | exact HB.out | apply below_alloc | apply pw_below_drewN | apply below_drew1) | exact HB.out)))); have n1_ := Aside0.mk (below_step (by repeat (first | (with_reducible first | exact HB.out | apply below_alloc | apply pw_below_drewN | apply below_drew1) | exact HB.out)) hb); clear HB; have HO167 := n0_; have HB := n1_; clear n0_ n1_; (try clear hb); (try clear hb2); (try clear hk); (try clear hi); (try clear ho0)))
    refine bodyPost_ret (results_list (rs := [.tmp 2, .tmp 3, .tmp 4, .tmp 5]) rfl (by simp) (.tmp (.tmp (.tmp (.tmp .nil))))) rfl ?_
    exact ⟨_, by first | rfl | (simp [errW_none, errW_some] <;> rfl) | (simp [*, errW_none, errW_some] <;> rfl), by first | exact Kd.R_nil _ _ _ _ _ | exact Kd.N_nil _ _ _ _ _ | exact Kd.V_nil _ _ _ _ _ | exact Kd.Q_nil _ _ _ _ _ | exact Kd.S_nil _ _ _ _ _, by repeat (first | (with_reducible first | exact HB.out | apply below_alloc | apply pw_below_drewN | apply below_drew1) | exact HB.out)⟩

/-! ### atriumlaw20_same: function 10 -/
def atriumlaw20_same.l0 : Nat → List ByteArray → List ByteArray → Int → Int → Option (Bool)
  | 0, _, _, _, _ => none
  | k + 1, x0, x1, x12, x13 => if x13 < x12 then (if 0 ≤ x13 then (if x13 < (x0.length : Int) then (if x13 < (x1.length : Int) then (if (rdOf ByteArray.empty x0 x13).toList = (rdOf ByteArray.empty x1 x13).toList then (atriumlaw20_same.l0 k x0 x1 x12 (wrap64 (x13 + 1))) else (some false)) else (none)) else (none)) else (none)) else (some true)
def atriumlaw20_same.f (k : Nat) (l0 : List ByteArray) (l1 : List ByteArray) : Option (Bool) := if (l0.length : Int) = (l1.length : Int) then (atriumlaw20_same.l0 k l0 l1 (l0.length : Int) 0) else (some false)
theorem atriumlaw20_same.mono_l : ∀ k, (∀ y0 y1 y2 y3, LeO (atriumlaw20_same.l0 k y0 y1 y2 y3) (atriumlaw20_same.l0 (k + 1) y0 y1 y2 y3))
  | 0 => fun _ _ _ _ r h => by simp [atriumlaw20_same.l0] at h
  | k + 1 => by
    have ih0 := atriumlaw20_same.mono_l k
    · intro y0 y1 y2 y3
      unfold atriumlaw20_same.l0
      repeat' first
      | (with_reducible exact ih0 _ _ _ _)
      | (with_reducible exact LeO.refl _)
      | (with_reducible exact LeO.none _)
      | (with_reducible refine LeO.ite ?_ ?_)
      | (with_reducible refine LeO.bind ?_ (fun _ => ?_))
      | exact ih0 _ _ _ _
      | exact LeO.none _
      | refine LeO.ite ?_ ?_
      | refine LeO.bind ?_ (fun _ => ?_)
theorem atriumlaw20_same.mono : ∀ a0 a1 k, LeO (atriumlaw20_same.f k a0 a1) (atriumlaw20_same.f (k + 1) a0 a1) := by
  intro a0 a1 k
  have ih0 := atriumlaw20_same.mono_l k
  unfold atriumlaw20_same.f
  repeat' first
      | (with_reducible exact ih0 _ _ _ _)
      | (with_reducible exact LeO.refl _)
      | (with_reducible exact LeO.none _)
      | (with_reducible refine LeO.ite ?_ ?_)
      | (with_reducible refine LeO.bind ?_ (fun _ => ?_))
      | exact ih0 _ _ _ _
      | exact LeO.none _
      | refine LeO.ite ?_ ?_
      | refine LeO.bind ?_ (fun _ => ?_)
set_option maxHeartbeats 8000000 in
set_option maxRecDepth 100000 in
theorem atriumlaw20_same.calls (k : Nat) (A0 : Option Addr) (c0 : Nat) (l0 : List ByteArray) (A1 : Option Addr) (c1 : Nat) (l1 : List ByteArray) (r : Bool) (w : World) (hr0 : Kd.C Kd.string w A0 l0.length l0) (hc0 : l0.length ≤ c0) (hr1 : Kd.C Kd.string w A1 l1.length l1) (hc1 : l1.length ≤ c1) (h : atriumlaw20_same.f k l0 l1 = some r) :
    Calls Tryd.prog 10 #[.slice A0 l0.length c0, .slice A1 l1.length c1] w fun e w' => e = .returned (.bool r) ∧ Drawn0 w w' := by
  have HR0 := Aside0.mk hr0
  have HC0 := Aside0.mk hc0
  clear hr0 hc0
  have HR1 := Aside0.mk hr1
  have HC1 := Aside0.mk hc1
  clear hr1 hc1
  have H : (if (l0.length : Int) = (l1.length : Int) then (atriumlaw20_same.l0 k l0 l1 (l0.length : Int) 0) else (some false)) = some r := h
  clear h
  by_cases c3 : (l0.length : Int) = (l1.length : Int)
  · rw [if_pos c3] at H
    have c3b0 : ((l0.length : Int) == (l1.length : Int)) = true := beq_iff_eq.mpr c3
    have c3b1 : ((l0.length : Int) != (l1.length : Int)) = false := bne_eq_false_iff_eq.mpr c3
    have c3b2 : (l0.length == l1.length) = true := by first | simpa using c3 | (simp at c3 ⊢; omega)
    clear c3
    have H' := Aside0.mk H
    clear H
    go_enter Tryd.func10, Tryd.ntmps10
    go_wp2
    repeat (go_quiet (fail); try go_wp2)
    go_loopg [13] k (fun kq v13 w' => ∃ (x13_1 : Int), v13 = .int .i64 x13_1 ∧ Aside0 (atriumlaw20_same.l0 kq l0 l1 (l0.length : Int) x13_1 = some r) ∧ Aside0 (kq ≤ k) ∧ Drawn0 w w')
    case atStart => exact ⟨(0), (by first | rfl | (simp; done) | (simp [*]; done)), H', ⟨Nat.le_refl _⟩, by repeat (first | exact Drawn0.refl _ | apply Drawn0.step)⟩
    case round =>
      clear H'
      try clear c1
      try clear p2
      try clear c3
      try clear c3b0
      try clear c3b1
      try clear c3b2
      obtain ⟨x13_1, rfl, HA, HK1, ⟨m1, rfl⟩⟩ := hrel
      cases gk with
      | zero => exact absurd HA.out (by simp [atriumlaw20_same.l0])
      | succ k1 =>
        have H := HA.out
        clear HA
        simp only [atriumlaw20_same.l0] at H
        by_cases c4 : x13_1 < (l0.length : Int)
        · rw [if_pos c4] at H
          have c4b0 : decide (x13_1 < (l0.length : Int)) = true := decide_eq_true c4
          clear c4
          by_cases c5 : 0 ≤ x13_1
          · rw [if_pos c5] at H
            have c5b0 : decide (0 ≤ x13_1) = true := decide_eq_true c5
            clear c5
            by_cases c6 : x13_1 < (l0.length : Int)
            · rw [if_pos c6] at H
              have c6b0 : decide (x13_1 < (l0.length : Int)) = true := decide_eq_true c6
              clear c6
              by_cases c7 : x13_1 < (l1.length : Int)
              · rw [if_pos c7] at H
                have c7b0 : decide (x13_1 < (l1.length : Int)) = true := decide_eq_true c7
                clear c7
                by_cases c8 : (rdOf ByteArray.empty l0 x13_1).toList = (rdOf ByteArray.empty l1 x13_1).toList
                · rw [if_pos c8] at H
                  have c8b0 : ((rdOf ByteArray.empty l0 x13_1).toList == (rdOf ByteArray.empty l1 x13_1).toList) = true := beq_iff_eq.mpr c8
                  have c8b1 : ((rdOf ByteArray.empty l0 x13_1).toList != (rdOf ByteArray.empty l1 x13_1).toList) = false := bne_eq_false_iff_eq.mpr c8
                  clear c8
                  have H' := Aside0.mk H
                  clear H
                  have p174 : 0 ≤ (x13_1 : Int) := of_decide_eq_true (by first | (with_reducible assumption) | assumption)
                  have q174 : x13_1 < (l0.length : Int) := of_decide_eq_true (by first | (with_reducible assumption) | assumption)
                  obtain ⟨ad174, e174, hx174_0⟩ := Kd.at_string HR0.out x13_1 p174 q174
                  cases e174
                  replace p174 := eq_true p174
                  replace q174 := eq_true q174
                  have p175 : 0 ≤ (x13_1 : Int) := of_decide_eq_true (by first | (with_reducible assumption) | assumption)
                  have q175 : x13_1 < (l1.length : Int) := of_decide_eq_true (by first | (with_reducible assumption) | assumption)
                  obtain ⟨ad175, e175, hx175_0⟩ := Kd.at_string HR1.out x13_1 p175 q175
                  cases e175
                  replace p175 := eq_true p175
                  replace q175 := eq_true q175
                  go_wp2
                  repeat (go_quiet (fail); try go_wp2)
                  go_roundg k1
                  case measure => have := HK1.out; omega
                  case rel => exact ⟨(wrap64 (x13_1 + 1)), (by first | rfl | (simp; done) | (simp [*]; done)), H', ⟨by have := HK1.out; omega⟩, by repeat (first | exact Drawn0.refl _ | apply Drawn0.step)⟩
                · rw [if_neg c8] at H
                  have c8b0 : ((rdOf ByteArray.empty l0 x13_1).toList == (rdOf ByteArray.empty l1 x13_1).toList) = false := beq_eq_false_iff_ne.mpr c8
                  have c8b1 : ((rdOf ByteArray.empty l0 x13_1).toList != (rdOf ByteArray.empty l1 x13_1).toList) = true := bne_iff_ne.mpr c8
                  obtain rfl := Option.some.inj H
                  have p174 : 0 ≤ (x13_1 : Int) := of_decide_eq_true (by first | (with_reducible assumption) | assumption)
                  have q174 : x13_1 < (l0.length : Int) := of_decide_eq_true (by first | (with_reducible assumption) | assumption)
                  obtain ⟨ad174, e174, hx174_0⟩ := Kd.at_string HR0.out x13_1 p174 q174
                  cases e174
                  replace p174 := eq_true p174
                  replace q174 := eq_true q174
                  have p175 : 0 ≤ (x13_1 : Int) := of_decide_eq_true (by first | (with_reducible assumption) | assumption)
                  have q175 : x13_1 < (l1.length : Int) := of_decide_eq_true (by first | (with_reducible assumption) | assumption)
                  obtain ⟨ad175, e175, hx175_0⟩ := Kd.at_string HR1.out x13_1 p175 q175
                  cases e175
                  replace p175 := eq_true p175
                  replace q175 := eq_true q175
                  go_wp2
                  repeat (go_quiet (fail); try go_wp2)
                  go_ret
                  exact ⟨by first | rfl | (simp; done) | (simp [*]; done), by repeat (first | exact Drawn0.refl _ | apply Drawn0.step)⟩
              · rw [if_neg c7] at H
                exact absurd H (by simp)
            · rw [if_neg c6] at H
              exact absurd H (by simp)
          · rw [if_neg c5] at H
            exact absurd H (by simp)
        · rw [if_neg c4] at H
          have c4b0 : decide (x13_1 < (l0.length : Int)) = false := decide_eq_false c4
          clear c4
          obtain rfl := Option.some.inj H
          go_wp2
          repeat (go_quiet (fail); try go_wp2)
          go_ret
          exact ⟨by first | rfl | (simp; done) | (simp [*]; done), by repeat (first | exact Drawn0.refl _ | apply Drawn0.step)⟩
  · rw [if_neg c3] at H
    have c3b0 : ((l0.length : Int) == (l1.length : Int)) = false := beq_eq_false_iff_ne.mpr c3
    have c3b1 : ((l0.length : Int) != (l1.length : Int)) = true := bne_iff_ne.mpr c3
    have c3b2 : (l0.length == l1.length) = false := by first | simpa using c3 | (simp at c3 ⊢; omega)
    obtain rfl := Option.some.inj H
    go_enter Tryd.func10, Tryd.ntmps10
    go_wp2
    repeat (go_quiet (fail); try go_wp2)
    go_ret
    exact ⟨by first | rfl | (simp; done) | (simp [*]; done), by repeat (first | exact Drawn0.refl _ | apply Drawn0.step)⟩

/-! ### route_ways: function 25 -/
def route_ways.f  : Option ((List (S54))) := some (([(⟨(⟨#[80, 79, 83, 84]⟩ : ByteArray), (⟨#[115, 101, 115, 115, 105, 111, 110, 115]⟩ : ByteArray), 1, false⟩ : S54), (⟨(⟨#[71, 69, 84]⟩ : ByteArray), (⟨#[115, 101, 115, 115, 105, 111, 110, 115, 47, 84]⟩ : ByteArray), 2, false⟩ : S54), (⟨(⟨#[80, 79, 83, 84]⟩ : ByteArray), (⟨#[115, 101, 115, 115, 105, 111, 110, 115, 47, 84, 47, 116, 111, 117, 99, 104]⟩ : ByteArray), 3, false⟩ : S54), (⟨(⟨#[68, 69, 76, 69, 84, 69]⟩ : ByteArray), (⟨#[115, 101, 115, 115, 105, 111, 110, 115, 47, 84]⟩ : ByteArray), 4, false⟩ : S54), (⟨(⟨#[68, 69, 76, 69, 84, 69]⟩ : ByteArray), (⟨#[117, 115, 101, 114, 115, 47, 85, 47, 115, 101, 115, 115, 105, 111, 110, 115]⟩ : ByteArray), 5, false⟩ : S54), (⟨(⟨#[68, 69, 76, 69, 84, 69]⟩ : ByteArray), (⟨#[115, 101, 115, 115, 105, 111, 110, 115]⟩ : ByteArray), 6, false⟩ : S54), (⟨(⟨#[71, 69, 84]⟩ : ByteArray), (⟨#[117, 115, 101, 114, 115, 47, 85, 47, 115, 101, 115, 115, 105, 111, 110, 115]⟩ : ByteArray), 7, false⟩ : S54), (⟨(⟨#[71, 69, 84]⟩ : ByteArray), (⟨#[97, 117, 100, 105, 116]⟩ : ByteArray), 8, false⟩ : S54), (⟨(⟨#[71, 69, 84]⟩ : ByteArray), (⟨#[109, 101]⟩ : ByteArray), 2, true⟩ : S54), (⟨(⟨#[71, 69, 84]⟩ : ByteArray), (⟨#[115, 116, 97, 116, 115]⟩ : ByteArray), 9, false⟩ : S54)] : List (S54)))
set_option maxHeartbeats 8000000 in
set_option maxRecDepth 100000 in
theorem route_ways.calls  (r : List (S54)) (w : World) (h : route_ways.f  = some r) :
    Calls Tryd.prog 25 #[] w fun e w' => ∃ v0_ : Value, e = .returned (v0_) ∧ Kd.R k54 54 w' w.heap.size (fun _ => True) v0_ r ∧ Below w.heap.size w w' := by
  have hu54 := Tryd.underlying54
  have HB := Aside0.mk (Below.refl w.heap.size w)
  have H : (some (([(⟨(⟨#[80, 79, 83, 84]⟩ : ByteArray), (⟨#[115, 101, 115, 115, 105, 111, 110, 115]⟩ : ByteArray), 1, false⟩ : S54), (⟨(⟨#[71, 69, 84]⟩ : ByteArray), (⟨#[115, 101, 115, 115, 105, 111, 110, 115, 47, 84]⟩ : ByteArray), 2, false⟩ : S54), (⟨(⟨#[80, 79, 83, 84]⟩ : ByteArray), (⟨#[115, 101, 115, 115, 105, 111, 110, 115, 47, 84, 47, 116, 111, 117, 99, 104]⟩ : ByteArray), 3, false⟩ : S54), (⟨(⟨#[68, 69, 76, 69, 84, 69]⟩ : ByteArray), (⟨#[115, 101, 115, 115, 105, 111, 110, 115, 47, 84]⟩ : ByteArray), 4, false⟩ : S54), (⟨(⟨#[68, 69, 76, 69, 84, 69]⟩ : ByteArray), (⟨#[117, 115, 101, 114, 115, 47, 85, 47, 115, 101, 115, 115, 105, 111, 110, 115]⟩ : ByteArray), 5, false⟩ : S54), (⟨(⟨#[68, 69, 76, 69, 84, 69]⟩ : ByteArray), (⟨#[115, 101, 115, 115, 105, 111, 110, 115]⟩ : ByteArray), 6, false⟩ : S54), (⟨(⟨#[71, 69, 84]⟩ : ByteArray), (⟨#[117, 115, 101, 114, 115, 47, 85, 47, 115, 101, 115, 115, 105, 111, 110, 115]⟩ : ByteArray), 7, false⟩ : S54), (⟨(⟨#[71, 69, 84]⟩ : ByteArray), (⟨#[97, 117, 100, 105, 116]⟩ : ByteArray), 8, false⟩ : S54), (⟨(⟨#[71, 69, 84]⟩ : ByteArray), (⟨#[109, 101]⟩ : ByteArray), 2, true⟩ : S54), (⟨(⟨#[71, 69, 84]⟩ : ByteArray), (⟨#[115, 116, 97, 116, 115]⟩ : ByteArray), 9, false⟩ : S54)] : List (S54)))) = some r := h
  clear h
  obtain ⟨y176, hy176⟩ : ∃ y_ : List (S54), y_ = (([(⟨(⟨#[80, 79, 83, 84]⟩ : ByteArray), (⟨#[115, 101, 115, 115, 105, 111, 110, 115]⟩ : ByteArray), 1, false⟩ : S54), (⟨(⟨#[71, 69, 84]⟩ : ByteArray), (⟨#[115, 101, 115, 115, 105, 111, 110, 115, 47, 84]⟩ : ByteArray), 2, false⟩ : S54), (⟨(⟨#[80, 79, 83, 84]⟩ : ByteArray), (⟨#[115, 101, 115, 115, 105, 111, 110, 115, 47, 84, 47, 116, 111, 117, 99, 104]⟩ : ByteArray), 3, false⟩ : S54), (⟨(⟨#[68, 69, 76, 69, 84, 69]⟩ : ByteArray), (⟨#[115, 101, 115, 115, 105, 111, 110, 115, 47, 84]⟩ : ByteArray), 4, false⟩ : S54), (⟨(⟨#[68, 69, 76, 69, 84, 69]⟩ : ByteArray), (⟨#[117, 115, 101, 114, 115, 47, 85, 47, 115, 101, 115, 115, 105, 111, 110, 115]⟩ : ByteArray), 5, false⟩ : S54), (⟨(⟨#[68, 69, 76, 69, 84, 69]⟩ : ByteArray), (⟨#[115, 101, 115, 115, 105, 111, 110, 115]⟩ : ByteArray), 6, false⟩ : S54), (⟨(⟨#[71, 69, 84]⟩ : ByteArray), (⟨#[117, 115, 101, 114, 115, 47, 85, 47, 115, 101, 115, 115, 105, 111, 110, 115]⟩ : ByteArray), 7, false⟩ : S54), (⟨(⟨#[71, 69, 84]⟩ : ByteArray), (⟨#[97, 117, 100, 105, 116]⟩ : ByteArray), 8, false⟩ : S54), (⟨(⟨#[71, 69, 84]⟩ : ByteArray), (⟨#[109, 101]⟩ : ByteArray), 2, true⟩ : S54), (⟨(⟨#[71, 69, 84]⟩ : ByteArray), (⟨#[115, 116, 97, 116, 115]⟩ : ByteArray), 9, false⟩ : S54)] : List (S54))) := ⟨_, rfl⟩
  replace H : (some y176) = some r := by first | (rw [hy176]; with_reducible exact H) | (have H2_ := (Option.bind_some _ _).symm.trans H; rw [hy176]; with_reducible exact H2_) | (have H2_ := (Option.bind_some _ _).symm.trans H; with_reducible exact H2_) | with_reducible exact H | (rw [hy176]; exact H) | exact H
  have Ny176 := Aside0.mk hy176
  clear hy176
  obtain rfl := Option.some.inj H
  go_enter Tryd.func25, Tryd.ntmps25
  go_wp2_with (first | ((with_reducible refine gate_dst (N := 11) rfl ?_); refine Kd.R_lit k54 _ 54 ?hg (N := 11) ?hd (xs := ([(⟨(⟨#[80, 79, 83, 84]⟩ : ByteArray), (⟨#[115, 101, 115, 115, 105, 111, 110, 115]⟩ : ByteArray), 1, false⟩ : S54), (⟨(⟨#[71, 69, 84]⟩ : ByteArray), (⟨#[115, 101, 115, 115, 105, 111, 110, 115, 47, 84]⟩ : ByteArray), 2, false⟩ : S54), (⟨(⟨#[80, 79, 83, 84]⟩ : ByteArray), (⟨#[115, 101, 115, 115, 105, 111, 110, 115, 47, 84, 47, 116, 111, 117, 99, 104]⟩ : ByteArray), 3, false⟩ : S54), (⟨(⟨#[68, 69, 76, 69, 84, 69]⟩ : ByteArray), (⟨#[115, 101, 115, 115, 105, 111, 110, 115, 47, 84]⟩ : ByteArray), 4, false⟩ : S54), (⟨(⟨#[68, 69, 76, 69, 84, 69]⟩ : ByteArray), (⟨#[117, 115, 101, 114, 115, 47, 85, 47, 115, 101, 115, 115, 105, 111, 110, 115]⟩ : ByteArray), 5, false⟩ : S54), (⟨(⟨#[68, 69, 76, 69, 84, 69]⟩ : ByteArray), (⟨#[115, 101, 115, 115, 105, 111, 110, 115]⟩ : ByteArray), 6, false⟩ : S54), (⟨(⟨#[71, 69, 84]⟩ : ByteArray), (⟨#[117, 115, 101, 114, 115, 47, 85, 47, 115, 101, 115, 115, 105, 111, 110, 115]⟩ : ByteArray), 7, false⟩ : S54), (⟨(⟨#[71, 69, 84]⟩ : ByteArray), (⟨#[97, 117, 100, 105, 116]⟩ : ByteArray), 8, false⟩ : S54), (⟨(⟨#[71, 69, 84]⟩ : ByteArray), (⟨#[109, 101]⟩ : ByteArray), 2, true⟩ : S54), (⟨(⟨#[71, 69, 84]⟩ : ByteArray), (⟨#[115, 116, 97, 116, 115]⟩ : ByteArray), 9, false⟩ : S54)] : List (S54))) (inner := [.string (⟨#[80, 79, 83, 84]⟩ : ByteArray), .string (⟨#[115, 101, 115, 115, 105, 111, 110, 115]⟩ : ByteArray), .int .i64 1, .bool false, .string (⟨#[71, 69, 84]⟩ : ByteArray), .string (⟨#[115, 101, 115, 115, 105, 111, 110, 115, 47, 84]⟩ : ByteArray), .int .i64 2, .bool false, .string (⟨#[80, 79, 83, 84]⟩ : ByteArray), .string (⟨#[115, 101, 115, 115, 105, 111, 110, 115, 47, 84, 47, 116, 111, 117, 99, 104]⟩ : ByteArray), .int .i64 3, .bool false, .string (⟨#[68, 69, 76, 69, 84, 69]⟩ : ByteArray), .string (⟨#[115, 101, 115, 115, 105, 111, 110, 115, 47, 84]⟩ : ByteArray), .int .i64 4, .bool false, .string (⟨#[68, 69, 76, 69, 84, 69]⟩ : ByteArray), .string (⟨#[117, 115, 101, 114, 115, 47, 85, 47, 115, 101, 115, 115, 105, 111, 110, 115]⟩ : ByteArray), .int .i64 5, .bool false, .string (⟨#[68, 69, 76, 69, 84, 69]⟩ : ByteArray), .string (⟨#[115, 101, 115, 115, 105, 111, 110, 115]⟩ : ByteArray), .int .i64 6, .bool false, .string (⟨#[71, 69, 84]⟩ : ByteArray), .string (⟨#[117, 115, 101, 114, 115, 47, 85, 47, 115, 101, 115, 115, 105, 111, 110, 115]⟩ : ByteArray), .int .i64 7, .bool false, .string (⟨#[71, 69, 84]⟩ : ByteArray), .string (⟨#[97, 117, 100, 105, 116]⟩ : ByteArray), .int .i64 8, .bool false, .string (⟨#[71, 69, 84]⟩ : ByteArray), .string (⟨#[109, 101]⟩ : ByteArray), .int .i64 2, .bool true, .string (⟨#[71, 69, 84]⟩ : ByteArray), .string (⟨#[115, 116, 97, 116, 115]⟩ : ByteArray), .int .i64 9, .bool false]) (ok := fun _ => True) (okp := fun _ => True) ?hr ?hp (fun _ hk => hk) trivial (Below.refl _ _) (Nat.le_refl _) (by simp) ?_; (case hd => rfl); (case hg => rfl); (case hr => first | (go_simp; done) | (go_simp; rfl)); (case hp => exact (Reps.c4 (show Kd.M k54 _ _ _ (⟨(⟨#[80, 79, 83, 84]⟩ : ByteArray), (⟨#[115, 101, 115, 115, 105, 111, 110, 115]⟩ : ByteArray), 1, false⟩ : S54) [.string (⟨#[80, 79, 83, 84]⟩ : ByteArray), .string (⟨#[115, 101, 115, 115, 105, 111, 110, 115]⟩ : ByteArray), .int .i64 1, .bool false] from (k54_mkM _ _ _ (⟨(⟨#[80, 79, 83, 84]⟩ : ByteArray), (⟨#[115, 101, 115, 115, 105, 111, 110, 115]⟩ : ByteArray), 1, false⟩ : S54) )) (Reps.c4 (show Kd.M k54 _ _ _ (⟨(⟨#[71, 69, 84]⟩ : ByteArray), (⟨#[115, 101, 115, 115, 105, 111, 110, 115, 47, 84]⟩ : ByteArray), 2, false⟩ : S54) [.string (⟨#[71, 69, 84]⟩ : ByteArray), .string (⟨#[115, 101, 115, 115, 105, 111, 110, 115, 47, 84]⟩ : ByteArray), .int .i64 2, .bool false] from (k54_mkM _ _ _ (⟨(⟨#[71, 69, 84]⟩ : ByteArray), (⟨#[115, 101, 115, 115, 105, 111, 110, 115, 47, 84]⟩ : ByteArray), 2, false⟩ : S54) )) (Reps.c4 (show Kd.M k54 _ _ _ (⟨(⟨#[80, 79, 83, 84]⟩ : ByteArray), (⟨#[115, 101, 115, 115, 105, 111, 110, 115, 47, 84, 47, 116, 111, 117, 99, 104]⟩ : ByteArray), 3, false⟩ : S54) [.string (⟨#[80, 79, 83, 84]⟩ : ByteArray), .string (⟨#[115, 101, 115, 115, 105, 111, 110, 115, 47, 84, 47, 116, 111, 117, 99, 104]⟩ : ByteArray), .int .i64 3, .bool false] from (k54_mkM _ _ _ (⟨(⟨#[80, 79, 83, 84]⟩ : ByteArray), (⟨#[115, 101, 115, 115, 105, 111, 110, 115, 47, 84, 47, 116, 111, 117, 99, 104]⟩ : ByteArray), 3, false⟩ : S54) )) (Reps.c4 (show Kd.M k54 _ _ _ (⟨(⟨#[68, 69, 76, 69, 84, 69]⟩ : ByteArray), (⟨#[115, 101, 115, 115, 105, 111, 110, 115, 47, 84]⟩ : ByteArray), 4, false⟩ : S54) [.string (⟨#[68, 69, 76, 69, 84, 69]⟩ : ByteArray), .string (⟨#[115, 101, 115, 115, 105, 111, 110, 115, 47, 84]⟩ : ByteArray), .int .i64 4, .bool false] from (k54_mkM _ _ _ (⟨(⟨#[68, 69, 76, 69, 84, 69]⟩ : ByteArray), (⟨#[115, 101, 115, 115, 105, 111, 110, 115, 47, 84]⟩ : ByteArray), 4, false⟩ : S54) )) (Reps.c4 (show Kd.M k54 _ _ _ (⟨(⟨#[68, 69, 76, 69, 84, 69]⟩ : ByteArray), (⟨#[117, 115, 101, 114, 115, 47, 85, 47, 115, 101, 115, 115, 105, 111, 110, 115]⟩ : ByteArray), 5, false⟩ : S54) [.string (⟨#[68, 69, 76, 69, 84, 69]⟩ : ByteArray), .string (⟨#[117, 115, 101, 114, 115, 47, 85, 47, 115, 101, 115, 115, 105, 111, 110, 115]⟩ : ByteArray), .int .i64 5, .bool false] from (k54_mkM _ _ _ (⟨(⟨#[68, 69, 76, 69, 84, 69]⟩ : ByteArray), (⟨#[117, 115, 101, 114, 115, 47, 85, 47, 115, 101, 115, 115, 105, 111, 110, 115]⟩ : ByteArray), 5, false⟩ : S54) )) (Reps.c4 (show Kd.M k54 _ _ _ (⟨(⟨#[68, 69, 76, 69, 84, 69]⟩ : ByteArray), (⟨#[115, 101, 115, 115, 105, 111, 110, 115]⟩ : ByteArray), 6, false⟩ : S54) [.string (⟨#[68, 69, 76, 69, 84, 69]⟩ : ByteArray), .string (⟨#[115, 101, 115, 115, 105, 111, 110, 115]⟩ : ByteArray), .int .i64 6, .bool false] from (k54_mkM _ _ _ (⟨(⟨#[68, 69, 76, 69, 84, 69]⟩ : ByteArray), (⟨#[115, 101, 115, 115, 105, 111, 110, 115]⟩ : ByteArray), 6, false⟩ : S54) )) (Reps.c4 (show Kd.M k54 _ _ _ (⟨(⟨#[71, 69, 84]⟩ : ByteArray), (⟨#[117, 115, 101, 114, 115, 47, 85, 47, 115, 101, 115, 115, 105, 111, 110, 115]⟩ : ByteArray), 7, false⟩ : S54) [.string (⟨#[71, 69, 84]⟩ : ByteArray), .string (⟨#[117, 115, 101, 114, 115, 47, 85, 47, 115, 101, 115, 115, 105, 111, 110, 115]⟩ : ByteArray), .int .i64 7, .bool false] from (k54_mkM _ _ _ (⟨(⟨#[71, 69, 84]⟩ : ByteArray), (⟨#[117, 115, 101, 114, 115, 47, 85, 47, 115, 101, 115, 115, 105, 111, 110, 115]⟩ : ByteArray), 7, false⟩ : S54) )) (Reps.c4 (show Kd.M k54 _ _ _ (⟨(⟨#[71, 69, 84]⟩ : ByteArray), (⟨#[97, 117, 100, 105, 116]⟩ : ByteArray), 8, false⟩ : S54) [.string (⟨#[71, 69, 84]⟩ : ByteArray), .string (⟨#[97, 117, 100, 105, 116]⟩ : ByteArray), .int .i64 8, .bool false] from (k54_mkM _ _ _ (⟨(⟨#[71, 69, 84]⟩ : ByteArray), (⟨#[97, 117, 100, 105, 116]⟩ : ByteArray), 8, false⟩ : S54) )) (Reps.c4 (show Kd.M k54 _ _ _ (⟨(⟨#[71, 69, 84]⟩ : ByteArray), (⟨#[109, 101]⟩ : ByteArray), 2, true⟩ : S54) [.string (⟨#[71, 69, 84]⟩ : ByteArray), .string (⟨#[109, 101]⟩ : ByteArray), .int .i64 2, .bool true] from (k54_mkM _ _ _ (⟨(⟨#[71, 69, 84]⟩ : ByteArray), (⟨#[109, 101]⟩ : ByteArray), 2, true⟩ : S54) )) (Reps.c4 (show Kd.M k54 _ _ _ (⟨(⟨#[71, 69, 84]⟩ : ByteArray), (⟨#[115, 116, 97, 116, 115]⟩ : ByteArray), 9, false⟩ : S54) [.string (⟨#[71, 69, 84]⟩ : ByteArray), .string (⟨#[115, 116, 97, 116, 115]⟩ : ByteArray), .int .i64 9, .bool false] from (k54_mkM _ _ _ (⟨(⟨#[71, 69, 84]⟩ : ByteArray), (⟨#[115, 116, 97, 116, 115]⟩ : ByteArray), 9, false⟩ : S54) )) (Reps.none _ _)))))))))))); intro v177 w1 ho2 hb hg_ hnew_; clear hg_ hnew_; (first | rw [← Ny176.out] at ho2 | (simp only [Int.reduceToNat] at ho2; rw [← Ny176.out] at ho2)); have n0_ := Aside0.mk (Kd.R_lower ho2 (below_size (by repeat (first | (with_reducible first | exact HB.out | apply below_alloc | apply pw_below_drewN | apply below_drew1) | exact HB.out)))); have n1_ := Aside0.mk (below_step (by repeat (first | (with_reducible first | exact HB.out | apply below_alloc | apply pw_below_drewN | apply below_drew1) | exact HB.out)) hb); clear HB; have HO178 := n0_; have HB := n1_; clear n0_ n1_; clear hb ho2))
  go_ret
  exact ⟨_, by first | rfl | (simp [errW_none, errW_some] <;> rfl) | (simp [*, errW_none, errW_some] <;> rfl), by (with_reducible repeat (first | apply Kd.R_alloc | apply Kd.R_drewN | apply Kd.R_drew)); exact HO178.out, by repeat (first | (with_reducible first | exact HB.out | apply below_alloc | apply pw_below_drewN | apply below_drew1) | exact HB.out)⟩

end Go.Proofs.YtdbbgdgjmlcgcaaDoor.PRoute
