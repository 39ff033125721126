-- Printed by a program of this claim (wip/printx.py over the print of the kit), with contracts of its own.
import Derived.Test.YtdbbgdgjmlcgcaaDoorPRouteBx0
import Derived.Test.YtdbbgdgjmlcgcaaDoorPRouteBx1
import Derived.Test.YtdbbgdgjmlcgcaaDoorPRouteBx2
namespace Go.Proofs.YtdbbgdgjmlcgcaaDoor.PRouteB
open Go.RowKit Go.Proofs.YtdbbgdgjmlcgcaaDoorW.PrintWords Go.Proofs.YtdbbgdgjmlcgcaaDoorW.PrintLast Go.Proofs.YtdbbgdgjmlcgcaaDoorW.PrintMore
attribute [local go_sem] max2_int min2_int max_two min_two max_three min_three max_four min_four   -- for this text's walks alone
set_option linter.unusedVariables false
set_option linter.unusedSimpArgs false

/-! ### route_Query: function 11 -/
def route_Query.l0 : Nat → List (S32) → List ByteArray → Int → Int → Option ((List (S32)) × Int)
  | 0, _, _, _, _ => none
  | k + 1, x4, x17, x18, x19 => if x19 < x18 then (if 0 ≤ x19 then (if x19 < (x17.length : Int) then ((strings_Cut.f (rdOf ByteArray.empty x17 x19) (⟨#[61]⟩ : ByteArray)).bind fun bt181 => (if bt181.2.2 = true then ((text_Unescape.f k bt181.1).bind fun bt184 => ((text_Unescape.f k bt181.2.1).bind fun bt186 => (if bt184.2 = 0 then (if bt186.2 = 0 then (if x4.length < 4398046511104 then (route_Query.l0 k (x4 ++ [(⟨bt184.1, bt186.1⟩ : S32)]) x17 x18 (wrap64 (x19 + 1))) else (none)) else (some (([] : List (S32)), 150))) else (some (([] : List (S32)), 150))))) else (some (([] : List (S32)), 150)))) else (none)) else (none)) else (some (x4, 0))
def route_Query.f (k : Nat) (a0 : ByteArray) : Option ((List (S32)) × Int) := if a0.toList = ([] : List UInt8) then (some (([] : List (S32)), 0)) else ((strings_Split.f a0 (⟨#[38]⟩ : ByteArray)).bind fun t177 => (route_Query.l0 k ([] : List (S32)) t177 (t177.length : Int) 0))
theorem route_Query.mono_l : ∀ k, (∀ y0 y1 y2 y3, LeO (route_Query.l0 k y0 y1 y2 y3) (route_Query.l0 (k + 1) y0 y1 y2 y3))
  | 0 => fun _ _ _ _ r h => by simp [route_Query.l0] at h
  | k + 1 => by
    have ih0 := route_Query.mono_l k
    · intro y0 y1 y2 y3
      unfold route_Query.l0
      repeat' first
      | (with_reducible exact ih0 _ _ _ _)
      | (with_reducible exact text_Unescape.mono _ _)
      | (with_reducible exact LeO.refl _)
      | (with_reducible exact LeO.none _)
      | (with_reducible refine LeO.ite ?_ ?_)
      | (with_reducible refine LeO.bind ?_ (fun _ => ?_))
      | exact ih0 _ _ _ _
      | exact text_Unescape.mono _ _
      | exact LeO.none _
      | refine LeO.ite ?_ ?_
      | refine LeO.bind ?_ (fun _ => ?_)
theorem route_Query.mono : ∀ a0 k, LeO (route_Query.f k a0) (route_Query.f (k + 1) a0) := by
  intro a0 k
  have ih0 := route_Query.mono_l k
  unfold route_Query.f
  repeat' first
      | (with_reducible exact ih0 _ _ _ _)
      | (with_reducible exact text_Unescape.mono _ _)
      | (with_reducible exact LeO.refl _)
      | (with_reducible exact LeO.none _)
      | (with_reducible refine LeO.ite ?_ ?_)
      | (with_reducible refine LeO.bind ?_ (fun _ => ?_))
      | exact ih0 _ _ _ _
      | exact text_Unescape.mono _ _
      | exact LeO.none _
      | refine LeO.ite ?_ ?_
      | refine LeO.bind ?_ (fun _ => ?_)
set_option maxHeartbeats 8000000 in
set_option maxRecDepth 100000 in
theorem route_Query.calls (k : Nat) (a0 : ByteArray) (r1 : List (S32)) (r2 : Int) (w : World) (h : route_Query.f k a0 = some (r1, r2)) :
    Calls Tryd.prog 11 #[.string a0] w fun e w' => ∃ v0_ : Value, e = .returned (.tuple #[v0_, .int .i64 r2]) ∧ Kd.R k32 32 w' w.heap.size (fun _ => True) v0_ r1 ∧ Below w.heap.size w w' := by
  have hu32 := Tryd.underlying32
  have HB := Aside0.mk (Below.refl w.heap.size w)
  have H : (if a0.toList = ([] : List UInt8) then (some (([] : List (S32)), 0)) else ((strings_Split.f a0 (⟨#[38]⟩ : ByteArray)).bind fun t177 => (route_Query.l0 k ([] : List (S32)) t177 (t177.length : Int) 0))) = some (r1, r2) := h
  clear h
  by_cases c2 : a0.toList = ([] : List UInt8)
  · rw [if_pos c2] at H
    have c2b0 : (a0.toList == ([] : List UInt8)) = true := beq_iff_eq.mpr c2
    have c2b1 : (a0.toList != ([] : List UInt8)) = false := bne_eq_false_iff_eq.mpr c2
    clear c2
    simp only [Option.some.injEq, Prod.mk.injEq] at H
    obtain ⟨rfl, rfl⟩ := H
    go_enter Tryd.func11, Tryd.ntmps11
    go_wp2
    go_ret2
    exact ⟨_, by first | rfl | (simp [errW_none, errW_some] <;> rfl) | (simp [*, errW_none, errW_some] <;> rfl), by first | exact Kd.R_nil _ _ _ _ _ | exact Kd.N_nil _ _ _ _ _ | exact Kd.V_nil _ _ _ _ _ | exact Kd.Q_nil _ _ _ _ _ | exact Kd.S_nil _ _ _ _ _, by repeat (first | (with_reducible first | exact HB.out | apply below_alloc | apply pw_below_drewN | apply below_drew1) | exact HB.out)⟩
  · rw [if_neg c2] at H
    have c2b0 : (a0.toList == ([] : List UInt8)) = false := beq_eq_false_iff_ne.mpr c2
    have c2b1 : (a0.toList != ([] : List UInt8)) = true := bne_iff_ne.mpr c2
    replace H := Option.bind_eq_some_iff.mp H
    obtain ⟨t177, A30, H⟩ := H
    replace H : (route_Query.l0 k ([] : List (S32)) t177 (t177.length : Int) 0) = some (r1, r2) := H
    have A3 := Aside0.mk A30
    clear A30
    have H' := Aside0.mk H
    clear H
    go_enter Tryd.func11, Tryd.ntmps11
    go_wp2_with (first | ((with_reducible refine gate_callee (f := 19) rfl ?_); refine goesL_ (some 17) rfl rfl Tryd.func19 (by kernel_rfl) rfl #[.string a0, .string (⟨#[38]⟩ : ByteArray)] rfl (by (try simp only [List.map_toArray, List.map_cons, List.map_nil]); first | done | rfl | (simp only [List.length_drop, List.length_take]; rfl)) ?_; (with_reducible refine (strings_Split.calls a0 (⟨#[38]⟩ : ByteArray) t177 _ A3.out).mono ?_); rintro e w4 ⟨v178, rfl, ho0, hb⟩; refine ⟨_, rfl, ?_⟩; have n0_ := Aside0.mk (Kd.R_lower ho0 (below_size (by repeat (first | (with_reducible first | exact HB.out | apply below_alloc | apply pw_below_drewN | apply below_drew1) | exact HB.out)))); have n1_ := Aside0.mk (below_step (by repeat (first | (with_reducible first | exact HB.out | apply below_alloc | apply pw_below_drewN | apply below_drew1) | exact HB.out)) hb); clear HB; have HO179 := n0_; have HB := n1_; clear n0_ n1_; (try clear hb); (try clear hb2); (try clear hk); (try clear hi); (try clear ho0); obtain ⟨Ao5, co5, eo5⟩ := Kd.R_slice HO179.out; subst eo5))
    go_loopg [4, 19] k (fun kq v4 v19 w' => ∃ (x4_1 : List (S32)) (x19_1 : Int), v19 = .int .i64 x19_1 ∧ Aside0 (route_Query.l0 kq x4_1 t177 (t177.length : Int) x19_1 = some (r1, r2)) ∧ Aside0 (kq ≤ k) ∧ Aside0 (Kd.R k32 32 w' w.heap.size (fun _ => True) v4 x4_1) ∧ Aside0 (Kd.R Kd.string 9 w' w.heap.size (fun _ => True) (.slice Ao5 t177.length co5) t177) ∧ Aside0 (Below w.heap.size w w'))
    case atStart => exact ⟨(([] : List (S32))), (0), (by first | rfl | (simp; done) | (simp [*]; done)), H', ⟨Nat.le_refl _⟩, ⟨by first | exact Kd.R_nil _ _ _ _ _ | exact Kd.N_nil _ _ _ _ _ | exact Kd.V_nil _ _ _ _ _ | exact Kd.Q_nil _ _ _ _ _ | exact Kd.S_nil _ _ _ _ _⟩, ⟨by (with_reducible repeat (first | apply Kd.R_alloc | apply Kd.R_drewN | apply Kd.R_drew)); exact HO179.out⟩, ⟨by repeat (first | (with_reducible first | exact HB.out | apply below_alloc | apply pw_below_drewN | apply below_drew1) | exact HB.out)⟩⟩
    case round =>
      clear H'
      try clear c1
      try clear c2
      try clear c2b0
      try clear c2b1
      try clear p2
      obtain ⟨x4_1, x19_1, rfl, HA, HK1, HO_4, HO_17, HB⟩ := hrel
      cases gk with
      | zero => exact absurd HA.out (by simp [route_Query.l0])
      | succ k1 =>
        have H := HA.out
        clear HA
        simp only [route_Query.l0] at H
        by_cases c6 : x19_1 < (t177.length : Int)
        · rw [if_pos c6] at H
          have c6b0 : decide (x19_1 < (t177.length : Int)) = true := decide_eq_true c6
          clear c6
          by_cases c7 : 0 ≤ x19_1
          · rw [if_pos c7] at H
            have c7b0 : decide (0 ≤ x19_1) = true := decide_eq_true c7
            clear c7
            by_cases c8 : x19_1 < (t177.length : Int)
            · rw [if_pos c8] at H
              have c8b0 : decide (x19_1 < (t177.length : Int)) = true := decide_eq_true c8
              clear c8
              replace H := Option.bind_eq_some_iff.mp H
              obtain ⟨⟨t181, t182, t183⟩, A90, H⟩ := H
              replace H : (if t183 = true then ((text_Unescape.f k1 t181).bind fun bt184 => ((text_Unescape.f k1 t182).bind fun bt186 => (if bt184.2 = 0 then (if bt186.2 = 0 then (if x4_1.length < 4398046511104 then (route_Query.l0 k1 (x4_1 ++ [(⟨bt184.1, bt186.1⟩ : S32)]) t177 (t177.length : Int) (wrap64 (x19_1 + 1))) else (none)) else (some (([] : List (S32)), 150))) else (some (([] : List (S32)), 150))))) else (some (([] : List (S32)), 150))) = some (r1, r2) := H
              have A9 := Aside0.mk A90
              clear A90
              by_cases c10 : t183 = true
              · subst c10
                have H1 : ((text_Unescape.f k1 t181).bind fun bt184 => ((text_Unescape.f k1 t182).bind fun bt186 => (if bt184.2 = 0 then (if bt186.2 = 0 then (if x4_1.length < 4398046511104 then (route_Query.l0 k1 (x4_1 ++ [(⟨bt184.1, bt186.1⟩ : S32)]) t177 (t177.length : Int) (wrap64 (x19_1 + 1))) else (none)) else (some (([] : List (S32)), 150))) else (some (([] : List (S32)), 150))))) = some (r1, r2) := by rw [if_pos rfl] at H; exact H
                clear H
                have H := H1
                clear H1
                replace H := Option.bind_eq_some_iff.mp H
                obtain ⟨⟨t184, t185⟩, A110, H⟩ := H
                replace H : ((text_Unescape.f k1 t182).bind fun bt186 => (if t185 = 0 then (if bt186.2 = 0 then (if x4_1.length < 4398046511104 then (route_Query.l0 k1 (x4_1 ++ [(⟨t184, bt186.1⟩ : S32)]) t177 (t177.length : Int) (wrap64 (x19_1 + 1))) else (none)) else (some (([] : List (S32)), 150))) else (some (([] : List (S32)), 150)))) = some (r1, r2) := H
                have A11 := Aside0.mk A110
                clear A110
                replace H := Option.bind_eq_some_iff.mp H
                obtain ⟨⟨t186, t187⟩, A120, H⟩ := H
                replace H : (if t185 = 0 then (if t187 = 0 then (if x4_1.length < 4398046511104 then (route_Query.l0 k1 (x4_1 ++ [(⟨t184, t186⟩ : S32)]) t177 (t177.length : Int) (wrap64 (x19_1 + 1))) else (none)) else (some (([] : List (S32)), 150))) else (some (([] : List (S32)), 150))) = some (r1, r2) := H
                have A12 := Aside0.mk A120
                clear A120
                by_cases c13 : t185 = 0
                · rw [if_pos c13] at H
                  have c13b0 : (t185 == 0) = true := beq_iff_eq.mpr c13
                  have c13b1 : (t185 != 0) = false := bne_eq_false_iff_eq.mpr c13
                  clear c13
                  by_cases c14 : t187 = 0
                  · rw [if_pos c14] at H
                    have c14b0 : (t187 == 0) = true := beq_iff_eq.mpr c14
                    have c14b1 : (t187 != 0) = false := bne_eq_false_iff_eq.mpr c14
                    clear c14
                    by_cases c15 : x4_1.length < 4398046511104
                    · rw [if_pos c15] at H
                      have LMc15 := Aside0.mk c15
                      clear c15
                      obtain ⟨y188, hy188⟩ : ∃ y_ : List (S32), y_ = (x4_1 ++ [(⟨t184, t186⟩ : S32)]) := ⟨_, rfl⟩
                      replace H : (route_Query.l0 k1 y188 t177 (t177.length : Int) (wrap64 (x19_1 + 1))) = some (r1, r2) := by first | (rw [hy188]; with_reducible exact H) | (have H2_ := (Option.bind_some _ _).symm.trans H; rw [hy188]; with_reducible exact H2_) | (have H2_ := (Option.bind_some _ _).symm.trans H; with_reducible exact H2_) | with_reducible exact H | (rw [hy188]; exact H) | exact H
                      have Ny188 := Aside0.mk hy188
                      clear hy188
                      have H' := Aside0.mk H
                      clear H
                      have p180 : 0 ≤ (x19_1 : Int) := of_decide_eq_true (by first | (with_reducible assumption) | assumption)
                      have q180 : x19_1 < (t177.length : Int) := of_decide_eq_true (by first | (with_reducible assumption) | assumption)
                      obtain ⟨ad180, e180, hx180_0⟩ := Kd.at_string (Kd.R_reads' HO_17.out).2.2 x19_1 p180 q180
                      cases e180
                      replace p180 := eq_true p180
                      replace q180 := eq_true q180
                      go_wp2_with (first | ((with_reducible refine gate_callee (f := 17) rfl ?_); refine goesL_ (some 25) rfl rfl Tryd.func17 (by kernel_rfl) rfl #[.string (rdOf ByteArray.empty t177 x19_1), .string (⟨#[61]⟩ : ByteArray)] rfl (by (try simp only [List.map_toArray, List.map_cons, List.map_nil]); first | done | rfl | (simp only [List.length_drop, List.length_take]; rfl)) ?_; (with_reducible refine (strings_Cut.calls (rdOf ByteArray.empty t177 x19_1) (⟨#[61]⟩ : ByteArray) t181 t182 true _ A9.out).mono ?_); rintro e w' ⟨rfl, ⟨nd, rfl⟩⟩; refine ⟨_, rfl, ?_⟩) | ((with_reducible refine gate_callee (f := 20) rfl ?_); refine goesL_ (some 33) rfl rfl Tryd.func20 (by kernel_rfl) rfl #[.string t181] rfl (by (try simp only [List.map_toArray, List.map_cons, List.map_nil]); first | done | rfl | (simp only [List.length_drop, List.length_take]; rfl)) ?_; (with_reducible refine (text_Unescape.calls k1 t181 t184 t185 _ A11.out).mono ?_); rintro e w16 ⟨rfl, hb⟩; refine ⟨_, rfl, ?_⟩; have n0_ := Aside0.mk (Kd.R_below (by (with_reducible repeat (first | apply Kd.R_alloc | apply Kd.R_drewN | apply Kd.R_drew)); exact HO_4.out) hb); have n1_ := Aside0.mk (Kd.R_below (by (with_reducible repeat (first | apply Kd.R_alloc | apply Kd.R_drewN | apply Kd.R_drew)); exact HO_17.out) hb); have n2_ := Aside0.mk (below_step (by repeat (first | (with_reducible first | exact HB.out | apply below_alloc | apply pw_below_drewN | apply below_drew1) | exact HB.out)) hb); clear HO_4; clear HO_17; clear HB; have HO_4 := n0_; have HO_17 := n1_; have HB := n2_; clear n0_ n1_ n2_; (try clear hb); (try clear hb2); (try clear hk); (try clear hi)) | ((with_reducible refine gate_callee (f := 20) rfl ?_); refine goesL_ (some 38) rfl rfl Tryd.func20 (by kernel_rfl) rfl #[.string t182] rfl (by (try simp only [List.map_toArray, List.map_cons, List.map_nil]); first | done | rfl | (simp only [List.length_drop, List.length_take]; rfl)) ?_; (with_reducible refine (text_Unescape.calls k1 t182 t186 t187 _ A12.out).mono ?_); rintro e w17 ⟨rfl, hb⟩; refine ⟨_, rfl, ?_⟩; have n0_ := Aside0.mk (Kd.R_below (by (with_reducible repeat (first | apply Kd.R_alloc | apply Kd.R_drewN | apply Kd.R_drew)); exact HO_4.out) hb); have n1_ := Aside0.mk (Kd.R_below (by (with_reducible repeat (first | apply Kd.R_alloc | apply Kd.R_drewN | apply Kd.R_drew)); exact HO_17.out) hb); have n2_ := Aside0.mk (below_step (by repeat (first | (with_reducible first | exact HB.out | apply below_alloc | apply pw_below_drewN | apply below_drew1) | exact HB.out)) hb); clear HO_4; clear HO_17; clear HB; have HO_4 := n0_; have HO_17 := n1_; have HB := n2_; clear n0_ n1_ n2_; (try clear hb); (try clear hb2); (try clear hk); (try clear hi)) | ((with_reducible refine gate_builtin (b := .append) (xs := #[.tmp 47, .tmp 51]) rfl ?_); at_builtin; refine Kd.R_append k32 (w0 := w) w.heap.size rfl (.tmp 47) (.tmp 51) 28 32 (.agg #[(.string ⟨#[]⟩), (.string ⟨#[]⟩)]) 32 rfl Tryd.underlying28 info32 rfl (by decide) (by omega) u4 x4_1 (⟨t184, t186⟩ : S32) [.string t184, .string t186] (fun _ => True) (fun _ => False) rfl rfl ?aP (fun _ hk => hk.elim) ?aF ?aO ?aB ?aS ?aL ?_; (case aP => exact k32_mkM _ _ _ (⟨t184, t186⟩ : S32)); (case aB => exact (by repeat (first | (with_reducible first | exact HB.out | apply below_alloc | apply pw_below_drewN | apply below_drew1) | exact HB.out))); (case aF => exact (fun _ _ => trivial)); (case aO => exact (by (with_reducible repeat (first | apply Kd.R_alloc | apply Kd.R_drewN | apply Kd.R_drew)); exact HO_4.out)); (case aS => exact (below_size (by repeat (first | (with_reducible first | exact HB.out | apply below_alloc | apply pw_below_drewN | apply below_drew1) | exact HB.out)))); (case aL => have := LMc15.out; omega); intro v189 w18 ho hb hg hat; rw [← Ny188.out] at ho; have n0_ := Aside0.mk (Kd.R_over' (by (with_reducible repeat (first | apply Kd.R_alloc | apply Kd.R_drewN | apply Kd.R_drew)); exact HO_17.out) (Kd.R_typed (by (with_reducible repeat (first | apply Kd.R_alloc | apply Kd.R_drewN | apply Kd.R_drew)); exact HO_4.out)) (by decide) hg); have n1_ := Aside0.mk (hb); have n2_ := Aside0.mk (ho); clear HO_17; clear HB; clear HO_4; have HO_17 := n0_; have HB := n1_; have HO190 := n2_; clear n0_ n1_ n2_; clear ho hb hg hat))
                      go_roundg k1
                      case measure => have := HK1.out; omega
                      case rel => exact ⟨(y188), (wrap64 (x19_1 + 1)), (by first | rfl | (simp; done) | (simp [*]; done)), H', ⟨by have := HK1.out; omega⟩, ⟨by (with_reducible repeat (first | apply Kd.R_alloc | apply Kd.R_drewN | apply Kd.R_drew)); exact HO190.out⟩, ⟨by (with_reducible repeat (first | apply Kd.R_alloc | apply Kd.R_drewN | apply Kd.R_drew)); exact HO_17.out⟩, ⟨by repeat (first | (with_reducible first | exact HB.out | apply below_alloc | apply pw_below_drewN | apply below_drew1) | exact HB.out)⟩⟩
                    · rw [if_neg c15] at H
                      exact absurd H (by simp)
                  · rw [if_neg c14] at H
                    have c14b0 : (t187 == 0) = false := beq_eq_false_iff_ne.mpr c14
                    have c14b1 : (t187 != 0) = true := bne_iff_ne.mpr c14
                    simp only [Option.some.injEq, Prod.mk.injEq] at H
                    obtain ⟨rfl, rfl⟩ := H
                    have p180 : 0 ≤ (x19_1 : Int) := of_decide_eq_true (by first | (with_reducible assumption) | assumption)
                    have q180 : x19_1 < (t177.length : Int) := of_decide_eq_true (by first | (with_reducible assumption) | assumption)
                    obtain ⟨ad180, e180, hx180_0⟩ := Kd.at_string (Kd.R_reads' HO_17.out).2.2 x19_1 p180 q180
                    cases e180
                    replace p180 := eq_true p180
                    replace q180 := eq_true q180
                    go_wp2_with (first | ((with_reducible refine gate_callee (f := 17) rfl ?_); refine goesL_ (some 25) rfl rfl Tryd.func17 (by kernel_rfl) rfl #[.string (rdOf ByteArray.empty t177 x19_1), .string (⟨#[61]⟩ : ByteArray)] rfl (by (try simp only [List.map_toArray, List.map_cons, List.map_nil]); first | done | rfl | (simp only [List.length_drop, List.length_take]; rfl)) ?_; (with_reducible refine (strings_Cut.calls (rdOf ByteArray.empty t177 x19_1) (⟨#[61]⟩ : ByteArray) t181 t182 true _ A9.out).mono ?_); rintro e w' ⟨rfl, ⟨nd, rfl⟩⟩; refine ⟨_, rfl, ?_⟩) | ((with_reducible refine gate_callee (f := 20) rfl ?_); refine goesL_ (some 33) rfl rfl Tryd.func20 (by kernel_rfl) rfl #[.string t181] rfl (by (try simp only [List.map_toArray, List.map_cons, List.map_nil]); first | done | rfl | (simp only [List.length_drop, List.length_take]; rfl)) ?_; (with_reducible refine (text_Unescape.calls k1 t181 t184 t185 _ A11.out).mono ?_); rintro e w19 ⟨rfl, hb⟩; refine ⟨_, rfl, ?_⟩; have n0_ := Aside0.mk (Kd.R_below (by (with_reducible repeat (first | apply Kd.R_alloc | apply Kd.R_drewN | apply Kd.R_drew)); exact HO_4.out) hb); have n1_ := Aside0.mk (Kd.R_below (by (with_reducible repeat (first | apply Kd.R_alloc | apply Kd.R_drewN | apply Kd.R_drew)); exact HO_17.out) hb); have n2_ := Aside0.mk (below_step (by repeat (first | (with_reducible first | exact HB.out | apply below_alloc | apply pw_below_drewN | apply below_drew1) | exact HB.out)) hb); clear HO_4; clear HO_17; clear HB; have HO_4 := n0_; have HO_17 := n1_; have HB := n2_; clear n0_ n1_ n2_; (try clear hb); (try clear hb2); (try clear hk); (try clear hi)) | ((with_reducible refine gate_callee (f := 20) rfl ?_); refine goesL_ (some 38) rfl rfl Tryd.func20 (by kernel_rfl) rfl #[.string t182] rfl (by (try simp only [List.map_toArray, List.map_cons, List.map_nil]); first | done | rfl | (simp only [List.length_drop, List.length_take]; rfl)) ?_; (with_reducible refine (text_Unescape.calls k1 t182 t186 t187 _ A12.out).mono ?_); rintro e w20 ⟨rfl, hb⟩; refine ⟨_, rfl, ?_⟩; have n0_ := Aside0.mk (Kd.R_below (by (with_reducible repeat (first | apply Kd.R_alloc | apply Kd.R_drewN | apply Kd.R_drew)); exact HO_4.out) hb); have n1_ := Aside0.mk (Kd.R_below (by (with_reducible repeat (first | apply Kd.R_alloc | apply Kd.R_drewN | apply Kd.R_drew)); exact HO_17.out) hb); have n2_ := Aside0.mk (below_step (by repeat (first | (with_reducible first | exact HB.out | apply below_alloc | apply pw_below_drewN | apply below_drew1) | exact HB.out)) hb); clear HO_4; clear HO_17; clear HB; have HO_4 := n0_; have HO_17 := n1_; have HB := n2_; clear n0_ n1_ n2_; (try clear hb); (try clear hb2); (try clear hk); (try clear hi)))
                    go_ret2
                    exact ⟨_, by first | rfl | (simp [errW_none, errW_some] <;> rfl) | (simp [*, errW_none, errW_some] <;> rfl), by first | exact Kd.R_nil _ _ _ _ _ | exact Kd.N_nil _ _ _ _ _ | exact Kd.V_nil _ _ _ _ _ | exact Kd.Q_nil _ _ _ _ _ | exact Kd.S_nil _ _ _ _ _, by repeat (first | (with_reducible first | exact HB.out | apply below_alloc | apply pw_below_drewN | apply below_drew1) | exact HB.out)⟩
                · rw [if_neg c13] at H
                  have c13b0 : (t185 == 0) = false := beq_eq_false_iff_ne.mpr c13
                  have c13b1 : (t185 != 0) = true := bne_iff_ne.mpr c13
                  simp only [Option.some.injEq, Prod.mk.injEq] at H
                  obtain ⟨rfl, rfl⟩ := H
                  have p180 : 0 ≤ (x19_1 : Int) := of_decide_eq_true (by first | (with_reducible assumption) | assumption)
                  have q180 : x19_1 < (t177.length : Int) := of_decide_eq_true (by first | (with_reducible assumption) | assumption)
                  obtain ⟨ad180, e180, hx180_0⟩ := Kd.at_string (Kd.R_reads' HO_17.out).2.2 x19_1 p180 q180
                  cases e180
                  replace p180 := eq_true p180
                  replace q180 := eq_true q180
                  go_wp2_with (first | ((with_reducible refine gate_callee (f := 17) rfl ?_); refine goesL_ (some 25) rfl rfl Tryd.func17 (by kernel_rfl) rfl #[.string (rdOf ByteArray.empty t177 x19_1), .string (⟨#[61]⟩ : ByteArray)] rfl (by (try simp only [List.map_toArray, List.map_cons, List.map_nil]); first | done | rfl | (simp only [List.length_drop, List.length_take]; rfl)) ?_; (with_reducible refine (strings_Cut.calls (rdOf ByteArray.empty t177 x19_1) (⟨#[61]⟩ : ByteArray) t181 t182 true _ A9.out).mono ?_); rintro e w' ⟨rfl, ⟨nd, rfl⟩⟩; refine ⟨_, rfl, ?_⟩) | ((with_reducible refine gate_callee (f := 20) rfl ?_); refine goesL_ (some 33) rfl rfl Tryd.func20 (by kernel_rfl) rfl #[.string t181] rfl (by (try simp only [List.map_toArray, List.map_cons, List.map_nil]); first | done | rfl | (simp only [List.length_drop, List.length_take]; rfl)) ?_; (with_reducible refine (text_Unescape.calls k1 t181 t184 t185 _ A11.out).mono ?_); rintro e w21 ⟨rfl, hb⟩; refine ⟨_, rfl, ?_⟩; have n0_ := Aside0.mk (Kd.R_below (by (with_reducible repeat (first | apply Kd.R_alloc | apply Kd.R_drewN | apply Kd.R_drew)); exact HO_4.out) hb); have n1_ := Aside0.mk (Kd.R_below (by (with_reducible repeat (first | apply Kd.R_alloc | apply Kd.R_drewN | apply Kd.R_drew)); exact HO_17.out) hb); have n2_ := Aside0.mk (below_step (by repeat (first | (with_reducible first | exact HB.out | apply below_alloc | apply pw_below_drewN | apply below_drew1) | exact HB.out)) hb); clear HO_4; clear HO_17; clear HB; have HO_4 := n0_; have HO_17 := n1_; have HB := n2_; clear n0_ n1_ n2_; (try clear hb); (try clear hb2); (try clear hk); (try clear hi)) | ((with_reducible refine gate_callee (f := 20) rfl ?_); refine goesL_ (some 38) rfl rfl Tryd.func20 (by kernel_rfl) rfl #[.string t182] rfl (by (try simp only [List.map_toArray, List.map_cons, List.map_nil]); first | done | rfl | (simp only [List.length_drop, List.length_take]; rfl)) ?_; (with_reducible refine (text_Unescape.calls k1 t182 t186 t187 _ A12.out).mono ?_); rintro e w22 ⟨rfl, hb⟩; refine ⟨_, rfl, ?_⟩; have n0_ := Aside0.mk (Kd.R_below (by (with_reducible repeat (first | apply Kd.R_alloc | apply Kd.R_drewN | apply Kd.R_drew)); exact HO_4.out) hb); have n1_ := Aside0.mk (Kd.R_below (by (with_reducible repeat (first | apply Kd.R_alloc | apply Kd.R_drewN | apply Kd.R_drew)); exact HO_17.out) hb); have n2_ := Aside0.mk (below_step (by repeat (first | (with_reducible first | exact HB.out | apply below_alloc | apply pw_below_drewN | apply below_drew1) | exact HB.out)) hb); clear HO_4; clear HO_17; clear HB; have HO_4 := n0_; have HO_17 := n1_; have HB := n2_; clear n0_ n1_ n2_; (try clear hb); (try clear hb2); (try clear hk); (try clear hi)))
                  go_ret2
                  exact ⟨_, by first | rfl | (simp [errW_none, errW_some] <;> rfl) | (simp [*, errW_none, errW_some] <;> rfl), by first | exact Kd.R_nil _ _ _ _ _ | exact Kd.N_nil _ _ _ _ _ | exact Kd.V_nil _ _ _ _ _ | exact Kd.Q_nil _ _ _ _ _ | exact Kd.S_nil _ _ _ _ _, by repeat (first | (with_reducible first | exact HB.out | apply below_alloc | apply pw_below_drewN | apply below_drew1) | exact HB.out)⟩
              · replace c10 := Bool.eq_false_iff.mpr c10
                subst c10
                have H1 : (some (([] : List (S32)), 150)) = some (r1, r2) := by rw [if_neg (show ¬ (false = true) by decide)] at H; exact H
                clear H
                have H := H1
                clear H1
                simp only [Option.some.injEq, Prod.mk.injEq] at H
                obtain ⟨rfl, rfl⟩ := H
                have p180 : 0 ≤ (x19_1 : Int) := of_decide_eq_true (by first | (with_reducible assumption) | assumption)
                have q180 : x19_1 < (t177.length : Int) := of_decide_eq_true (by first | (with_reducible assumption) | assumption)
                obtain ⟨ad180, e180, hx180_0⟩ := Kd.at_string (Kd.R_reads' HO_17.out).2.2 x19_1 p180 q180
                cases e180
                replace p180 := eq_true p180
                replace q180 := eq_true q180
                go_wp2_with (first | ((with_reducible refine gate_callee (f := 17) rfl ?_); refine goesL_ (some 25) rfl rfl Tryd.func17 (by kernel_rfl) rfl #[.string (rdOf ByteArray.empty t177 x19_1), .string (⟨#[61]⟩ : ByteArray)] rfl (by (try simp only [List.map_toArray, List.map_cons, List.map_nil]); first | done | rfl | (simp only [List.length_drop, List.length_take]; rfl)) ?_; (with_reducible refine (strings_Cut.calls (rdOf ByteArray.empty t177 x19_1) (⟨#[61]⟩ : ByteArray) t181 t182 false _ A9.out).mono ?_); rintro e w' ⟨rfl, ⟨nd, rfl⟩⟩; refine ⟨_, rfl, ?_⟩))
                go_ret2
                exact ⟨_, by first | rfl | (simp [errW_none, errW_some] <;> rfl) | (simp [*, errW_none, errW_some] <;> rfl), by first | exact Kd.R_nil _ _ _ _ _ | exact Kd.N_nil _ _ _ _ _ | exact Kd.V_nil _ _ _ _ _ | exact Kd.Q_nil _ _ _ _ _ | exact Kd.S_nil _ _ _ _ _, by repeat (first | (with_reducible first | exact HB.out | apply below_alloc | apply pw_below_drewN | apply below_drew1) | exact HB.out)⟩
            · rw [if_neg c8] at H
              exact absurd H (by simp)
          · rw [if_neg c7] at H
            exact absurd H (by simp)
        · rw [if_neg c6] at H
          have c6b0 : decide (x19_1 < (t177.length : Int)) = false := decide_eq_false c6
          clear c6
          simp only [Option.some.injEq, Prod.mk.injEq] at H
          obtain ⟨rfl, rfl⟩ := H
          go_wp2
          go_ret2
          exact ⟨_, by first | rfl | (simp [errW_none, errW_some] <;> rfl) | (simp [*, errW_none, errW_some] <;> rfl), by (with_reducible repeat (first | apply Kd.R_alloc | apply Kd.R_drewN | apply Kd.R_drew)); exact HO_4.out, by repeat (first | (with_reducible first | exact HB.out | apply below_alloc | apply pw_below_drewN | apply below_drew1) | exact HB.out)⟩

/-! ### text_Digits: function 47: a contract of my own -/
/-- Digits' number, from n on. -/
def digF : List UInt8 → Int → Option Int
  | [], n => some n
  | c :: cs, n => if 48 ≤ c.toNat ∧ c.toNat ≤ 57 then digF cs (10 * n + ((c.toNat : Int) - 48)) else none
def digitsF (l : List UInt8) (most : Int) : Int × Int :=
  if l.length < 1 ∨ 18 < l.length ∨ (1 < l.length ∧ l.getD 0 0 = 48) then (0, 150) else match digF l 0 with
    | none => (0, 150)
    | some n => if most < n then (0, 3) else (n, 0)
def text_Digits.f (a0 : ByteArray) (a1 : Int) : Option (Int × Int) := some (digitsF a0.data.toList a1)

theorem below_iter (w : World) (s : ByteArray) (i : Nat) : Below w.heap.size w (w.iter s i) := below_alloc (Below.refl _ _) _

theorem get0 (a0 : ByteArray) : a0.data.toList.getD 0 0 = 48 ↔ bt a0 0 = 48 := by
  obtain ⟨⟨l⟩⟩ := a0
  cases l with
  | nil => simp [bt]; decide
  | cons c l =>
    constructor
    · intro h
      have h : c = 48 := h
      subst h
      rfl
    · intro h
      have h : ((c.toNat : Nat) : Int) = 48 := h
      show c = 48
      apply UInt8.toNat_inj.1
      show c.toNat = 48
      omega
set_option maxHeartbeats 1000000 in
set_option maxRecDepth 100000 in
theorem text_Digits.calls (a0 : ByteArray) (a1 : Int) (r1 r2 : Int) (w : World) (h : text_Digits.f a0 a1 = some (r1, r2)) :
    Calls Tryd.prog 47 #[.string a0, .int .i64 a1] w fun e w' => e = .returned (.tuple #[.int .i64 r1, .int .i64 r2]) ∧ Below w.heap.size w w' := by
  have h : digitsF a0.data.toList a1 = (r1, r2) := Option.some.inj h
  have hs : a0.data.toList.length = a0.size := data_length a0
  unfold digitsF at h
  rw [hs] at h
  have HH := Aside0.mk h
  clear h
  by_cases h1 : a0.size < 1
  · have hF : (0, 150) = (r1, r2) := by have := HH.out; rwa [if_pos (.inl h1)] at this
    simp only [Prod.mk.injEq] at hF
    obtain ⟨rfl, rfl⟩ := hF
    clear HH
    go_enter Tryd.func47, Tryd.ntmps47
    go_wp2
    go_ret2
    exact ⟨rfl, Below.refl _ _⟩
  · by_cases h2 : 18 < a0.size
    · have hF : (0, 150) = (r1, r2) := by have := HH.out; rwa [if_pos (.inr (.inl h2))] at this
      simp only [Prod.mk.injEq] at hF
      obtain ⟨rfl, rfl⟩ := hF
      clear HH
      go_enter Tryd.func47, Tryd.ntmps47
      go_wp2
      go_ret2
      exact ⟨rfl, Below.refl _ _⟩
    · have hx0 : ∀ h : 0 < a0.size, (((a0[0]'h).toNat : Nat) : Int) = bt a0 0 := bt_at a0 0
      have hlow := Int.ofNat_le.2 (Nat.le_of_not_lt h1)
      have hz0 : a0.data.toList.getD 0 0 = 48 ↔ bt a0 0 = 48 := get0 a0
      by_cases h3 : 1 < a0.size ∧ bt a0 0 = 48
      · have hF : (0, 150) = (r1, r2) := by have := HH.out; rwa [if_pos (.inr (.inr ⟨h3.1, hz0.2 h3.2⟩))] at this
        simp only [Prod.mk.injEq] at hF
        obtain ⟨rfl, rfl⟩ := hF
        obtain ⟨h31, h32⟩ := h3
        have h32' : (bt a0 0 == 48) = true := beq_iff_eq.2 h32
        clear HH hz0
        go_enter Tryd.func47, Tryd.ntmps47
        go_wp2
        go_ret2
        exact ⟨rfl, Below.refl _ _⟩
      · have hH : Aside0 ((match digF a0.data.toList 0 with | none => (0, 150) | some n => if a1 < n then (0, 3) else (n, 0)) = (r1, r2)) := ⟨by
          have := HH.out
          rwa [if_neg (fun h => by rcases h with h | h | h; exact h1 h; exact h2 h; exact h3 ⟨h.1, hz0.1 h.2⟩)] at this⟩
        have hG : Aside0 (1 < a0.size → (bt a0 0 == 48) = false) := ⟨fun h => beq_eq_false_iff_ne.2 (fun e => h3 ⟨h, e⟩)⟩
        clear HH hz0 h3
        by_cases h31 : 1 < a0.size
        · have h32' : (bt a0 0 == 48) = false := hG.out h31
          go_enter Tryd.func47, Tryd.ntmps47
          go_wp2
          clear hx0 hlow
          go_loopg [6] a0.size (fun g s6 wx => ∃ (i : Nat) (n : Int), i + g = a0.size ∧ s6 = .int .i64 n ∧ wx = w.iter a0 i ∧ 0 ≤ n ∧ Aside0 (n < ((10 ^ i : Nat) : Int)) ∧ Aside0 (digF (a0.data.toList.drop i) n = digF a0.data.toList 0))
          case atStart => exact ⟨0, 0, by omega, rfl, rfl, by omega, ⟨by decide⟩, ⟨rfl⟩⟩
          case round =>
            obtain ⟨i, n, hig, rfl, rfl, hn0, HN, HD⟩ := hrel
            cases gk with
            | zero =>
              obtain rfl : i = a0.size := by omega
              have hnx := run_next_end (P := Tryd.prog) w a0 a0.size
              have hD : (if a1 < n then ((0 : Int), (3 : Int)) else (n, 0)) = (r1, r2) := by
                have h1 := HD.out
                have h2 := hH.out
                rw [← h1, ← data_length, List.drop_length] at h2
                exact h2
              clear hH HD HN hG
              by_cases hm : a1 < n
              · rw [if_pos hm] at hD
                simp only [Prod.mk.injEq] at hD
                obtain ⟨rfl, rfl⟩ := hD
                go_wp2
                go_ret2
                exact ⟨rfl, below_iter _ _ _⟩
              · rw [if_neg hm] at hD
                simp only [Prod.mk.injEq] at hD
                obtain ⟨rfl, rfl⟩ := hD
                go_wp2
                go_ret2
                exact ⟨rfl, below_iter _ _ _⟩
            | succ g =>
              have hi : i < a0.size := by omega
              have hb10 : n < 100000000000000000 := by
                have h1 := HN.out
                have h2 : (10 : Nat) ^ i ≤ 100000000000000000 := (Nat.pow_le_pow_right (n := 10) (by omega) (show i ≤ 17 by omega) : (10 : Nat) ^ i ≤ 10 ^ 17)
                generalize (10 : Nat) ^ i = p at h1 h2
                omega
              obtain ⟨c, hc⟩ : ∃ c, (a0[i]'hi) = c := ⟨_, rfl⟩
              have hcn : (a0[i]'hi).toNat = c.toNat := by rw [hc]
              have hdr : a0.data.toList.drop i = c :: a0.data.toList.drop (i + 1) := by
                rw [List.drop_eq_getElem_cons (by rw [data_length]; exact hi), ← hc]
                rfl
              have hD1 := HD.out
              rw [hdr, digF] at hD1
              by_cases hdig : 48 ≤ c.toNat ∧ c.toNat ≤ 57
              · have hnx := fun ty => run_next_ascii (P := Tryd.prog) w a0 i ty hi (by rw [hc]; omega)
                rw [if_pos hdig] at hD1
                have HD2 := Aside0.mk hD1
                obtain ⟨hd1, hd2⟩ := hdig
                simp only [hcn] at hnx
                clear hD1 hdr hcn HD hc
                obtain ⟨cn, hcn⟩ : ∃ cn : Nat, c.toNat = cn := ⟨_, rfl⟩
                rw [hcn] at hd1 hd2 hnx HD2
                go_wp2
                go_roundg g
                case measure => omega
                case rel => exact ⟨i + 1, 10 * n + ((cn : Int) - 48), by omega, by first | rfl | (simp; done) | (congr 1; omega), rfl, by omega, ⟨by have h1 := HN.out; rw [Nat.pow_succ]; generalize (10 : Nat) ^ i = p at h1 ⊢; omega⟩, HD2⟩
              · rw [if_neg hdig] at hD1
                have hF : (0, 150) = (r1, r2) := by have := hH.out; rwa [← hD1] at this
                simp only [Prod.mk.injEq] at hF
                obtain ⟨rfl, rfl⟩ := hF
                have hnx := fun ty => run_next_any (P := Tryd.prog) w a0 i ty hi
                obtain ⟨q, hq⟩ : ∃ q, Utf8.decode a0 i = q := ⟨_, rfl⟩
                have hq1 : q.1 < 48 ∨ 57 < q.1 := by
                  by_cases ha : (a0[i]'hi).toNat < 128
                  · rw [decode_ascii a0 i hi ha] at hq
                    subst hq
                    show (a0[i]'hi).toNat < 48 ∨ 57 < (a0[i]'hi).toNat
                    rw [hcn]; omega
                  · have := decode_high a0 i hi (by omega)
                    rw [hq] at this
                    omega
                rw [hq] at hnx
                obtain ⟨q1, q2⟩ := q
                simp only at hq1 hnx
                clear hD1 hdr hcn HD hc hq hdig hH
                rcases hq1 with hq1 | hq1
                · go_wp2
                  go_ret2
                  exact ⟨rfl, below_iter _ _ _⟩
                · go_wp2
                  go_ret2
                  exact ⟨rfl, below_iter _ _ _⟩
        · go_enter Tryd.func47, Tryd.ntmps47
          go_wp2
          clear hx0 hlow
          go_loopg [6] a0.size (fun g s6 wx => ∃ (i : Nat) (n : Int), i + g = a0.size ∧ s6 = .int .i64 n ∧ wx = w.iter a0 i ∧ 0 ≤ n ∧ Aside0 (n < ((10 ^ i : Nat) : Int)) ∧ Aside0 (digF (a0.data.toList.drop i) n = digF a0.data.toList 0))
          case atStart => exact ⟨0, 0, by omega, rfl, rfl, by omega, ⟨by decide⟩, ⟨rfl⟩⟩
          case round =>
            obtain ⟨i, n, hig, rfl, rfl, hn0, HN, HD⟩ := hrel
            cases gk with
            | zero =>
              obtain rfl : i = a0.size := by omega
              have hnx := run_next_end (P := Tryd.prog) w a0 a0.size
              have hD : (if a1 < n then ((0 : Int), (3 : Int)) else (n, 0)) = (r1, r2) := by
                have h1 := HD.out
                have h2 := hH.out
                rw [← h1, ← data_length, List.drop_length] at h2
                exact h2
              clear hH HD HN hG
              by_cases hm : a1 < n
              · rw [if_pos hm] at hD
                simp only [Prod.mk.injEq] at hD
                obtain ⟨rfl, rfl⟩ := hD
                go_wp2
                go_ret2
                exact ⟨rfl, below_iter _ _ _⟩
              · rw [if_neg hm] at hD
                simp only [Prod.mk.injEq] at hD
                obtain ⟨rfl, rfl⟩ := hD
                go_wp2
                go_ret2
                exact ⟨rfl, below_iter _ _ _⟩
            | succ g =>
              have hi : i < a0.size := by omega
              have hb10 : n < 100000000000000000 := by
                have h1 := HN.out
                have h2 : (10 : Nat) ^ i ≤ 100000000000000000 := (Nat.pow_le_pow_right (n := 10) (by omega) (show i ≤ 17 by omega) : (10 : Nat) ^ i ≤ 10 ^ 17)
                generalize (10 : Nat) ^ i = p at h1 h2
                omega
              obtain ⟨c, hc⟩ : ∃ c, (a0[i]'hi) = c := ⟨_, rfl⟩
              have hcn : (a0[i]'hi).toNat = c.toNat := by rw [hc]
              have hdr : a0.data.toList.drop i = c :: a0.data.toList.drop (i + 1) := by
                rw [List.drop_eq_getElem_cons (by rw [data_length]; exact hi), ← hc]
                rfl
              have hD1 := HD.out
              rw [hdr, digF] at hD1
              by_cases hdig : 48 ≤ c.toNat ∧ c.toNat ≤ 57
              · have hnx := fun ty => run_next_ascii (P := Tryd.prog) w a0 i ty hi (by rw [hc]; omega)
                rw [if_pos hdig] at hD1
                have HD2 := Aside0.mk hD1
                obtain ⟨hd1, hd2⟩ := hdig
                simp only [hcn] at hnx
                clear hD1 hdr hcn HD hc
                obtain ⟨cn, hcn⟩ : ∃ cn : Nat, c.toNat = cn := ⟨_, rfl⟩
                rw [hcn] at hd1 hd2 hnx HD2
                go_wp2
                go_roundg g
                case measure => omega
                case rel => exact ⟨i + 1, 10 * n + ((cn : Int) - 48), by omega, by first | rfl | (simp; done) | (congr 1; omega), rfl, by omega, ⟨by have h1 := HN.out; rw [Nat.pow_succ]; generalize (10 : Nat) ^ i = p at h1 ⊢; omega⟩, HD2⟩
              · rw [if_neg hdig] at hD1
                have hF : (0, 150) = (r1, r2) := by have := hH.out; rwa [← hD1] at this
                simp only [Prod.mk.injEq] at hF
                obtain ⟨rfl, rfl⟩ := hF
                have hnx := fun ty => run_next_any (P := Tryd.prog) w a0 i ty hi
                obtain ⟨q, hq⟩ : ∃ q, Utf8.decode a0 i = q := ⟨_, rfl⟩
                have hq1 : q.1 < 48 ∨ 57 < q.1 := by
                  by_cases ha : (a0[i]'hi).toNat < 128
                  · rw [decode_ascii a0 i hi ha] at hq
                    subst hq
                    show (a0[i]'hi).toNat < 48 ∨ 57 < (a0[i]'hi).toNat
                    rw [hcn]; omega
                  · have := decode_high a0 i hi (by omega)
                    rw [hq] at this
                    omega
                rw [hq] at hnx
                obtain ⟨q1, q2⟩ := q
                simp only at hq1 hnx
                clear hD1 hdr hcn HD hc hq hdig hH
                rcases hq1 with hq1 | hq1
                · go_wp2
                  go_ret2
                  exact ⟨rfl, below_iter _ _ _⟩
                · go_wp2
                  go_ret2
                  exact ⟨rfl, below_iter _ _ _⟩

/-- A state of type 36 at block g of W; what its slices lead to came in by w0. -/
def IsS36 (w0 W : World) (g : Nat) (f0 : Int) (f1 : ByteArray) (f2 : ByteArray) (f3 : Int) (f4 : Bool) : Prop := W.heap[g]? = some (.cells #[.int .i64 f0, .string f1, .string f2, .int .i64 f3, .bool f4] 36 (0, 0)) ∧ w0.heap.size ≤ g
theorem IsS36.grown {w0 W : World} {g : Nat} {f0 : Int} {f1 : ByteArray} {f2 : ByteArray} {f3 : Int} {f4 : Bool} {W1 : World} {row : Option Nat} (h : IsS36 w0 W g f0 f1 f2 f3 f4) (hw : W.grownBy W1 row) (hne : some g ≠ row) : IsS36 w0 W1 g f0 f1 f2 f3 f4 := by
  obtain ⟨hb, hg⟩ := h
  exact ⟨blk_grown hb hw hne, hg⟩
theorem IsS36.own_neN {w0 W : World} {g : Nat} {f0 : Int} {f1 : ByteArray} {f2 : ByteArray} {f3 : Int} {f4 : Bool} {α : Type} {d : Kd α} {e : Nat} {base : Nat} {ok : Nat → Prop} {v : Value} {xs : List α} (h : IsS36 w0 W g f0 f1 f2 f3 f4) (ho : Kd.N d e W base ok v xs) (ht : e ≠ 36) : some g ≠ v.ownBlock := by
  obtain ⟨hb, hg⟩ := h
  exact Kd.N_ne ho hb ht
theorem IsS36.fresh {w0 W : World} {g : Nat} {f0 : Int} {f1 : ByteArray} {f2 : ByteArray} {f3 : Int} {f4 : Bool} (h : IsS36 w0 W g f0 f1 f2 f3 f4) : ∀ k, W.heap.size ≤ k → k ≠ g := by
  obtain ⟨hb, hg⟩ := h
  exact Kd.freshB hb
theorem IsS36.kept {w0 W : World} {g : Nat} {f0 : Int} {f1 : ByteArray} {f2 : ByteArray} {f3 : Int} {f4 : Bool} {W1 : World} {S : Nat → Prop} (h : IsS36 w0 W g f0 f1 f2 f3 f4) (hk : Kept W W1 S) (hne : ¬ S g) : IsS36 w0 W1 g f0 f1 f2 f3 f4 := by
  obtain ⟨hb, hg⟩ := h
  exact ⟨blk_kept hb hk hne, hg⟩
theorem IsS36.below {w0 W : World} {g : Nat} {f0 : Int} {f1 : ByteArray} {f2 : ByteArray} {f3 : Int} {f4 : Bool} {W1 : World} (h : IsS36 w0 W g f0 f1 f2 f3 f4) (hw : Below W.heap.size W W1) : IsS36 w0 W1 g f0 f1 f2 f3 f4 := h.grown (grown_of_below hw none) (by simp)
theorem IsS36.alloc {w0 W : World} {g : Nat} {f0 : Int} {f1 : ByteArray} {f2 : ByteArray} {f3 : Int} {f4 : Bool} (h : IsS36 w0 W g f0 f1 f2 f3 f4) (o : Obj) : IsS36 w0 (W.alloc o) g f0 f1 f2 f3 f4 := h.below (below_alloc (Below.refl _ _) o)
theorem IsS36.drewN {w0 W : World} {g : Nat} {f0 : Int} {f1 : ByteArray} {f2 : ByteArray} {f3 : Int} {f4 : Bool} (h : IsS36 w0 W g f0 f1 f2 f3 f4) (m : Nat) : IsS36 w0 (W.drewN m) g f0 f1 f2 f3 f4 := h
theorem IsS36.drew {w0 W : World} {g : Nat} {f0 : Int} {f1 : ByteArray} {f2 : ByteArray} {f3 : Int} {f4 : Bool} (h : IsS36 w0 W g f0 f1 f2 f3 f4) : IsS36 w0 W.drew g f0 f1 f2 f3 f4 := h
theorem IsS36.at_ {w0 W : World} {g : Nat} {f0 : Int} {f1 : ByteArray} {f2 : ByteArray} {f3 : Int} {f4 : Bool} {w' : World} {m : Nat} (hq : W.drewN m = w') (h : IsS36 w0 W g f0 f1 f2 f3 f4) : IsS36 w0 w' g f0 f1 f2 f3 f4 := by subst hq; exact IsS36.drewN h m
theorem IsS36.apart {w0 W : World} {g : Nat} {f0 : Int} {f1 : ByteArray} {f2 : ByteArray} {f3 : Int} {f4 : Bool} {α : Type} {d : Kd α} {e : Nat} {base : Nat} {ok : Nat → Prop} {v : Value} {xs : List α} (h : IsS36 w0 W g f0 f1 f2 f3 f4) (ho : d.R e W base ok v xs) (ht : ∀ q, q ∈ e :: d.E → q ≠ 36) : d.R e W base (fun k => ok k ∧ k ≠ g) v xs := by
  obtain ⟨hb, hg⟩ := h
  exact Kd.R_types ho hb ht
theorem IsS36.own_ne {w0 W : World} {g : Nat} {f0 : Int} {f1 : ByteArray} {f2 : ByteArray} {f3 : Int} {f4 : Bool} {α : Type} {d : Kd α} {e : Nat} {base : Nat} {ok : Nat → Prop} {v : Value} {xs : List α} (h : IsS36 w0 W g f0 f1 f2 f3 f4) (ho : d.R e W base ok v xs) (ht : e ≠ 36) : some g ≠ v.ownBlock := by
  obtain ⟨hb, hg⟩ := h
  exact Kd.R_ne ho hb ht
theorem IsS36.apartQ {w0 W : World} {g : Nat} {f0 : Int} {f1 : ByteArray} {f2 : ByteArray} {f3 : Int} {f4 : Bool} {α : Type} {d : Kd α} {e : Nat} {base : Nat} {ok : Nat → Prop} {v : Value} {xs : List α} (h : IsS36 w0 W g f0 f1 f2 f3 f4) (ho : d.Q e W base ok v xs) (ht : ∀ q, q ∈ e :: d.E → q ≠ 36) : d.Q e W base (fun k => ok k ∧ k ≠ g) v xs := by
  obtain ⟨hb, hg⟩ := h
  exact Kd.Q_types ho hb ht
theorem IsS36.own_neQ {w0 W : World} {g : Nat} {f0 : Int} {f1 : ByteArray} {f2 : ByteArray} {f3 : Int} {f4 : Bool} {α : Type} {d : Kd α} {e : Nat} {base : Nat} {ok : Nat → Prop} {v : Value} {xs : List α} (h : IsS36 w0 W g f0 f1 f2 f3 f4) (ho : d.Q e W base ok v xs) (ht : e ≠ 36) : some g ≠ v.ownBlock := by
  obtain ⟨hb, hg⟩ := h
  exact Kd.Q_ne ho hb ht
theorem IsS36.apartS {w0 W : World} {g : Nat} {f0 : Int} {f1 : ByteArray} {f2 : ByteArray} {f3 : Int} {f4 : Bool} {α : Type} {d : Kd α} {e : Nat} {base : Nat} {ok : Nat → Prop} {v : Value} {xs : List α} (h : IsS36 w0 W g f0 f1 f2 f3 f4) (ho : d.S e W base ok v xs) (ht : ∀ q, q ∈ e :: d.E → q ≠ 36) : d.S e W base (fun k => ok k ∧ k ≠ g) v xs := by
  obtain ⟨hb, hg⟩ := h
  exact Kd.S_types ho hb ht
theorem IsS36.own_neS {w0 W : World} {g : Nat} {f0 : Int} {f1 : ByteArray} {f2 : ByteArray} {f3 : Int} {f4 : Bool} {α : Type} {d : Kd α} {e : Nat} {base : Nat} {ok : Nat → Prop} {v : Value} {xs : List α} (h : IsS36 w0 W g f0 f1 f2 f3 f4) (ho : d.S e W base ok v xs) (ht : e ≠ 36) : some g ≠ v.ownBlock := by
  obtain ⟨hb, hg⟩ := h
  exact Kd.S_ne ho hb ht
theorem IsS36.lt {w0 W : World} {g : Nat} {f0 : Int} {f1 : ByteArray} {f2 : ByteArray} {f3 : Int} {f4 : Bool} (h : IsS36 w0 W g f0 f1 f2 f3 f4) : g < W.heap.size := by
  obtain ⟨hb, hg⟩ := h
  exact blk_lt hb
theorem IsS36.ge {w0 W : World} {g : Nat} {f0 : Int} {f1 : ByteArray} {f2 : ByteArray} {f3 : Int} {f4 : Bool} (h : IsS36 w0 W g f0 f1 f2 f3 f4) : w0.heap.size ≤ g := by
  obtain ⟨hb, hg⟩ := h
  exact hg
theorem IsS36.ne_blk {w0 W : World} {g : Nat} {f0 : Int} {f1 : ByteArray} {f2 : ByteArray} {f3 : Int} {f4 : Bool} {a : Nat} {cs : Array Value} {t : TypeId} {fr : Nat × Nat} (h : IsS36 w0 W g f0 f1 f2 f3 f4) (hb2 : W.heap[a]? = some (.cells cs t fr)) (ht : t ≠ 36) : g ≠ a := by
  obtain ⟨hb, hg⟩ := h
  rintro rfl
  rw [hb] at hb2
  injection hb2 with hb2
  injection hb2 with _ ht2
  exact ht ht2.symm
theorem IsS36.far {w0 W : World} {g : Nat} {f0 : Int} {f1 : ByteArray} {f2 : ByteArray} {f3 : Int} {f4 : Bool} {p : Addr} (h : IsS36 w0 W g f0 f1 f2 f3 f4) (hne : g ≠ p.block) (u : Value) : IsS36 w0 (W.setCell p u) g f0 f1 f2 f3 f4 := by
  obtain ⟨hb, hg⟩ := h
  exact ⟨blk_far hb hne u, hg⟩
theorem cellS36_0 {W : World} {g : Nat} {f0 : Int} {f1 : ByteArray} {f2 : ByteArray} {f3 : Int} {f4 : Bool} (h : W.heap[g]? = some (.cells #[.int .i64 f0, .string f1, .string f2, .int .i64 f3, .bool f4] 36 (0, 0))) : W.cell? ⟨g, 0, none⟩ = some (.int .i64 f0) := (blk_cell h 0).trans rfl
theorem IsS36.set_0 {w0 W : World} {g : Nat} {f0 : Int} {f1 : ByteArray} {f2 : ByteArray} {f3 : Int} {f4 : Bool} (h : IsS36 w0 W g f0 f1 f2 f3 f4) (x : Int) : IsS36 w0 (W.setCell ⟨g, 0, none⟩ (.int .i64 x)) g x f1 f2 f3 f4 := by
  obtain ⟨hb, hg⟩ := h
  exact ⟨by simpa using blk_set hb 0 (.int .i64 x), hg⟩
theorem cellS36_1 {W : World} {g : Nat} {f0 : Int} {f1 : ByteArray} {f2 : ByteArray} {f3 : Int} {f4 : Bool} (h : W.heap[g]? = some (.cells #[.int .i64 f0, .string f1, .string f2, .int .i64 f3, .bool f4] 36 (0, 0))) : W.cell? ⟨g, 1, none⟩ = some (.string f1) := (blk_cell h 1).trans rfl
theorem IsS36.set_1 {w0 W : World} {g : Nat} {f0 : Int} {f1 : ByteArray} {f2 : ByteArray} {f3 : Int} {f4 : Bool} (h : IsS36 w0 W g f0 f1 f2 f3 f4) (x : ByteArray) : IsS36 w0 (W.setCell ⟨g, 1, none⟩ (.string x)) g f0 x f2 f3 f4 := by
  obtain ⟨hb, hg⟩ := h
  exact ⟨by simpa using blk_set hb 1 (.string x), hg⟩
theorem cellS36_2 {W : World} {g : Nat} {f0 : Int} {f1 : ByteArray} {f2 : ByteArray} {f3 : Int} {f4 : Bool} (h : W.heap[g]? = some (.cells #[.int .i64 f0, .string f1, .string f2, .int .i64 f3, .bool f4] 36 (0, 0))) : W.cell? ⟨g, 2, none⟩ = some (.string f2) := (blk_cell h 2).trans rfl
theorem IsS36.set_2 {w0 W : World} {g : Nat} {f0 : Int} {f1 : ByteArray} {f2 : ByteArray} {f3 : Int} {f4 : Bool} (h : IsS36 w0 W g f0 f1 f2 f3 f4) (x : ByteArray) : IsS36 w0 (W.setCell ⟨g, 2, none⟩ (.string x)) g f0 f1 x f3 f4 := by
  obtain ⟨hb, hg⟩ := h
  exact ⟨by simpa using blk_set hb 2 (.string x), hg⟩
theorem cellS36_3 {W : World} {g : Nat} {f0 : Int} {f1 : ByteArray} {f2 : ByteArray} {f3 : Int} {f4 : Bool} (h : W.heap[g]? = some (.cells #[.int .i64 f0, .string f1, .string f2, .int .i64 f3, .bool f4] 36 (0, 0))) : W.cell? ⟨g, 3, none⟩ = some (.int .i64 f3) := (blk_cell h 3).trans rfl
theorem IsS36.set_3 {w0 W : World} {g : Nat} {f0 : Int} {f1 : ByteArray} {f2 : ByteArray} {f3 : Int} {f4 : Bool} (h : IsS36 w0 W g f0 f1 f2 f3 f4) (x : Int) : IsS36 w0 (W.setCell ⟨g, 3, none⟩ (.int .i64 x)) g f0 f1 f2 x f4 := by
  obtain ⟨hb, hg⟩ := h
  exact ⟨by simpa using blk_set hb 3 (.int .i64 x), hg⟩
theorem cellS36_4 {W : World} {g : Nat} {f0 : Int} {f1 : ByteArray} {f2 : ByteArray} {f3 : Int} {f4 : Bool} (h : W.heap[g]? = some (.cells #[.int .i64 f0, .string f1, .string f2, .int .i64 f3, .bool f4] 36 (0, 0))) : W.cell? ⟨g, 4, none⟩ = some (.bool f4) := (blk_cell h 4).trans rfl
theorem IsS36.set_4 {w0 W : World} {g : Nat} {f0 : Int} {f1 : ByteArray} {f2 : ByteArray} {f3 : Int} {f4 : Bool} (h : IsS36 w0 W g f0 f1 f2 f3 f4) (x : Bool) : IsS36 w0 (W.setCell ⟨g, 4, none⟩ (.bool x)) g f0 f1 f2 f3 x := by
  obtain ⟨hb, hg⟩ := h
  exact ⟨by simpa using blk_set hb 4 (.bool x), hg⟩
theorem IsS36.new (w0 W : World) (f0 : Int) (f1 : ByteArray) (f2 : ByteArray) (f3 : Int) (f4 : Bool) (hB : Below w0.heap.size w0 W) : IsS36 w0 (W.alloc (.cells #[.int .i64 f0, .string f1, .string f2, .int .i64 f3, .bool f4] 36)) W.heap.size f0 f1 f2 f3 f4 := ⟨by simpa using heap_alloc_new W _, hB.size⟩

/-! ### route_asked: function 29 -/
def route_asked.j0 : Nat → ByteArray → Bool → Int → ByteArray → ByteArray → Int → Bool → Option (Bool × Int × ByteArray × ByteArray × Int × Bool)
  | 0, _, _, _, _, _, _, _ => none
  | k + 1, x1, x2, x1000, x1001, x1002, x1003, x1004 => if x2 = true then ((route_Query.f k x1).bind fun bt191 => (if bt191.2 = 0 then (if x1000 = 8 then (if (bt191.1.length : Int) = 1 then (if 0 < (bt191.1.length : Int) then (if ((rd_T32 bt191.1 0).f0).toList = ([102, 114, 111, 109] : List UInt8) then ((text_Digits.f ((rd_T32 bt191.1 0).f1) 999999999).bind fun bt197 => (some ((bt197.2 == 0), x1000, x1001, x1002, bt197.1, x1004))) else (some (false, x1000, x1001, x1002, x1003, x1004))) else (none)) else (some (false, x1000, x1001, x1002, x1003, x1004))) else (some (false, x1000, x1001, x1002, x1003, x1004))) else (some (false, x1000, x1001, x1002, x1003, x1004)))) else (some (true, x1000, x1001, x1002, x1003, x1004))
def route_asked.f (k : Nat) (s0_0 : Int) (s0_1 : ByteArray) (s0_2 : ByteArray) (s0_3 : Int) (s0_4 : Bool) (a1 : ByteArray) (a2 : Bool) : Option (Bool × Int × ByteArray × ByteArray × Int × Bool) := if s0_0 = 8 then (route_asked.j0 k a1 a2 s0_0 s0_1 s0_2 1 s0_4) else (route_asked.j0 k a1 a2 s0_0 s0_1 s0_2 s0_3 s0_4)
theorem route_asked.mono_l : ∀ k, (∀ y0 y1 y2 y3 y4 y5 y6, LeO (route_asked.j0 k y0 y1 y2 y3 y4 y5 y6) (route_asked.j0 (k + 1) y0 y1 y2 y3 y4 y5 y6))
  | 0 => fun _ _ _ _ _ _ _ r h => by simp [route_asked.j0] at h
  | k + 1 => by
    have ih0 := route_asked.mono_l k
    · intro y0 y1 y2 y3 y4 y5 y6
      unfold route_asked.j0
      repeat' first
      | (with_reducible exact ih0 _ _ _ _ _ _ _)
      | (with_reducible exact route_Query.mono _ _)
      | (with_reducible exact LeO.refl _)
      | (with_reducible exact LeO.none _)
      | (with_reducible refine LeO.ite ?_ ?_)
      | (with_reducible refine LeO.bind ?_ (fun _ => ?_))
      | exact ih0 _ _ _ _ _ _ _
      | exact route_Query.mono _ _
      | exact LeO.none _
      | refine LeO.ite ?_ ?_
      | refine LeO.bind ?_ (fun _ => ?_)
theorem route_asked.mono : ∀ a0 a1 a2 a3 a4 a5 a6 k, LeO (route_asked.f k a0 a1 a2 a3 a4 a5 a6) (route_asked.f (k + 1) a0 a1 a2 a3 a4 a5 a6) := by
  intro a0 a1 a2 a3 a4 a5 a6 k
  have ih0 := route_asked.mono_l k
  unfold route_asked.f
  repeat' first
      | (with_reducible exact ih0 _ _ _ _ _ _ _)
      | (with_reducible exact route_Query.mono _ _)
      | (with_reducible exact LeO.refl _)
      | (with_reducible exact LeO.none _)
      | (with_reducible refine LeO.ite ?_ ?_)
      | (with_reducible refine LeO.bind ?_ (fun _ => ?_))
      | exact ih0 _ _ _ _ _ _ _
      | exact route_Query.mono _ _
      | exact LeO.none _
      | refine LeO.ite ?_ ?_
      | refine LeO.bind ?_ (fun _ => ?_)
set_option maxHeartbeats 8000000 in
set_option maxRecDepth 100000 in
theorem route_asked.calls (k : Nat) (g : Nat) (s0_0 : Int) (s0_1 : ByteArray) (s0_2 : ByteArray) (s0_3 : Int) (s0_4 : Bool) (a1 : ByteArray) (a2 : Bool) (r1 : Bool) (r2 : Int) (r3 : ByteArray) (r4 : ByteArray) (r5 : Int) (r6 : Bool) (w0 w : World) (hI : IsS36 w0 w g s0_0 s0_1 s0_2 s0_3 s0_4) (hB : Below w0.heap.size w0 w) (h : route_asked.f k s0_0 s0_1 s0_2 s0_3 s0_4 a1 a2 = some (r1, r2, r3, r4, r5, r6)) :
    Calls Tryd.prog 29 #[.pointer (some ⟨g, 0, none⟩), .string a1, .bool a2] w fun e w' => e = .returned (.bool r1) ∧ IsS36 w0 w' g r2 r3 r4 r5 r6 ∧ Below w0.heap.size w0 w' ∧ KeepBut w w' g none := by
  have HI0 := Aside0.mk hI
  have HK := Aside0.mk (KeepBut.refl w g none)
  have HL := Aside0.mk hB.size
  clear hI
  have HW0 := Aside0.mk hB.size
  have HB := Aside0.mk hB
  clear hB
  have H : (if s0_0 = 8 then (route_asked.j0 k a1 a2 s0_0 s0_1 s0_2 1 s0_4) else (route_asked.j0 k a1 a2 s0_0 s0_1 s0_2 s0_3 s0_4)) = some (r1, r2, r3, r4, r5, r6) := h
  clear h
  have HC4 := Aside0.mk H
  clear H
  obtain ⟨HGz5, hgz5⟩ := HI0.out
  have hcz5_0 := cellS36_0 HGz5
  have hcz5_1 := cellS36_1 HGz5
  have hcz5_2 := cellS36_2 HGz5
  have hcz5_3 := cellS36_3 HGz5
  have hcz5_4 := cellS36_4 HGz5
  have hfz5_0 := blk_frozen HGz5 0
  have hfz5_1 := blk_frozen HGz5 1
  have hfz5_2 := blk_frozen HGz5 2
  have hfz5_3 := blk_frozen HGz5 3
  have hfz5_4 := blk_frozen HGz5 4
  clear HGz5 hgz5
  go_enter Tryd.func29, Tryd.ntmps29
  go_upto_if 14 with (fail)
  go_cut [] (fun wc => ∃ (kq : Nat) (x1003_3 : Int), Aside0 (route_asked.j0 kq a1 a2 s0_0 s0_1 s0_2 x1003_3 s0_4 = some (r1, r2, r3, r4, r5, r6)) ∧ Aside0 (kq ≤ k) ∧ Aside0 (IsS36 w0 wc g s0_0 s0_1 s0_2 x1003_3 s0_4) ∧ Aside0 (KeepBut w wc g none) ∧ Aside0 (Below w0.heap.size w0 wc))
  case first =>
    have H := HC4.out
    clear HC4
    by_cases c6 : s0_0 = 8
    · rw [if_pos c6] at H
      have c6b0 : (s0_0 == 8) = true := beq_iff_eq.mpr c6
      have c6b1 : (s0_0 != 8) = false := bne_eq_false_iff_eq.mpr c6
      clear c6
      (first | rw [c6b0] | (simp only [i64_w, i32_w]; rw [c6b0]) | skip)
      have H' := Aside0.mk H
      clear H
      obtain ⟨HGz7, hgz7⟩ := HI0.out
      have hcz7_0 := cellS36_0 HGz7
      have hcz7_1 := cellS36_1 HGz7
      have hcz7_2 := cellS36_2 HGz7
      have hcz7_3 := cellS36_3 HGz7
      have hcz7_4 := cellS36_4 HGz7
      have hfz7_0 := blk_frozen HGz7 0
      have hfz7_1 := blk_frozen HGz7 1
      have hfz7_2 := blk_frozen HGz7 2
      have hfz7_3 := blk_frozen HGz7 3
      have hfz7_4 := blk_frozen HGz7 4
      clear HGz7 hgz7
      go_wp2
      go_meet
      case rel => exact ⟨_, (1), H', ⟨by first | omega | exact Nat.le_refl _⟩, ⟨by repeat (first | (with_reducible first | exact HI0.out | apply IsS36.alloc | apply IsS36.drewN | apply IsS36.drew | apply IsS36.set_0 | apply IsS36.set_1 | apply IsS36.set_2 | apply IsS36.set_3 | apply IsS36.set_4) | exact HI0.out)⟩, ⟨by repeat (first | (with_reducible first | exact HK.out | apply KeepBut.set_ | apply keep_drewN | apply keep_drew | apply keep_alloc) | exact HK.out)⟩, ⟨by repeat (first | (with_reducible first | exact HB.out | apply below_alloc | apply pw_below_drewN | apply below_drew1 | refine below_set ?_ (IsS36.ge HI0.out)) | exact HB.out)⟩⟩
    · rw [if_neg c6] at H
      have c6b0 : (s0_0 == 8) = false := beq_eq_false_iff_ne.mpr c6
      have c6b1 : (s0_0 != 8) = true := bne_iff_ne.mpr c6
      (first | rw [c6b0] | (simp only [i64_w, i32_w]; rw [c6b0]) | skip)
      have H' := Aside0.mk H
      clear H
      go_wp2
      go_meet
      case rel => exact ⟨_, (s0_3), H', ⟨by first | omega | exact Nat.le_refl _⟩, ⟨by repeat (first | (with_reducible first | exact HI0.out | apply IsS36.alloc | apply IsS36.drewN | apply IsS36.drew | apply IsS36.set_0 | apply IsS36.set_1 | apply IsS36.set_2 | apply IsS36.set_3 | apply IsS36.set_4) | exact HI0.out)⟩, ⟨by repeat (first | (with_reducible first | exact HK.out | apply KeepBut.set_ | apply keep_drewN | apply keep_drew | apply keep_alloc) | exact HK.out)⟩, ⟨by repeat (first | (with_reducible first | exact HB.out | apply below_alloc | apply pw_below_drewN | apply below_drew1 | refine below_set ?_ (IsS36.ge HI0.out)) | exact HB.out)⟩⟩
  case rest =>
    clear HC4
    try clear c2
    try clear p2
    try clear c6
    try clear c6b0
    try clear c6b1
    try clear hcz5_0
    try clear hcz5_1
    try clear hcz5_2
    try clear hcz5_3
    try clear hcz5_4
    try clear hcz7_0
    try clear hcz7_1
    try clear hcz7_2
    try clear hcz7_3
    try clear hcz7_4
    try clear hfz5_0
    try clear hfz5_1
    try clear hfz5_2
    try clear hfz5_3
    try clear hfz5_4
    try clear hfz7_0
    try clear hfz7_1
    try clear hfz7_2
    try clear hfz7_3
    try clear hfz7_4
    obtain ⟨kq, x1003_3, HA, HJ3, HI0, HK, HB⟩ := hcut
    cases kq with
    | zero => exact absurd HA.out (by simp [route_asked.j0])
    | succ kj3 =>
      have H := HA.out
      clear HA
      simp only [route_asked.j0] at H
      by_cases c8 : a2 = true
      · subst c8
        have H1 : ((route_Query.f kj3 a1).bind fun bt191 => (if bt191.2 = 0 then (if s0_0 = 8 then (if (bt191.1.length : Int) = 1 then (if 0 < (bt191.1.length : Int) then (if ((rd_T32 bt191.1 0).f0).toList = ([102, 114, 111, 109] : List UInt8) then ((text_Digits.f ((rd_T32 bt191.1 0).f1) 999999999).bind fun bt197 => (some ((bt197.2 == 0), s0_0, s0_1, s0_2, bt197.1, s0_4))) else (some (false, s0_0, s0_1, s0_2, x1003_3, s0_4))) else (none)) else (some (false, s0_0, s0_1, s0_2, x1003_3, s0_4))) else (some (false, s0_0, s0_1, s0_2, x1003_3, s0_4))) else (some (false, s0_0, s0_1, s0_2, x1003_3, s0_4)))) = some (r1, r2, r3, r4, r5, r6) := by rw [if_pos rfl] at H; exact H
        clear H
        have H := H1
        clear H1
        replace H := Option.bind_eq_some_iff.mp H
        obtain ⟨⟨t191, t192⟩, A90, H⟩ := H
        replace H : (if t192 = 0 then (if s0_0 = 8 then (if (t191.length : Int) = 1 then (if 0 < (t191.length : Int) then (if ((rd_T32 t191 0).f0).toList = ([102, 114, 111, 109] : List UInt8) then ((text_Digits.f ((rd_T32 t191 0).f1) 999999999).bind fun bt197 => (some ((bt197.2 == 0), s0_0, s0_1, s0_2, bt197.1, s0_4))) else (some (false, s0_0, s0_1, s0_2, x1003_3, s0_4))) else (none)) else (some (false, s0_0, s0_1, s0_2, x1003_3, s0_4))) else (some (false, s0_0, s0_1, s0_2, x1003_3, s0_4))) else (some (false, s0_0, s0_1, s0_2, x1003_3, s0_4))) = some (r1, r2, r3, r4, r5, r6) := H
        have A9 := Aside0.mk A90
        clear A90
        by_cases c10 : t192 = 0
        · rw [if_pos c10] at H
          have c10b0 : (t192 == 0) = true := beq_iff_eq.mpr c10
          have c10b1 : (t192 != 0) = false := bne_eq_false_iff_eq.mpr c10
          clear c10
          by_cases c11 : s0_0 = 8
          · rw [if_pos c11] at H
            have c11b0 : (s0_0 == 8) = true := beq_iff_eq.mpr c11
            have c11b1 : (s0_0 != 8) = false := bne_eq_false_iff_eq.mpr c11
            clear c11
            by_cases c12 : (t191.length : Int) = 1
            · rw [if_pos c12] at H
              have c12b0 : ((t191.length : Int) == 1) = true := beq_iff_eq.mpr c12
              have c12b1 : ((t191.length : Int) != 1) = false := bne_eq_false_iff_eq.mpr c12
              clear c12
              by_cases c13 : 0 < (t191.length : Int)
              · rw [if_pos c13] at H
                have c13b0 : decide (0 < (t191.length : Int)) = true := decide_eq_true c13
                have c13b1 : decide (0 < t191.length) = true := decide_eq_true (by omega)
                clear c13
                by_cases c14 : ((rd_T32 t191 0).f0).toList = ([102, 114, 111, 109] : List UInt8)
                · rw [if_pos c14] at H
                  have c14b0 : (((rd_T32 t191 0).f0).toList == ([102, 114, 111, 109] : List UInt8)) = true := beq_iff_eq.mpr c14
                  have c14b1 : (((rd_T32 t191 0).f0).toList != ([102, 114, 111, 109] : List UInt8)) = false := bne_eq_false_iff_eq.mpr c14
                  clear c14
                  replace H := Option.bind_eq_some_iff.mp H
                  obtain ⟨⟨t197, t198⟩, A150, H⟩ := H
                  replace H : (some ((t198 == 0), s0_0, s0_1, s0_2, t197, s0_4)) = some (r1, r2, r3, r4, r5, r6) := H
                  have A15 := Aside0.mk A150
                  clear A150
                  simp only [Option.some.injEq, Prod.mk.injEq] at H
                  obtain ⟨rfl, rfl, rfl, rfl, rfl, rfl⟩ := H
                  go_wp2_with (first | ((with_reducible refine gate_callee (f := 11) rfl ?_); refine goesL_ (some 22) rfl rfl Tryd.func11 (by kernel_rfl) rfl #[.string a1] rfl (by (try simp only [List.map_toArray, List.map_cons, List.map_nil]); first | done | rfl | (simp only [List.length_drop, List.length_take]; rfl)) ?_; (with_reducible refine (route_Query.calls kj3 a1 t191 t192 _ A9.out).mono ?_); rintro e w16 ⟨v193, rfl, ho0, hb⟩; refine ⟨_, rfl, ?_⟩; have n0_ := Aside0.mk (Kd.R_lower ho0 (keep_size (w := w) (g := g) (row := none) (by repeat (first | (with_reducible first | exact HK.out | apply KeepBut.set_ | apply keep_drewN | apply keep_drew | apply keep_alloc) | exact HK.out)))); have n1_ := Aside0.mk (IsS36.below (by repeat (first | (with_reducible first | exact HI0.out | apply IsS36.alloc | apply IsS36.drewN | apply IsS36.drew | apply IsS36.set_0 | apply IsS36.set_1 | apply IsS36.set_2 | apply IsS36.set_3 | apply IsS36.set_4) | exact HI0.out)) hb); have n2_ := Aside0.mk (KeepBut.trans (by repeat (first | (with_reducible first | exact HK.out | apply KeepBut.set_ | apply keep_drewN | apply keep_drew | apply keep_alloc) | exact HK.out)) (KeepBut.of_below hb g none) (.inl rfl)); have n3_ := Aside0.mk (below_step (by repeat (first | (with_reducible first | exact HB.out | apply below_alloc | apply pw_below_drewN | apply below_drew1 | refine below_set ?_ (IsS36.ge HI0.out)) | exact HB.out)) hb); clear HI0; clear HK; clear HB; have HO194 := n0_; have HI0 := n1_; have HK := n2_; have HB := n3_; clear n0_ n1_ n2_ n3_; (try clear hb); (try clear hb2); (try clear hk); (try clear hi); (try clear ho0); obtain ⟨HGz17, hgz17⟩ := HI0.out; have hcz17_0 := cellS36_0 HGz17; have hcz17_1 := cellS36_1 HGz17; have hcz17_2 := cellS36_2 HGz17; have hcz17_3 := cellS36_3 HGz17; have hcz17_4 := cellS36_4 HGz17; have hfz17_0 := blk_frozen HGz17 0; have hfz17_1 := blk_frozen HGz17 1; have hfz17_2 := blk_frozen HGz17 2; have hfz17_3 := blk_frozen HGz17 3; have hfz17_4 := blk_frozen HGz17 4; clear HGz17 hgz17; obtain ⟨Ao18, co18, eo18⟩ := Kd.R_slice HO194.out; subst eo18; have p195 : 0 ≤ (0 : Int) := (by omega); have q195 : 0 < (t191.length : Int) := of_decide_eq_true (by first | (with_reducible assumption) | assumption); obtain ⟨ad195, e195, hx195_0, hx195_1⟩ := at_T32 (Kd.R_reads' HO194.out).2.2 0 p195 q195; cases e195; have qi195 : (0 < t191.length) = True := eq_true (by omega); (try rw [show ((0 : Int)).toNat = 0 from rfl] at hx195_0); (try rw [show 0 * 2 = 0 from rfl] at hx195_0); (try rw [Addr.add_zero'] at hx195_0); (try rw [show ((0 : Int)).toNat = 0 from rfl] at hx195_1); (try rw [show 0 * 2 = 0 from rfl] at hx195_1); (try rw [Addr.add_zero'] at hx195_1); replace p195 := eq_true p195; replace q195 := eq_true q195; have p196 : 0 ≤ (0 : Int) := (by omega); have q196 : 0 < (t191.length : Int) := of_decide_eq_true (by first | (with_reducible assumption) | assumption); obtain ⟨ad196, e196, hx196_0, hx196_1⟩ := at_T32 (Kd.R_reads' HO194.out).2.2 0 p196 q196; obtain rfl : ad195 = ad196 := (by injection e196); have qi196 : (0 < t191.length) = True := eq_true (by omega); (try rw [show ((0 : Int)).toNat = 0 from rfl] at hx196_0); (try rw [show 0 * 2 = 0 from rfl] at hx196_0); (try rw [Addr.add_zero'] at hx196_0); (try rw [show ((0 : Int)).toNat = 0 from rfl] at hx196_1); (try rw [show 0 * 2 = 0 from rfl] at hx196_1); (try rw [Addr.add_zero'] at hx196_1); replace p196 := eq_true p196; replace q196 := eq_true q196) | ((with_reducible refine gate_callee (f := 47) rfl ?_); refine goesL_ (some 51) rfl rfl Tryd.func47 (by kernel_rfl) rfl #[.string ((rd_T32 t191 0).f1), .int .i64 999999999] rfl (by (try simp only [List.map_toArray, List.map_cons, List.map_nil]); first | done | rfl | (simp only [List.length_drop, List.length_take]; rfl)) ?_; (with_reducible refine (text_Digits.calls ((rd_T32 t191 0).f1) 999999999 t197 t198 _ A15.out).mono ?_); rintro e w19 ⟨rfl, hb⟩; refine ⟨_, rfl, ?_⟩; have n0_ := Aside0.mk (Kd.R_below (by (with_reducible repeat (first | apply Kd.R_alloc | apply Kd.R_drewN | apply Kd.R_drew)); exact HO194.out) hb); have n1_ := Aside0.mk (IsS36.below (by repeat (first | (with_reducible first | exact HI0.out | apply IsS36.alloc | apply IsS36.drewN | apply IsS36.drew | apply IsS36.set_0 | apply IsS36.set_1 | apply IsS36.set_2 | apply IsS36.set_3 | apply IsS36.set_4) | exact HI0.out)) hb); have n2_ := Aside0.mk (KeepBut.trans (by repeat (first | (with_reducible first | exact HK.out | apply KeepBut.set_ | apply keep_drewN | apply keep_drew | apply keep_alloc) | exact HK.out)) (KeepBut.of_below hb g none) (.inl rfl)); have n3_ := Aside0.mk (below_step (by repeat (first | (with_reducible first | exact HB.out | apply below_alloc | apply pw_below_drewN | apply below_drew1 | refine below_set ?_ (IsS36.ge HI0.out)) | exact HB.out)) hb); clear HO194; clear HI0; clear HK; clear HB; have HO194 := n0_; have HI0 := n1_; have HK := n2_; have HB := n3_; clear n0_ n1_ n2_ n3_; (try clear hb); (try clear hb2); (try clear hk); (try clear hi); obtain ⟨HGz20, hgz20⟩ := HI0.out; have hcz20_0 := cellS36_0 HGz20; have hcz20_1 := cellS36_1 HGz20; have hcz20_2 := cellS36_2 HGz20; have hcz20_3 := cellS36_3 HGz20; have hcz20_4 := cellS36_4 HGz20; have hfz20_0 := blk_frozen HGz20 0; have hfz20_1 := blk_frozen HGz20 1; have hfz20_2 := blk_frozen HGz20 2; have hfz20_3 := blk_frozen HGz20 3; have hfz20_4 := blk_frozen HGz20 4; clear HGz20 hgz20))
                  go_ret
                  exact ⟨by first | rfl | (simp [errW_none, errW_some] <;> rfl) | (simp [*, errW_none, errW_some] <;> rfl), by repeat (first | (with_reducible first | exact HI0.out | apply IsS36.alloc | apply IsS36.drewN | apply IsS36.drew | apply IsS36.set_0 | apply IsS36.set_1 | apply IsS36.set_2 | apply IsS36.set_3 | apply IsS36.set_4) | exact HI0.out), by repeat (first | (with_reducible first | exact HB.out | apply below_alloc | apply pw_below_drewN | apply below_drew1 | refine below_set ?_ (IsS36.ge HI0.out)) | exact HB.out), by repeat (first | (with_reducible first | exact HK.out | apply KeepBut.set_ | apply keep_drewN | apply keep_drew | apply keep_alloc) | exact HK.out)⟩
                · rw [if_neg c14] at H
                  have c14b0 : (((rd_T32 t191 0).f0).toList == ([102, 114, 111, 109] : List UInt8)) = false := beq_eq_false_iff_ne.mpr c14
                  have c14b1 : (((rd_T32 t191 0).f0).toList != ([102, 114, 111, 109] : List UInt8)) = true := bne_iff_ne.mpr c14
                  simp only [Option.some.injEq, Prod.mk.injEq] at H
                  obtain ⟨rfl, rfl, rfl, rfl, rfl, rfl⟩ := H
                  go_wp2_with (first | ((with_reducible refine gate_callee (f := 11) rfl ?_); refine goesL_ (some 22) rfl rfl Tryd.func11 (by kernel_rfl) rfl #[.string a1] rfl (by (try simp only [List.map_toArray, List.map_cons, List.map_nil]); first | done | rfl | (simp only [List.length_drop, List.length_take]; rfl)) ?_; (with_reducible refine (route_Query.calls kj3 a1 t191 t192 _ A9.out).mono ?_); rintro e w21 ⟨v193, rfl, ho0, hb⟩; refine ⟨_, rfl, ?_⟩; have n0_ := Aside0.mk (Kd.R_lower ho0 (keep_size (w := w) (g := g) (row := none) (by repeat (first | (with_reducible first | exact HK.out | apply KeepBut.set_ | apply keep_drewN | apply keep_drew | apply keep_alloc) | exact HK.out)))); have n1_ := Aside0.mk (IsS36.below (by repeat (first | (with_reducible first | exact HI0.out | apply IsS36.alloc | apply IsS36.drewN | apply IsS36.drew | apply IsS36.set_0 | apply IsS36.set_1 | apply IsS36.set_2 | apply IsS36.set_3 | apply IsS36.set_4) | exact HI0.out)) hb); have n2_ := Aside0.mk (KeepBut.trans (by repeat (first | (with_reducible first | exact HK.out | apply KeepBut.set_ | apply keep_drewN | apply keep_drew | apply keep_alloc) | exact HK.out)) (KeepBut.of_below hb g none) (.inl rfl)); have n3_ := Aside0.mk (below_step (by repeat (first | (with_reducible first | exact HB.out | apply below_alloc | apply pw_below_drewN | apply below_drew1 | refine below_set ?_ (IsS36.ge HI0.out)) | exact HB.out)) hb); clear HI0; clear HK; clear HB; have HO194 := n0_; have HI0 := n1_; have HK := n2_; have HB := n3_; clear n0_ n1_ n2_ n3_; (try clear hb); (try clear hb2); (try clear hk); (try clear hi); (try clear ho0); obtain ⟨HGz22, hgz22⟩ := HI0.out; have hcz22_0 := cellS36_0 HGz22; have hcz22_1 := cellS36_1 HGz22; have hcz22_2 := cellS36_2 HGz22; have hcz22_3 := cellS36_3 HGz22; have hcz22_4 := cellS36_4 HGz22; have hfz22_0 := blk_frozen HGz22 0; have hfz22_1 := blk_frozen HGz22 1; have hfz22_2 := blk_frozen HGz22 2; have hfz22_3 := blk_frozen HGz22 3; have hfz22_4 := blk_frozen HGz22 4; clear HGz22 hgz22; obtain ⟨Ao23, co23, eo23⟩ := Kd.R_slice HO194.out; subst eo23; have p195 : 0 ≤ (0 : Int) := (by omega); have q195 : 0 < (t191.length : Int) := of_decide_eq_true (by first | (with_reducible assumption) | assumption); obtain ⟨ad195, e195, hx195_0, hx195_1⟩ := at_T32 (Kd.R_reads' HO194.out).2.2 0 p195 q195; cases e195; have qi195 : (0 < t191.length) = True := eq_true (by omega); (try rw [show ((0 : Int)).toNat = 0 from rfl] at hx195_0); (try rw [show 0 * 2 = 0 from rfl] at hx195_0); (try rw [Addr.add_zero'] at hx195_0); (try rw [show ((0 : Int)).toNat = 0 from rfl] at hx195_1); (try rw [show 0 * 2 = 0 from rfl] at hx195_1); (try rw [Addr.add_zero'] at hx195_1); replace p195 := eq_true p195; replace q195 := eq_true q195))
                  go_ret
                  exact ⟨by first | rfl | (simp [errW_none, errW_some] <;> rfl) | (simp [*, errW_none, errW_some] <;> rfl), by repeat (first | (with_reducible first | exact HI0.out | apply IsS36.alloc | apply IsS36.drewN | apply IsS36.drew | apply IsS36.set_0 | apply IsS36.set_1 | apply IsS36.set_2 | apply IsS36.set_3 | apply IsS36.set_4) | exact HI0.out), by repeat (first | (with_reducible first | exact HB.out | apply below_alloc | apply pw_below_drewN | apply below_drew1 | refine below_set ?_ (IsS36.ge HI0.out)) | exact HB.out), by repeat (first | (with_reducible first | exact HK.out | apply KeepBut.set_ | apply keep_drewN | apply keep_drew | apply keep_alloc) | exact HK.out)⟩
              · rw [if_neg c13] at H
                exact absurd H (by simp)
            · rw [if_neg c12] at H
              have c12b0 : ((t191.length : Int) == 1) = false := beq_eq_false_iff_ne.mpr c12
              have c12b1 : ((t191.length : Int) != 1) = true := bne_iff_ne.mpr c12
              simp only [Option.some.injEq, Prod.mk.injEq] at H
              obtain ⟨rfl, rfl, rfl, rfl, rfl, rfl⟩ := H
              go_wp2_with (first | ((with_reducible refine gate_callee (f := 11) rfl ?_); refine goesL_ (some 22) rfl rfl Tryd.func11 (by kernel_rfl) rfl #[.string a1] rfl (by (try simp only [List.map_toArray, List.map_cons, List.map_nil]); first | done | rfl | (simp only [List.length_drop, List.length_take]; rfl)) ?_; (with_reducible refine (route_Query.calls kj3 a1 t191 t192 _ A9.out).mono ?_); rintro e w24 ⟨v193, rfl, ho0, hb⟩; refine ⟨_, rfl, ?_⟩; have n0_ := Aside0.mk (Kd.R_lower ho0 (keep_size (w := w) (g := g) (row := none) (by repeat (first | (with_reducible first | exact HK.out | apply KeepBut.set_ | apply keep_drewN | apply keep_drew | apply keep_alloc) | exact HK.out)))); have n1_ := Aside0.mk (IsS36.below (by repeat (first | (with_reducible first | exact HI0.out | apply IsS36.alloc | apply IsS36.drewN | apply IsS36.drew | apply IsS36.set_0 | apply IsS36.set_1 | apply IsS36.set_2 | apply IsS36.set_3 | apply IsS36.set_4) | exact HI0.out)) hb); have n2_ := Aside0.mk (KeepBut.trans (by repeat (first | (with_reducible first | exact HK.out | apply KeepBut.set_ | apply keep_drewN | apply keep_drew | apply keep_alloc) | exact HK.out)) (KeepBut.of_below hb g none) (.inl rfl)); have n3_ := Aside0.mk (below_step (by repeat (first | (with_reducible first | exact HB.out | apply below_alloc | apply pw_below_drewN | apply below_drew1 | refine below_set ?_ (IsS36.ge HI0.out)) | exact HB.out)) hb); clear HI0; clear HK; clear HB; have HO194 := n0_; have HI0 := n1_; have HK := n2_; have HB := n3_; clear n0_ n1_ n2_ n3_; (try clear hb); (try clear hb2); (try clear hk); (try clear hi); (try clear ho0); obtain ⟨HGz25, hgz25⟩ := HI0.out; have hcz25_0 := cellS36_0 HGz25; have hcz25_1 := cellS36_1 HGz25; have hcz25_2 := cellS36_2 HGz25; have hcz25_3 := cellS36_3 HGz25; have hcz25_4 := cellS36_4 HGz25; have hfz25_0 := blk_frozen HGz25 0; have hfz25_1 := blk_frozen HGz25 1; have hfz25_2 := blk_frozen HGz25 2; have hfz25_3 := blk_frozen HGz25 3; have hfz25_4 := blk_frozen HGz25 4; clear HGz25 hgz25; obtain ⟨Ao26, co26, eo26⟩ := Kd.R_slice HO194.out; subst eo26))
              go_ret
              exact ⟨by first | rfl | (simp [errW_none, errW_some] <;> rfl) | (simp [*, errW_none, errW_some] <;> rfl), by repeat (first | (with_reducible first | exact HI0.out | apply IsS36.alloc | apply IsS36.drewN | apply IsS36.drew | apply IsS36.set_0 | apply IsS36.set_1 | apply IsS36.set_2 | apply IsS36.set_3 | apply IsS36.set_4) | exact HI0.out), by repeat (first | (with_reducible first | exact HB.out | apply below_alloc | apply pw_below_drewN | apply below_drew1 | refine below_set ?_ (IsS36.ge HI0.out)) | exact HB.out), by repeat (first | (with_reducible first | exact HK.out | apply KeepBut.set_ | apply keep_drewN | apply keep_drew | apply keep_alloc) | exact HK.out)⟩
          · rw [if_neg c11] at H
            have c11b0 : (s0_0 == 8) = false := beq_eq_false_iff_ne.mpr c11
            have c11b1 : (s0_0 != 8) = true := bne_iff_ne.mpr c11
            simp only [Option.some.injEq, Prod.mk.injEq] at H
            obtain ⟨rfl, rfl, rfl, rfl, rfl, rfl⟩ := H
            go_wp2_with (first | ((with_reducible refine gate_callee (f := 11) rfl ?_); refine goesL_ (some 22) rfl rfl Tryd.func11 (by kernel_rfl) rfl #[.string a1] rfl (by (try simp only [List.map_toArray, List.map_cons, List.map_nil]); first | done | rfl | (simp only [List.length_drop, List.length_take]; rfl)) ?_; (with_reducible refine (route_Query.calls kj3 a1 t191 t192 _ A9.out).mono ?_); rintro e w27 ⟨v193, rfl, ho0, hb⟩; refine ⟨_, rfl, ?_⟩; have n0_ := Aside0.mk (Kd.R_lower ho0 (keep_size (w := w) (g := g) (row := none) (by repeat (first | (with_reducible first | exact HK.out | apply KeepBut.set_ | apply keep_drewN | apply keep_drew | apply keep_alloc) | exact HK.out)))); have n1_ := Aside0.mk (IsS36.below (by repeat (first | (with_reducible first | exact HI0.out | apply IsS36.alloc | apply IsS36.drewN | apply IsS36.drew | apply IsS36.set_0 | apply IsS36.set_1 | apply IsS36.set_2 | apply IsS36.set_3 | apply IsS36.set_4) | exact HI0.out)) hb); have n2_ := Aside0.mk (KeepBut.trans (by repeat (first | (with_reducible first | exact HK.out | apply KeepBut.set_ | apply keep_drewN | apply keep_drew | apply keep_alloc) | exact HK.out)) (KeepBut.of_below hb g none) (.inl rfl)); have n3_ := Aside0.mk (below_step (by repeat (first | (with_reducible first | exact HB.out | apply below_alloc | apply pw_below_drewN | apply below_drew1 | refine below_set ?_ (IsS36.ge HI0.out)) | exact HB.out)) hb); clear HI0; clear HK; clear HB; have HO194 := n0_; have HI0 := n1_; have HK := n2_; have HB := n3_; clear n0_ n1_ n2_ n3_; (try clear hb); (try clear hb2); (try clear hk); (try clear hi); (try clear ho0); obtain ⟨HGz28, hgz28⟩ := HI0.out; have hcz28_0 := cellS36_0 HGz28; have hcz28_1 := cellS36_1 HGz28; have hcz28_2 := cellS36_2 HGz28; have hcz28_3 := cellS36_3 HGz28; have hcz28_4 := cellS36_4 HGz28; have hfz28_0 := blk_frozen HGz28 0; have hfz28_1 := blk_frozen HGz28 1; have hfz28_2 := blk_frozen HGz28 2; have hfz28_3 := blk_frozen HGz28 3; have hfz28_4 := blk_frozen HGz28 4; clear HGz28 hgz28))
            go_ret
            exact ⟨by first | rfl | (simp [errW_none, errW_some] <;> rfl) | (simp [*, errW_none, errW_some] <;> rfl), by repeat (first | (with_reducible first | exact HI0.out | apply IsS36.alloc | apply IsS36.drewN | apply IsS36.drew | apply IsS36.set_0 | apply IsS36.set_1 | apply IsS36.set_2 | apply IsS36.set_3 | apply IsS36.set_4) | exact HI0.out), by repeat (first | (with_reducible first | exact HB.out | apply below_alloc | apply pw_below_drewN | apply below_drew1 | refine below_set ?_ (IsS36.ge HI0.out)) | exact HB.out), by repeat (first | (with_reducible first | exact HK.out | apply KeepBut.set_ | apply keep_drewN | apply keep_drew | apply keep_alloc) | exact HK.out)⟩
        · rw [if_neg c10] at H
          have c10b0 : (t192 == 0) = false := beq_eq_false_iff_ne.mpr c10
          have c10b1 : (t192 != 0) = true := bne_iff_ne.mpr c10
          simp only [Option.some.injEq, Prod.mk.injEq] at H
          obtain ⟨rfl, rfl, rfl, rfl, rfl, rfl⟩ := H
          go_wp2_with (first | ((with_reducible refine gate_callee (f := 11) rfl ?_); refine goesL_ (some 22) rfl rfl Tryd.func11 (by kernel_rfl) rfl #[.string a1] rfl (by (try simp only [List.map_toArray, List.map_cons, List.map_nil]); first | done | rfl | (simp only [List.length_drop, List.length_take]; rfl)) ?_; (with_reducible refine (route_Query.calls kj3 a1 t191 t192 _ A9.out).mono ?_); rintro e w29 ⟨v193, rfl, ho0, hb⟩; refine ⟨_, rfl, ?_⟩; have n0_ := Aside0.mk (Kd.R_lower ho0 (keep_size (w := w) (g := g) (row := none) (by repeat (first | (with_reducible first | exact HK.out | apply KeepBut.set_ | apply keep_drewN | apply keep_drew | apply keep_alloc) | exact HK.out)))); have n1_ := Aside0.mk (IsS36.below (by repeat (first | (with_reducible first | exact HI0.out | apply IsS36.alloc | apply IsS36.drewN | apply IsS36.drew | apply IsS36.set_0 | apply IsS36.set_1 | apply IsS36.set_2 | apply IsS36.set_3 | apply IsS36.set_4) | exact HI0.out)) hb); have n2_ := Aside0.mk (KeepBut.trans (by repeat (first | (with_reducible first | exact HK.out | apply KeepBut.set_ | apply keep_drewN | apply keep_drew | apply keep_alloc) | exact HK.out)) (KeepBut.of_below hb g none) (.inl rfl)); have n3_ := Aside0.mk (below_step (by repeat (first | (with_reducible first | exact HB.out | apply below_alloc | apply pw_below_drewN | apply below_drew1 | refine below_set ?_ (IsS36.ge HI0.out)) | exact HB.out)) hb); clear HI0; clear HK; clear HB; have HO194 := n0_; have HI0 := n1_; have HK := n2_; have HB := n3_; clear n0_ n1_ n2_ n3_; (try clear hb); (try clear hb2); (try clear hk); (try clear hi); (try clear ho0)))
          go_ret
          exact ⟨by first | rfl | (simp [errW_none, errW_some] <;> rfl) | (simp [*, errW_none, errW_some] <;> rfl), by repeat (first | (with_reducible first | exact HI0.out | apply IsS36.alloc | apply IsS36.drewN | apply IsS36.drew | apply IsS36.set_0 | apply IsS36.set_1 | apply IsS36.set_2 | apply IsS36.set_3 | apply IsS36.set_4) | exact HI0.out), by repeat (first | (with_reducible first | exact HB.out | apply below_alloc | apply pw_below_drewN | apply below_drew1 | refine below_set ?_ (IsS36.ge HI0.out)) | exact HB.out), by repeat (first | (with_reducible first | exact HK.out | apply KeepBut.set_ | apply keep_drewN | apply keep_drew | apply keep_alloc) | exact HK.out)⟩
      · replace c8 := Bool.eq_false_iff.mpr c8
        subst c8
        have H1 : (some (true, s0_0, s0_1, s0_2, x1003_3, s0_4)) = some (r1, r2, r3, r4, r5, r6) := by rw [if_neg (show ¬ (false = true) by decide)] at H; exact H
        clear H
        have H := H1
        clear H1
        simp only [Option.some.injEq, Prod.mk.injEq] at H
        obtain ⟨rfl, rfl, rfl, rfl, rfl, rfl⟩ := H
        go_wp2
        go_ret
        exact ⟨by first | rfl | (simp [errW_none, errW_some] <;> rfl) | (simp [*, errW_none, errW_some] <;> rfl), by repeat (first | (with_reducible first | exact HI0.out | apply IsS36.alloc | apply IsS36.drewN | apply IsS36.drew | apply IsS36.set_0 | apply IsS36.set_1 | apply IsS36.set_2 | apply IsS36.set_3 | apply IsS36.set_4) | exact HI0.out), by repeat (first | (with_reducible first | exact HB.out | apply below_alloc | apply pw_below_drewN | apply below_drew1 | refine below_set ?_ (IsS36.ge HI0.out)) | exact HB.out), by repeat (first | (with_reducible first | exact HK.out | apply KeepBut.set_ | apply keep_drewN | apply keep_drew | apply keep_alloc) | exact HK.out)⟩

end Go.Proofs.YtdbbgdgjmlcgcaaDoor.PRouteB
