-- Printed by a program of this claim (wip/printx.py over the print of the kit), with contracts of its own.
import Derived.Test.YtdbbgdgjmlcgcaaDoorPRouteEx0
import Derived.Test.YtdbbgdgjmlcgcaaDoorPRouteEx2
import Derived.Test.YtdbbgdgjmlcgcaaDoorPRouteEx4
import Derived.Test.YtdbbgdgjmlcgcaaDoorPRouteEx5
import Derived.Test.YtdbbgdgjmlcgcaaDoorPRouteEx7
namespace Go.Proofs.YtdbbgdgjmlcgcaaDoor.PRouteE
open Go.RowKit Go.Proofs.YtdbbgdgjmlcgcaaDoorW.PrintWords Go.Proofs.YtdbbgdgjmlcgcaaDoorW.PrintLast Go.Proofs.YtdbbgdgjmlcgcaaDoorW.PrintMore
attribute [local go_sem] max2_int min2_int max_two min_two max_three min_three max_four min_four   -- for this text's walks alone
set_option linter.unusedVariables false
set_option linter.unusedSimpArgs false

/-! ### atriumlaw20_awake: function 9: a contract of my own -/
/-- What of two words is the lesser stands first. -/
theorem sorted_two : slices_Sort_string_string.f [(⟨#[80, 79, 83, 84]⟩ : ByteArray), (⟨#[68, 69, 76, 69, 84, 69]⟩ : ByteArray)] = some [(⟨#[68, 69, 76, 69, 84, 69]⟩ : ByteArray), (⟨#[80, 79, 83, 84]⟩ : ByteArray)] := by
  unfold slices_Sort_string_string.f
  rw [if_pos (by decide)]
  have e : (List.map (fun x : ByteArray => x.data.toList) [(⟨#[80, 79, 83, 84]⟩ : ByteArray), (⟨#[68, 69, 76, 69, 84, 69]⟩ : ByteArray)]).mergeSort (fun x y => decide (x ≤ y)) = [[68, 69, 76, 69, 84, 69], [80, 79, 83, 84]] := by
    show List.mergeSort [[80, 79, 83, 84], [68, 69, 76, 69, 84, 69]] (fun (x y : List UInt8) => decide (x ≤ y)) = _
    have hle : ¬ ([80, 79, 83, 84] : List UInt8) ≤ [68, 69, 76, 69, 84, 69] := by decide
    simp [List.mergeSort, List.MergeSort.Internal.splitInTwo, List.merge, hle]
  rw [e]
  rfl
theorem methods_awake : route_Methods.f 40 (⟨#[47, 115, 101, 115, 115, 105, 111, 110, 115]⟩ : ByteArray) = some [(⟨#[68, 69, 76, 69, 84, 69]⟩ : ByteArray), (⟨#[80, 79, 83, 84]⟩ : ByteArray)] := by
  have h : route_Methods.f 40 (⟨#[47, 115, 101, 115, 115, 105, 111, 110, 115]⟩ : ByteArray) = (slices_Sort_string_string.f [(⟨#[80, 79, 83, 84]⟩ : ByteArray), (⟨#[68, 69, 76, 69, 84, 69]⟩ : ByteArray)]).bind fun t => some t := by kernel_rfl
  rw [h, sorted_two]
  rfl

def atriumlaw20_awake.f : Option Bool := some true
set_option maxHeartbeats 4000000 in
set_option maxRecDepth 100000 in
theorem atriumlaw20_awake.calls (r : Bool) (w : World) (h : atriumlaw20_awake.f = some r) :
    Calls Tryd.prog 9 #[] w fun e w' => e = .returned (.bool r) ∧ Below w.heap.size w w' := by
  obtain rfl := Option.some.inj h
  have k1 := Aside0.mk (fun W => route_Find.calls 40 (⟨#[71, 69, 84]⟩ : ByteArray) (⟨#[47, 115, 101, 115, 115, 105, 111, 110, 115, 47, 97, 37, 50, 70, 98]⟩ : ByteArray) 2 ⟨#[97, 47, 98]⟩ ⟨#[]⟩ 0 false 200 W (by kernel_rfl))
  have k2 := Aside0.mk (fun W => route_Find.calls 40 (⟨#[80, 85, 84]⟩ : ByteArray) (⟨#[47, 115, 101, 115, 115, 105, 111, 110, 115]⟩ : ByteArray) 0 ⟨#[]⟩ ⟨#[]⟩ 0 false 405 W (by kernel_rfl))
  have k3 := Aside0.mk (fun W => route_Find.calls 40 (⟨#[71, 69, 84]⟩ : ByteArray) (⟨#[47, 97, 117, 100, 105, 116, 63, 102, 114, 111, 109, 61, 48, 49]⟩ : ByteArray) 0 ⟨#[]⟩ ⟨#[]⟩ 0 false 400 W (by kernel_rfl))
  have k4 := Aside0.mk (fun W => route_Find.calls 40 (⟨#[71, 69, 84]⟩ : ByteArray) (⟨#[47, 110, 111, 116, 104, 105, 110, 103]⟩ : ByteArray) 0 ⟨#[]⟩ ⟨#[]⟩ 0 false 404 W (by kernel_rfl))
  have k5 := Aside0.mk (fun W => route_Methods.calls 40 (⟨#[47, 115, 101, 115, 115, 105, 111, 110, 115]⟩ : ByteArray) _ W methods_awake)
  go_enter Tryd.func9, Tryd.ntmps9
  go_wp2_with fail
  refine (k1.out _).mono ?_
  rintro e w1 ⟨rfl, hb1⟩
  go_wp2_with fail
  have hb := below_alloc hb1 (.cells #[.int .i64 2, .string ⟨#[97, 47, 98]⟩, .string ⟨#[]⟩, .int .i64 0, .bool false] 36)
  have hx := blk_new w1 (.cells #[.int .i64 2, .string ⟨#[97, 47, 98]⟩, .string ⟨#[]⟩, .int .i64 0, .bool false] 36)
  generalize w1.heap.size = q at *
  generalize (w1.alloc (.cells #[.int .i64 2, .string ⟨#[97, 47, 98]⟩, .string ⟨#[]⟩, .int .i64 0, .bool false] 36)) = W1 at *
  clear hb1
  refine (k2.out _).mono ?_
  rintro e w2 ⟨rfl, hb2⟩
  have hx2 := Aside0.mk (blk_below hx hb2)
  have HB2 := Aside0.mk (below_step hb hb2)
  clear hx hb hb2
  go_wp2_with fail
  refine (k3.out _).mono ?_
  rintro e w3 ⟨rfl, hb3⟩
  have hx3 := Aside0.mk (blk_below (blk_alloc hx2.out _) hb3)
  have HB3 := Aside0.mk (below_step (below_alloc HB2.out _) hb3)
  clear hb3
  go_wp2_with fail
  refine (k4.out _).mono ?_
  rintro e w4 ⟨rfl, hb4⟩
  have hx4 := Aside0.mk (blk_below (blk_alloc hx3.out _) hb4)
  have HB4 := Aside0.mk (below_step (below_alloc HB3.out _) hb4)
  clear hb4
  have c0 : ∀ o, (w4.alloc o).cell? ⟨q, 0, none⟩ = some (.int .i64 2) := fun o => blk_cell (blk_alloc hx4.out o) 0
  have c1 : ∀ o, (w4.alloc o).cell? ⟨q, 1, none⟩ = some (.string ⟨#[97, 47, 98]⟩) := fun o => blk_cell (blk_alloc hx4.out o) 1
  have c2 : ∀ o, (w4.alloc o).cell? ⟨q, 2, none⟩ = some (.string ⟨#[]⟩) := fun o => blk_cell (blk_alloc hx4.out o) 2
  have c3 : ∀ o, (w4.alloc o).cell? ⟨q, 3, none⟩ = some (.int .i64 0) := fun o => blk_cell (blk_alloc hx4.out o) 3
  have c4 : ∀ o, (w4.alloc o).cell? ⟨q, 4, none⟩ = some (.bool false) := fun o => blk_cell (blk_alloc hx4.out o) 4
  go_wp2_with fail
  refine (k5.out _).mono ?_
  rintro e w5 ⟨v, rfl, hR, hb5⟩
  obtain ⟨A, c, rfl, hcap, hC⟩ := Kd.R_reads hR
  have HB5 := Aside0.mk (below_step (below_alloc HB4.out _) hb5)
  have ho := own_lit_of (enc := Value.string) w5 0 9 [(⟨#[68, 69, 76, 69, 84, 69]⟩ : ByteArray), (⟨#[80, 79, 83, 84]⟩ : ByteArray)] (Nat.zero_le _) (by decide)
  have hC2 := (Kd.R_reads' (Kd.R_of_own (h1 := fun _ => rfl) (ok := fun _ => True) ho (fun _ _ => trivial))).2.2
  have K6 := Aside0.mk (atriumlaw20_same.calls 40 A c [(⟨#[68, 69, 76, 69, 84, 69]⟩ : ByteArray), (⟨#[80, 79, 83, 84]⟩ : ByteArray)] (some ⟨w5.heap.size, 0, none⟩) 2 [(⟨#[68, 69, 76, 69, 84, 69]⟩ : ByteArray), (⟨#[80, 79, 83, 84]⟩ : ByteArray)] true _ (Kd.C_alloc hC (.cells (encs Value.string [(⟨#[68, 69, 76, 69, 84, 69]⟩ : ByteArray), (⟨#[80, 79, 83, 84]⟩ : ByteArray)]).toArray 9)) hcap hC2 (by decide) (by kernel_rfl))
  clear hR hb5 hC hC2 ho hcap c0 c1 c2 c3 c4
  go_wp2_with fail
  refine K6.out.mono ?_
  rintro e w6 ⟨rfl, hd6⟩
  have HB6 := Aside0.mk (below_step (below_alloc HB5.out _) hd6.below)
  clear hd6
  go_wp2
  go_ret
  exact ⟨rfl, HB6.out⟩

end Go.Proofs.YtdbbgdgjmlcgcaaDoor.PRouteE
