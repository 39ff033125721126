/- The law RouteBack, walked. -/
import Derived.Test.YtdbbgdgjmlcgcaaDoorBBd
set_option linter.unusedVariables false
set_option linter.unusedSimpArgs false
namespace Go.Proofs.YtdbbgdgjmlcgcaaDoor.PRouteB
open Go.RowKit Go.Proofs.YtdbbgdgjmlcgcaaDoorW.PrintWords Go.Proofs.YtdbbgdgjmlcgcaaDoorW.PrintLast Go.Proofs.YtdbbgdgjmlcgcaaDoorW.PrintMore
attribute [local go_sem] max2_int min2_int max_two min_two max_three min_three max_four min_four

set_option maxHeartbeats 1000000 in
set_option maxRecDepth 100000 in
theorem back_walk (k : Int) (tok usr : ByteArray) (fr : Int) (me : Bool) (w : World) (htk : tok.size ≤ 3000000) (hus : usr.size ≤ 3000000) (hfr : (Lit.int .i64 fr).wf = true) (htab : TabB w) :
    Calls Tryd.prog 6 #[.agg #[.int .i64 k, .string tok, .string usr, .int .i64 fr, .bool me]] w fun e w' => e = .returned (.bool true) ∧ Below w.heap.size w w' := by
  have KA := Aside0.mk (fun W => atriumlaw20_awake.calls true W rfl)
  have HTAB := Aside0.mk htab
  have HB := Aside0.mk (Below.refl w.heap.size w)
  have KT := Aside0.mk (fun W h => (target_any tok usr fr W htk hus hfr h k me).1)
  have KR := Aside0.mk (fun W => rtarget_any k tok usr fr me W htk hus hfr)
  obtain ⟨ok, M, T, hres, hfind⟩ := (target_any tok usr fr w htk hus hfr htab k me).2
  rw [hres] at KT KR
  clear htk hus hfr htab hres
  cases ok with
  | false =>
    have e0 : tgtRes false M T = .tuple #[.string ⟨#[]⟩, .string ⟨#[]⟩, .bool false] := rfl
    rw [e0] at KT KR
    clear e0 hfind
    go_enter Tryd.func6, Tryd.ntmps6
    go_wp2_with fail
    have hx := blk_new w (rtCells k tok usr fr me)
    have HBa := Aside0.mk (below_alloc HB.out (rtCells k tok usr fr me))
    unfold rtCells at hx HBa
    generalize hp : w.heap.size = p at hx ⊢
    have HP := Aside0.mk hp
    clear hp
    generalize (w.alloc (.cells #[.int .i64 k, .string tok, .string usr, .int .i64 fr, .bool me] 36)) = W1_ at *
    refine (KA.out _).mono ?_
    rintro e w2 ⟨rfl, hb2⟩
    have HX2 := Aside0.mk (blk_below hx hb2)
    have HB2 := Aside0.mk (below_step HBa.out hb2)
    clear hx hb2 HBa
    have d0 : w2.cell? ⟨p, 0, none⟩ = some (.int .i64 k) := blk_cell HX2.out 0
    have d1 : w2.cell? ⟨p, 1, none⟩ = some (.string tok) := blk_cell HX2.out 1
    have d2 : w2.cell? ⟨p, 2, none⟩ = some (.string usr) := blk_cell HX2.out 2
    have d3 : w2.cell? ⟨p, 3, none⟩ = some (.int .i64 fr) := blk_cell HX2.out 3
    have d4 : w2.cell? ⟨p, 4, none⟩ = some (.bool me) := blk_cell HX2.out 4
    have KT2 := Aside0.mk (KT.out w2 (TabB.below HTAB.out HB2.out))
    go_wp2_with fail
    refine KT2.out.mono ?_
    rintro e w3 ⟨rfl, hb3⟩
    have HX3 := Aside0.mk (blk_below HX2.out hb3)
    have HB3 := Aside0.mk (below_step HB2.out hb3)
    clear hb3 d0 d1 d2 d3 d4
    have d0 : w3.cell? ⟨p, 0, none⟩ = some (.int .i64 k) := blk_cell HX3.out 0
    have d1 : w3.cell? ⟨p, 1, none⟩ = some (.string tok) := blk_cell HX3.out 1
    have d2 : w3.cell? ⟨p, 2, none⟩ = some (.string usr) := blk_cell HX3.out 2
    have d3 : w3.cell? ⟨p, 3, none⟩ = some (.int .i64 fr) := blk_cell HX3.out 3
    have d4 : w3.cell? ⟨p, 4, none⟩ = some (.bool me) := blk_cell HX3.out 4
    go_wp2_with fail
    refine (KR.out w3).mono ?_
    rintro e w4 ⟨rfl, hb4⟩
    have HX4 := Aside0.mk (blk_below HX3.out hb4)
    have HB4 := Aside0.mk (below_step HB3.out hb4)
    clear hb4 d0 d1 d2 d3 d4
    have d0 : w4.cell? ⟨p, 0, none⟩ = some (.int .i64 k) := blk_cell HX4.out 0
    have d1 : w4.cell? ⟨p, 1, none⟩ = some (.string tok) := blk_cell HX4.out 1
    have d2 : w4.cell? ⟨p, 2, none⟩ = some (.string usr) := blk_cell HX4.out 2
    have d3 : w4.cell? ⟨p, 3, none⟩ = some (.int .i64 fr) := blk_cell HX4.out 3
    have d4 : w4.cell? ⟨p, 4, none⟩ = some (.bool me) := blk_cell HX4.out 4
    go_wp2_with fail
    go_ret
    exact ⟨rfl, HB4.out⟩
  | true =>
    have e0 : tgtRes true M T = .tuple #[.string M, .string T, .bool true] := rfl
    rw [e0] at KT KR
    obtain ⟨kf, hf⟩ := (hfind rfl).rounds
    have KF := Aside0.mk (fun W => route_Find.calls kf _ _ _ _ _ _ _ _ W hf)
    clear e0 hfind hf
    go_enter Tryd.func6, Tryd.ntmps6
    go_wp2_with fail
    have hx := blk_new w (rtCells k tok usr fr me)
    have HBa := Aside0.mk (below_alloc HB.out (rtCells k tok usr fr me))
    unfold rtCells at hx HBa
    generalize hp : w.heap.size = p at hx ⊢
    have HP := Aside0.mk hp
    clear hp
    generalize (w.alloc (.cells #[.int .i64 k, .string tok, .string usr, .int .i64 fr, .bool me] 36)) = W1_ at *
    refine (KA.out _).mono ?_
    rintro e w2 ⟨rfl, hb2⟩
    have HX2 := Aside0.mk (blk_below hx hb2)
    have HB2 := Aside0.mk (below_step HBa.out hb2)
    clear hx hb2 HBa
    have d0 : w2.cell? ⟨p, 0, none⟩ = some (.int .i64 k) := blk_cell HX2.out 0
    have d1 : w2.cell? ⟨p, 1, none⟩ = some (.string tok) := blk_cell HX2.out 1
    have d2 : w2.cell? ⟨p, 2, none⟩ = some (.string usr) := blk_cell HX2.out 2
    have d3 : w2.cell? ⟨p, 3, none⟩ = some (.int .i64 fr) := blk_cell HX2.out 3
    have d4 : w2.cell? ⟨p, 4, none⟩ = some (.bool me) := blk_cell HX2.out 4
    have KT2 := Aside0.mk (KT.out w2 (TabB.below HTAB.out HB2.out))
    go_wp2_with fail
    refine KT2.out.mono ?_
    rintro e w3 ⟨rfl, hb3⟩
    have HX3 := Aside0.mk (blk_below HX2.out hb3)
    have HB3 := Aside0.mk (below_step HB2.out hb3)
    clear hb3 d0 d1 d2 d3 d4
    have d0 : w3.cell? ⟨p, 0, none⟩ = some (.int .i64 k) := blk_cell HX3.out 0
    have d1 : w3.cell? ⟨p, 1, none⟩ = some (.string tok) := blk_cell HX3.out 1
    have d2 : w3.cell? ⟨p, 2, none⟩ = some (.string usr) := blk_cell HX3.out 2
    have d3 : w3.cell? ⟨p, 3, none⟩ = some (.int .i64 fr) := blk_cell HX3.out 3
    have d4 : w3.cell? ⟨p, 4, none⟩ = some (.bool me) := blk_cell HX3.out 4
    go_wp2_with fail
    refine (KR.out w3).mono ?_
    rintro e w4 ⟨rfl, hb4⟩
    have HX4 := Aside0.mk (blk_below HX3.out hb4)
    have HB4 := Aside0.mk (below_step HB3.out hb4)
    clear hb4 d0 d1 d2 d3 d4
    have d0 : w4.cell? ⟨p, 0, none⟩ = some (.int .i64 k) := blk_cell HX4.out 0
    have d1 : w4.cell? ⟨p, 1, none⟩ = some (.string tok) := blk_cell HX4.out 1
    have d2 : w4.cell? ⟨p, 2, none⟩ = some (.string usr) := blk_cell HX4.out 2
    have d3 : w4.cell? ⟨p, 3, none⟩ = some (.int .i64 fr) := blk_cell HX4.out 3
    have d4 : w4.cell? ⟨p, 4, none⟩ = some (.bool me) := blk_cell HX4.out 4
    go_wp2_with fail
    refine (KF.out _).mono ?_
    rintro e w5 ⟨rfl, hb5⟩
    have HX5 := Aside0.mk (blk_below HX4.out hb5)
    have HB5 := Aside0.mk (below_step HB4.out hb5)
    clear hb5 d0 d1 d2 d3 d4
    have d0 : ∀ o, (w5.alloc o).cell? ⟨p, 0, none⟩ = some (.int .i64 k) := fun o => blk_cell (blk_alloc HX5.out o) 0
    have d1 : ∀ o, (w5.alloc o).cell? ⟨p, 1, none⟩ = some (.string tok) := fun o => blk_cell (blk_alloc HX5.out o) 1
    have d2 : ∀ o, (w5.alloc o).cell? ⟨p, 2, none⟩ = some (.string usr) := fun o => blk_cell (blk_alloc HX5.out o) 2
    have d3 : ∀ o, (w5.alloc o).cell? ⟨p, 3, none⟩ = some (.int .i64 fr) := fun o => blk_cell (blk_alloc HX5.out o) 3
    have d4 : ∀ o, (w5.alloc o).cell? ⟨p, 4, none⟩ = some (.bool me) := fun o => blk_cell (blk_alloc HX5.out o) 4
    go_wp2_with fail
    go_ret
    exact ⟨rfl, below_alloc HB5.out _⟩
end Go.Proofs.YtdbbgdgjmlcgcaaDoor.PRouteB
