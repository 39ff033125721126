/- The walk of the document's Target. -/
import Derived.Test.YtdbbgdgjmlcgcaaDoorBBb
import Derived.Deep.RegionHeld3
set_option linter.unusedVariables false
set_option linter.unusedSimpArgs false
namespace Go.Proofs.YtdbbgdgjmlcgcaaDoor.PRouteB
open Go.RowKit Go.Proofs.YtdbbgdgjmlcgcaaDoorW.PrintWords Go.Proofs.YtdbbgdgjmlcgcaaDoorW.PrintLast Go.Proofs.YtdbbgdgjmlcgcaaDoorW.PrintMore
attribute [local go_sem] max2_int min2_int max_two min_two max_three min_three max_four min_four

/-- A kind's method, target, and what it has. -/
structure Want where
  M : ByteArray
  T : ByteArray
  t : ByteArray
  u : ByteArray
  f : Int
  m : Bool
def wantOf (k : Int) (tok usr : ByteArray) (fr : Int) (me : Bool) : Option Want :=
  if k = 1 then some ⟨POST, ⟨#[47, 115, 101, 115, 115, 105, 111, 110, 115]⟩, ⟨#[]⟩, ⟨#[]⟩, 0, false⟩
  else if k = 2 then (if me = true then some ⟨GET, ⟨#[47, 109, 101]⟩, ⟨#[]⟩, ⟨#[]⟩, 0, true⟩ else some ⟨GET, (⟨#[47, 115, 101, 115, 115, 105, 111, 110, 115, 47]⟩ : ByteArray) ++ mkB (escS tok.data.toList), tok, ⟨#[]⟩, 0, false⟩)
  else if k = 3 then some ⟨POST, ((⟨#[47, 115, 101, 115, 115, 105, 111, 110, 115, 47]⟩ : ByteArray) ++ mkB (escS tok.data.toList)) ++ (⟨#[47, 116, 111, 117, 99, 104]⟩ : ByteArray), tok, ⟨#[]⟩, 0, false⟩
  else if k = 4 then some ⟨DELETE, (⟨#[47, 115, 101, 115, 115, 105, 111, 110, 115, 47]⟩ : ByteArray) ++ mkB (escS tok.data.toList), tok, ⟨#[]⟩, 0, false⟩
  else if k = 5 then some ⟨DELETE, ((⟨#[47, 117, 115, 101, 114, 115, 47]⟩ : ByteArray) ++ mkB (escS usr.data.toList)) ++ (⟨#[47, 115, 101, 115, 115, 105, 111, 110, 115]⟩ : ByteArray), ⟨#[]⟩, usr, 0, false⟩
  else if k = 6 then some ⟨DELETE, ⟨#[47, 115, 101, 115, 115, 105, 111, 110, 115]⟩, ⟨#[]⟩, ⟨#[]⟩, 0, false⟩
  else if k = 7 then some ⟨GET, ((⟨#[47, 117, 115, 101, 114, 115, 47]⟩ : ByteArray) ++ mkB (escS usr.data.toList)) ++ (⟨#[47, 115, 101, 115, 115, 105, 111, 110, 115]⟩ : ByteArray), ⟨#[]⟩, usr, 0, false⟩
  else if k = 8 then (if fr < 0 ∨ 999999999 < fr then none else some ⟨GET, (⟨#[47, 97, 117, 100, 105, 116, 63, 102, 114, 111, 109, 61]⟩ : ByteArray) ++ mkB (Lib.decDigits fr.toNat), ⟨#[]⟩, ⟨#[]⟩, fr, false⟩)
  else if k = 9 then some ⟨GET, ⟨#[47, 115, 116, 97, 116, 115]⟩, ⟨#[]⟩, ⟨#[]⟩, 0, false⟩
  else none

/-- Whether a target may be. -/
def wantOk (k : Int) (tok usr : ByteArray) (fr : Int) (me : Bool) (W : Want) : Bool :=
  sameR k tok usr fr me k W.t W.u W.f W.m && !(((k == 2 && !me) || (k == 3 || k == 4)) && tok.toList == []) && !((k == 5 || k == 7) && usr.toList == []) && decide (W.T.size ≤ 1024)
def refRes (k : Int) (tok usr : ByteArray) (fr : Int) (me : Bool) : Value := match wantOf k tok usr fr me with
  | none => tgtRes false tok usr
  | some W => tgtRes (wantOk k tok usr fr me W) W.M W.T
set_option maxHeartbeats 4000000 in
set_option maxRecDepth 100000 in
theorem rtarget_any (k : Int) (tok usr : ByteArray) (fr : Int) (me : Bool) (w : World) (htk : tok.size ≤ 3000000) (hus : usr.size ≤ 3000000) (hfr : (Lit.int .i64 fr).wf = true) :
    Calls Tryd.prog 16 #[.agg #[.int .i64 k, .string tok, .string usr, .int .i64 fr, .bool me]] w fun e w' => e = .returned (refRes k tok usr fr me) ∧ Below w.heap.size w w' := by
  obtain ⟨ke1, he1⟩ := (resc tok (by omega)).rounds
  obtain ⟨ke2, he2⟩ := (resc usr (by omega)).rounds
  have KE1 := Aside0.mk (fun W => atriumref15_Escape.calls ke1 tok _ W he1)
  have KE2 := Aside0.mk (fun W => atriumref15_Escape.calls ke2 usr _ W he2)
  have HFR := Aside0.mk hfr
  have HB := Aside0.mk (Below.refl w.heap.size w)
  have HTK := Aside0.mk htk
  have HUS := Aside0.mk hus
  clear he1 he2 hfr htk hus
  go_enter Tryd.func16, Tryd.ntmps16
  go_upto_region 2 with (fail)
  have hx := blk_new w (rtCells k tok usr fr me)
  have HBa := Aside0.mk (below_alloc HB.out (rtCells k tok usr fr me))
  unfold rtCells at hx HBa
  generalize hp : w.heap.size = p at hx ⊢
  have HP := Aside0.mk hp
  clear hp
  have HXX := Aside0.mk hx
  generalize (w.alloc (.cells #[.int .i64 k, .string tok, .string usr, .int .i64 fr, .bool me] 36)) = W1_ at *
  have c1 : W1_.cell? ⟨p, 1, none⟩ = some (.string tok) := blk_cell hx 1
  have c2 : W1_.cell? ⟨p, 2, none⟩ = some (.string usr) := blk_cell hx 2
  go_cut [7, 8] (fun v7 v8 wc => v7 = .string (mkB (escS tok.data.toList)) ∧ v8 = .string (mkB (escS usr.data.toList)) ∧ Aside0 (Below W1_.heap.size W1_ wc))
  case first =>
    clear hx
    have KS1 : Aside0 (∀ W : World, W.heap[p]? = some (.cells #[.int .i64 k, .string tok, .string usr, .int .i64 fr, .bool me] 36 (0, 0)) → Calls Tryd.prog 34 #[.string tok] W fun e w' => e = .returned (.string (mkB (escS tok.data.toList))) ∧ w'.heap[p]? = some (.cells #[.int .i64 k, .string tok, .string usr, .int .i64 fr, .bool me] 36 (0, 0)) ∧ w'.cell? ⟨p, 1, none⟩ = some (.string tok) ∧ w'.cell? ⟨p, 2, none⟩ = some (.string usr) ∧ Below W.heap.size W w') :=
      ⟨fun W hW => (KE1.out W).mono fun e w' ⟨h1, h2⟩ => ⟨h1, blk_below hW h2, blk_cell (blk_below hW h2) 1, blk_cell (blk_below hW h2) 2, h2⟩⟩
    have KS2 : Aside0 (∀ W : World, W.heap[p]? = some (.cells #[.int .i64 k, .string tok, .string usr, .int .i64 fr, .bool me] 36 (0, 0)) → Calls Tryd.prog 34 #[.string usr] W fun e w' => e = .returned (.string (mkB (escS usr.data.toList))) ∧ w'.heap[p]? = some (.cells #[.int .i64 k, .string tok, .string usr, .int .i64 fr, .bool me] 36 (0, 0)) ∧ w'.cell? ⟨p, 1, none⟩ = some (.string tok) ∧ w'.cell? ⟨p, 2, none⟩ = some (.string usr) ∧ Below W.heap.size W w') :=
      ⟨fun W hW => (KE2.out W).mono fun e w' ⟨h1, h2⟩ => ⟨h1, blk_below hW h2, blk_cell (blk_below hW h2) 1, blk_cell (blk_below hW h2) 2, h2⟩⟩
    have KA1 := Aside0.mk (KS1.out W1_.drew HXX.out)
    have KA2 := Aside0.mk (KS2.out W1_.drew HXX.out)
    go_region_with (first | (go_at_call 34; (with_reducible refine KA1.out.mono ?_); rintro e w2 ⟨rfl, hp2, k1, k2, hb2⟩) | (go_at_call 34; (with_reducible refine KA2.out.mono ?_); rintro e w2 ⟨rfl, hp2, k1, k2, hb2⟩) | (go_at_call 34; (with_reducible refine (KS2.out _ hp2).mono ?_); rintro e w3 ⟨rfl, hp3, m1, m2, hb3⟩) | (go_at_call 34; (with_reducible refine (KS1.out _ hp2).mono ?_); rintro e w3 ⟨rfl, hp3, m1, m2, hb3⟩))
    all_goals
      go_wp2
      go_meet
      case rel => exact ⟨rfl, rfl, ⟨below_step (below_step (below_drew1 (Below.refl _ _)) hb2) hb3⟩⟩
  case rest =>
    obtain ⟨rfl, rfl, HL⟩ := hcut
    have hxc := blk_below HXX.out HL.out
    have HXC := Aside0.mk hxc
    have c0 : wc.cell? ⟨p, 0, none⟩ = some (.int .i64 k) := blk_cell hxc 0
    clear hx hxc c1 c2 HXX
    go_upto_region 4 with (fail)
    have hq := blk_new wc (rtCells k ⟨#[]⟩ ⟨#[]⟩ 0 false)
    have HXD := Aside0.mk (blk_alloc HXC.out (rtCells k ⟨#[]⟩ ⟨#[]⟩ 0 false))
    have HLD := Aside0.mk (below_alloc HL.out (rtCells k ⟨#[]⟩ ⟨#[]⟩ 0 false))
    unfold rtCells at hq HXD HLD
    generalize hqe : wc.heap.size = q at hq ⊢
    have HQE := Aside0.mk hqe
    clear hqe c0
    have HQ := Aside0.mk hq
    generalize (wc.alloc (.cells #[.int .i64 k, .string ⟨#[]⟩, .string ⟨#[]⟩, .int .i64 0, .bool false] 36)) = W2_ at *
    have cp0 : W2_.cell? ⟨p, 0, none⟩ = some (.int .i64 k) := blk_cell HXD.out 0
    have cp1 : W2_.cell? ⟨p, 1, none⟩ = some (.string tok) := blk_cell HXD.out 1
    have cp2 : W2_.cell? ⟨p, 2, none⟩ = some (.string usr) := blk_cell HXD.out 2
    have cp3 : W2_.cell? ⟨p, 3, none⟩ = some (.int .i64 fr) := blk_cell HXD.out 3
    have cp4 : W2_.cell? ⟨p, 4, none⟩ = some (.bool me) := blk_cell HXD.out 4
    have cq0 : W2_.cell? ⟨q, 0, none⟩ = some (.int .i64 k) := blk_cell HQ.out 0
    have cq1 : W2_.cell? ⟨q, 1, none⟩ = some (.string ⟨#[]⟩) := blk_cell HQ.out 1
    have cq2 : W2_.cell? ⟨q, 2, none⟩ = some (.string ⟨#[]⟩) := blk_cell HQ.out 2
    have cq3 : W2_.cell? ⟨q, 3, none⟩ = some (.int .i64 0) := blk_cell HQ.out 3
    have cq4 : W2_.cell? ⟨q, 4, none⟩ = some (.bool false) := blk_cell HQ.out 4
    clear hq
    have HBw := Aside0.mk (below_step HBa.out HLD.out)
    have hpq : p ≠ q := by
      intro e
      subst e
      have h1 := HQE.out
      have h2 := (Array.getElem?_eq_some_iff.1 HXC.out).1
      omega
    have HPQ := Aside0.mk hpq
    have hwq : w.heap.size ≤ q := by rw [← HQE.out]; exact Nat.le_trans (below_size HBa.out) (below_size HL.out)
    have HWQ := Aside0.mk hwq
    clear hpq hwq
    have hpq1 : ¬ p = q := HPQ.out
    have hpq2 : ¬ q = p := fun e => HPQ.out e.symm
    have fq1 : W2_.frozen? ⟨q, 1, none⟩ = false := blk_frozen HQ.out 1
    have fq2 : W2_.frozen? ⟨q, 2, none⟩ = false := blk_frozen HQ.out 2
    have fq3 : W2_.frozen? ⟨q, 3, none⟩ = false := blk_frozen HQ.out 3
    have fq4 : W2_.frozen? ⟨q, 4, none⟩ = false := blk_frozen HQ.out 4
    have hs1 : ((mkB (escS tok.data.toList)).size : Int) ≤ 9000000 := by
      have h1 := escS_length tok.data.toList
      have h2 := HTK.out
      rw [data_length] at h1
      rw [mkB_size]
      omega
    have hs2 : ((mkB (escS usr.data.toList)).size : Int) ≤ 9000000 := by
      have h1 := escS_length usr.data.toList
      have h2 := HUS.out
      rw [data_length] at h1
      rw [mkB_size]
      omega
    have z1 : (⟨#[47, 115, 101, 115, 115, 105, 111, 110, 115]⟩ : ByteArray).size = 9 := rfl
    have z2 : (⟨#[47, 109, 101]⟩ : ByteArray).size = 3 := rfl
    have z3 : (⟨#[47, 115, 116, 97, 116, 115]⟩ : ByteArray).size = 6 := rfl
    have z4 : (⟨#[47, 115, 101, 115, 115, 105, 111, 110, 115, 47]⟩ : ByteArray).size = 10 := rfl
    have z5 : (⟨#[47, 116, 111, 117, 99, 104]⟩ : ByteArray).size = 6 := rfl
    have z6 : (⟨#[47, 117, 115, 101, 114, 115, 47]⟩ : ByteArray).size = 7 := rfl
    have z7 : (⟨#[47, 97, 117, 100, 105, 116, 63, 102, 114, 111, 109, 61]⟩ : ByteArray).size = 12 := rfl
    by_cases k1 : k = 1
    · subst k1
      go_wp2
      all_goals
        go_ret3
        refine ⟨congrArg Ending.returned ?_, ?_⟩
        · unfold refRes wantOf wantOk sameR tgtRes
          simp [*, POST, GET, DELETE, ByteArray.size_append] <;> first | omega | (rw [if_pos (by omega)]) | (rw [if_neg (by omega)]) | (rcases (by assumption : _ ∨ _) with hz | hz <;> first | omega | exact absurd (List.isEmpty_iff.1 hz) (by assumption)) | (dsimp only; simp [*, ByteArray.size_append] <;> first | omega | (rw [if_pos (by omega)]) | (rw [if_neg (by omega)]))
        · repeat (first | exact HBw.out | refine below_set ?_ HWQ.out | apply pw_below_drewN | apply below_drew1)
    · by_cases k2 : k = 2
      · subst k2
        cases me with
        | true =>
          go_wp2
          go_region
          all_goals go_wp2
          all_goals
            go_ret3
            refine ⟨congrArg Ending.returned ?_, ?_⟩
            · unfold refRes wantOf wantOk sameR tgtRes
              simp [*, POST, GET, DELETE, ByteArray.size_append] <;> first | omega | (rw [if_pos (by omega)]) | (rw [if_neg (by omega)]) | (rcases (by assumption : _ ∨ _) with hz | hz <;> first | omega | exact absurd (List.isEmpty_iff.1 hz) (by assumption)) | (dsimp only; simp [*, ByteArray.size_append] <;> first | omega | (rw [if_pos (by omega)]) | (rw [if_neg (by omega)]))
            · repeat (first | exact HBw.out | refine below_set ?_ HWQ.out | apply pw_below_drewN | apply below_drew1)
        | false =>
          go_wp2
          go_region
          all_goals go_wp2
          all_goals
            go_ret3
            refine ⟨congrArg Ending.returned ?_, ?_⟩
            · unfold refRes wantOf wantOk sameR tgtRes
              simp [*, POST, GET, DELETE, ByteArray.size_append] <;> first | omega | (rw [if_pos (by omega)]) | (rw [if_neg (by omega)]) | (rcases (by assumption : _ ∨ _) with hz | hz <;> first | omega | exact absurd (List.isEmpty_iff.1 hz) (by assumption)) | (dsimp only; simp [*, ByteArray.size_append] <;> first | omega | (rw [if_pos (by omega)]) | (rw [if_neg (by omega)]))
            · repeat (first | exact HBw.out | refine below_set ?_ HWQ.out | apply pw_below_drewN | apply below_drew1)
      · by_cases k3 : k = 3
        · subst k3
          go_wp2
          all_goals
            go_ret3
            refine ⟨congrArg Ending.returned ?_, ?_⟩
            · unfold refRes wantOf wantOk sameR tgtRes
              simp [*, POST, GET, DELETE, ByteArray.size_append] <;> first | omega | (rw [if_pos (by omega)]) | (rw [if_neg (by omega)]) | (rcases (by assumption : _ ∨ _) with hz | hz <;> first | omega | exact absurd (List.isEmpty_iff.1 hz) (by assumption)) | (dsimp only; simp [*, ByteArray.size_append] <;> first | omega | (rw [if_pos (by omega)]) | (rw [if_neg (by omega)]))
            · repeat (first | exact HBw.out | refine below_set ?_ HWQ.out | apply pw_below_drewN | apply below_drew1)
        · by_cases k4 : k = 4
          · subst k4
            go_wp2
            all_goals
              go_ret3
              refine ⟨congrArg Ending.returned ?_, ?_⟩
              · unfold refRes wantOf wantOk sameR tgtRes
                simp [*, POST, GET, DELETE, ByteArray.size_append] <;> first | omega | (rw [if_pos (by omega)]) | (rw [if_neg (by omega)]) | (rcases (by assumption : _ ∨ _) with hz | hz <;> first | omega | exact absurd (List.isEmpty_iff.1 hz) (by assumption)) | (dsimp only; simp [*, ByteArray.size_append] <;> first | omega | (rw [if_pos (by omega)]) | (rw [if_neg (by omega)]))
              · repeat (first | exact HBw.out | refine below_set ?_ HWQ.out | apply pw_below_drewN | apply below_drew1)
          · by_cases k5 : k = 5
            · subst k5
              go_wp2
              all_goals
                go_ret3
                refine ⟨congrArg Ending.returned ?_, ?_⟩
                · unfold refRes wantOf wantOk sameR tgtRes
                  simp [*, POST, GET, DELETE, ByteArray.size_append] <;> first | omega | (rw [if_pos (by omega)]) | (rw [if_neg (by omega)]) | (rcases (by assumption : _ ∨ _) with hz | hz <;> first | omega | exact absurd (List.isEmpty_iff.1 hz) (by assumption)) | (dsimp only; simp [*, ByteArray.size_append] <;> first | omega | (rw [if_pos (by omega)]) | (rw [if_neg (by omega)]))
                · repeat (first | exact HBw.out | refine below_set ?_ HWQ.out | apply pw_below_drewN | apply below_drew1)
            · by_cases k6 : k = 6
              · subst k6
                go_wp2
                all_goals
                  go_ret3
                  refine ⟨congrArg Ending.returned ?_, ?_⟩
                  · unfold refRes wantOf wantOk sameR tgtRes
                    simp [*, POST, GET, DELETE, ByteArray.size_append] <;> first | omega | (rw [if_pos (by omega)]) | (rw [if_neg (by omega)]) | (rcases (by assumption : _ ∨ _) with hz | hz <;> first | omega | exact absurd (List.isEmpty_iff.1 hz) (by assumption)) | (dsimp only; simp [*, ByteArray.size_append] <;> first | omega | (rw [if_pos (by omega)]) | (rw [if_neg (by omega)]))
                  · repeat (first | exact HBw.out | refine below_set ?_ HWQ.out | apply pw_below_drewN | apply below_drew1)
              · by_cases k7 : k = 7
                · subst k7
                  go_wp2
                  all_goals
                    go_ret3
                    refine ⟨congrArg Ending.returned ?_, ?_⟩
                    · unfold refRes wantOf wantOk sameR tgtRes
                      simp [*, POST, GET, DELETE, ByteArray.size_append] <;> first | omega | (rw [if_pos (by omega)]) | (rw [if_neg (by omega)]) | (rcases (by assumption : _ ∨ _) with hz | hz <;> first | omega | exact absurd (List.isEmpty_iff.1 hz) (by assumption)) | (dsimp only; simp [*, ByteArray.size_append] <;> first | omega | (rw [if_pos (by omega)]) | (rw [if_neg (by omega)]))
                    · repeat (first | exact HBw.out | refine below_set ?_ HWQ.out | apply pw_below_drewN | apply below_drew1)
                · by_cases k8 : k = 8
                  · subst k8
                    by_cases hlo : fr < 0
                    · go_wp2
                      all_goals
                        go_ret3
                        refine ⟨congrArg Ending.returned ?_, ?_⟩
                        · unfold refRes wantOf wantOk sameR tgtRes
                          simp [*, POST, GET, DELETE, ByteArray.size_append] <;> first | omega | (rw [if_pos (by omega)]) | (rw [if_neg (by omega)]) | (rcases (by assumption : _ ∨ _) with hz | hz <;> first | omega | exact absurd (List.isEmpty_iff.1 hz) (by assumption)) | (dsimp only; simp [*, ByteArray.size_append] <;> first | omega | (rw [if_pos (by omega)]) | (rw [if_neg (by omega)]))
                        · repeat (first | exact HBw.out | refine below_set ?_ HWQ.out | apply pw_below_drewN | apply below_drew1)
                    · by_cases hhi : 999999999 < fr
                      · go_wp2
                        all_goals
                          go_ret3
                          refine ⟨congrArg Ending.returned ?_, ?_⟩
                          · unfold refRes wantOf wantOk sameR tgtRes
                            simp [*, POST, GET, DELETE, ByteArray.size_append] <;> first | omega | (rw [if_pos (by omega)]) | (rw [if_neg (by omega)]) | (rcases (by assumption : _ ∨ _) with hz | hz <;> first | omega | exact absurd (List.isEmpty_iff.1 hz) (by assumption)) | (dsimp only; simp [*, ByteArray.size_append] <;> first | omega | (rw [if_pos (by omega)]) | (rw [if_neg (by omega)]))
                          · repeat (first | exact HBw.out | refine below_set ?_ HWQ.out | apply pw_below_drewN | apply below_drew1)
                      · obtain ⟨n, hn⟩ : ∃ n : Nat, fr = n := ⟨fr.toNat, by omega⟩
                        subst hn
                        obtain ⟨kd, hd⟩ := (rdigits n (by omega)).rounds
                        have KD := Aside0.mk (fun W => atriumref20_digits.calls kd (n : Int) _ W hd)
                        have hsd : ((mkB (Lib.decDigits n)).size : Int) ≤ 30 := by have := dec_len 20 n (by omega); rw [mkB_size]; omega
                        have etn : (n : Int).toNat = n := Int.toNat_natCast n
                        clear hd
                        go_wp2_with (first | (go_at_call 35; (with_reducible refine (KD.out _).mono ?_); rintro e w5 ⟨rfl, hb5⟩; have hX5 := blk_below HXD.out hb5; have hQ5 := blk_below HQ.out hb5; have d0 : w5.cell? ⟨p, 0, none⟩ = some (.int .i64 8) := blk_cell hX5 0; have d1 : w5.cell? ⟨p, 1, none⟩ = some (.string tok) := blk_cell hX5 1; have d2 : w5.cell? ⟨p, 2, none⟩ = some (.string usr) := blk_cell hX5 2; have d3 : w5.cell? ⟨p, 3, none⟩ = some (.int .i64 n) := blk_cell hX5 3; have d4 : w5.cell? ⟨p, 4, none⟩ = some (.bool me) := blk_cell hX5 4; have e0 : w5.cell? ⟨q, 0, none⟩ = some (.int .i64 8) := blk_cell hQ5 0; have e1 : w5.cell? ⟨q, 1, none⟩ = some (.string ⟨#[]⟩) := blk_cell hQ5 1; have e2 : w5.cell? ⟨q, 2, none⟩ = some (.string ⟨#[]⟩) := blk_cell hQ5 2; have e3 : w5.cell? ⟨q, 3, none⟩ = some (.int .i64 0) := blk_cell hQ5 3; have e4 : w5.cell? ⟨q, 4, none⟩ = some (.bool false) := blk_cell hQ5 4; have f3 : w5.frozen? ⟨q, 3, none⟩ = false := blk_frozen hQ5 3; have HB5 := Aside0.mk (below_step HBw.out hb5); clear hb5 hX5 hQ5))
                        all_goals
                          go_ret3
                          refine ⟨congrArg Ending.returned ?_, ?_⟩
                          · have hw8 : wantOf 8 tok usr (n : Int) me = some ⟨GET, (⟨#[47, 97, 117, 100, 105, 116, 63, 102, 114, 111, 109, 61]⟩ : ByteArray) ++ mkB (Lib.decDigits n), ⟨#[]⟩, ⟨#[]⟩, (n : Int), false⟩ := by
                              unfold wantOf
                              simp only [show ¬ (8 : Int) = 1 by decide, show ¬ (8 : Int) = 2 by decide, show ¬ (8 : Int) = 3 by decide, show ¬ (8 : Int) = 4 by decide, show ¬ (8 : Int) = 5 by decide, show ¬ (8 : Int) = 6 by decide, show ¬ (8 : Int) = 7 by decide, if_false, if_true]
                              rw [if_neg (by omega), Int.toNat_natCast]
                            unfold refRes
                            rw [hw8]
                            unfold wantOk sameR tgtRes
                            clear hw8
                            simp [*, GET, ByteArray.size_append] <;> first | omega | (rw [if_pos (by omega)]) | (rw [if_neg (by omega)]) | (rcases (by assumption : _ ∨ _) with hz | hz <;> first | omega | exact absurd (List.isEmpty_iff.1 hz) (by assumption))
                          · repeat (first | exact HB5.out | refine below_set ?_ HWQ.out | apply pw_below_drewN | apply below_drew1)
                  · by_cases k9 : k = 9
                    · subst k9
                      go_wp2
                      all_goals
                        go_ret3
                        refine ⟨congrArg Ending.returned ?_, ?_⟩
                        · unfold refRes wantOf wantOk sameR tgtRes
                          simp [*, POST, GET, DELETE, ByteArray.size_append] <;> first | omega | (rw [if_pos (by omega)]) | (rw [if_neg (by omega)]) | (rcases (by assumption : _ ∨ _) with hz | hz <;> first | omega | exact absurd (List.isEmpty_iff.1 hz) (by assumption)) | (dsimp only; simp [*, ByteArray.size_append] <;> first | omega | (rw [if_pos (by omega)]) | (rw [if_neg (by omega)]))
                        · repeat (first | exact HBw.out | refine below_set ?_ HWQ.out | apply pw_below_drewN | apply below_drew1)
                    · go_wp2
                      all_goals
                        go_ret3
                        refine ⟨congrArg Ending.returned ?_, ?_⟩
                        · unfold refRes wantOf wantOk sameR tgtRes
                          simp [*, POST, GET, DELETE, ByteArray.size_append] <;> first | omega | (rw [if_pos (by omega)]) | (rw [if_neg (by omega)]) | (rcases (by assumption : _ ∨ _) with hz | hz <;> first | omega | exact absurd (List.isEmpty_iff.1 hz) (by assumption)) | (dsimp only; simp [*, ByteArray.size_append] <;> first | omega | (rw [if_pos (by omega)]) | (rw [if_neg (by omega)]))
                        · repeat (first | exact HBw.out | refine below_set ?_ HWQ.out | apply pw_below_drewN | apply below_drew1)
end Go.Proofs.YtdbbgdgjmlcgcaaDoor.PRouteB
