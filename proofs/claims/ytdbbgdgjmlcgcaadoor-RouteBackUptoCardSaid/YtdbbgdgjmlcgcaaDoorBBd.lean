/- The program's Target is the document's. -/
import Derived.Test.YtdbbgdgjmlcgcaaDoorBBc
set_option linter.unusedVariables false
set_option linter.unusedSimpArgs false
namespace Go.Proofs.YtdbbgdgjmlcgcaaDoor.PRouteB
open Go.RowKit Go.Proofs.YtdbbgdgjmlcgcaaDoorW.PrintWords Go.Proofs.YtdbbgdgjmlcgcaaDoorW.PrintLast Go.Proofs.YtdbbgdgjmlcgcaaDoorW.PrintMore

/-- What Target hands back is the document's; and that target is found. -/
def TgtSpec (k : Int) (tok usr : ByteArray) (fr : Int) (me : Bool) (w : World) : Prop :=
  (Calls Tryd.prog 15 #[.agg #[.int .i64 k, .string tok, .string usr, .int .i64 fr, .bool me]] w fun e w' => e = .returned (refRes k tok usr fr me) ∧ Below w.heap.size w w') ∧
  ∃ (ok : Bool) (M T : ByteArray), refRes k tok usr fr me = tgtRes ok M T ∧ (ok = true → Ev (fun j => route_Find.f j M T) (k, tok, usr, fr, me, (200 : Int)))
theorem tgtRes_false (a b c d : ByteArray) : tgtRes false a b = tgtRes false c d := rfl
theorem find_long (m t : ByteArray) (h : ¬ t.size ≤ 1024) : Ev (fun k => route_Find.f k m t) ((0 : Int), (⟨#[]⟩ : ByteArray), (⟨#[]⟩ : ByteArray), (0 : Int), false, (400 : Int)) := by
  refine Ev.bind (g := fun k => route_Split.f k t) (a := (([] : List ByteArray), (⟨#[]⟩ : ByteArray), false, (3 : Int))) (Ev.congr (fun k => by unfold route_Split.f; rw [if_pos (by omega)]) (Ev.now _)) ?_
  exact Ev.now _
section
variable (k : Int) (tok usr : ByteArray) (fr : Int) (me : Bool) (w : World) (htk : tok.size ≤ 3000000) (hus : usr.size ≤ 3000000) (hfr : (Lit.int .i64 fr).wf = true) (htab : TabB w)
include htk hus hfr htab
/-- One way: what is found decides. -/
theorem tgt_join (i : Nat) (hi : i < theWays.length) (hix : ixF k me theWays 0 = (i : Int)) (W0 W1 : ByteArray) (W2 : Int) (W3 : Bool) (hW : theWays[i]'hi = ⟨W0, W1, W2, W3⟩) (words : List ByteArray) (hwords : strings_Split.f W1 ⟨#[47]⟩ = some words) (hwl : words.length ≤ 5)
    (htw : ∀ y ∈ words, (tw tok usr y).size ≤ 10000000) (T : ByteArray) (hT : tgtT k fr (bld tok usr words ⟨#[]⟩) = T) (ok : Bool) (hres : refRes k tok usr fr me = tgtRes ok W0 T) (hlong : ¬ T.size ≤ 1024 → ok = false)
    (r : Int × ByteArray × ByteArray × Int × Bool × Int) (hr : T.size ≤ 1024 → Ev (fun k => route_Find.f k W0 T) r) (hok : T.size ≤ 1024 → (r.2.2.2.2.2 == 200 && sameR k tok usr fr me r.1 r.2.1 r.2.2.1 r.2.2.2.1 r.2.2.2.2.1) = ok) :
    TgtSpec k tok usr fr me w := by
  refine ⟨?_, ok, W0, T, hres, ?_⟩
  case refine_2 =>
    intro h
    have hsz : T.size ≤ 1024 := by
      rcases Nat.lt_or_ge 1024 T.size with h' | h'
      · rw [hlong (by omega)] at h; cases h
      · exact h'
    have h1 := hok hsz
    have h2 := hr hsz
    rw [h] at h1
    obtain ⟨r0, r1, r2, r3, r4, r5⟩ := r
    unfold sameR at h1
    simp only [Bool.and_eq_true, beq_iff_eq] at h1
    obtain ⟨rfl, rfl, e1, e2, rfl, rfl⟩ := h1
    obtain rfl := ba_ext e1
    obtain rfl := ba_ext e2
    exact h2
  by_cases h : T.size ≤ 1024
  · obtain ⟨kf, hf⟩ := (hr h).rounds
    rw [← hT] at hf
    obtain ⟨r0, r1, r2, r3, r4, r5⟩ := r
    refine (target_pos k tok usr fr me w i hi hix W0 W1 W2 W3 hW words hwords hfr htab r0 r1 r2 r3 r4 r5 kf hf hwl htk hus htw).mono fun e w' ⟨he, hb⟩ => ⟨?_, hb⟩
    rw [he, hres, hT]
    have := hok h
    simp only at this
    rw [this]
  · obtain ⟨kf, hf⟩ := (find_long W0 T h).rounds
    rw [← hT] at hf
    refine (target_pos k tok usr fr me w i hi hix W0 W1 W2 W3 hW words hwords hfr htab 0 ⟨#[]⟩ ⟨#[]⟩ 0 false 400 kf hf hwl htk hus htw).mono fun e w' ⟨he, hb⟩ => ⟨?_, hb⟩
    rw [he, hres, hlong h]
    rfl
end
theorem tw_word {tok usr : ByteArray} {l : List UInt8} (h1 : l ≠ [84]) (h2 : l ≠ [85]) : tw tok usr (mkB l) = mkB l := by unfold tw; rw [tl, if_neg h1, if_neg h2]
theorem tw_T (tok usr : ByteArray) : tw tok usr ⟨#[84]⟩ = mkB (escS tok.data.toList) := by unfold tw; rw [if_pos (toL _)]
theorem tw_U (tok usr : ByteArray) : tw tok usr ⟨#[85]⟩ = mkB (escS usr.data.toList) := by
  unfold tw
  rw [show (⟨#[85]⟩ : ByteArray).toList = [85] from toL _, if_neg (by decide), if_pos rfl]
theorem esc_size (s : ByteArray) (h : s.size ≤ 3000000) : (mkB (escS s.data.toList)).size ≤ 9000000 := by
  have h1 := escS_length s.data.toList
  rw [data_length] at h1
  rw [mkB_size]
  omega
theorem bld1 (tok usr : ByteArray) (a : List UInt8) (x : ByteArray) (h : tw tok usr x = mkB a) : bld tok usr [x] ⟨#[]⟩ = mkB (47 :: a) := by
  simp only [bld, h]
  rw [show (⟨#[]⟩ : ByteArray) = mkB [] from rfl, show (⟨#[47]⟩ : ByteArray) = mkB [47] from rfl, mkB_app, mkB_app]
  rfl
theorem bld2 (tok usr : ByteArray) (a b : List UInt8) (x y : ByteArray) (h : tw tok usr x = mkB a) (h2 : tw tok usr y = mkB b) : bld tok usr [x, y] ⟨#[]⟩ = mkB (47 :: (a ++ 47 :: b)) := by
  simp only [bld, h, h2]
  rw [show (⟨#[]⟩ : ByteArray) = mkB [] from rfl, show (⟨#[47]⟩ : ByteArray) = mkB [47] from rfl, mkB_app, mkB_app, mkB_app, mkB_app]
  rfl
theorem bld3 (tok usr : ByteArray) (a b c : List UInt8) (x y z : ByteArray) (h : tw tok usr x = mkB a) (h2 : tw tok usr y = mkB b) (h3 : tw tok usr z = mkB c) : bld tok usr [x, y, z] ⟨#[]⟩ = mkB (47 :: (a ++ 47 :: (b ++ 47 :: c))) := by
  simp only [bld, h, h2, h3]
  rw [show (⟨#[]⟩ : ByteArray) = mkB [] from rfl, show (⟨#[47]⟩ : ByteArray) = mkB [47] from rfl, mkB_app, mkB_app, mkB_app, mkB_app, mkB_app, mkB_app]
  congr 1
  simp
theorem tl0 : (⟨#[]⟩ : ByteArray).toList = [] := toL _
theorem nil_iff (s : ByteArray) : s.toList = [] ↔ s.data.toList = [] := by rw [toL]
theorem mkB_data_eq (s : ByteArray) : mkB s.data.toList = s := mkB_of s
theorem neg_join (k : Int) (tok usr : ByteArray) (fr : Int) (me : Bool) (w : World) (hix : ixF k me theWays 0 = -1) (hres : refRes k tok usr fr me = tgtRes false tok usr) :
    TgtSpec k tok usr fr me w :=
  ⟨(target_neg k tok usr fr me w hix).mono fun e w' ⟨he, hb⟩ => ⟨by rw [he, hres]; rfl, hb⟩, false, tok, usr, hres, fun h => by cases h⟩
theorem GP : GET.toList ≠ POST.toList := by rw [GET, POST, toL, toL]; decide
theorem PG : POST.toList ≠ GET.toList := fun h => GP h.symm
theorem DG : DELETE.toList ≠ GET.toList := by rw [GET, DELETE, toL, toL]; decide
theorem GD : GET.toList ≠ DELETE.toList := fun h => DG h.symm
theorem DP : DELETE.toList ≠ POST.toList := by rw [POST, DELETE, toL, toL]; decide
theorem PD : POST.toList ≠ DELETE.toList := fun h => DP h.symm
theorem toL_T : (⟨#[84]⟩ : ByteArray).toList = [84] := toL _
theorem toL_U : (⟨#[85]⟩ : ByteArray).toList = [85] := toL _
theorem w1 : bSess ≠ [84] := by decide
theorem w2 : bSess ≠ [85] := by decide
theorem w3 : bUsers ≠ [84] := by decide
theorem w4 : bUsers ≠ [85] := by decide
theorem w5 : bTouch ≠ [84] := by decide
theorem w6 : bTouch ≠ [85] := by decide
theorem w7 : bAudit ≠ [84] := by decide
theorem w8 : bAudit ≠ [85] := by decide
theorem w9 : bMe ≠ [84] := by decide
theorem w10 : bMe ≠ [85] := by decide
theorem w11 : bStats ≠ [84] := by decide
theorem w12 : bStats ≠ [85] := by decide
theorem v1 : bUsers ≠ bSess := by decide
theorem v2 : bSess ≠ bUsers := by decide
theorem v3 : bSess ≠ bAudit := by decide
theorem v4 : bSess ≠ bMe := by decide
theorem v5 : bSess ≠ bStats := by decide
theorem v6 : bAudit ≠ bSess := by decide
theorem v7 : bAudit ≠ bMe := by decide
theorem v8 : bAudit ≠ bStats := by decide
theorem v9 : bMe ≠ bSess := by decide
theorem v10 : bMe ≠ bAudit := by decide
theorem v11 : bMe ≠ bStats := by decide
theorem v12 : bStats ≠ bSess := by decide
theorem v13 : bStats ≠ bAudit := by decide
theorem v14 : bStats ≠ bMe := by decide
theorem v15 : bTouch ≠ bSess := by decide
theorem v16 : bSess ≠ bTouch := by decide
section
variable (tok usr : ByteArray) (fr : Int) (w : World) (htk : tok.size ≤ 3000000) (hus : usr.size ≤ 3000000) (hfr : (Lit.int .i64 fr).wf = true) (htab : TabB w)
include htk hus hfr htab
theorem tk1 : TgtSpec 1 tok usr fr false w := by
  have hT : tgtT 1 fr (bld tok usr [mkB bSess] ⟨#[]⟩) = mkB (47 :: bSess) := by
    unfold tgtT
    rw [if_neg (by decide)]
    exact bld1 tok usr bSess _ (tw_word (by decide) (by decide))
  have hf : findS POST [mkB bSess] [mkB bSess] ask0 WW 404 = (1, ⟨#[]⟩, ⟨#[]⟩, 0, false, 200) := by
    simp [findS, WW, wres, fitL, tl, ask0, GP, PG, DG, GD, DP, PD, toL_T, toL_U, w1, w2, w3, w4, w5, w6, w7, w8, w9, w10, w11, w12, v1, v2, v3, v4, v5, v6, v7, v8, v9, v10, v11, v12, v13, v14, v15, v16]
  refine tgt_join 1 tok usr fr false w htk hus hfr htab 0 (by decide) (by kernel_rfl) POST ⟨#[115, 101, 115, 115, 105, 111, 110, 115]⟩ 1 false rfl [mkB bSess] (by kernel_rfl) (by decide) ?_ _ hT (wantOk 1 tok usr fr false ⟨POST, mkB (47 :: bSess), ⟨#[]⟩, ⟨#[]⟩, 0, false⟩) rfl ?_ _ (fun _ => path1 POST bSess (by decide) (by decide) (by decide) (by decide)) ?_
  · intro y hy
    obtain rfl := List.mem_singleton.1 hy
    rw [tw_word (by decide) (by decide), mkB_size]
    decide
  · intro h
    unfold wantOk
    simp only [decide_eq_false h, Bool.and_false]
  · intro h
    rw [hf]
    unfold wantOk sameR
    rw [decide_eq_true h]
    simp
theorem tk6 : TgtSpec 6 tok usr fr false w := by
  have hT : tgtT 6 fr (bld tok usr [mkB bSess] ⟨#[]⟩) = mkB (47 :: bSess) := by
    unfold tgtT
    rw [if_neg (by decide)]
    exact bld1 tok usr bSess _ (tw_word (by decide) (by decide))
  have hf : findS DELETE [mkB bSess] [mkB bSess] ask0 WW 404 = (6, ⟨#[]⟩, ⟨#[]⟩, 0, false, 200) := by
    simp [findS, WW, wres, fitL, tl, ask0, GP, PG, DG, GD, DP, PD, toL_T, toL_U, w1, w2, w3, w4, w5, w6, w7, w8, w9, w10, w11, w12, v1, v2, v3, v4, v5, v6, v7, v8, v9, v10, v11, v12, v13, v14, v15, v16]
  refine tgt_join 6 tok usr fr false w htk hus hfr htab 5 (by decide) (by kernel_rfl) DELETE ⟨#[115, 101, 115, 115, 105, 111, 110, 115]⟩ 6 false rfl [mkB bSess] (by kernel_rfl) (by decide) ?_ _ hT (wantOk 6 tok usr fr false ⟨DELETE, mkB (47 :: bSess), ⟨#[]⟩, ⟨#[]⟩, 0, false⟩) rfl ?_ _ (fun _ => path1 DELETE bSess (by decide) (by decide) (by decide) (by decide)) ?_
  · intro y hy
    obtain rfl := List.mem_singleton.1 hy
    rw [tw_word (by decide) (by decide), mkB_size]
    decide
  · intro h
    unfold wantOk
    simp only [decide_eq_false h, Bool.and_false]
  · intro h
    rw [hf]
    unfold wantOk sameR
    rw [decide_eq_true h]
    simp
theorem tkme : TgtSpec 2 tok usr fr true w := by
  have hT : tgtT 2 fr (bld tok usr [mkB bMe] ⟨#[]⟩) = mkB (47 :: bMe) := by
    unfold tgtT
    rw [if_neg (by decide)]
    exact bld1 tok usr bMe _ (tw_word (by decide) (by decide))
  have hf : findS GET [mkB bMe] [mkB bMe] ask0 WW 404 = (2, ⟨#[]⟩, ⟨#[]⟩, 0, true, 200) := by
    simp [findS, WW, wres, fitL, tl, ask0, GP, PG, DG, GD, DP, PD, toL_T, toL_U, w1, w2, w3, w4, w5, w6, w7, w8, w9, w10, w11, w12, v1, v2, v3, v4, v5, v6, v7, v8, v9, v10, v11, v12, v13, v14, v15, v16]
  refine tgt_join 2 tok usr fr true w htk hus hfr htab 8 (by decide) (by kernel_rfl) GET ⟨#[109, 101]⟩ 2 true rfl [mkB bMe] (by kernel_rfl) (by decide) ?_ _ hT (wantOk 2 tok usr fr true ⟨GET, mkB (47 :: bMe), ⟨#[]⟩, ⟨#[]⟩, 0, true⟩) rfl ?_ _ (fun _ => path1 GET bMe (by decide) (by decide) (by decide) (by decide)) ?_
  · intro y hy
    obtain rfl := List.mem_singleton.1 hy
    rw [tw_word (by decide) (by decide), mkB_size]
    decide
  · intro h
    unfold wantOk
    simp only [decide_eq_false h, Bool.and_false]
  · intro h
    rw [hf]
    unfold wantOk sameR
    rw [decide_eq_true h]
    simp
theorem tk9 : TgtSpec 9 tok usr fr false w := by
  have hT : tgtT 9 fr (bld tok usr [mkB bStats] ⟨#[]⟩) = mkB (47 :: bStats) := by
    unfold tgtT
    rw [if_neg (by decide)]
    exact bld1 tok usr bStats _ (tw_word (by decide) (by decide))
  have hf : findS GET [mkB bStats] [mkB bStats] ask0 WW 404 = (9, ⟨#[]⟩, ⟨#[]⟩, 0, false, 200) := by
    simp [findS, WW, wres, fitL, tl, ask0, GP, PG, DG, GD, DP, PD, toL_T, toL_U, w1, w2, w3, w4, w5, w6, w7, w8, w9, w10, w11, w12, v1, v2, v3, v4, v5, v6, v7, v8, v9, v10, v11, v12, v13, v14, v15, v16]
  refine tgt_join 9 tok usr fr false w htk hus hfr htab 9 (by decide) (by kernel_rfl) GET ⟨#[115, 116, 97, 116, 115]⟩ 9 false rfl [mkB bStats] (by kernel_rfl) (by decide) ?_ _ hT (wantOk 9 tok usr fr false ⟨GET, mkB (47 :: bStats), ⟨#[]⟩, ⟨#[]⟩, 0, false⟩) rfl ?_ _ (fun _ => path1 GET bStats (by decide) (by decide) (by decide) (by decide)) ?_
  · intro y hy
    obtain rfl := List.mem_singleton.1 hy
    rw [tw_word (by decide) (by decide), mkB_size]
    decide
  · intro h
    unfold wantOk
    simp only [decide_eq_false h, Bool.and_false]
  · intro h
    rw [hf]
    unfold wantOk sameR
    rw [decide_eq_true h]
    simp
theorem tk2 : TgtSpec 2 tok usr fr false w := by
  have hT : tgtT 2 fr (bld tok usr [mkB bSess, ⟨#[84]⟩] ⟨#[]⟩) = mkB (47 :: (bSess ++ 47 :: escS tok.data.toList)) := by
    unfold tgtT
    rw [if_neg (by decide)]
    exact bld2 tok usr bSess _ _ _ (tw_word (by decide) (by decide)) (tw_T tok usr)
  have hf : findS GET [mkB bSess, mkB (escS tok.data.toList)] [mkB bSess, mkB tok.data.toList] ask0 WW 404 = if tok.data.toList = [] then (0, ⟨#[]⟩, ⟨#[]⟩, 0, false, 404) else (2, mkB tok.data.toList, ⟨#[]⟩, 0, false, 200) := by
    by_cases hn : tok.data.toList = []
    · simp [findS, WW, wres, fitL, tl, ask0, hn, GP, PG, DG, GD, DP, PD, toL_T, toL_U, w1, w2, w3, w4, w5, w6, w7, w8, w9, w10, w11, w12, v1, v2, v3, v4, v5, v6, v7, v8, v9, v10, v11, v12, v13, v14, v15, v16]
    · simp [findS, WW, wres, fitL, tl, ask0, hn, GP, PG, DG, GD, DP, PD, toL_T, toL_U, w1, w2, w3, w4, w5, w6, w7, w8, w9, w10, w11, w12, v1, v2, v3, v4, v5, v6, v7, v8, v9, v10, v11, v12, v13, v14, v15, v16]
  have hT2 : (⟨#[47, 115, 101, 115, 115, 105, 111, 110, 115, 47]⟩ : ByteArray) ++ mkB (escS tok.data.toList) = mkB (47 :: (bSess ++ 47 :: escS tok.data.toList)) := by
    rw [show (⟨#[47, 115, 101, 115, 115, 105, 111, 110, 115, 47]⟩ : ByteArray) = mkB [47, 115, 101, 115, 115, 105, 111, 110, 115, 47] from rfl, mkB_app]
    rfl
  refine tgt_join 2 tok usr fr false w htk hus hfr htab 1 (by decide) (by kernel_rfl) GET ⟨#[115, 101, 115, 115, 105, 111, 110, 115, 47, 84]⟩ 2 false rfl [mkB bSess, ⟨#[84]⟩] (by kernel_rfl) (by decide) ?_ _ hT (wantOk 2 tok usr fr false ⟨GET, mkB (47 :: (bSess ++ 47 :: escS tok.data.toList)), tok, ⟨#[]⟩, 0, false⟩) ?_ ?_ _ (fun h => path2 GET _ _ (escS_ne _) (unesc_escS _) (by rw [mkB_size] at h; exact h)) ?_
  · intro y hy
    simp only [List.mem_cons, List.not_mem_nil, or_false] at hy
    rcases hy with rfl | rfl
    · rw [tw_word (by decide) (by decide), mkB_size]
      decide
    · rw [tw_T]
      have := esc_size tok htk
      omega
  · rw [← hT2]
    rfl
  · intro h
    unfold wantOk
    simp only [decide_eq_false h, Bool.and_false]
  · intro h
    rw [hf]
    unfold wantOk sameR
    rw [decide_eq_true h]
    by_cases hn : tok.data.toList = []
    · simp [hn, toL]
    · have hn2 : ¬ tok.data = #[] := fun e => hn (by rw [e])
      simp [hn, hn2, toL, mkB_data]
theorem tk4 : TgtSpec 4 tok usr fr false w := by
  have hT : tgtT 4 fr (bld tok usr [mkB bSess, ⟨#[84]⟩] ⟨#[]⟩) = mkB (47 :: (bSess ++ 47 :: escS tok.data.toList)) := by
    unfold tgtT
    rw [if_neg (by decide)]
    exact bld2 tok usr bSess _ _ _ (tw_word (by decide) (by decide)) (tw_T tok usr)
  have hf : findS DELETE [mkB bSess, mkB (escS tok.data.toList)] [mkB bSess, mkB tok.data.toList] ask0 WW 404 = if tok.data.toList = [] then (0, ⟨#[]⟩, ⟨#[]⟩, 0, false, 404) else (4, mkB tok.data.toList, ⟨#[]⟩, 0, false, 200) := by
    by_cases hn : tok.data.toList = []
    · simp [findS, WW, wres, fitL, tl, ask0, hn, GP, PG, DG, GD, DP, PD, toL_T, toL_U, w1, w2, w3, w4, w5, w6, w7, w8, w9, w10, w11, w12, v1, v2, v3, v4, v5, v6, v7, v8, v9, v10, v11, v12, v13, v14, v15, v16]
    · simp [findS, WW, wres, fitL, tl, ask0, hn, GP, PG, DG, GD, DP, PD, toL_T, toL_U, w1, w2, w3, w4, w5, w6, w7, w8, w9, w10, w11, w12, v1, v2, v3, v4, v5, v6, v7, v8, v9, v10, v11, v12, v13, v14, v15, v16]
  have hT2 : (⟨#[47, 115, 101, 115, 115, 105, 111, 110, 115, 47]⟩ : ByteArray) ++ mkB (escS tok.data.toList) = mkB (47 :: (bSess ++ 47 :: escS tok.data.toList)) := by
    rw [show (⟨#[47, 115, 101, 115, 115, 105, 111, 110, 115, 47]⟩ : ByteArray) = mkB [47, 115, 101, 115, 115, 105, 111, 110, 115, 47] from rfl, mkB_app]
    rfl
  refine tgt_join 4 tok usr fr false w htk hus hfr htab 3 (by decide) (by kernel_rfl) DELETE ⟨#[115, 101, 115, 115, 105, 111, 110, 115, 47, 84]⟩ 4 false rfl [mkB bSess, ⟨#[84]⟩] (by kernel_rfl) (by decide) ?_ _ hT (wantOk 4 tok usr fr false ⟨DELETE, mkB (47 :: (bSess ++ 47 :: escS tok.data.toList)), tok, ⟨#[]⟩, 0, false⟩) ?_ ?_ _ (fun h => path2 DELETE _ _ (escS_ne _) (unesc_escS _) (by rw [mkB_size] at h; exact h)) ?_
  · intro y hy
    simp only [List.mem_cons, List.not_mem_nil, or_false] at hy
    rcases hy with rfl | rfl
    · rw [tw_word (by decide) (by decide), mkB_size]
      decide
    · rw [tw_T]
      have := esc_size tok htk
      omega
  · rw [← hT2]
    rfl
  · intro h
    unfold wantOk
    simp only [decide_eq_false h, Bool.and_false]
  · intro h
    rw [hf]
    unfold wantOk sameR
    rw [decide_eq_true h]
    by_cases hn : tok.data.toList = []
    · simp [hn, toL]
    · have hn2 : ¬ tok.data = #[] := fun e => hn (by rw [e])
      simp [hn, hn2, toL, mkB_data]
theorem tk3 : TgtSpec 3 tok usr fr false w := by
  have hT : tgtT 3 fr (bld tok usr [mkB bSess, ⟨#[84]⟩, mkB bTouch] ⟨#[]⟩) = mkB (47 :: (bSess ++ 47 :: (escS tok.data.toList ++ 47 :: bTouch))) := by
    unfold tgtT
    rw [if_neg (by decide)]
    exact bld3 tok usr bSess _ bTouch _ _ _ (tw_word (by decide) (by decide)) (tw_T tok usr) (tw_word (by decide) (by decide))
  have hf : findS POST [mkB bSess, mkB (escS tok.data.toList), mkB bTouch] [mkB bSess, mkB tok.data.toList, mkB bTouch] ask0 WW 404 = if tok.data.toList = [] then (0, ⟨#[]⟩, ⟨#[]⟩, 0, false, 404) else (3, mkB tok.data.toList, ⟨#[]⟩, 0, false, 200) := by
    by_cases hn : tok.data.toList = []
    · simp [findS, WW, wres, fitL, tl, ask0, hn, GP, PG, DG, GD, DP, PD, toL_T, toL_U, w1, w2, w3, w4, w5, w6, w7, w8, w9, w10, w11, w12, v1, v2, v3, v4, v5, v6, v7, v8, v9, v10, v11, v12, v13, v14, v15, v16]
    · simp [findS, WW, wres, fitL, tl, ask0, hn, GP, PG, DG, GD, DP, PD, toL_T, toL_U, w1, w2, w3, w4, w5, w6, w7, w8, w9, w10, w11, w12, v1, v2, v3, v4, v5, v6, v7, v8, v9, v10, v11, v12, v13, v14, v15, v16]
  have hT2 : ((⟨#[47, 115, 101, 115, 115, 105, 111, 110, 115, 47]⟩ : ByteArray) ++ mkB (escS tok.data.toList)) ++ (⟨#[47, 116, 111, 117, 99, 104]⟩ : ByteArray) = mkB (47 :: (bSess ++ 47 :: (escS tok.data.toList ++ 47 :: bTouch))) := by
    rw [show (⟨#[47, 115, 101, 115, 115, 105, 111, 110, 115, 47]⟩ : ByteArray) = mkB (47 :: (bSess ++ [47])) from rfl, show (⟨#[47, 116, 111, 117, 99, 104]⟩ : ByteArray) = mkB (47 :: bTouch) from rfl, mkB_app, mkB_app]
    congr 1
  refine tgt_join 3 tok usr fr false w htk hus hfr htab 2 (by decide) (by kernel_rfl) POST ⟨#[115, 101, 115, 115, 105, 111, 110, 115, 47, 84, 47, 116, 111, 117, 99, 104]⟩ 3 false rfl [mkB bSess, ⟨#[84]⟩, mkB bTouch] (by kernel_rfl) (by decide) ?_ _ hT (wantOk 3 tok usr fr false ⟨POST, mkB (47 :: (bSess ++ 47 :: (escS tok.data.toList ++ 47 :: bTouch))), tok, ⟨#[]⟩, 0, false⟩) ?_ ?_ _ (fun h => path3 POST bSess bTouch _ _ (by decide) (by decide) (by decide) (by decide) (escS_ne _) (unesc_escS _) (by rw [mkB_size] at h; exact h)) ?_
  · intro y hy
    simp only [List.mem_cons, List.not_mem_nil, or_false] at hy
    rcases hy with rfl | rfl | rfl
    · rw [tw_word (by decide) (by decide), mkB_size]
      decide
    · rw [tw_T]
      have := esc_size tok (by assumption)
      omega
    · rw [tw_word (by decide) (by decide), mkB_size]
      decide
  · rw [← hT2]
    rfl
  · intro h
    unfold wantOk
    simp only [decide_eq_false h, Bool.and_false]
  · intro h
    rw [hf]
    unfold wantOk sameR
    rw [decide_eq_true h]
    by_cases hn : tok.data.toList = []
    · simp [hn, toL]
    · have hn2 : ¬ tok.data = #[] := fun e => hn (by rw [e])
      simp [hn, hn2, toL, mkB_data]
theorem tk5 : TgtSpec 5 tok usr fr false w := by
  have hT : tgtT 5 fr (bld tok usr [mkB bUsers, ⟨#[85]⟩, mkB bSess] ⟨#[]⟩) = mkB (47 :: (bUsers ++ 47 :: (escS usr.data.toList ++ 47 :: bSess))) := by
    unfold tgtT
    rw [if_neg (by decide)]
    exact bld3 tok usr bUsers _ bSess _ _ _ (tw_word (by decide) (by decide)) (tw_U tok usr) (tw_word (by decide) (by decide))
  have hf : findS DELETE [mkB bUsers, mkB (escS usr.data.toList), mkB bSess] [mkB bUsers, mkB usr.data.toList, mkB bSess] ask0 WW 404 = if usr.data.toList = [] then (0, ⟨#[]⟩, ⟨#[]⟩, 0, false, 404) else (5, ⟨#[]⟩, mkB usr.data.toList, 0, false, 200) := by
    by_cases hn : usr.data.toList = []
    · simp [findS, WW, wres, fitL, tl, ask0, hn, GP, PG, DG, GD, DP, PD, toL_T, toL_U, w1, w2, w3, w4, w5, w6, w7, w8, w9, w10, w11, w12, v1, v2, v3, v4, v5, v6, v7, v8, v9, v10, v11, v12, v13, v14, v15, v16]
    · simp [findS, WW, wres, fitL, tl, ask0, hn, GP, PG, DG, GD, DP, PD, toL_T, toL_U, w1, w2, w3, w4, w5, w6, w7, w8, w9, w10, w11, w12, v1, v2, v3, v4, v5, v6, v7, v8, v9, v10, v11, v12, v13, v14, v15, v16]
  have hT2 : ((⟨#[47, 117, 115, 101, 114, 115, 47]⟩ : ByteArray) ++ mkB (escS usr.data.toList)) ++ (⟨#[47, 115, 101, 115, 115, 105, 111, 110, 115]⟩ : ByteArray) = mkB (47 :: (bUsers ++ 47 :: (escS usr.data.toList ++ 47 :: bSess))) := by
    rw [show (⟨#[47, 117, 115, 101, 114, 115, 47]⟩ : ByteArray) = mkB (47 :: (bUsers ++ [47])) from rfl, show (⟨#[47, 115, 101, 115, 115, 105, 111, 110, 115]⟩ : ByteArray) = mkB (47 :: bSess) from rfl, mkB_app, mkB_app]
    congr 1
  refine tgt_join 5 tok usr fr false w htk hus hfr htab 4 (by decide) (by kernel_rfl) DELETE ⟨#[117, 115, 101, 114, 115, 47, 85, 47, 115, 101, 115, 115, 105, 111, 110, 115]⟩ 5 false rfl [mkB bUsers, ⟨#[85]⟩, mkB bSess] (by kernel_rfl) (by decide) ?_ _ hT (wantOk 5 tok usr fr false ⟨DELETE, mkB (47 :: (bUsers ++ 47 :: (escS usr.data.toList ++ 47 :: bSess))), ⟨#[]⟩, usr, 0, false⟩) ?_ ?_ _ (fun h => path3 DELETE bUsers bSess _ _ (by decide) (by decide) (by decide) (by decide) (escS_ne _) (unesc_escS _) (by rw [mkB_size] at h; exact h)) ?_
  · intro y hy
    simp only [List.mem_cons, List.not_mem_nil, or_false] at hy
    rcases hy with rfl | rfl | rfl
    · rw [tw_word (by decide) (by decide), mkB_size]
      decide
    · rw [tw_U]
      have := esc_size usr (by assumption)
      omega
    · rw [tw_word (by decide) (by decide), mkB_size]
      decide
  · rw [← hT2]
    rfl
  · intro h
    unfold wantOk
    simp only [decide_eq_false h, Bool.and_false]
  · intro h
    rw [hf]
    unfold wantOk sameR
    rw [decide_eq_true h]
    by_cases hn : usr.data.toList = []
    · simp [hn, toL]
    · have hn2 : ¬ usr.data = #[] := fun e => hn (by rw [e])
      simp [hn, hn2, toL, mkB_data]
theorem tk7 : TgtSpec 7 tok usr fr false w := by
  have hT : tgtT 7 fr (bld tok usr [mkB bUsers, ⟨#[85]⟩, mkB bSess] ⟨#[]⟩) = mkB (47 :: (bUsers ++ 47 :: (escS usr.data.toList ++ 47 :: bSess))) := by
    unfold tgtT
    rw [if_neg (by decide)]
    exact bld3 tok usr bUsers _ bSess _ _ _ (tw_word (by decide) (by decide)) (tw_U tok usr) (tw_word (by decide) (by decide))
  have hf : findS GET [mkB bUsers, mkB (escS usr.data.toList), mkB bSess] [mkB bUsers, mkB usr.data.toList, mkB bSess] ask0 WW 404 = if usr.data.toList = [] then (0, ⟨#[]⟩, ⟨#[]⟩, 0, false, 404) else (7, ⟨#[]⟩, mkB usr.data.toList, 0, false, 200) := by
    by_cases hn : usr.data.toList = []
    · simp [findS, WW, wres, fitL, tl, ask0, hn, GP, PG, DG, GD, DP, PD, toL_T, toL_U, w1, w2, w3, w4, w5, w6, w7, w8, w9, w10, w11, w12, v1, v2, v3, v4, v5, v6, v7, v8, v9, v10, v11, v12, v13, v14, v15, v16]
    · simp [findS, WW, wres, fitL, tl, ask0, hn, GP, PG, DG, GD, DP, PD, toL_T, toL_U, w1, w2, w3, w4, w5, w6, w7, w8, w9, w10, w11, w12, v1, v2, v3, v4, v5, v6, v7, v8, v9, v10, v11, v12, v13, v14, v15, v16]
  have hT2 : ((⟨#[47, 117, 115, 101, 114, 115, 47]⟩ : ByteArray) ++ mkB (escS usr.data.toList)) ++ (⟨#[47, 115, 101, 115, 115, 105, 111, 110, 115]⟩ : ByteArray) = mkB (47 :: (bUsers ++ 47 :: (escS usr.data.toList ++ 47 :: bSess))) := by
    rw [show (⟨#[47, 117, 115, 101, 114, 115, 47]⟩ : ByteArray) = mkB (47 :: (bUsers ++ [47])) from rfl, show (⟨#[47, 115, 101, 115, 115, 105, 111, 110, 115]⟩ : ByteArray) = mkB (47 :: bSess) from rfl, mkB_app, mkB_app]
    congr 1
  refine tgt_join 7 tok usr fr false w htk hus hfr htab 6 (by decide) (by kernel_rfl) GET ⟨#[117, 115, 101, 114, 115, 47, 85, 47, 115, 101, 115, 115, 105, 111, 110, 115]⟩ 7 false rfl [mkB bUsers, ⟨#[85]⟩, mkB bSess] (by kernel_rfl) (by decide) ?_ _ hT (wantOk 7 tok usr fr false ⟨GET, mkB (47 :: (bUsers ++ 47 :: (escS usr.data.toList ++ 47 :: bSess))), ⟨#[]⟩, usr, 0, false⟩) ?_ ?_ _ (fun h => path3 GET bUsers bSess _ _ (by decide) (by decide) (by decide) (by decide) (escS_ne _) (unesc_escS _) (by rw [mkB_size] at h; exact h)) ?_
  · intro y hy
    simp only [List.mem_cons, List.not_mem_nil, or_false] at hy
    rcases hy with rfl | rfl | rfl
    · rw [tw_word (by decide) (by decide), mkB_size]
      decide
    · rw [tw_U]
      have := esc_size usr (by assumption)
      omega
    · rw [tw_word (by decide) (by decide), mkB_size]
      decide
  · rw [← hT2]
    rfl
  · intro h
    unfold wantOk
    simp only [decide_eq_false h, Bool.and_false]
  · intro h
    rw [hf]
    unfold wantOk sameR
    rw [decide_eq_true h]
    by_cases hn : usr.data.toList = []
    · simp [hn, toL]
    · have hn2 : ¬ usr.data = #[] := fun e => hn (by rw [e])
      simp [hn, hn2, toL, mkB_data]
theorem tk8 : TgtSpec 8 tok usr fr false w := by
  have hb := wf64 hfr
  obtain ⟨d, hd, h1, h2⟩ := digits_itoa fr hb.2
  have hN : ∀ c ∈ Lib.itoa fr, c ≠ 38 ∧ c ≠ 37 := by
    intro c hc
    have hd : ∀ m, c ∈ Lib.decDigits m → c ≠ 38 ∧ c ≠ 37 := by
      intro m hm
      have := dec_digit m c hm
      constructor <;> (rintro rfl; revert this; decide)
    unfold Lib.itoa at hc
    split at hc
    · rcases List.mem_cons.1 hc with rfl | hc
      · decide
      · exact hd _ hc
    · exact hd _ hc
  have hl := itoa_len fr hb.1 hb.2
  have hT : tgtT 8 fr (bld tok usr [mkB bAudit] ⟨#[]⟩) = mkB ((47 :: bAudit) ++ 63 :: (bFrom ++ 61 :: Lib.itoa fr)) := by
    unfold tgtT
    rw [if_pos rfl, bld1 tok usr bAudit _ (tw_word (by decide) (by decide)), show (⟨#[63, 102, 114, 111, 109, 61]⟩ : ByteArray) = mkB [63, 102, 114, 111, 109, 61] from rfl, mkB_app, mkB_app]
    rfl
  have hsz : (mkB ((47 :: bAudit) ++ 63 :: (bFrom ++ 61 :: Lib.itoa fr))).size ≤ 1024 := by
    rw [mkB_size]
    simp [bAudit, bFrom]
    omega
  have htw : ∀ y ∈ [mkB bAudit], (tw tok usr y).size ≤ 10000000 := by
    intro y hy
    obtain rfl := List.mem_singleton.1 hy
    rw [tw_word (by decide) (by decide), mkB_size]
    decide
  by_cases hr : 0 ≤ fr ∧ fr ≤ 999999999
  · obtain rfl := h1 hr
    have hf : findS GET [mkB bAudit] [mkB bAudit] (askN (fr, 0)) WW 404 = (8, ⟨#[]⟩, ⟨#[]⟩, fr, false, 200) := by
      simp [findS, WW, wres, fitL, tl, askN, GP, PG, DG, GD, DP, PD, toL_T, toL_U, w1, w2, w3, w4, w5, w6, w7, w8, w9, w10, w11, w12, v1, v2, v3, v4, v5, v6, v7, v8, v9, v10, v11, v12, v13, v14, v15, v16]
    have e : Lib.itoa fr = Lib.decDigits fr.toNat := by unfold Lib.itoa; rw [if_neg (by omega)]
    have hT2 : (⟨#[47, 97, 117, 100, 105, 116, 63, 102, 114, 111, 109, 61]⟩ : ByteArray) ++ mkB (Lib.decDigits fr.toNat) = mkB ((47 :: bAudit) ++ 63 :: (bFrom ++ 61 :: Lib.itoa fr)) := by
      rw [e, show (⟨#[47, 97, 117, 100, 105, 116, 63, 102, 114, 111, 109, 61]⟩ : ByteArray) = mkB [47, 97, 117, 100, 105, 116, 63, 102, 114, 111, 109, 61] from rfl, mkB_app]
      rfl
    refine tgt_join 8 tok usr fr false w htk hus hfr htab 7 (by decide) (by kernel_rfl) GET ⟨#[97, 117, 100, 105, 116]⟩ 8 false rfl [mkB bAudit] (by kernel_rfl) (by decide) htw _ hT (wantOk 8 tok usr fr false ⟨GET, mkB ((47 :: bAudit) ++ 63 :: (bFrom ++ 61 :: Lib.itoa fr)), ⟨#[]⟩, ⟨#[]⟩, fr, false⟩) ?_ (fun h => absurd hsz h) _ (fun _ => pathq GET _ hN (by omega) _ hd) ?_
    · have hw : wantOf 8 tok usr fr false = some ⟨GET, (⟨#[47, 97, 117, 100, 105, 116, 63, 102, 114, 111, 109, 61]⟩ : ByteArray) ++ mkB (Lib.decDigits fr.toNat), ⟨#[]⟩, ⟨#[]⟩, fr, false⟩ := by
        unfold wantOf
        simp only [show ¬ (8 : Int) = 1 by decide, show ¬ (8 : Int) = 2 by decide, show ¬ (8 : Int) = 3 by decide, show ¬ (8 : Int) = 4 by decide, show ¬ (8 : Int) = 5 by decide, show ¬ (8 : Int) = 6 by decide, show ¬ (8 : Int) = 7 by decide, if_false, if_true]
        rw [if_neg (by omega)]
      unfold refRes
      rw [hw, hT2]
    · intro h
      rw [hf]
      unfold wantOk sameR
      rw [decide_eq_true h]
      simp
  · have hd2 := h2 hr
    have hf : findS GET [mkB bAudit] [mkB bAudit] (askN d) WW 404 = (0, ⟨#[]⟩, ⟨#[]⟩, 0, false, 400) := by
      simp [findS, WW, wres, fitL, tl, askN, hd2, GP, PG, DG, GD, DP, PD, toL_T, toL_U, w1, w2, w3, w4, w5, w6, w7, w8, w9, w10, w11, w12, v1, v2, v3, v4, v5, v6, v7, v8, v9, v10, v11, v12, v13, v14, v15, v16]
    refine tgt_join 8 tok usr fr false w htk hus hfr htab 7 (by decide) (by kernel_rfl) GET ⟨#[97, 117, 100, 105, 116]⟩ 8 false rfl [mkB bAudit] (by kernel_rfl) (by decide) htw _ hT false ?_ (fun h => rfl) _ (fun _ => pathq GET _ hN (by omega) _ hd) ?_
    · have hw : wantOf 8 tok usr fr false = none := by
        unfold wantOf
        simp only [show ¬ (8 : Int) = 1 by decide, show ¬ (8 : Int) = 2 by decide, show ¬ (8 : Int) = 3 by decide, show ¬ (8 : Int) = 4 by decide, show ¬ (8 : Int) = 5 by decide, show ¬ (8 : Int) = 6 by decide, show ¬ (8 : Int) = 7 by decide, if_false, if_true]
        rw [if_pos (by omega)]
      unfold refRes
      rw [hw]
      rfl
    · intro h
      rw [hf]
      rfl
/-- The program's Target: the document's. -/
theorem target_any (k : Int) (me : Bool) : TgtSpec k tok usr fr me w := by
  have bad : ∀ (k : Int) (W : Want), wantOf k tok usr fr true = some W → W.m = false → refRes k tok usr fr true = tgtRes false tok usr := by
    intro k W h hm
    unfold refRes
    rw [h]
    have : wantOk k tok usr fr true W = false := by unfold wantOk sameR; rw [hm]; simp
    simp only [this]
    rfl
  have none_ : wantOf k tok usr fr me = none → refRes k tok usr fr me = tgtRes false tok usr := by
    intro h
    unfold refRes
    rw [h]
  by_cases k1 : k = 1
  · subst k1
    cases me with
    | false => exact tk1 tok usr fr w htk hus hfr htab
    | true => exact neg_join _ _ _ _ _ _ (by kernel_rfl) (bad 1 _ rfl rfl)
  by_cases k2 : k = 2
  · subst k2
    cases me with
    | false => exact tk2 tok usr fr w htk hus hfr htab
    | true => exact tkme tok usr fr w htk hus hfr htab
  by_cases k3 : k = 3
  · subst k3
    cases me with
    | false => exact tk3 tok usr fr w htk hus hfr htab
    | true => exact neg_join _ _ _ _ _ _ (by kernel_rfl) (bad 3 _ rfl rfl)
  by_cases k4 : k = 4
  · subst k4
    cases me with
    | false => exact tk4 tok usr fr w htk hus hfr htab
    | true => exact neg_join _ _ _ _ _ _ (by kernel_rfl) (bad 4 _ rfl rfl)
  by_cases k5 : k = 5
  · subst k5
    cases me with
    | false => exact tk5 tok usr fr w htk hus hfr htab
    | true => exact neg_join _ _ _ _ _ _ (by kernel_rfl) (bad 5 _ rfl rfl)
  by_cases k6 : k = 6
  · subst k6
    cases me with
    | false => exact tk6 tok usr fr w htk hus hfr htab
    | true => exact neg_join _ _ _ _ _ _ (by kernel_rfl) (bad 6 _ rfl rfl)
  by_cases k7 : k = 7
  · subst k7
    cases me with
    | false => exact tk7 tok usr fr w htk hus hfr htab
    | true => exact neg_join _ _ _ _ _ _ (by kernel_rfl) (bad 7 _ rfl rfl)
  by_cases k8 : k = 8
  · subst k8
    cases me with
    | false => exact tk8 tok usr fr w htk hus hfr htab
    | true =>
      refine neg_join _ _ _ _ _ _ (by kernel_rfl) ?_
      cases hw : wantOf 8 tok usr fr true with
      | none => exact none_ hw
      | some W =>
        refine bad 8 W hw ?_
        unfold wantOf at hw
        simp only [show ¬ (8 : Int) = 1 by decide, show ¬ (8 : Int) = 2 by decide, show ¬ (8 : Int) = 3 by decide, show ¬ (8 : Int) = 4 by decide, show ¬ (8 : Int) = 5 by decide, show ¬ (8 : Int) = 6 by decide, show ¬ (8 : Int) = 7 by decide, if_false, if_true] at hw
        split at hw
        · cases hw
        · injection hw with hw
          rw [← hw]
  by_cases k9 : k = 9
  · subst k9
    cases me with
    | false => exact tk9 tok usr fr w htk hus hfr htab
    | true => exact neg_join _ _ _ _ _ _ (by kernel_rfl) (bad 9 _ rfl rfl)
  have f : ∀ j : Int, ¬ k = j → (j == k) = false := fun j h => beq_eq_false_iff_ne.2 (fun e => h e.symm)
  refine neg_join _ _ _ _ _ _ ?_ (none_ ?_)
  · simp only [theWays, ixF, f 1 k1, f 2 k2, f 3 k3, f 4 k4, f 5 k5, f 6 k6, f 7 k7, f 8 k8, f 9 k9, Bool.false_and, Bool.false_eq_true, if_false]
  · unfold wantOf
    simp only [k1, k2, k3, k4, k5, k6, k7, k8, k9, if_false]
end
end Go.Proofs.YtdbbgdgjmlcgcaaDoor.PRouteB
