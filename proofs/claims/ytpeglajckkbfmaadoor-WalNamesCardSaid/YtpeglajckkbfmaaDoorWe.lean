/- The wal package on the log of one record 'abc': the records' loop, and the law. -/
import Derived.Test.YtpeglajckkbfmaaDoorWs
set_option linter.unusedVariables false
set_option linter.unusedSimpArgs false
namespace Go.Proofs.YtpeglajckkbfmaaDoor
open Go.RowKit

set_option maxHeartbeats 1000000 in
set_option maxRecDepth 100000 in
theorem each_abc (w : World) (g cap b1 b2 : Nat) (hcap : 10 ≤ cap) (hl : LogAt w g) (hg : g < w.heap.size) (h1 : w.heap[b1]? = some (.cells #[.slice none 0 0] 50 (0, 0))) (h2 : w.heap[b2]? = some (.cells #[.int .i64 0] 3 (0, 0))) (hne : b1 ≠ b2) (hg1 : g ≠ b1) (hg2 : g ≠ b2) :
    Calls Tryd.prog 33 #[.slice (some ⟨g, 0, none⟩) 10 cap, .func (.func 34) #[] #[.pointer (some ⟨b1, 0, none⟩), .pointer (some ⟨b2, 0, none⟩)]] w fun e w' => e = .returned (.int .i64 1) ∧ ∃ A cap, w'.heap[b1]? = some (.cells #[.slice A 1 cap] 50 (0, 0)) ∧ w'.heap[b2]? = some (.cells #[.int .i64 10] 3 (0, 0)) ∧ w'.ownsRow w.heap.size 9 1 (.slice A 1 cap) 1 [.string (str abc)] ∧ Only (fun k => k = b1 ∨ k = b2) w w' := by
  have l1 := lt_of_block h1
  have l2 := lt_of_block h2
  have HL := Lib.hid hl
  have H1 := Lib.hid h1
  have H2 := Lib.hid h2
  clear hl h1 h2
  go_enter Tryd.func33, Tryd.ntmps33
  go_wp2_with fail
  have OA : Only (fun _ => False) w (w.alloc (.cells #[.slice (some ⟨g, 0, none⟩) 10 cap, .int .i64 0, .slice none 0 0, .bool false] 92)) := (Only.refl _ _).alloc _
  have HQ : (w.alloc (.cells #[.slice (some ⟨g, 0, none⟩) 10 cap, .int .i64 0, .slice none 0 0, .bool false] 92)).heap[w.heap.size]? = some (.cells #[.slice (some ⟨g, 0, none⟩) 10 cap, .int .i64 0, .slice none 0 0, .bool false] 92 (0, 0)) := by simp [World.alloc, -World.alloc_eq]
  have hz : w.heap.size < (w.alloc (.cells #[.slice (some ⟨g, 0, none⟩) 10 cap, .int .i64 0, .slice none 0 0, .bool false] 92)).heap.size := by simp
  generalize w.alloc (.cells #[.slice (some ⟨g, 0, none⟩) 10 cap, .int .i64 0, .slice none 0 0, .bool false] 92) = W at OA HQ hz ⊢
  have HOA := Lib.hid OA
  have HHQ := Lib.hid HQ
  have HLW := Lib.hid (HL.out.only OA (fun h => h))
  clear OA HQ
  refine wp_loop_rounds 2 ?_
  rw [rounds_succ]
  go_wp2_with fail
  refine (next_abc W w.heap.size g cap hcap HLW.out (by omega) HHQ.out).mono ?_
  rintro e w1 ⟨rfl, A', cap', hq, hr, ho⟩
  go_wp2_with fail
  have b1' : w1.cell? ⟨w.heap.size, 1, none⟩ = some (.int .i64 10) := by simp [World.cell?, hq]
  have b2' : w1.cell? ⟨w.heap.size, 2, none⟩ = some (.slice A' 3 cap') := by simp [World.cell?, hq]
  have d1 : ∀ d, World.cell? ⟨w1.heap, w1.tape, d, w1.os, w1.output⟩ ⟨w.heap.size, 1, none⟩ = some (.int .i64 10) := fun _ => b1'
  have d2 : ∀ d, World.cell? ⟨w1.heap, w1.tape, d, w1.os, w1.output⟩ ⟨w.heap.size, 2, none⟩ = some (.slice A' 3 cap') := fun _ => b2'
  have dc : ∀ d, (convert 23 9 (.slice A' 3 cap')).run Tryd.prog ⟨w1.heap, w1.tape, d, w1.os, w1.output⟩ = .ok (.string (str abc)) ⟨w1.heap, w1.tape, d, w1.os, w1.output⟩ := fun d => own_string (w := ⟨w1.heap, w1.tape, d, w1.os, w1.output⟩) (base := W.heap.size) (e' := 5) Tryd.underlying23 Tryd.underlying5 Tryd.underlying9 hr
  have dd : (convert 23 9 (.slice A' 3 cap')).run Tryd.prog w1.drew = .ok (.string (str abc)) w1.drew := own_string (w := w1.drew) (base := W.heap.size) (e' := 5) Tryd.underlying23 Tryd.underlying5 Tryd.underlying9 hr
  have O1 := HOA.out.then ho (fun i e h => by omega)
  have OD : Only (fun _ => False) w w1.drew := O1.drew
  have HOD := Lib.hid OD
  have HQ1 := Lib.hid hq
  have hz1 : w.heap.size < w1.heap.size := Nat.lt_of_lt_of_le hz ho.size
  clear hq hr ho O1 OD
  go_still_tail 10, (by kernel_rfl)
  clear d1 d2 dc dd
  have g1 := (HOD.out.block b1 l1 (fun h => h)).trans H1.out
  have g2 := (HOD.out.block b2 l2 (fun h => h)).trans H2.out
  have HG1 := Lib.hid g1
  have HG2 := Lib.hid g2
  clear g1 g2
  go_wp2_with fail
  refine (scan1_any w1.drew b1 b2 10 (str abc) 0 HG1.out HG2.out hne).mono ?_
  rintro e w2 ⟨rfl, A2, cap2, k1, k2, r2, o2⟩
  have hq2 := (o2.block w.heap.size hz1 (by omega)).trans (show w1.drew.heap[w.heap.size]? = _ from HQ1.out)
  have f2 : w2.frozen? ⟨w.heap.size, 2, none⟩ = false := by simp [World.frozen?, hq2]
  have c2 : w2.cell? ⟨w.heap.size, 2, none⟩ = some (.slice A' 3 cap') := by simp [World.cell?, hq2]
  have HK1 := Lib.hid k1
  have HK2 := Lib.hid k2
  have HR2 := Lib.hid r2
  have HQ2 := Lib.hid hq2
  have HO2 : Hid (Only (fun k => k = b1 ∨ k = b2) w w2) := (HOD.out.mono (fun _ h _ => h.elim)).then o2 (fun i h _ => h)
  have hz2 : w.heap.size < w2.heap.size := Nat.lt_of_lt_of_le hz1 o2.size
  clear k1 k2 r2 hq2 o2
  go_wp2_with fail
  have OS : Only (fun k => k = w.heap.size) w2 (w2.setCell ⟨w.heap.size, 2, none⟩ (.slice none 0 0)) := (Only.refl _ _).set (by simp) _
  have HQS : (w2.setCell ⟨w.heap.size, 2, none⟩ (.slice none 0 0)).heap[w.heap.size]? = some (.cells #[.slice (some ⟨g, 0, none⟩) 10 cap, .int .i64 10, .slice none 0 0, .bool false] 92 (0, 0)) := by simp [World.setCell, Array.getElem?_modify, HQ2.out]
  generalize w2.setCell ⟨w.heap.size, 2, none⟩ (.slice none 0 0) = w3 at OS HQS ⊢
  have HOS := Lib.hid OS
  have HHS := Lib.hid HQS
  clear OS HQS c2 f2
  rw [rounds_succ]
  go_wp2_with fail
  refine (next_end w3 w.heap.size _ cap _ HHS.out).mono ?_
  rintro e w4 ⟨rfl, o4⟩
  have HO4 := Lib.hid (HOS.out.then o4 (fun _ h _ => h.elim))
  clear o4
  go_wp2
  go_ret
  have lb : ∀ k, k = b1 ∨ k = b2 → k < w.heap.size := fun k hk => by omega
  have nb : ∀ k, (Value.slice A2 1 cap2).ownBlock = some k → w1.drew.heap.size ≤ k := fun k hk => own_base HR2.out k hk
  refine ⟨rfl, A2, cap2, (HO4.out.block b1 (by omega) (by omega)).trans HK1.out, (HO4.out.block b2 (by omega) (by omega)).trans HK2.out, ?_, HO2.out.then HO4.out (fun i e h => by omega)⟩
  have r4 := HO4.out.row HR2.out (fun k hk => by have := nb k hk; have h3 : w1.drew.heap.size = w1.heap.size := rfl; omega)
  exact lower_row r4 (by have h3 : w1.drew.heap.size = w1.heap.size := rfl; omega)

set_option maxHeartbeats 400000 in
theorem scan_abc (w : World) (g cap : Nat) (hcap : 10 ≤ cap) (hl : LogAt w g) (hg : g < w.heap.size) :
    Calls Tryd.prog 19 #[.slice (some ⟨g, 0, none⟩) 10 cap] w fun e w' => ∃ A cap, e = .returned (.tuple #[.slice A 1 cap, .int .i64 10, .int .i64 1]) ∧ w'.ownsRow w.heap.size 9 1 (.slice A 1 cap) 1 [.string (str abc)] ∧ Only (fun _ => False) w w' := by
  have HL := Lib.hid hl
  clear hl
  go_enter Tryd.func19, Tryd.ntmps19
  go_wp2_with fail
  have OA : Only (fun _ => False) w ((w.alloc (.cells #[.slice none 0 0] 50)).alloc (.cells #[.int .i64 0] 3)) := ((Only.refl _ _).alloc _).alloc _
  have B1 : ((w.alloc (.cells #[.slice none 0 0] 50)).alloc (.cells #[.int .i64 0] 3)).heap[w.heap.size]? = some (.cells #[.slice none 0 0] 50 (0, 0)) := by
    rw [Below.heap_alloc _ _ _ (by simp)]; simp [World.alloc, -World.alloc_eq]
  have B2 : ((w.alloc (.cells #[.slice none 0 0] 50)).alloc (.cells #[.int .i64 0] 3)).heap[w.heap.size + 1]? = some (.cells #[.int .i64 0] 3 (0, 0)) := by
    have := heap_alloc_new (w.alloc (.cells #[.slice none 0 0] 50)) (.cells #[.int .i64 0] 3)
    simpa using this
  have hz : w.heap.size + 2 ≤ ((w.alloc (.cells #[.slice none 0 0] 50)).alloc (.cells #[.int .i64 0] 3)).heap.size := by simp
  generalize (w.alloc (.cells #[.slice none 0 0] 50)).alloc (.cells #[.int .i64 0] 3) = W at OA B1 B2 hz ⊢
  refine (each_abc W g cap w.heap.size (w.heap.size + 1) hcap (HL.out.only OA (fun h => h)) (by omega) B1 B2 (by omega) (by omega) (by omega)).mono ?_
  rintro e w1 ⟨rfl, A, cap1, k1, k2, r, o⟩
  have HO := Lib.hid (OA.then o (fun i h _ => by omega))
  have c1 := cell_of_one k1
  have c2 := cell_of_one k2
  have f1 := free_of_one k1
  have f2 := free_of_one k2
  have HR := Lib.hid r
  have HK := Lib.hid (And.intro k1 k2)
  clear OA B1 B2 k1 k2 r o
  go_wp2
  go_region
  all_goals (go_wp2)
  all_goals (refine bodyPost_ret (v := .tuple #[.slice A 1 cap1, .int .i64 10, .int .i64 1]) (by simp [results, Tryd.results19, go_sem, c1, c2]) rfl ⟨A, cap1, rfl, ?_, ?_⟩)
  · have b := own_base HR.out
    have r1 := ownsRow_setCell_other HR.out (a := ⟨w.heap.size, 0, none⟩) (fun e => by have := b _ e; simp at this; omega) (.slice A 1 cap1)
    have r2 := ownsRow_setCell_other r1 (a := ⟨w.heap.size + 1, 0, none⟩) (fun e => by have := b _ e; simp at this; omega) (.int .i64 10)
    exact lower_row r2 (by omega)
  · exact ((HO.out.set (by simp) _).set (by omega) _).drew
end Go.Proofs.YtpeglajckkbfmaaDoor
