/- The wal package on the log of one record 'abc': the reader's part. -/
import Derived.Test.YtpeglajckkbfmaaDoorWw
import Derived.StillTailTactics
set_option linter.unusedVariables false
set_option linter.unusedSimpArgs false
namespace Go.Proofs.YtpeglajckkbfmaaDoor
open Go.RowKit

/-- Block q is a reader at 'at' with the record's bytes r so far. -/
theorem skips_zero (w : World) (q : Nat) (b r : Value) (i : Nat) (inn : Bool) (hi : i % 1024 ≤ 1017) (hi2 : i ≤ 1048576) (h : w.heap[q]? = some (.cells #[b, .int .i64 i, r, .bool inn] 92 (0, 0))) :
    Calls Tryd.prog 62 #[.pointer (some ⟨q, 0, none⟩)] w fun e w' => e = .returned (.int .i64 0) ∧ w = w' := by
  have c1 : w.cell? ⟨q, 1, none⟩ = some (.int .i64 i) := by simp [World.cell?, h]
  clear h
  go_enter Tryd.func62, Tryd.ntmps62
  go_wp2
  go_ret
  exact ⟨rfl, rfl⟩
/-- At the end of the log: it is whole. -/
theorem next_end (w : World) (q : Nat) (A : Option Addr) (cap : Nat) (r : Value) (h : w.heap[q]? = some (.cells #[.slice A 10 cap, .int .i64 10, r, .bool false] 92 (0, 0))) :
    Calls Tryd.prog 53 #[.pointer (some ⟨q, 0, none⟩)] w fun e w' => e = .returned (.tuple #[.int .u8 0, .int .i64 1]) ∧ Only (fun _ => False) w w' := by
  have c0 : w.cell? ⟨q, 0, none⟩ = some (.slice A 10 cap) := by simp [World.cell?, h]
  have c1 : w.cell? ⟨q, 1, none⟩ = some (.int .i64 10) := by simp [World.cell?, h]
  have c3 : w.cell? ⟨q, 3, none⟩ = some (.bool false) := by simp [World.cell?, h]
  have H := Lib.hid h
  clear h
  go_enter Tryd.func53, Tryd.ntmps53
  go_wp2_with fail
  refine (skips_zero w q _ _ 10 _ (by omega) (by omega) H.out).mono ?_
  rintro e w' ⟨rfl, rfl⟩
  go_wp2
  go_quiet (fail)
  go_wp2
  go_ret2
  exact ⟨rfl, (Only.refl _ _).drewN _⟩

/-- The bytes of the log lie at block g. -/
def LogAt (w : World) (g : Nat) : Prop := ∀ j, j < 10 → w.cell? ⟨g, j, none⟩ = some (.int .u8 ((fragOf 1 abc).getD j 0).toNat)
theorem LogAt.conv {w : World} {g : Nat} (h : LogAt w g) (lo n c : Nat) (hn : lo + n ≤ 10) : (convert 23 9 (.slice (some ⟨g, lo, none⟩) n c)).run Tryd.prog w = .ok (.string (str (((fragOf 1 abc).drop lo).take n))) w := by
  have hlen : (fragOf 1 abc).length = 10 := rfl
  rw [← strOfNums_bytes]
  refine run_convert_bytes_arg w 23 5 Tryd.underlying23 Tryd.underlying5 g lo n c _ (by simp; omega) (fun i hi => ?_) 9 Tryd.underlying9
  rw [h (lo + i) (by omega)]
  have h1 : lo + i < (fragOf 1 abc).length := by omega
  simp [List.getD_eq_getElem?_getD, List.getElem?_map, List.getElem?_take, hi, List.getElem?_drop, List.getElem?_eq_getElem h1]
theorem LogAt.only {w w' : World} {g : Nat} {S : Nat → Prop} (h : LogAt w g) (ho : Only S w w') (hs : ¬ S g) : LogAt w' g := fun j hj => ho.cell (h j hj) hs

set_option maxHeartbeats 1000000 in
set_option maxRecDepth 100000 in
theorem next_abc (w : World) (q g cap : Nat) (hcap : 10 ≤ cap) (hl : LogAt w g) (hg : g ≠ q) (h : w.heap[q]? = some (.cells #[.slice (some ⟨g, 0, none⟩) 10 cap, .int .i64 0, .slice none 0 0, .bool false] 92 (0, 0))) :
    Calls Tryd.prog 53 #[.pointer (some ⟨q, 0, none⟩)] w fun e w' => e = .returned (.tuple #[.int .u8 1, .int .i64 0]) ∧ ∃ A' cap', w'.heap[q]? = some (.cells #[.slice (some ⟨g, 0, none⟩) 10 cap, .int .i64 10, .slice A' 3 cap', .bool false] 92 (0, 0)) ∧ w'.ownsRow w.heap.size 5 1 (.slice A' 3 cap') 3 (byteVals abc) ∧ Only (fun k => k = q) w w' := by
  have c0 : w.cell? ⟨q, 0, none⟩ = some (.slice (some ⟨g, 0, none⟩) 10 cap) := by simp [World.cell?, h]
  have c1 : w.cell? ⟨q, 1, none⟩ = some (.int .i64 0) := by simp [World.cell?, h]
  have c2 : w.cell? ⟨q, 2, none⟩ = some (.slice none 0 0) := by simp [World.cell?, h]
  have c3 : w.cell? ⟨q, 3, none⟩ = some (.bool false) := by simp [World.cell?, h]
  have H := Lib.hid h
  have HL := Lib.hid hl
  clear h hl
  go_enter Tryd.func53, Tryd.ntmps53
  go_wp2_with fail
  refine (skips_zero w q _ _ 0 _ (by omega) (by omega) H.out).mono ?_
  rintro e w' ⟨rfl, rfl⟩
  go_wp2
  go_quiet (fail)
  go_wp2_with fail
  have O4 : Only (fun _ => False) w (w.drewN nq) := (Only.refl _ _).drewN _
  generalize w.drewN nq = W at O4 ⊢
  have L4 := HL.out.only O4 (fun h => h)
  have b0 := O4.cell c0 (fun h => h)
  have b1 := O4.cell c1 (fun h => h)
  have d0 : ∀ d, World.cell? ⟨W.heap, W.tape, d, W.os, W.output⟩ ⟨q, 0, none⟩ = some (.slice (some ⟨g, 0, none⟩) 10 cap) := fun _ => b0
  have d1 : ∀ d, World.cell? ⟨W.heap, W.tape, d, W.os, W.output⟩ ⟨q, 1, none⟩ = some (.int .i64 0) := fun _ => b1
  have hd7 : ((fragOf 1 abc).drop 0).take 7 = [195, 13, 125, 178, 0, 3, 1] := by decide
  have dc : ∀ d, (convert 23 9 (.slice (some ⟨g, 0, none⟩) 7 cap)).run Tryd.prog ⟨W.heap, W.tape, d, W.os, W.output⟩ = .ok (.string (str (((fragOf 1 abc).drop 0).take 7))) ⟨W.heap, W.tape, d, W.os, W.output⟩ := fun d => (show LogAt ⟨W.heap, W.tape, d, W.os, W.output⟩ g from L4).conv 0 7 cap (by omega)
  have dd : (convert 23 9 (.slice (some ⟨g, 0, none⟩) 7 cap)).run Tryd.prog W.drew = .ok (.string (str (((fragOf 1 abc).drop 0).take 7))) W.drew := (show LogAt W.drew g from L4).conv 0 7 cap (by omega)
  rw [hd7] at dc dd
  clear hd7
  have hw7 : IntKind.i64.wrap 7 = 7 := rfl
  have h7 : (7 : Int) ≤ cap := by omega
  have HO := Lib.hid O4
  clear O4 L4 c0 c1 c2 c3
  go_still_tail 15, (by kernel_rfl)
  clear d0 d1 dc dd hw7 h7
  go_wp2_with fail
  refine (newReader_any _ [195, 13, 125, 178, 0, 3, 1]).mono ?_
  rintro e w1 ⟨rfl, h1, _, h3⟩
  have O5 : Only (fun _ => False) W w1 := ((Only.refl _ _).drew).trans h3
  have R5 : RAt w1 W.heap.size [195, 13, 125, 178, 0, 3, 1] 0 := h1
  have z5 : w.heap.size ≤ W.heap.size := HO.out.size
  clear h1 h3
  have H5 := Lib.hid R5
  have HO5 := Lib.hid O5
  clear O5 R5 b0 b1
  go_wp2_with fail
  refine (rU32_any _ _ _ _ (by decide) H5.out).mono ?_
  rintro e w2 ⟨rfl, h1, h2⟩
  have v1 : (rnum 4 ([195, 13, 125, 178, 0, 3, 1], 0)).1 = 3272441266 := by decide
  have H6 : Hid (RAt w2 W.heap.size [0, 3, 1] 0) := h1
  have O6 := Lib.hid h2
  rw [v1]
  clear h1 h2 v1
  go_wp2_with fail
  refine (rU16_any _ _ _ _ (by decide) H6.out).mono ?_
  rintro e w3 ⟨rfl, h1, h2⟩
  have v1 : (rnum 2 ([0, 3, 1], 0)).1 = 3 := by decide
  have H7 : Hid (RAt w3 W.heap.size [1] 0) := h1
  have O7 := Lib.hid h2
  rw [v1]
  clear h1 h2 v1
  go_wp2_with fail
  refine (rU8_any _ _ _ _ (by decide) H7.out).mono ?_
  rintro e w4 ⟨rfl, h1, h2⟩
  have v1 : (rnum 1 ([1], 0)).1 = 1 := by decide
  have O8 := Lib.hid h2
  rw [v1]
  clear h1 h2 v1
  have hn : ∀ i, i = W.heap.size → i < w.heap.size → False := fun i e h => by omega
  have OW : Only (fun _ => False) w w4 := (((HO.out.trans HO5.out).then O6.out hn).then O7.out hn).then O8.out hn
  have L9 := HL.out.only OW (fun h => h)
  have hb := (OW.block q (Array.getElem?_eq_some_iff.1 H.out).1 (fun h => h)).trans H.out
  have c0 : w4.cell? ⟨q, 0, none⟩ = some (.slice (some ⟨g, 0, none⟩) 10 cap) := by simp [World.cell?, hb]
  have c1 : w4.cell? ⟨q, 1, none⟩ = some (.int .i64 0) := by simp [World.cell?, hb]
  have c2 : w4.cell? ⟨q, 2, none⟩ = some (.slice none 0 0) := by simp [World.cell?, hb]
  have c3 : w4.cell? ⟨q, 3, none⟩ = some (.bool false) := by simp [World.cell?, hb]
  have HB := Lib.hid hb
  have HW := Lib.hid OW
  have HL9 := Lib.hid L9
  clear hb OW L9 hn
  go_wp2
  have hw7 : IntKind.i64.wrap 7 = 7 := rfl
  have hw10 : IntKind.i64.wrap 10 = 10 := rfl
  have h7 : (10 : Int) ≤ cap := by omega
  go_quiet (fail)
  have O4 : Only (fun _ => False) w4 (w4.drewN nq) := (Only.refl _ _).drewN _
  generalize w4.drewN nq = X at O4 ⊢
  have HOX := Lib.hid (HW.out.trans O4)
  have L10 := HL9.out.only O4 (fun h => h)
  have hb := (O4.block q (Array.getElem?_eq_some_iff.1 HB.out).1 (fun h => h)).trans HB.out
  have b1 : X.cell? ⟨q, 1, none⟩ = some (.int .i64 0) := by simp [World.cell?, hb]
  have b2 : X.cell? ⟨q, 2, none⟩ = some (.slice none 0 0) := by simp [World.cell?, hb]
  have e1 : X.frozen? ⟨q, 1, none⟩ = false := by simp [World.frozen?, hb]
  have e2 : X.frozen? ⟨q, 2, none⟩ = false := by simp [World.frozen?, hb]
  have e3 : X.frozen? ⟨q, 3, none⟩ = false := by simp [World.frozen?, hb]
  have k1 : (convert 23 9 (.slice (some ⟨X.heap.size, 0, none⟩) 1 1)).run Tryd.prog (X.alloc (.cells #[.int .u8 1] 5)) = .ok (.string (str [1])) (X.alloc (.cells #[.int .u8 1] 5)) := conv_one (P := Tryd.prog) Tryd.underlying23 Tryd.underlying5 Tryd.underlying9 1 X
  have k2 := (L10.only ((Only.refl (fun _ => False) X).alloc (.cells #[.int .u8 1] 5)) (fun h => h)).conv 7 3 (cap - 7) (by omega)
  have hd3 : ((fragOf 1 abc).drop 7).take 3 = [97, 98, 99] := by decide
  rw [hd3] at k2
  have ha : str [1] ++ str [97, 98, 99] = str [1, 97, 98, 99] := str_append _ _
  have es1 : (str [1]).size = 1 := rfl
  have es3 : (str [97, 98, 99]).size = 3 := rfl
  have hc : crc [1, 97, 98, 99] = 3272441266 := by decide
  have HB2 := Lib.hid hb
  have HL10 := Lib.hid L10
  clear c0 c1 c2 c3 O4 hb hd3 L10
  go_wp2_with fail
  refine (crc_any _ [1, 97, 98, 99] (by decide)).mono ?_
  rintro e w' ⟨rfl, rfl⟩
  rw [hc]
  clear hc k1 k2 ha es1 es3 b1 b2 e1 e2 e3
  have OY : Only (fun _ => False) X (X.alloc (.cells #[.int .u8 1] 5)) := (Only.refl _ _).alloc _
  generalize X.alloc (.cells #[.int .u8 1] 5) = Y at OY ⊢
  have hb := (OY.block q (Array.getElem?_eq_some_iff.1 HB2.out).1 (fun h => h)).trans HB2.out
  have hlog := HL10.out.only OY (fun h => h)
  have hOY := Lib.hid (HOX.out.trans OY)
  have b1 : Y.cell? ⟨q, 1, none⟩ = some (.int .i64 0) := by simp [World.cell?, hb]
  have e1 : Y.frozen? ⟨q, 1, none⟩ = false := by simp [World.frozen?, hb]
  have b2 : Y.cell? ⟨q, 2, none⟩ = some (.slice none 0 0) := by simp [World.cell?, hb]
  have HB3 := Lib.hid hb
  have HL3 := Lib.hid hlog
  have hz : w.heap.size ≤ Y.heap.size := hOY.out.size
  have hqY : q < w.heap.size := (Array.getElem?_eq_some_iff.1 H.out).1
  have HZ := Lib.hid hz
  clear OY hb hlog hz
  have hnews : ∀ j u, (byteVals [97, 98, 99])[j]? = some u → (Y.setCell ⟨q, 1, none⟩ (.int .i64 10)).cell? ((⟨g, 7, none⟩ : Addr).add j) = some u := by
    intro j u hu
    have hj : j < 3 := by simpa [byteVals] using (List.getElem?_eq_some_iff.1 hu).1
    have ha : (⟨g, 7, none⟩ : Addr).add j = ⟨g, 7 + j, none⟩ := by unfold Addr.add; split <;> simp_all
    rw [ha, World.cell?_of_block (w := Y) (w' := Y.setCell ⟨q, 1, none⟩ (.int .i64 10)) (a := ⟨g, 7 + j, none⟩) (Below.heap_setCell _ _ _ _ hg), HL3.out (7 + j) (by omega), ← hu]
    match j, hj with
    | 0, _ => rfl
    | 1, _ => rfl
    | 2, _ => rfl
  have HNW := Lib.hid hnews
  clear hnews
  go_wp2_with (at_builtin; go_must (refine step_append _ rfl (.tmp 147) (.tmp 148) 23 5 (.int .u8 0) 1 1 rfl Tryd.underlying23 Tryd.infoU8 rfl (by decide) w.heap.size _ 0 [] rfl (World.ownsRow_nil _ _ _ _) (by simpa [World.setCell] using HZ.out) _ _ _ (byteVals [97, 98, 99]) rfl (by decide) HNW.out (byteVals_one _) (by omega) (by omega) ?_))
  intro A' cap' w5 hown hgrow hblk
  have hb4 : (Y.setCell ⟨q, 1, none⟩ (.int .i64 10)).heap[q]? = some (.cells #[.slice (some ⟨g, 0, none⟩) 10 cap, .int .i64 10, .slice none 0 0, .bool false] 92 (0, 0)) := by
    simp [World.setCell, Array.getElem?_modify, HB3.out]
  have hb5 := (hgrow.block q (by have := HZ.out; simp [World.setCell]; omega) (by simp [Value.ownBlock])).trans hb4
  have b3 : w5.cell? ⟨q, 2, none⟩ = some (.slice none 0 0) := by simp [World.cell?, hb5]
  have e4 : w5.frozen? ⟨q, 2, none⟩ = false := by simp [World.frozen?, hb5]
  have b4 : w5.cell? ⟨q, 3, none⟩ = some (.bool false) := by simp [World.cell?, hb5]
  have e5 : w5.frozen? ⟨q, 3, none⟩ = false := by simp [World.frozen?, hb5]
  have HB5 := Lib.hid hb5
  have HR := Lib.hid hown
  have HO5' : Only (fun k => k = q) w w5 := ((hOY.out.mono (fun _ h _ => h.elim)).set (by simp) _).then hgrow (fun k hk _ => by simp [Value.ownBlock] at hk)
  have HO6 := Lib.hid HO5'
  clear hb4 hb5 hown hgrow hblk HO5' b1 b2 e1
  go_wp2
  go_ret2
  have hne : ∀ k, (Value.slice A' 3 cap').ownBlock = some k → k ≠ q := fun k hk e => by have := own_base HR.out k hk; omega
  have r1 := ownsRow_setCell_other HR.out (a := ⟨q, 2, none⟩) (fun e => hne q e rfl) (.slice A' 3 cap')
  have r2 := ownsRow_setCell_other r1 (a := ⟨q, 3, none⟩) (fun e => hne q e rfl) (.bool false)
  refine ⟨rfl, A', cap', ?_, ?_, ?_⟩
  · simp [World.setCell, Array.getElem?_modify, HB5.out]
  · simpa [abc] using r2
  · exact (HO6.out.set (by simp) _).set (by simp) _

set_option maxHeartbeats 400000 in
/-- The yield function of Scan: it notes the record and where it ends. -/
theorem scan1_any (w : World) (b1 b2 i : Nat) (x : ByteArray) (at0 : Int) (h1 : w.heap[b1]? = some (.cells #[.slice none 0 0] 50 (0, 0))) (h2 : w.heap[b2]? = some (.cells #[.int .i64 at0] 3 (0, 0))) (hne : b1 ≠ b2) :
    Calls Tryd.prog 34 #[.int .i64 i, .string x, .pointer (some ⟨b1, 0, none⟩), .pointer (some ⟨b2, 0, none⟩)] w fun e w' => e = .returned (.bool true) ∧ ∃ A cap, w'.heap[b1]? = some (.cells #[.slice A 1 cap] 50 (0, 0)) ∧ w'.heap[b2]? = some (.cells #[.int .i64 i] 3 (0, 0)) ∧ w'.ownsRow w.heap.size 9 1 (.slice A 1 cap) 1 [.string x] ∧ Only (fun k => k = b1 ∨ k = b2) w w' := by
  have c1 := cell_of_one h1
  have c2 := cell_of_one h2
  have f1 := free_of_one h1
  have f2 := free_of_one h2
  have l1 := lt_of_block h1
  have l2 := lt_of_block h2
  have H1 := Lib.hid h1
  have H2 := Lib.hid h2
  clear h1 h2
  go_enter Tryd.func34, Tryd.ntmps34
  go_wp2_with (at_builtin; go_must (refine step_append _ rfl (.tmp 7) (.tmp 9) 50 9 (.string ⟨#[]⟩) 1 16 rfl Tryd.underlying50 (by kernel_rfl) rfl (by decide) w.heap.size _ 0 [] rfl (World.ownsRow_nil _ _ _ _) (by simp) _ _ _ [.string x] rfl rfl ?cc (by simp [Value.oneCell']) (by omega) (by omega) ?_))
  case cc =>
    intro j u hu
    exact cells_new w [.string x] 9 j u hu
  intro A cap w1 hown hgrow hblk
  have hb1 := (hgrow.block b1 (by simp; omega) (by simp [Value.ownBlock])).trans ((Below.heap_alloc w _ b1 l1).trans H1.out)
  have hb2 := (hgrow.block b2 (by simp; omega) (by simp [Value.ownBlock])).trans ((Below.heap_alloc w _ b2 l2).trans H2.out)
  have c1 := cell_of_one hb1
  have c2 := cell_of_one hb2
  have f1 := free_of_one hb1
  have f2 := free_of_one hb2
  have HB1 := Lib.hid hb1
  have HB2 := Lib.hid hb2
  have HR := Lib.hid hown
  have HO : Hid (Only (fun k => k = b1 ∨ k = b2) w w1) := ((Only.refl _ _).alloc _).then hgrow (fun k hk _ => by simp [Value.ownBlock] at hk)
  clear hb1 hb2 hown hgrow hblk
  go_wp2
  go_ret
  have ne1 : ∀ k, (Value.slice A 1 cap).ownBlock = some k → k ≠ b1 := fun k hk e => by have := own_base HR.out k hk; omega
  have ne2 : ∀ k, (Value.slice A 1 cap).ownBlock = some k → k ≠ b2 := fun k hk e => by have := own_base HR.out k hk; omega
  have r1 := ownsRow_setCell_other HR.out (a := ⟨b1, 0, none⟩) (fun e => ne1 b1 e rfl) (.slice A 1 cap)
  have r2 := ownsRow_setCell_other r1 (a := ⟨b2, 0, none⟩) (fun e => ne2 b2 e rfl) (.int .i64 i)
  refine ⟨rfl, A, cap, ?_, ?_, r2, ?_⟩
  · simp [World.setCell, Array.getElem?_modify, HB1.out, hne, Ne.symm hne]
  · simp [World.setCell, Array.getElem?_modify, HB2.out, hne, Ne.symm hne]
  · exact (HO.out.set (by simp) _).set (by simp) _
end Go.Proofs.YtpeglajckkbfmaaDoor
