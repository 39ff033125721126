/- The wal package on the log of one record 'abc': the writer's part. -/
import Derived.Test.YtpeglajckkbfmaaDoorWa
set_option linter.unusedVariables false
set_option linter.unusedSimpArgs false
namespace Go.Proofs.YtpeglajckkbfmaaDoor
open Go.RowKit

theorem walNew_zero (w : World) :
    Calls Tryd.prog 18 #[.int .i64 0] w fun e w' => e = .returned (.tuple #[.pointer (some ⟨w.heap.size, 0, none⟩), .int .i64 0]) ∧ w' = w.alloc (.cells #[.int .i64 0, .bool true] 36) := by
  go_enter Tryd.func18, Tryd.ntmps18
  go_wp2
  go_ret2
  exact ⟨rfl, rfl⟩

theorem length_zero (w : World) : Calls Tryd.prog 11 #[.int .i64 0, .int .i64 3] w fun e w' => e = .returned (.tuple #[.int .i64 10, .int .i64 0]) ∧ w = w' := by
  go_enter Tryd.func11, Tryd.ntmps11
  go_wp2
  refine wp_loop_rounds 1 ?_
  rw [rounds_succ]
  go_wp2
  go_ret2
  exact ⟨rfl, rfl⟩
theorem length_1020 (w : World) : Calls Tryd.prog 11 #[.int .i64 1020, .int .i64 3] w fun e w' => e = .returned (.tuple #[.int .i64 14, .int .i64 0]) ∧ w = w' := by
  go_enter Tryd.func11, Tryd.ntmps11
  go_wp2
  refine wp_loop_rounds 1 ?_
  rw [rounds_succ]
  go_wp2
  go_ret2
  exact ⟨rfl, rfl⟩

def abc : List UInt8 := [97, 98, 99]
/-- The fragment of 'abc'. -/
def frag : List UInt8 := be (crc (1 :: abc)) 4 ++ (be 3 2 ++ (be 1 1 ++ abc))
theorem crc_lt (l : List UInt8) : crc l < 4294967296 := by unfold crc; omega
/-- A fragment of kind k. -/
def fragOf (k : UInt8) (l : List UInt8) : List UInt8 := be (crc (k :: l)) 4 ++ (be l.length 2 ++ (be k.toNat 1 ++ l))
set_option maxHeartbeats 400000 in
set_option maxRecDepth 100000 in
theorem fragment_any (w : World) (l : List UInt8) (k : UInt8) (hl : l.length ≤ 1017) : Calls Tryd.prog 14 #[.int .u8 k.toNat, .string (str l)] w fun e w' => e = .returned (.string (str (fragOf k l))) ∧ Only (fun _ => False) w w' := by
  have es : (str l).size = l.length := rfl
  have es1 : (str [k]).size = 1 := rfl
  have ha := str_cons k l
  have hcl := crc_lt (k :: l)
  have kc := fun W => conv_one (P := Tryd.prog) Tryd.underlying23 Tryd.underlying5 Tryd.underlying9 k W
  go_enter Tryd.func14, Tryd.ntmps14
  go_wp2_with fail
  refine (newWriter_any _ (7 + l.length) (by omega)).mono ?_
  rintro e w1 ⟨rfl, h1, _, h3⟩
  simp at h1
  have H1 := Lib.hid h1
  have H3 := Lib.hid (((Only.refl (fun _ => False) w).alloc _).trans h3)
  clear h1 h3 kc
  go_wp2_with fail
  refine (crc_any _ (k :: l) (by simp; omega)).mono ?_
  rintro e w' ⟨rfl, rfl⟩
  go_wp2_with fail
  refine (wU32_any _ _ _ _ _ _ _ _ hcl H1.out).mono ?_
  intro e w2 hp
  obtain ⟨rfl, ⟨v2, h4⟩, h5⟩ := hp.ok H1.out (by simp [be_length]; omega)
  have H4 := Lib.hid h4
  have H5 := Lib.hid h5
  clear h4 h5 hp
  go_wp2_with fail
  refine (wU16_any _ _ _ _ _ _ _ _ (by omega) H4.out).mono ?_
  intro e w3 hp
  obtain ⟨rfl, ⟨v3, h4⟩, h5⟩ := hp.ok H4.out (by simp [be_length]; omega)
  have H6 := Lib.hid h4
  have H7 := Lib.hid h5
  clear h4 h5 hp
  go_wp2_with fail
  refine (wU8_any _ _ _ _ _ _ _ _ k.toNat_lt H6.out).mono ?_
  intro e w4 hp
  obtain ⟨rfl, ⟨v4, h4⟩, h5⟩ := hp.ok H6.out (by simp [be_length])
  have H8 := Lib.hid h4
  have H9 := Lib.hid h5
  clear h4 h5 hp
  go_wp2_with fail
  refine (raw_any _ _ _ _ _ _ _ _ (by rw [es]; omega) H8.out).mono ?_
  intro e w5 hp
  obtain ⟨rfl, ⟨v5, h4⟩, h5⟩ := hp.ok H8.out (by simp [be_length, str_data])
  have H10 := Lib.hid h4
  have H11 := Lib.hid h5
  clear h4 h5 hp
  go_wp2_with fail
  refine (done_any _ _ _ _ _ _ H10.out).mono ?_
  rintro e w6 ⟨rfl, rfl⟩
  go_wp2
  go_ret
  refine ⟨by simp [fragOf, str_data], ?_⟩
  have hB : ∀ i, w.heap.size + 1 ≤ i → i < w.heap.size → False := fun i _ _ => by omega
  exact (((H3.out.then H5.out hB).then H7.out hB).then H9.out hB).then H11.out hB

theorem lay_nil (w : World) (b : Value) : Calls Tryd.prog 4 #[.pointer none, b] w fun e w' => e = .returned (.tuple #[.slice none 0 0, .int .i64 6]) ∧ w = w' := by
  go_enter Tryd.func4, Tryd.ntmps4
  go_wp2
  go_ret2
  exact ⟨rfl, rfl⟩

set_option maxHeartbeats 800000 in
set_option maxRecDepth 100000 in
theorem lay_abc (w : World) (p : Nat) (h : w.heap[p]? = some (.cells #[.int .i64 0, .bool true] 36 (0, 0))) :
    Calls Tryd.prog 4 #[.pointer (some ⟨p, 0, none⟩), .string ⟨#[97, 98, 99]⟩] w fun e w' => ∃ A cap, e = .returned (.tuple #[.slice A 10 cap, .int .i64 0]) ∧ w'.ownsRow w.heap.size 5 1 (.slice A 10 cap) 10 (byteVals (fragOf 1 abc)) ∧ w'.heap[p]? = some (.cells #[.int .i64 10, .bool true] 36 (0, 0)) ∧ Only (fun k => k = p) w w' := by
  have c0 : w.cell? ⟨p, 0, none⟩ = some (.int .i64 0) := by simp [World.cell?, h]
  have c1 : w.cell? ⟨p, 1, none⟩ = some (.bool true) := by simp [World.cell?, h]
  have f0 : w.frozen? ⟨p, 0, none⟩ = false := by simp [World.frozen?, h]
  have hlt : p < w.heap.size := (Array.getElem?_eq_some_iff.1 h).1
  have H := Lib.hid h
  clear h
  have hmk : ∀ W, (Instr.makeSlice 23 (.int .i64 0) (.int .i64 10)).run Tryd.prog W = .ok (.slice (some ⟨W.heap.size, 0, none⟩) 0 10) (W.alloc (.cells #[.int .u8 0, .int .u8 0, .int .u8 0, .int .u8 0, .int .u8 0, .int .u8 0, .int .u8 0, .int .u8 0, .int .u8 0, .int .u8 0] 5)) := fun _ => by kernel_rfl
  have kc := fun W => Lib.run_convert_string_bytes (P := Tryd.prog) W 9 23 5 ⟨#[97, 98, 99]⟩ Tryd.underlying9 Tryd.underlying23 Tryd.underlying5
  go_enter Tryd.func4, Tryd.ntmps4
  go_wp2_with fail
  refine (length_zero _).mono ?_
  rintro e w' ⟨rfl, rfl⟩
  go_wp2_with (first | (go_at_call 12; go_in))
  have oW : Only (fun _ => False) w (Lib.bytesWorld (w.alloc (.cells #[.int .u8 0, .int .u8 0, .int .u8 0, .int .u8 0, .int .u8 0, .int .u8 0, .int .u8 0, .int .u8 0, .int .u8 0, .int .u8 0] 5)) 5 ⟨#[97, 98, 99]⟩) := ((Only.refl _ _).alloc _).bytesW _ _
  have rW : (Lib.bytesWorld (w.alloc (.cells #[.int .u8 0, .int .u8 0, .int .u8 0, .int .u8 0, .int .u8 0, .int .u8 0, .int .u8 0, .int .u8 0, .int .u8 0, .int .u8 0] 5)) 5 ⟨#[97, 98, 99]⟩).ownsRow w.heap.size 5 1 (.slice (some ⟨w.heap.size, 0, none⟩) 0 10) 0 (byteVals []) :=
    ((Only.refl (fun _ => False) _).bytesW 5 ⟨#[97, 98, 99]⟩).row (World.ownsRow_made w _ 10 (Nat.le_refl _) (by simp [maxLen]) (by simp)) (fun _ _ h => h)
  have zW : (Lib.bytesWorld (w.alloc (.cells #[.int .u8 0, .int .u8 0, .int .u8 0, .int .u8 0, .int .u8 0, .int .u8 0, .int .u8 0, .int .u8 0, .int .u8 0, .int .u8 0] 5)) 5 ⟨#[97, 98, 99]⟩).heap.size = w.heap.size + 2 := by rw [Lib.bytesWorld_size]; simp
  have vW : (convert 23 9 (.slice (some ⟨w.heap.size + 1, 0, none⟩) 3 3)).run Tryd.prog (Lib.bytesWorld (w.alloc (.cells #[.int .u8 0, .int .u8 0, .int .u8 0, .int .u8 0, .int .u8 0, .int .u8 0, .int .u8 0, .int .u8 0, .int .u8 0, .int .u8 0] 5)) 5 ⟨#[97, 98, 99]⟩) = .ok (.string (str abc)) (Lib.bytesWorld (w.alloc (.cells #[.int .u8 0, .int .u8 0, .int .u8 0, .int .u8 0, .int .u8 0, .int .u8 0, .int .u8 0, .int .u8 0, .int .u8 0, .int .u8 0] 5)) 5 ⟨#[97, 98, 99]⟩) := by
    refine run_convert_bytes_arg _ 23 5 Tryd.underlying23 Tryd.underlying5 _ 0 3 3 [97, 98, 99] rfl (fun i hi => ?_) 9 Tryd.underlying9
    have hc := Lib.bytesWorld_cell (w.alloc (.cells #[.int .u8 0, .int .u8 0, .int .u8 0, .int .u8 0, .int .u8 0, .int .u8 0, .int .u8 0, .int .u8 0, .int .u8 0, .int .u8 0] 5)) 5 ⟨#[97, 98, 99]⟩ i hi
    rw [World.size_alloc] at hc
    rw [Nat.zero_add, hc]
    match i, hi with
    | 0, _ => rfl
    | 1, _ => rfl
    | 2, _ => rfl
  generalize hW : Lib.bytesWorld (w.alloc (.cells #[.int .u8 0, .int .u8 0, .int .u8 0, .int .u8 0, .int .u8 0, .int .u8 0, .int .u8 0, .int .u8 0, .int .u8 0, .int .u8 0] 5)) 5 ⟨#[97, 98, 99]⟩ = W at oW rW zW vW ⊢
  clear hW kc hmk
  have hcap := grownCap_ge (w.alloc (.cells #[.int .u8 0, .int .u8 0, .int .u8 0, .int .u8 0, .int .u8 0, .int .u8 0, .int .u8 0, .int .u8 0, .int .u8 0, .int .u8 0] 5)) 3 0 5
  generalize grownCap (w.alloc (.cells #[.int .u8 0, .int .u8 0, .int .u8 0, .int .u8 0, .int .u8 0, .int .u8 0, .int .u8 0, .int .u8 0, .int .u8 0, .int .u8 0] 5)) 3 0 5 = cp at hcap ⊢
  refine wp_loop_rounds 1 ?_
  rw [rounds_succ]
  have d0 := oW.cell c0 (fun h => h)
  have OW := Lib.hid oW
  have RW := Lib.hid rW
  have ZW := Lib.hid zW
  clear oW rW zW c0 c1 f0
  go_wp2_with (first | (go_at_call 13; go_in))
  have hz : 0 < W.heap.size := by have := ZW.out; omega
  refine (fragment_any W abc 1 (by decide)).mono ?_
  rintro e w1 ⟨rfl, h1⟩
  have O1 := Lib.hid (OW.out.then h1 (fun _ h _ => h))
  have R1 := Lib.hid (h1.row RW.out (fun _ _ h => h))
  have d1 := h1.cell d0 (fun h => h)
  have z1 : w.heap.size ≤ w1.heap.size := by have := h1.size; have := ZW.out; omega
  clear h1 d0 vW
  go_wp2_with (at_builtin; go_must (refine step_append_str _ rfl (.tmp 72) (.tmp 79) 23 9 5 rfl Tryd.underlying23 Tryd.underlying9 Tryd.infoU8 w.heap.size _ _ [] rfl R1.out z1 _ rfl (by decide) ?_))
  have hsz : (str (fragOf 1 abc)).size = 10 := rfl
  rw [hsz]
  intro A cap w2 hown hgrow
  have hO : Only (fun _ => False) w w2 := O1.out.then hgrow (fun k hk hlt => by simp [Value.ownBlock] at hk; omega)
  have hb : w2.heap[p]? = some (.cells #[.int .i64 0, .bool true] 36 (0, 0)) := (hO.block p hlt (fun h => h)).trans H.out
  have d2 : w2.cell? ⟨p, 0, none⟩ = some (.int .i64 0) := by simp [World.cell?, hb]
  have f2 : w2.frozen? ⟨p, 0, none⟩ = false := by simp [World.frozen?, hb]
  have HB := Lib.hid hb
  have HO := Lib.hid hO
  have HR := Lib.hid hown
  clear hb hO hown hgrow d1
  have hne : ∀ k, (Value.slice A (0 + 10) cap).ownBlock = some k → k ≠ p := fun k hk e => by have := own_base HR.out k hk; omega
  have HN := Lib.hid hne
  clear hne
  go_wp2
  all_goals go_ret2
  all_goals exact ⟨A, cap, rfl, by simpa [str_data] using ownsRow_setCell_other HR.out (a := ⟨p, 0, none⟩) (fun e => HN.out p e rfl) _, by simp [World.setCell, Array.getElem?_modify, HB.out], (HO.out.mono (fun _ h _ => h.elim)).set (by simp) _⟩
end Go.Proofs.YtpeglajckkbfmaaDoor
