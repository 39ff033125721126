/- The contracts of the codec package's Reader, in this seat's numbers. No condition but sizes. -/
import Derived.Test.YtpeglajckkbfmaaDoorWd
set_option linter.unusedVariables false
set_option linter.unusedSimpArgs false
namespace Go.Proofs.YtpeglajckkbfmaaDoor
open Go.RowKit

theorem str_data (l : List UInt8) : (str l).data.toList = l := rfl
theorem str_of (b : ByteArray) : str b.data.toList = b := rfl
theorem str_extract (l : List UInt8) (i j : Nat) : (str l).extract i j = str ((l.take j).drop i) := by
  apply ByteArray.ext
  apply Array.ext'
  simp [str, List.drop_take]

/-- Block p is a Reader that has l left and the fault e. -/
structure RAt (w : World) (p : Nat) (l : List UInt8) (e : Int) : Prop where
  blk : w.heap[p]? = some (.cells #[.string (str l), .int .i64 e] 127 (0, 0))
theorem RAt.cells {w : World} {p : Nat} {l : List UInt8} {e : Int} (h : RAt w p l e) :
    w.cell? ⟨p, 0, none⟩ = some (.string (str l)) ∧ w.cell? ⟨p, 1, none⟩ = some (.int .i64 e) ∧
    w.frozen? ⟨p, 0, none⟩ = false ∧ w.frozen? ⟨p, 1, none⟩ = false := by
  have := h.blk
  simp [World.cell?, World.frozen?, this]
theorem RAt.lt {w : World} {p : Nat} {l : List UInt8} {e : Int} (h : RAt w p l e) : p < w.heap.size := (Array.getElem?_eq_some_iff.1 h.blk).1
theorem RAt.only {w w' : World} {S : Nat → Prop} {p : Nat} {l : List UInt8} {e : Int} (h : RAt w p l e) (ho : Only S w w') (h1 : ¬ S p) : RAt w' p l e :=
  ⟨(ho.block p h.lt h1).trans h.blk⟩

theorem newReader_any (w : World) (l : List UInt8) :
    Calls Tryd.prog 63 #[.string (str l)] w fun e w' => e = .returned (.pointer (some ⟨w.heap.size, 0, none⟩)) ∧ RAt w' w.heap.size l 0 ∧ w'.heap.size = w.heap.size + 1 ∧ Only (fun _ => False) w w' := by
  go_enter Tryd.func63, Tryd.ntmps63
  go_wp2
  go_ret
  exact ⟨rfl, ⟨by simp [World.alloc, -World.alloc_eq]⟩, by simp, (Only.refl _ _).alloc _⟩

/-- The bytes that a Reader gives, and how it stands behind them. -/
def rraw (n : Int) (st : List UInt8 × Int) : List UInt8 × (List UInt8 × Int) :=
  if st.2 ≠ 0 then ([], st) else if n < 0 then ([], (st.1, 1)) else if (st.1.length : Int) < n then ([], (st.1, 20)) else (st.1.take n.toNat, (st.1.drop n.toNat, 0))

theorem fault_any (w : World) (p : Nat) (l : List UInt8) (e' : Int) (h : RAt w p l 0) :
    Calls Tryd.prog 85 #[.pointer (some ⟨p, 0, none⟩), .int .i64 e'] w fun x w' => x = .returned (.string (str [])) ∧ RAt w' p l e' ∧ Only (fun k => k = p) w w' := by
  obtain ⟨c0, c1, f0, f1⟩ := h.cells
  go_enter Tryd.func85, Tryd.ntmps85
  go_wp2
  go_ret
  exact ⟨rfl, ⟨by simp [World.setCell, Array.getElem?_modify, h.blk]⟩, (Only.refl _ _).set (by simp) _⟩
theorem raw_err (w : World) (p : Nat) (l : List UInt8) (e n : Int) (he : e ≠ 0) (h : RAt w p l e) :
    Calls Tryd.prog 82 #[.pointer (some ⟨p, 0, none⟩), .int .i64 n] w fun x w' => x = .returned (.string (str [])) ∧ w = w' := by
  obtain ⟨c0, c1, f0, f1⟩ := h.cells
  have heb : (e != 0) = true := by simpa using he
  go_enter Tryd.func82, Tryd.ntmps82
  go_wp2_with fail
  go_ret
  exact ⟨rfl, rfl⟩
def rneg (n : Int) : Int := if n < 0 then 1 else 20
theorem raw_fault (w : World) (p : Nat) (l : List UInt8) (n : Int) (hl : l.length ≤ 140737488355328) (h : RAt w p l 0) (hn : n < 0 ∨ (l.length : Int) < n) :
    Calls Tryd.prog 82 #[.pointer (some ⟨p, 0, none⟩), .int .i64 n] w fun x w' => x = .returned (.string (str [])) ∧ RAt w' p l (rneg n) ∧ Only (fun k => k = p) w w' := by
  obtain ⟨c0, c1, f0, f1⟩ := h.cells
  have hs := str_size l
  by_cases hneg : n < 0
  · go_enter Tryd.func82, Tryd.ntmps82
    go_wp2_with fail
    refine (fault_any w p l 1 h).mono ?_
    rintro e w1 ⟨rfl, h1, h2⟩
    go_wp2
    go_ret
    exact ⟨rfl, by simpa [rneg, hneg] using h1, h2⟩
  · have hgt : (l.length : Int) < n := by omega
    go_enter Tryd.func82, Tryd.ntmps82
    go_wp2_with fail
    refine (fault_any w p l 20 h).mono ?_
    rintro e w1 ⟨rfl, h1, h2⟩
    go_wp2
    go_ret
    exact ⟨rfl, by have h0 : ¬ n < 0 := by omega
                   simpa [rneg, h0] using h1, h2⟩
theorem raw_ok (w : World) (p : Nat) (l : List UInt8) (n : Nat) (hl : l.length ≤ 140737488355328) (h : RAt w p l 0) (hn : n ≤ l.length) :
    Calls Tryd.prog 82 #[.pointer (some ⟨p, 0, none⟩), .int .i64 n] w fun x w' => x = .returned (.string (str (l.take n))) ∧ RAt w' p (l.drop n) 0 ∧ Only (fun k => k = p) w w' := by
  obtain ⟨c0, c1, f0, f1⟩ := h.cells
  have hs := str_size l
  go_enter Tryd.func82, Tryd.ntmps82
  go_wp2
  go_ret
  refine ⟨?_, ⟨?_⟩, (Only.refl _ _).set (by simp) _⟩
  · show Ending.returned (.string ((str l).extract 0 n)) = _
    rw [str_extract]; simp
  · have e1 : (str l).extract n l.length = str (l.drop n) := by rw [str_extract]; simp
    simp [World.setCell, Array.getElem?_modify, h.blk, e1]

/-- The number that bytes are, the highest first. -/
def beVal (l : List UInt8) : Nat := l.foldl (fun a c => a * 256 + c.toNat) 0
theorem beVal_snoc (l : List UInt8) (c : UInt8) : beVal (l ++ [c]) = beVal l * 256 + c.toNat := by simp [beVal]
theorem beVal_lt (l : List UInt8) : beVal l < 256 ^ l.length := by
  have h : ∀ (r : List UInt8), beVal r.reverse < 256 ^ r.length := by
    intro r
    induction r with
    | nil => simp [beVal]
    | cons c r ih =>
      rw [List.reverse_cons, beVal_snoc, List.length_cons, Nat.pow_succ]
      have := c.toNat_lt
      omega
  have := h l.reverse
  simpa using this
theorem take_snoc {l : List UInt8} {k : Nat} (h : k < l.length) : l.take (k + 1) = l.take k ++ [l[k]] := by
  rw [List.take_succ_eq_append_getElem h]
theorem beVal_small {l : List UInt8} (h : l.length ≤ 8) (k : Nat) (hk : k < l.length) : beVal (l.take k) < 72057594037927936 := by
  have h1 := beVal_lt (l.take k)
  have h2 : (l.take k).length ≤ 7 := by simp; omega
  have h3 : 256 ^ (l.take k).length ≤ 256 ^ 7 := Nat.pow_le_pow_right (by omega) h2
  have h4 : (256 : Nat) ^ 7 = 72057594037927936 := by decide
  omega
theorem or_byte (a c : Nat) (ha : a < 72057594037927936) (hc : c < 256) : bits .or .u64 ((a : Int) * 256) (c : Int) = ((a * 256 + c : Nat) : Int) := by
  have e : ((a : Int) * 256) = ((a * 256 : Nat) : Int) := by simp
  rw [e, u64_or_nat _ _ (by omega) (by omega), Nat.or_comm, nat_join8' _ _ (by omega) hc]

set_option maxHeartbeats 400000 in
theorem read_ok (w : World) (p : Nat) (l : List UInt8) (n : Nat) (hl : l.length ≤ 140737488355328) (h : RAt w p l 0) (hn : n ≤ l.length) (h8 : n ≤ 8) :
    Calls Tryd.prog 76 #[.pointer (some ⟨p, 0, none⟩), .int .i64 n] w fun x w' => x = .returned (.int .u64 (beVal (l.take n))) ∧ RAt w' p (l.drop n) 0 ∧ Only (fun k => k = p) w w' := by
  obtain ⟨d, hd⟩ : ∃ d, d = l.take n := ⟨_, rfl⟩
  have hdl : d.length = n := by rw [hd]; simp; omega
  have c1 := raw_ok w p l n hl h hn
  rw [← hd] at c1 ⊢
  have C1 := Lib.hid c1
  have es : (str d).size = d.length := rfl
  have hd8 : d.length ≤ 8 := by omega
  have HP := Lib.hid h.lt
  clear c1 hd hdl hn hl h8 h
  have kc := fun W => Lib.run_convert_string_bytes (P := Tryd.prog) W 9 23 5 (str d) Tryd.underlying9 Tryd.underlying23 Tryd.underlying5
  go_enter Tryd.func76, Tryd.ntmps76
  go_wp2_with fail
  refine C1.out.mono ?_
  rintro e w1 ⟨rfl, h1, h2⟩
  have H12 := Lib.hid (And.intro h1 h2)
  clear h1 h2
  go_wp2_with fail
  clear kc
  go_loop [5, 13] (fun n i => ∃ k : Nat, k ≤ d.length ∧ i = .int .i64 k ∧ n = .int .u64 (beVal (d.take k))) (fun _ i => d.length - (intOf i).toNat)
  case atStart => exact ⟨0, Nat.zero_le _, rfl, rfl⟩
  case round =>
    obtain ⟨k, hk, rfl, rfl⟩ := hrel
    by_cases hlt : k < d.length
    · have hc : (Lib.bytesWorld w1 5 (str d)).cell? ⟨w1.heap.size, k, none⟩ = some (.int .u8 (d[k]).toNat) := by
        rw [Lib.bytesWorld_cell _ _ _ _ (by exact hlt)]
        simp [str, List.getD_eq_getElem?_getD, hlt]
      have hsm := beVal_small hd8 k hlt
      have hor := or_byte (beVal (d.take k)) (d[k]).toNat hsm (d[k]).toNat_lt
      have hlt8 := (d[k]).toNat_lt
      go_wp2
      go_round
      case rel => exact ⟨k + 1, by omega, by go_num, by rw [take_snoc hlt, beVal_snoc]; go_num⟩
      case measure => simp [intOf]; omega
    · obtain rfl : k = d.length := by omega
      go_wp2
      go_ret
      refine ⟨rfl, H12.out.1.only ((Only.refl (fun _ => False) _).bytesW _ _) (fun h => h), ?_⟩
      exact H12.out.2.bytesW _ _

/-- What a faulty Reader gives, or one that has too little left: 0. -/
theorem read_zero (w : World) (p : Nat) (l : List UInt8) (e e' : Int) (n : Nat) (W : Ending → World → Prop) (hraw : Calls Tryd.prog 82 #[.pointer (some ⟨p, 0, none⟩), .int .i64 n] w fun x w' => x = .returned (.string (str [])) ∧ RAt w' p l e' ∧ Only (fun k => k = p) w w') :
    Calls Tryd.prog 76 #[.pointer (some ⟨p, 0, none⟩), .int .i64 n] w fun x w' => x = .returned (.int .u64 0) ∧ RAt w' p l e' ∧ Only (fun k => k = p) w w' := by
  have C1 := Lib.hid hraw
  clear hraw
  have kc := fun W => Lib.run_convert_string_bytes (P := Tryd.prog) W 9 23 5 (str []) Tryd.underlying9 Tryd.underlying23 Tryd.underlying5
  have es : (str []).size = 0 := rfl
  go_enter Tryd.func76, Tryd.ntmps76
  go_wp2_with fail
  refine C1.out.mono ?_
  rintro e w1 ⟨rfl, h1, h2⟩
  have H12 := Lib.hid (And.intro h1 h2)
  clear h1 h2
  go_wp2_with fail
  refine wp_loop_rounds 1 ?_
  rw [rounds_succ]
  go_wp2
  go_ret
  exact ⟨rfl, H12.out.1.only ((Only.refl (fun _ => False) _).bytesW _ _) (fun h => h), H12.out.2.bytesW _ _⟩

/-- The number of the next n bytes, and how a Reader stands behind it. -/
def rnum (n : Nat) (st : List UInt8 × Int) : Nat × (List UInt8 × Int) :=
  if st.2 ≠ 0 then (0, st) else if st.1.length < n then (0, (st.1, 20)) else (beVal (st.1.take n), (st.1.drop n, 0))
theorem read_any (w : World) (p : Nat) (l : List UInt8) (e : Int) (n : Nat) (hl : l.length ≤ 140737488355328) (h : RAt w p l e) (h8 : n ≤ 8) :
    Calls Tryd.prog 76 #[.pointer (some ⟨p, 0, none⟩), .int .i64 n] w fun x w' => x = .returned (.int .u64 (rnum n (l, e)).1) ∧ RAt w' p (rnum n (l, e)).2.1 (rnum n (l, e)).2.2 ∧ Only (fun k => k = p) w w' := by
  by_cases he : e = 0
  · subst he
    by_cases hn : l.length < n
    · have hr := raw_fault w p l n hl h (Or.inr (by omega))
      have h20 : rneg (n : Int) = 20 := by unfold rneg; rw [if_neg (by omega)]
      rw [h20] at hr
      simpa [rnum, hn] using read_zero w p l 0 20 n (fun _ _ => True) hr
    · simpa [rnum, hn] using read_ok w p l n hl h (by omega) h8
  · have hr := raw_err w p l e n he h
    simpa [rnum, he] using read_zero w p l e e n (fun _ _ => True) (hr.mono fun x w' ⟨h1, h2⟩ => ⟨h1, h2 ▸ h, h2 ▸ Only.refl _ _⟩)
theorem rnum_lt (n : Nat) (st : List UInt8 × Int) : (rnum n st).1 < 256 ^ n := by
  have hp : 0 < 256 ^ n := Nat.pow_pos (by omega)
  unfold rnum
  split
  · exact hp
  · split
    · exact hp
    · have h1 := beVal_lt (st.1.take n)
      have h2 : 256 ^ (st.1.take n).length ≤ 256 ^ n := Nat.pow_le_pow_right (by omega) (by simp; omega)
      show beVal _ < _
      omega
theorem rU8_any (w : World) (p : Nat) (l : List UInt8) (e : Int) (hl : l.length ≤ 140737488355328) (h : RAt w p l e) :
    Calls Tryd.prog 66 #[.pointer (some ⟨p, 0, none⟩)] w fun x w' => x = .returned (.int .u8 (rnum 1 (l, e)).1) ∧ RAt w' p (rnum 1 (l, e)).2.1 (rnum 1 (l, e)).2.2 ∧ Only (fun k => k = p) w w' := by
  have hlt : ((rnum 1 (l, e)).1 : Int) < 256 := by
    have h1 := rnum_lt 1 (l, e)
    have h2 : (256 : Nat) ^ 1 = 256 := by decide
    omega
  have C := Lib.hid (read_any w p l e 1 hl h (by omega))
  generalize (rnum 1 (l, e)).1 = x at *
  generalize (rnum 1 (l, e)).2 = y at *
  clear h hl
  have h0 : (0 : Int) ≤ x := by omega
  go_enter Tryd.func66, Tryd.ntmps66
  go_wp2_with fail
  refine C.out.mono ?_
  rintro e w1 ⟨rfl, h1, h2⟩
  go_wp2
  go_ret
  exact ⟨rfl, h1, h2⟩

theorem rU16_any (w : World) (p : Nat) (l : List UInt8) (e : Int) (hl : l.length ≤ 140737488355328) (h : RAt w p l e) :
    Calls Tryd.prog 65 #[.pointer (some ⟨p, 0, none⟩)] w fun x w' => x = .returned (.int .u16 (rnum 2 (l, e)).1) ∧ RAt w' p (rnum 2 (l, e)).2.1 (rnum 2 (l, e)).2.2 ∧ Only (fun k => k = p) w w' := by
  have hlt : ((rnum 2 (l, e)).1 : Int) < 65536 := by
    have h1 := rnum_lt 2 (l, e)
    have h2 : (256 : Nat) ^ 2 = 65536 := by decide
    omega
  have C := Lib.hid (read_any w p l e 2 hl h (by omega))
  generalize (rnum 2 (l, e)).1 = x at *
  generalize (rnum 2 (l, e)).2 = y at *
  clear h hl
  have h0 : (0 : Int) ≤ x := by omega
  go_enter Tryd.func65, Tryd.ntmps65
  go_wp2_with fail
  refine C.out.mono ?_
  rintro e w1 ⟨rfl, h1, h2⟩
  go_wp2
  go_ret
  exact ⟨rfl, h1, h2⟩

theorem rU32_any (w : World) (p : Nat) (l : List UInt8) (e : Int) (hl : l.length ≤ 140737488355328) (h : RAt w p l e) :
    Calls Tryd.prog 64 #[.pointer (some ⟨p, 0, none⟩)] w fun x w' => x = .returned (.int .u32 (rnum 4 (l, e)).1) ∧ RAt w' p (rnum 4 (l, e)).2.1 (rnum 4 (l, e)).2.2 ∧ Only (fun k => k = p) w w' := by
  have hlt : ((rnum 4 (l, e)).1 : Int) < 4294967296 := by
    have h1 := rnum_lt 4 (l, e)
    have h2 : (256 : Nat) ^ 4 = 4294967296 := by decide
    omega
  have C := Lib.hid (read_any w p l e 4 hl h (by omega))
  generalize (rnum 4 (l, e)).1 = x at *
  generalize (rnum 4 (l, e)).2 = y at *
  clear h hl
  have h0 : (0 : Int) ≤ x := by omega
  go_enter Tryd.func64, Tryd.ntmps64
  go_wp2_with fail
  refine C.out.mono ?_
  rintro e w1 ⟨rfl, h1, h2⟩
  go_wp2
  go_ret
  exact ⟨rfl, h1, h2⟩


end Go.Proofs.YtpeglajckkbfmaaDoor
