/- The contracts of the codec package's Writer, in this seat's numbers. No condition but sizes. -/
import Derived.Test.YtpeglajckkbfmaaDoorWd
set_option linter.unusedVariables false
set_option linter.unusedSimpArgs false
namespace Go.Proofs.YtpeglajckkbfmaaDoor
open Go.RowKit

theorem Tryd.infoU8 : (Tryd.prog.info? 5).map (fun i => (i.zero, i.size, i.bytes)) = some (some (.int .u8 0), 1, 1) := by kernel_rfl

/-- Block p is a Writer with room for 'most' bytes that holds l. -/
structure WAt (w : World) (B p : Nat) (most : Nat) (v : Value) (l : List UInt8) (over : Bool) : Prop where
  blk : w.heap[p]? = some (.cells #[.int .i64 most, v, .bool over] 70 (0, 0))
  row : w.ownsRow B 5 1 v l.length (byteVals l)
  apart : v.ownBlock ≠ some p
  le : l.length ≤ most
  most0 : most ≤ 4194304
  hB : B ≤ p

def WS (p : Nat) (v : Value) : Nat → Prop := fun k => k = p ∨ v.ownBlock = some k

theorem WAt.cells {w : World} {B p : Nat} {most : Nat} {v : Value} {l : List UInt8} {over : Bool} (h : WAt w B p most v l over) :
    w.cell? ⟨p, 0, none⟩ = some (.int .i64 most) ∧ w.cell? ⟨p, 1, none⟩ = some v ∧ w.cell? ⟨p, 2, none⟩ = some (.bool over) ∧
    w.frozen? ⟨p, 0, none⟩ = false ∧ w.frozen? ⟨p, 1, none⟩ = false ∧ w.frozen? ⟨p, 2, none⟩ = false := by
  have := h.blk
  simp [World.cell?, World.frozen?, this]
theorem WAt.drewN {w : World} {B p : Nat} {most : Nat} {v : Value} {l : List UInt8} {over : Bool} (h : WAt w B p most v l over) (n : Nat) : WAt (w.drewN n) B p most v l over :=
  ⟨h.blk, h.row, h.apart, h.le, h.most0, h.hB⟩
theorem WAt.drew {w : World} {B p : Nat} {most : Nat} {v : Value} {l : List UInt8} {over : Bool} (h : WAt w B p most v l over) : WAt w.drew B p most v l over :=
  ⟨h.blk, h.row, h.apart, h.le, h.most0, h.hB⟩
theorem WAt.lt {w : World} {B p : Nat} {most : Nat} {v : Value} {l : List UInt8} {over : Bool} (h : WAt w B p most v l over) : p < w.heap.size := (Array.getElem?_eq_some_iff.1 h.blk).1
theorem WAt.only {w w' : World} {S : Nat → Prop} {B p : Nat} {most : Nat} {v : Value} {l : List UInt8} {over : Bool} (h : WAt w B p most v l over) (ho : Only S w w') (h1 : ¬ S p) (h2 : ∀ k, v.ownBlock = some k → ¬ S k) : WAt w' B p most v l over :=
  ⟨(ho.block p h.lt h1).trans h.blk, ho.row h.row h2, h.apart, h.le, h.most0, h.hB⟩
theorem WAt.alloc {w : World} {B p : Nat} {most : Nat} {v : Value} {l : List UInt8} {over : Bool} (h : WAt w B p most v l over) (o : Obj) : WAt (w.alloc o) B p most v l over :=
  h.only (S := fun _ => False) ((Only.refl _ _).alloc o) (fun h => h) (fun _ _ h => h)
theorem WAt.over {w : World} {B p : Nat} {most : Nat} {v : Value} {l : List UInt8} {over b : Bool} (h : WAt w B p most v l over) : WAt (w.setCell ⟨p, 2, none⟩ (.bool b)) B p most v l b :=
  ⟨by simp [World.setCell, Array.getElem?_modify, h.blk], ownsRow_setCell_other h.row h.apart _, h.apart, h.le, h.most0, h.hB⟩

theorem WAt.lower {w : World} {B B' p : Nat} {most : Nat} {v : Value} {l : List UInt8} {over : Bool} (h : WAt w B p most v l over) (hb : B' ≤ B) : WAt w B' p most v l over := by
  refine ⟨h.blk, ⟨h.row.1, ?_⟩, h.apart, h.le, h.most0, Nat.le_trans hb h.hB⟩
  rcases h.row.2 with h2 | ⟨g, cap, cur, hv, hg, r⟩
  · exact .inl h2
  · exact .inr ⟨g, cap, cur, hv, Nat.le_trans hb hg, r⟩
/-- What lies below B stays. -/
theorem WAt.frame {w w' : World} {B p : Nat} {most : Nat} {v : Value} {l : List UInt8} {over : Bool} (h : WAt w B p most v l over) (ho : Only (WS p v) w w') : Only (fun k => B ≤ k) w w' :=
  ho.mono fun i hi _ => hi.elim (fun e => e ▸ h.hB) (fun e => own_base h.row i e)
/-- What a Writer holds behind a put. -/
def wput (most : Nat) (st : List UInt8 × Bool) (b : List UInt8) : List UInt8 × Bool :=
  if st.2 = true then st else if most < st.1.length + b.length then (st.1, true) else (st.1 ++ b, false)

theorem wput_ok {most : Nat} {l b : List UInt8} (h : l.length + b.length ≤ most) : wput most (l, false) b = (l ++ b, false) := by
  simp [wput, show ¬ most < l.length + b.length by omega]
def Put (w : World) (B p most : Nat) (v : Value) (st : List UInt8 × Bool) (e : Ending) (w' : World) : Prop :=
  e = .returned (.tuple #[]) ∧ (∃ v', WAt w' B p most v' st.1 st.2 ∧ ∀ k, v'.ownBlock = some k → v.ownBlock = some k ∨ w.heap.size ≤ k) ∧ Only (WS p v) w w'

theorem put_over (w : World) (B p : Nat) (most : Nat) (v : Value) (l : List UInt8) (b : Value) (h : WAt w B p most v l true) :
    Calls Tryd.prog 39 #[.pointer (some ⟨p, 0, none⟩), b] w fun e w' => e = .returned (.tuple #[]) ∧ w = w' := by
  obtain ⟨c0, c1, c2, f0, f1, f2⟩ := h.cells
  go_enter Tryd.func39, Tryd.ntmps39
  go_wp2
  go_end0
  exact ⟨rfl, rfl⟩

/-- Not enough room: the writer is over, nothing is written. -/
theorem put_full (w : World) (B p : Nat) (most : Nat) (v : Value) (l : List UInt8) (sa : Option Addr) (m c : Nat) (h : WAt w B p most v l false) (hm : m ≤ 140737488355328) (hfull : most < l.length + m) :
    Calls Tryd.prog 39 #[.pointer (some ⟨p, 0, none⟩), .slice sa m c] w fun e w' => e = .returned (.tuple #[]) ∧ WAt w' B p most v l true ∧ Only (fun k => k = p) w w' := by
  obtain ⟨c0, c1, c2, f0, f1, f2⟩ := h.cells
  obtain ⟨A, cap, rfl⟩ := own_form h.row
  have hle := h.le
  have hm0 := h.most0
  go_enter Tryd.func39, Tryd.ntmps39
  go_wp2
  go_quiet (fail)
  go_wp2
  go_end0
  exact ⟨rfl, (h.drewN _).over, ((Only.refl _ _).drewN _).set (by simp) _⟩

/-- There is room: the bytes stand behind the others. -/
theorem put_room (w : World) (B p : Nat) (most : Nat) (v : Value) (l : List UInt8) (a : Addr) (m c : Nat) (b : List UInt8) (h : WAt w B p most v l false)
    (hl : b.length = m) (hnews : ∀ j u, (byteVals b)[j]? = some u → w.cell? (a.add j) = some u) (hroom : l.length + m ≤ most) :
    Calls Tryd.prog 39 #[.pointer (some ⟨p, 0, none⟩), .slice (some a) m c] w fun e w' => e = .returned (.tuple #[]) ∧ (∃ v', WAt w' B p most v' (l ++ b) false ∧ ∀ k, v'.ownBlock = some k → v.ownBlock = some k ∨ k = w.heap.size) ∧ Only (WS p v) w w' := by
  obtain ⟨c0, c1, c2, f0, f1, f2⟩ := h.cells
  obtain ⟨A, cap, hv⟩ := own_form h.row
  have hle := h.le
  have hm0 := h.most0
  subst hv
  subst hl
  have Hn := Lib.hid hnews
  clear hnews
  go_enter Tryd.func39, Tryd.ntmps39
  go_wp2
  go_quiet (fail)
  go_wp2_with (at_builtin; go_must (refine step_append _ rfl (.tmp 8) (.tmp 9) 23 5 (.int .u8 0) 1 1 rfl Tryd.underlying23 Tryd.infoU8 rfl (by decide) B _ _ _ rfl (h.drewN _).row (by have h1 := h.lt; have h2 := h.hB; simp [World.drewN]; omega) a _ c (byteVals b) rfl (by simp [byteVals_length]) Hn.out (byteVals_one b) (by omega) (by omega) ?_))
  intro A' cap' w1 hown hgrow hblk
  have hlt : p < w.heap.size := h.lt
  have hb1 : w1.heap[p]? = some (.cells #[.int .i64 most, .slice A l.length cap, .bool false] 70 (0, 0)) := (hgrow.block p hlt h.apart).trans h.blk
  have g1 : w1.cell? ⟨p, 1, none⟩ = some (.slice A l.length cap) := by simp [World.cell?, hb1]
  have g2 : w1.frozen? ⟨p, 1, none⟩ = false := by simp [World.frozen?, hb1]
  have ap : (Value.slice A' (l.length + b.length) cap').ownBlock ≠ some p := fun e => (hblk p e).elim (fun e' => h.apart e') (fun e' => by have e2 : p = w.heap.size := e'; omega)
  have HB := Lib.hid hb1
  have HG := Lib.hid hgrow
  have HO := Lib.hid hown
  have HK := Lib.hid hblk
  have HP := Lib.hid ap
  clear hb1 hgrow hown hblk ap
  go_wp2
  go_end0
  have hown := HO.out
  rw [← List.length_append, ← byteVals_append] at hown
  refine ⟨rfl, ⟨.slice A' (l ++ b).length cap', ⟨by simp [World.setCell, Array.getElem?_modify, HB.out], ownsRow_setCell_other hown (by simpa using HP.out) _, by simpa using HP.out, by simp; omega, h.most0, h.hB⟩, fun k hk => HK.out k (by simpa using hk)⟩, ?_⟩
  exact ((((Only.refl (WS p (.slice A l.length cap)) w).drewN nq).then HG.out (fun k hk _ => Or.inr hk)).set (fun _ => Or.inl rfl) _)

/-- Whatever the Writer holds. -/
theorem put_any (w : World) (B p : Nat) (most : Nat) (v : Value) (l : List UInt8) (over : Bool) (a : Addr) (m c : Nat) (b : List UInt8) (h : WAt w B p most v l over)
    (hl : b.length = m) (hm : m ≤ 140737488355328) (hnews : ∀ j u, (byteVals b)[j]? = some u → w.cell? (a.add j) = some u) :
    Calls Tryd.prog 39 #[.pointer (some ⟨p, 0, none⟩), .slice (some a) m c] w (Put w B p most v (wput most (l, over) b)) := by
  cases over with
  | true =>
    refine (put_over w B p most v l _ h).mono ?_
    rintro e w' ⟨rfl, rfl⟩
    exact ⟨rfl, ⟨v, by simpa [wput] using h, fun k hk => .inl hk⟩, Only.refl _ _⟩
  | false =>
    by_cases hr : most < l.length + b.length
    · refine (put_full w B p most v l _ m c h hm (by omega)).mono ?_
      rintro e w' ⟨rfl, h1, h2⟩
      exact ⟨rfl, ⟨v, by simpa [wput, hr] using h1, fun k hk => .inl hk⟩, h2.mono fun i hi _ => Or.inl hi⟩
    · refine (put_room w B p most v l a m c b h hl hnews (by omega)).mono ?_
      rintro e w' ⟨rfl, ⟨v', h1, h2⟩, h3⟩
      exact ⟨rfl, ⟨v', by simpa [wput, hr] using h1, fun k hk => (h2 k hk).imp (fun x => x) (fun e => by omega)⟩, h3⟩

/-- .. where there is room, said of what lies below B. -/
theorem Put.ok {w : World} {B p most : Nat} {v : Value} {l b : List UInt8} {e : Ending} {w' : World} (h : Put w B p most v (wput most (l, false) b) e w') (hw : WAt w B p most v l false) (hr : l.length + b.length ≤ most) :
    e = .returned (.tuple #[]) ∧ (∃ v', WAt w' B p most v' (l ++ b) false) ∧ Only (fun k => B ≤ k) w w' := by
  obtain ⟨h1, ⟨v', h2, h3⟩, h4⟩ := h
  rw [wput_ok hr] at h2
  exact ⟨h1, ⟨v', h2⟩, hw.frame h4⟩

/-- The bytes of a number, the highest first. -/
def be (n : Nat) : Nat → List UInt8
  | 0 => []
  | k + 1 => be (n / 256) k ++ [UInt8.ofNat (n % 256)]
theorem be_length (n k : Nat) : (be n k).length = k := by
  induction k generalizing n with
  | zero => rfl
  | succ k ih => simp [be, ih]
theorem cells_new (w : World) (l : List Value) (t : TypeId) : ∀ j u, l[j]? = some u → (w.alloc (.cells l.toArray t)).cell? ((⟨w.heap.size, 0, none⟩ : Addr).add j) = some u := by
  intro j u hu
  have ha : (⟨w.heap.size, 0, none⟩ : Addr).add j = ⟨w.heap.size, j, none⟩ := by unfold Addr.add; split <;> simp_all
  rw [ha, World.cell?_alloc_at _ _ _ _ rfl]
  simpa using hu
theorem ofNat_mod (n : Nat) : ((UInt8.ofNat n).toNat : Int) = n % 256 := by simp

theorem Put.alloc {w : World} {o : Obj} {B p most : Nat} {v : Value} {st : List UInt8 × Bool} {e : Ending} {w' : World} (h : Put (w.alloc o) B p most v st e w') : Put w B p most v st e w' := by
  obtain ⟨h1, ⟨v', h2, h3⟩, h4⟩ := h
  exact ⟨h1, ⟨v', h2, fun k hk => (h3 k hk).imp (fun x => x) (fun x => by simp at x; omega)⟩, ((Only.refl _ _).alloc o).then h4 (fun _ x _ => x)⟩

set_option maxRecDepth 100000 in
theorem num8_any (w : World) (B p : Nat) (most : Nat) (v : Value) (l : List UInt8) (over : Bool) (x : Nat) (hx : x < 256) (h : WAt w B p most v l over) :
    Calls Tryd.prog 38 #[.pointer (some ⟨p, 0, none⟩), .int .u8 x, .int .i64 1] w (Put w B p most v (wput most (l, over) (be x 1))) := by
  have hmk : ∀ W, (Instr.makeSlice 23 (.int .i64 1) (.int .i64 1)).run Tryd.prog W = .ok (.slice (some ⟨W.heap.size, 0, none⟩) 1 1) (W.alloc (.cells #[.int .u8 0] 5)) := fun _ => by kernel_rfl
  go_enter Tryd.func38, Tryd.ntmps38
  go_wp2_with fail
  refine wp_loop_rounds 2 ?_
  rw [rounds_succ]
  go_wp2_with fail
  rw [rounds_succ]
  go_wp2_with fail
  refine (put_any _ B p most v l over ⟨w.heap.size, 0, none⟩ 1 1 (be x 1) (h.alloc _) (be_length _ _) (by omega) ?_).mono ?_
  · refine fun j u hu => cells_new w _ 5 j u ?_
    rw [← hu]
    congr 1
    simp only [be, byteVals, List.map_append, List.map_cons, List.map_nil, List.nil_append, List.cons_append, ofNat_mod, List.cons.injEq, Value.int.injEq, true_and, and_true]
    omega
  · rintro e w1 ⟨rfl, hp⟩
    go_wp2
    go_end0
    exact Put.alloc (e := .returned (.tuple #[])) ⟨rfl, hp⟩

set_option maxRecDepth 100000 in
theorem num16_any (w : World) (B p : Nat) (most : Nat) (v : Value) (l : List UInt8) (over : Bool) (x : Nat) (hx : x < 65536) (h : WAt w B p most v l over) :
    Calls Tryd.prog 37 #[.pointer (some ⟨p, 0, none⟩), .int .u16 x, .int .i64 2] w (Put w B p most v (wput most (l, over) (be x 2))) := by
  have hmk : ∀ W, (Instr.makeSlice 23 (.int .i64 2) (.int .i64 2)).run Tryd.prog W = .ok (.slice (some ⟨W.heap.size, 0, none⟩) 2 2) (W.alloc (.cells #[.int .u8 0, .int .u8 0] 5)) := fun _ => by kernel_rfl
  go_enter Tryd.func37, Tryd.ntmps37
  go_wp2_with fail
  refine wp_loop_rounds 3 ?_
  rw [rounds_succ]
  go_wp2_with fail
  rw [rounds_succ]
  go_wp2_with fail
  rw [rounds_succ]
  go_wp2_with fail
  refine (put_any _ B p most v l over ⟨w.heap.size, 0, none⟩ 2 2 (be x 2) (h.alloc _) (be_length _ _) (by omega) ?_).mono ?_
  · refine fun j u hu => cells_new w _ 5 j u ?_
    rw [← hu]
    congr 1
    simp only [be, byteVals, List.map_append, List.map_cons, List.map_nil, List.nil_append, List.cons_append, ofNat_mod, List.cons.injEq, Value.int.injEq, true_and, and_true]
    omega
  · rintro e w1 ⟨rfl, hp⟩
    go_wp2
    go_end0
    exact Put.alloc (e := .returned (.tuple #[])) ⟨rfl, hp⟩

set_option maxRecDepth 100000 in
theorem num32_any (w : World) (B p : Nat) (most : Nat) (v : Value) (l : List UInt8) (over : Bool) (x : Nat) (hx : x < 4294967296) (h : WAt w B p most v l over) :
    Calls Tryd.prog 36 #[.pointer (some ⟨p, 0, none⟩), .int .u32 x, .int .i64 4] w (Put w B p most v (wput most (l, over) (be x 4))) := by
  have hmk : ∀ W, (Instr.makeSlice 23 (.int .i64 4) (.int .i64 4)).run Tryd.prog W = .ok (.slice (some ⟨W.heap.size, 0, none⟩) 4 4) (W.alloc (.cells #[.int .u8 0, .int .u8 0, .int .u8 0, .int .u8 0] 5)) := fun _ => by kernel_rfl
  go_enter Tryd.func36, Tryd.ntmps36
  go_wp2_with fail
  refine wp_loop_rounds 5 ?_
  rw [rounds_succ]
  go_wp2_with fail
  rw [rounds_succ]
  go_wp2_with fail
  rw [rounds_succ]
  go_wp2_with fail
  rw [rounds_succ]
  go_wp2_with fail
  rw [rounds_succ]
  go_wp2_with fail
  refine (put_any _ B p most v l over ⟨w.heap.size, 0, none⟩ 4 4 (be x 4) (h.alloc _) (be_length _ _) (by omega) ?_).mono ?_
  · refine fun j u hu => cells_new w _ 5 j u ?_
    rw [← hu]
    congr 1
    simp only [be, byteVals, List.map_append, List.map_cons, List.map_nil, List.nil_append, List.cons_append, ofNat_mod, List.cons.injEq, Value.int.injEq, true_and, and_true]
    omega
  · rintro e w1 ⟨rfl, hp⟩
    go_wp2
    go_end0
    exact Put.alloc (e := .returned (.tuple #[])) ⟨rfl, hp⟩


theorem wU8_any (w : World) (B p : Nat) (most : Nat) (v : Value) (l : List UInt8) (over : Bool) (x : Nat) (hx : x < 256) (h : WAt w B p most v l over) :
    Calls Tryd.prog 25 #[.pointer (some ⟨p, 0, none⟩), .int .u8 x] w (Put w B p most v (wput most (l, over) (be x 1))) := by
  go_enter Tryd.func25, Tryd.ntmps25
  go_wp2_with fail
  refine (num8_any w B p most v l over x hx h).mono ?_
  rintro e w1 ⟨rfl, hp⟩
  go_wp2
  go_end0
  exact ⟨rfl, hp⟩
theorem wU16_any (w : World) (B p : Nat) (most : Nat) (v : Value) (l : List UInt8) (over : Bool) (x : Nat) (hx : x < 65536) (h : WAt w B p most v l over) :
    Calls Tryd.prog 24 #[.pointer (some ⟨p, 0, none⟩), .int .u16 x] w (Put w B p most v (wput most (l, over) (be x 2))) := by
  go_enter Tryd.func24, Tryd.ntmps24
  go_wp2_with fail
  refine (num16_any w B p most v l over x hx h).mono ?_
  rintro e w1 ⟨rfl, hp⟩
  go_wp2
  go_end0
  exact ⟨rfl, hp⟩
theorem wU32_any (w : World) (B p : Nat) (most : Nat) (v : Value) (l : List UInt8) (over : Bool) (x : Nat) (hx : x < 4294967296) (h : WAt w B p most v l over) :
    Calls Tryd.prog 22 #[.pointer (some ⟨p, 0, none⟩), .int .u32 x] w (Put w B p most v (wput most (l, over) (be x 4))) := by
  go_enter Tryd.func22, Tryd.ntmps22
  go_wp2_with fail
  refine (num32_any w B p most v l over x hx h).mono ?_
  rintro e w1 ⟨rfl, hp⟩
  go_wp2
  go_end0
  exact ⟨rfl, hp⟩

theorem newWriter_any (w : World) (most : Nat) (hm : most ≤ 4194304) :
    Calls Tryd.prog 21 #[.int .i64 most] w fun e w' => e = .returned (.pointer (some ⟨w.heap.size, 0, none⟩)) ∧ WAt w' w.heap.size w.heap.size most (.slice none 0 0) [] false ∧ w'.heap.size = w.heap.size + 1 ∧ Only (fun _ => False) w w' := by
  go_enter Tryd.func21, Tryd.ntmps21
  go_wp2
  go_ret
  exact ⟨rfl, ⟨by simp [World.alloc, -World.alloc_eq], World.ownsRow_nil _ _ _ _, by simp [Value.ownBlock], Nat.zero_le _, hm, Nat.le_refl _⟩, by simp, (Only.refl _ _).alloc _⟩
theorem done_any (w : World) (B p : Nat) (most : Nat) (v : Value) (l : List UInt8) (h : WAt w B p most v l false) :
    Calls Tryd.prog 27 #[.pointer (some ⟨p, 0, none⟩)] w fun e w' => e = .returned (.tuple #[.string (str l), .int .i64 0]) ∧ w = w' := by
  obtain ⟨c0, c1, c2, f0, f1, f2⟩ := h.cells
  have hcv := own_string (P := Tryd.prog) Tryd.underlying23 Tryd.underlying5 Tryd.underlying9 h.row
  obtain ⟨A, cap, rfl⟩ := own_form h.row
  go_enter Tryd.func27, Tryd.ntmps27
  go_wp2
  go_ret2
  exact ⟨rfl, rfl⟩
theorem done_over (w : World) (B p : Nat) (most : Nat) (v : Value) (l : List UInt8) (h : WAt w B p most v l true) :
    Calls Tryd.prog 27 #[.pointer (some ⟨p, 0, none⟩)] w fun e w' => e = .returned (.tuple #[.string (str []), .int .i64 3]) ∧ w = w' := by
  obtain ⟨c0, c1, c2, f0, f1, f2⟩ := h.cells
  go_enter Tryd.func27, Tryd.ntmps27
  go_wp2
  go_ret2
  exact ⟨rfl, rfl⟩
theorem raw_any (w : World) (B p : Nat) (most : Nat) (v : Value) (l : List UInt8) (over : Bool) (b : ByteArray) (hb : b.size ≤ 140737488351232) (h : WAt w B p most v l over) :
    Calls Tryd.prog 26 #[.pointer (some ⟨p, 0, none⟩), .string b] w (Put w B p most v (wput most (l, over) b.data.toList)) := by
  have kc := fun W => Lib.run_convert_string_bytes (P := Tryd.prog) W 9 23 5 b Tryd.underlying9 Tryd.underlying23 Tryd.underlying5
  have Hb := Lib.hid hb
  clear hb
  go_enter Tryd.func26, Tryd.ntmps26
  go_wp2_with fail
  refine (put_any _ B p most v l over ⟨w.heap.size, 0, none⟩ _ _ b.data.toList (h.only (S := fun _ => False) ((Only.refl _ _).bytesW _ _) (fun h => h) (fun _ _ h => h)) rfl (by have := Hb.out; have := bytes_length b; omega) (cells_bytesW _ _ _)).mono ?_
  rintro e w1 ⟨rfl, ⟨v', h2, h3⟩, h4⟩
  go_wp2
  go_end0
  refine ⟨rfl, ⟨v', h2, fun k hk => (h3 k hk).imp (fun x => x) (fun x => by rw [Lib.bytesWorld_size] at x; omega)⟩, ((Only.refl _ _).bytesW _ _).then h4 (fun _ x _ => x)⟩
end Go.Proofs.YtpeglajckkbfmaaDoor
