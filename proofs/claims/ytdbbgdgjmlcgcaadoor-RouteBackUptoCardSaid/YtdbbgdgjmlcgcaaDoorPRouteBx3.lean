-- Printed by a program of this claim (wip/printx.py over the print of the kit), with contracts of its own.
import Derived.Test.YtdbbgdgjmlcgcaaDoorPRouteBx0
import Derived.Test.YtdbbgdgjmlcgcaaDoorPRouteBx1
namespace Go.Proofs.YtdbbgdgjmlcgcaaDoor.PRouteB
open Go.RowKit Go.Proofs.YtdbbgdgjmlcgcaaDoorW.PrintWords Go.Proofs.YtdbbgdgjmlcgcaaDoorW.PrintLast Go.Proofs.YtdbbgdgjmlcgcaaDoorW.PrintMore
attribute [local go_sem] max2_int min2_int max_two min_two max_three min_three max_four min_four   -- for this text's walks alone
set_option linter.unusedVariables false
set_option linter.unusedSimpArgs false

/-! ### route_way_match: function 26: a contract of my own -/
theorem size_alloc (w : World) (o : Obj) : (w.alloc o).heap.size = w.heap.size + 1 := by simp
theorem five (w : World) (o0 o1 o2 o3 o4 : Obj) : ((((((w.alloc o0).alloc o1).alloc o2).alloc o3).alloc o4).heap.size = w.heap.size + 5) ∧
    (((((w.alloc o0).alloc o1).alloc o2).alloc o3).alloc o4).heap[w.heap.size + 1]? = some o1 ∧ (((((w.alloc o0).alloc o1).alloc o2).alloc o3).alloc o4).heap[w.heap.size + 1 + 1]? = some o2 ∧
    (((((w.alloc o0).alloc o1).alloc o2).alloc o3).alloc o4).heap[w.heap.size + 1 + 1 + 1]? = some o3 ∧ (((((w.alloc o0).alloc o1).alloc o2).alloc o3).alloc o4).heap[w.heap.size + 1 + 1 + 1 + 1]? = some o4 := by
  have h1 := blk_alloc (blk_alloc (blk_alloc (blk_new (w.alloc o0) o1) o2) o3) o4
  have h2 := blk_alloc (blk_alloc (blk_new ((w.alloc o0).alloc o1) o2) o3) o4
  have h3 := blk_alloc (blk_new (((w.alloc o0).alloc o1).alloc o2) o3) o4
  have h4 := blk_new ((((w.alloc o0).alloc o1).alloc o2).alloc o3) o4
  simp only [size_alloc] at h1 h2 h3 h4 ⊢
  exact ⟨trivial, h1, h2, h3, h4⟩
theorem stored5 {w : World} {g : Nat} {t : TypeId} {o0 o1 o2 o3 o4 : Value} (k : w.heap[g]? = some (.cells #[o0, o1, o2, o3, o4] t (0, 0))) (u0 u1 u2 u3 u4 : Value) :
    (((((w.setCell ⟨g, 0, none⟩ u0).setCell ⟨g, 1, none⟩ u1).setCell ⟨g, 2, none⟩ u2).setCell ⟨g, 3, none⟩ u3).setCell ⟨g, 4, none⟩ u4).heap[g]? = some (.cells #[u0, u1, u2, u3, u4] t (0, 0)) :=
  blk_set (blk_set (blk_set (blk_set (blk_set k 0 u0) 1 u1) 2 u2) 3 u3) 4 u4
theorem below5 {w W : World} {g : Nat} (h : Below w.heap.size w W) (hg : w.heap.size ≤ g) (u0 u1 u2 u3 u4 : Value) :
    Below w.heap.size w (((((W.setCell ⟨g, 0, none⟩ u0).setCell ⟨g, 1, none⟩ u1).setCell ⟨g, 2, none⟩ u2).setCell ⟨g, 3, none⟩ u3).setCell ⟨g, 4, none⟩ u4) :=
  below_set (below_set (below_set (below_set (below_set h hg) hg) hg) hg) hg
/-- The map of what fits. -/
def fits (q : Nat) : Array MapEntry := #[{ key := .string ⟨#[84]⟩, val := .func (.func 41) #[] #[.pointer (some ⟨q + 1 + 1, 0, none⟩), .pointer (some ⟨q + 1 + 1 + 1 + 1, 0, none⟩)], born := 0 }, { key := .string ⟨#[85]⟩, val := .func (.func 42) #[] #[.pointer (some ⟨q + 1 + 1, 0, none⟩), .pointer (some ⟨q + 1 + 1 + 1 + 1, 0, none⟩)], born := 1 }]
/-- What the loop of match keeps. -/
structure MInv (w wr : World) (q m : Nat) (A1 A2 A : Option Addr) (n1 n2 c1 c2 c : Nat) (ws : List ByteArray) (k0 : Int) (me : Bool) (t u : ByteArray) : Prop where
  b1 : wr.heap[q + 1]? = some (.cells #[.slice A1 n1 c1] 22 (0, 0))
  b2 : wr.heap[q + 1 + 1]? = some (.cells #[.slice A2 n2 c2] 22 (0, 0))
  b3 : wr.heap[q + 1 + 1 + 1]? = some (.cells #[.int .i64 0, .string ⟨#[]⟩, .string ⟨#[]⟩, .int .i64 0, .bool false] 36 (0, 0))
  b4 : wr.heap[q + 1 + 1 + 1 + 1]? = some (.cells #[.int .i64 k0, .string t, .string u, .int .i64 0, .bool me] 36 (0, 0))
  bm : wr.heap[m]? = some (.map (fits q) 2)
  hR : Kd.R Kd.string 9 wr w.heap.size (fun k => k ≠ q + 1 + 1 + 1 + 1) (.slice A ws.length c) ws
  hB : Below w.heap.size w wr
  hq : w.heap.size = q
  hm : q + 5 ≤ m
section
variable {w wr : World} {q m : Nat} {A1 A2 A : Option Addr} {n1 n2 c1 c2 c : Nat} {ws : List ByteArray} {k0 : Int} {me : Bool} {t u : ByteArray}
theorem MInv.alloc (h : MInv w wr q m A1 A2 A n1 n2 c1 c2 c ws k0 me t u) (o : Obj) : MInv w (wr.alloc o) q m A1 A2 A n1 n2 c1 c2 c ws k0 me t u :=
  ⟨blk_alloc h.b1 o, blk_alloc h.b2 o, blk_alloc h.b3 o, blk_alloc h.b4 o, blk_alloc h.bm o, Kd.R_alloc h.hR o, below_alloc h.hB o, h.hq, h.hm⟩
theorem MInv.token (h : MInv w wr q m A1 A2 A n1 n2 c1 c2 c ws k0 me t u) (s : ByteArray) : MInv w (wr.setCell ⟨q + 1 + 1 + 1 + 1, 1, none⟩ (.string s)) q m A1 A2 A n1 n2 c1 c2 c ws k0 me s u :=
  ⟨blk_far h.b1 (by simp) _, blk_far h.b2 (by simp) _, blk_far h.b3 (by simp) _, blk_set h.b4 1 _, by rw [Below.heap_setCell _ _ _ _ (by have := h.hm; simp; omega)]; exact h.bm, Kd.R_far h.hR (fun k hk => hk) _, below_set h.hB (by have := h.hq; omega), h.hq, h.hm⟩
theorem MInv.user (h : MInv w wr q m A1 A2 A n1 n2 c1 c2 c ws k0 me t u) (s : ByteArray) : MInv w (wr.setCell ⟨q + 1 + 1 + 1 + 1, 2, none⟩ (.string s)) q m A1 A2 A n1 n2 c1 c2 c ws k0 me t s :=
  ⟨blk_far h.b1 (by simp) _, blk_far h.b2 (by simp) _, blk_far h.b3 (by simp) _, blk_set h.b4 2 _, by rw [Below.heap_setCell _ _ _ _ (by have := h.hm; simp; omega)]; exact h.bm, Kd.R_far h.hR (fun k hk => hk) _, below_set h.hB (by have := h.hq; omega), h.hq, h.hm⟩
theorem MInv.drewN (h : MInv w wr q m A1 A2 A n1 n2 c1 c2 c ws k0 me t u) (n : Nat) : MInv w (wr.drewN n) q m A1 A2 A n1 n2 c1 c2 c ws k0 me t u :=
  ⟨h.b1, h.b2, h.b3, h.b4, h.bm, Kd.R_drewN h.hR n, pw_below_drewN h.hB n, h.hq, h.hm⟩
theorem MInv.zeros (h : MInv w wr q m A1 A2 A n1 n2 c1 c2 c ws k0 me t u) :
    wr.cell? ⟨q + 1 + 1 + 1, 0, none⟩ = some (.int .i64 0) ∧ wr.cell? ⟨q + 1 + 1 + 1, 1, none⟩ = some (.string ⟨#[]⟩) ∧ wr.cell? ⟨q + 1 + 1 + 1, 2, none⟩ = some (.string ⟨#[]⟩) ∧ wr.cell? ⟨q + 1 + 1 + 1, 3, none⟩ = some (.int .i64 0) ∧ wr.cell? ⟨q + 1 + 1 + 1, 4, none⟩ = some (.bool false) ∧
    wr.frozen? ⟨q + 1 + 1 + 1, 0, none⟩ = false ∧ wr.frozen? ⟨q + 1 + 1 + 1, 1, none⟩ = false ∧ wr.frozen? ⟨q + 1 + 1 + 1, 2, none⟩ = false ∧ wr.frozen? ⟨q + 1 + 1 + 1, 3, none⟩ = false ∧ wr.frozen? ⟨q + 1 + 1 + 1, 4, none⟩ = false :=
  ⟨blk_cell h.b3 0, blk_cell h.b3 1, blk_cell h.b3 2, blk_cell h.b3 3, blk_cell h.b3 4, blk_frozen h.b3 0, blk_frozen h.b3 1, blk_frozen h.b3 2, blk_frozen h.b3 3, blk_frozen h.b3 4⟩
end
theorem drop_at {α : Type} {d x : α} {l : List α} {i : Nat} (h : i < l.length) (hx : l.getD i d = x) : l.drop i = x :: l.drop (i + 1) := by
  rw [List.drop_eq_getElem_cons h, ← hx, List.getD_eq_getElem?_getD, List.getElem?_eq_getElem h]
  rfl
theorem toList_T : ({ data := #[84] } : ByteArray).toList = [84] := by rw [ByteArray.toList_eq]
theorem toList_U : ({ data := #[85] } : ByteArray).toList = [85] := by rw [ByteArray.toList_eq]
/-- What a way's pieces say of a target's: the token and the user. -/
def fitL (l1 l2 : List ByteArray) : List ByteArray → Nat → ByteArray → ByteArray → Option (ByteArray × ByteArray)
  | [], _, t, u => some (t, u)
  | x :: xs, i, t, u =>
    if x.toList = [84] then (if (l2.getD i ByteArray.empty).toList = [] then none else fitL l1 l2 xs (i + 1) (l2.getD i ByteArray.empty) u)
    else if x.toList = [85] then (if (l2.getD i ByteArray.empty).toList = [] then none else fitL l1 l2 xs (i + 1) t (l2.getD i ByteArray.empty))
    else if (l1.getD i ByteArray.empty).toList = x.toList then fitL l1 l2 xs (i + 1) t u else none

def route_way_match.f (a0_0 a0_1 : ByteArray) (a0_2 : Int) (a0_3 : Bool) (l1 l2 : List ByteArray) : Option (Int × ByteArray × ByteArray × Int × Bool × Bool) :=
  if l2.length ≤ l1.length then (strings_Split.f a0_1 ⟨#[47]⟩).bind fun ws =>
    some (if ws.length = l2.length then match fitL l1 l2 ws 0 ⟨#[]⟩ ⟨#[]⟩ with
      | none => (0, ⟨#[]⟩, ⟨#[]⟩, 0, false, false)
      | some (t, u) => (a0_2, t, u, 0, a0_3, true) else (0, ⟨#[]⟩, ⟨#[]⟩, 0, false, false))
  else none

theorem fitL_T (l1 l2 xs : List ByteArray) (i : Nat) (t u : ByteArray) : fitL l1 l2 (⟨#[84]⟩ :: xs) i t u = if (l2.getD i ByteArray.empty).toList = [] then none else fitL l1 l2 xs (i + 1) (l2.getD i ByteArray.empty) u := by
  rw [fitL, if_pos toList_T]
theorem fitL_U (l1 l2 xs : List ByteArray) (i : Nat) (t u : ByteArray) : fitL l1 l2 (⟨#[85]⟩ :: xs) i t u = if (l2.getD i ByteArray.empty).toList = [] then none else fitL l1 l2 xs (i + 1) t (l2.getD i ByteArray.empty) := by
  rw [fitL, if_neg (by rw [toList_U]; decide), if_pos toList_U]
theorem ba_ext {x y : ByteArray} (h : x.toList = y.toList) : x = y := by
  apply ByteArray.ext; apply Array.ext'
  rwa [ByteArray.toList_eq, ByteArray.toList_eq] at h
theorem ba_ne {x y : ByteArray} (h : ¬ x = y) : (x == y) = false := by
  cases hb : x == y with
  | false => rfl
  | true =>
    exfalso
    apply h
    obtain ⟨a⟩ := x
    obtain ⟨b⟩ := y
    have : (a == b) = true := hb
    rw [eq_of_beq this]
theorem fitL_N (l1 l2 xs : List ByteArray) (x : ByteArray) (i : Nat) (t u : ByteArray) (hT : ¬ x = ⟨#[84]⟩) (hU : ¬ x = ⟨#[85]⟩) : fitL l1 l2 (x :: xs) i t u = if (l1.getD i ByteArray.empty).toList = x.toList then fitL l1 l2 xs (i + 1) t u else none := by
  rw [fitL, if_neg (fun h => hT (ba_ext (h.trans toList_T.symm))), if_neg (fun h => hU (ba_ext (h.trans toList_U.symm)))]
theorem match3_any (w : World) (i n c a b : Nat) (ad : Addr) (g x : ByteArray) (hi : (i : Int) < (n : Int)) (b1 : w.cell? ⟨a, 0, none⟩ = some (.slice (some ad) n c)) (gc : w.cell? (ad.add i) = some (.string g)) (wx : w.cell? ⟨b, 0, none⟩ = some (.string x)) :
    Calls Tryd.prog 43 #[.int .i64 i, .pointer (some ⟨a, 0, none⟩), .pointer (some ⟨b, 0, none⟩)] w fun e w' => e = .returned (.bool (g.toList == x.toList)) ∧ Drawn0 w w' := by
  go_enter Tryd.func43, Tryd.ntmps43
  go_wp2
  go_quiet (fail)
  go_wp2
  go_ret
  exact ⟨rfl, ⟨_, rfl⟩⟩
set_option maxHeartbeats 1000000 in
set_option maxRecDepth 100000 in
theorem route_way_match.calls (a0_0 a0_1 : ByteArray) (a0_2 : Int) (a0_3 : Bool) (A1 : Option Addr) (c1 : Nat) (l1 : List ByteArray) (A2 : Option Addr) (c2 : Nat) (l2 : List ByteArray) (r1 : Int) (r2 r3 : ByteArray) (r4 : Int) (r5 r6 : Bool) (w : World) (hr1 : Kd.C Kd.string w A1 l1.length l1) (hc1 : l1.length ≤ c1) (hr2 : Kd.C Kd.string w A2 l2.length l2) (hc2 : l2.length ≤ c2) (h : route_way_match.f a0_0 a0_1 a0_2 a0_3 l1 l2 = some (r1, r2, r3, r4, r5, r6)) :
    Calls Tryd.prog 26 #[.agg #[.string a0_0, .string a0_1, .int .i64 a0_2, .bool a0_3], .slice A1 l1.length c1, .slice A2 l2.length c2] w fun e w' => e = .returned (.tuple #[.agg #[.int .i64 r1, .string r2, .string r3, .int .i64 r4, .bool r5], .bool r6]) ∧ Below w.heap.size w w' := by
  have HR1 := Aside0.mk hr1
  have HR2 := Aside0.mk hr2
  have hmx : (l2.length : Int) ≤ 9223372036854775807 := by have := Kd.C_max hr2; omega
  unfold route_way_match.f at h
  split at h
  case isFalse => cases h
  rename_i hle
  obtain ⟨ws, hws, h⟩ := Option.bind_eq_some_iff.1 h
  have h := Option.some.inj h
  have HW := Aside0.mk hws
  have HH := Aside0.mk h
  clear h hws hr1 hr2
  go_enter Tryd.func26, Tryd.ntmps26
  go_wp2_with fail
  obtain ⟨q, hq⟩ : ∃ q, w.heap.size = q := ⟨_, rfl⟩
  rw [hq]
  obtain ⟨W, hWd⟩ : ∃ W, (((((w.alloc (Obj.cells #[Value.string a0_0, Value.string a0_1, Value.int IntKind.i64 a0_2, Value.bool a0_3] 54)).alloc (Obj.cells #[Value.slice A1 l1.length c1] 22)).alloc (Obj.cells #[Value.slice A2 l2.length c2] 22)).alloc (Obj.cells #[Value.int IntKind.i64 0, Value.string { data := #[] }, Value.string { data := #[] }, Value.int IntKind.i64 0, Value.bool false] 36)).alloc (Obj.cells #[Value.int IntKind.i64 a0_2, Value.string { data := #[] }, Value.string { data := #[] }, Value.int IntKind.i64 0, Value.bool a0_3] 36)) = W := ⟨_, rfl⟩
  rw [hWd]
  have hB0 : Below w.heap.size w W := by rw [← hWd]; repeat (first | exact Below.refl _ _ | apply below_alloc)
  have h5 := five w (Obj.cells #[Value.string a0_0, Value.string a0_1, Value.int IntKind.i64 a0_2, Value.bool a0_3] 54) (Obj.cells #[Value.slice A1 l1.length c1] 22) (Obj.cells #[Value.slice A2 l2.length c2] 22) (Obj.cells #[Value.int IntKind.i64 0, Value.string { data := #[] }, Value.string { data := #[] }, Value.int IntKind.i64 0, Value.bool false] 36) (Obj.cells #[Value.int IntKind.i64 a0_2, Value.string { data := #[] }, Value.string { data := #[] }, Value.int IntKind.i64 0, Value.bool a0_3] 36)
  rw [hWd, hq] at h5
  obtain ⟨hz, b1, b2, b3, b4⟩ := h5
  clear hWd
  have b4W := b4
  refine (strings_Split.calls _ _ ws _ HW.out).mono ?_
  rintro e w1 ⟨v, rfl, hR, hB⟩
  obtain ⟨A, c, rfl, hcap, hC⟩ := Kd.R_reads hR
  replace b1 := blk_below b1 hB
  replace b2 := blk_below b2 hB
  replace b3 := blk_below b3 hB
  replace b4 := blk_below b4 hB
  have hBB := Aside0.mk (below_then hB0 (by omega) hB)
  have hR' := Aside0.mk hR
  have hR4 : Aside0 (Kd.R Kd.string 9 w1 w.heap.size (fun k => k ≠ q + 1 + 1 + 1 + 1) (.slice A ws.length c) ws) := ⟨Kd.R_mono (Kd.R_lower (Kd.R_newB hR b4W) (by omega)) (fun _ hk => hk.2)⟩
  have hC' := Aside0.mk hC
  have B1 := Aside0.mk b1
  have B2 := Aside0.mk b2
  have B3 := Aside0.mk b3
  have B4 := Aside0.mk b4
  have hz1 : q + 5 ≤ w1.heap.size := by have := hB.size; omega
  have c2' : w1.cell? ⟨q + 1 + 1, 0, none⟩ = some (.slice A2 l2.length c2) := by simp [World.cell?, b2]
  clear b4W hB0 hz hR hB hC b1 b2 b3 b4
  by_cases hlen : ws.length = l2.length
  case neg =>
    have hF : (r1, r2, r3, r4, r5, r6) = (0, ⟨#[]⟩, ⟨#[]⟩, 0, false, false) := by have := HH.out; rw [if_neg hlen] at this; exact this.symm
    simp only [Prod.mk.injEq] at hF
    obtain ⟨rfl, rfl, rfl, rfl, rfl, rfl⟩ := hF
    have k := B3.out
    have v0 : w1.cell? ⟨q + 1 + 1 + 1, 0, none⟩ = some (.int .i64 0) := blk_cell k 0
    have v1 : w1.cell? ⟨q + 1 + 1 + 1, 1, none⟩ = some (.string ⟨#[]⟩) := blk_cell k 1
    have v2 : w1.cell? ⟨q + 1 + 1 + 1, 2, none⟩ = some (.string ⟨#[]⟩) := blk_cell k 2
    have v3 : w1.cell? ⟨q + 1 + 1 + 1, 3, none⟩ = some (.int .i64 0) := blk_cell k 3
    have v4 : w1.cell? ⟨q + 1 + 1 + 1, 4, none⟩ = some (.bool false) := blk_cell k 4
    have f0 := blk_frozen k 0
    have f1 := blk_frozen k 1
    have f2 := blk_frozen k 2
    have f3 := blk_frozen k 3
    have f4 := blk_frozen k 4
    clear k
    go_wp2
    refine bodyPost_ret (results_ct (p := 6) (u := 7) (ty := 36) Tryd.results26 _ _ _ _ _ _ _ rfl (stored5 B3.out _ _ _ _ _) Tryd.underlying36 rfl (by kernel_rfl)) rfl ?_
    exact ⟨rfl, below5 hBB.out (by omega) _ _ _ _ _⟩
  case pos =>
    have HH2 : Aside0 ((match fitL l1 l2 ws 0 ⟨#[]⟩ ⟨#[]⟩ with | none => (0, ⟨#[]⟩, ⟨#[]⟩, 0, false, false) | some (t, u) => (a0_2, t, u, 0, a0_3, true)) = (r1, r2, r3, r4, r5, r6)) := ⟨by have := HH.out; rwa [if_pos hlen] at this⟩
    clear HH
    obtain ⟨m, hm⟩ : ∃ m, w1.heap.size = m := ⟨_, rfl⟩
    have kmk : (Instr.makeMap 69 none).run Tryd.prog w1 = .ok (.map (some m)) (w1.alloc (.map #[] 0)) := by rw [← hm]; rfl
    have kT : (Instr.mapUpdate 69 (.map (some m)) (.string ⟨#[84]⟩) (.func (.func 41) #[] #[.pointer (some ⟨q + 1 + 1, 0, none⟩), .pointer (some ⟨q + 1 + 1 + 1 + 1, 0, none⟩)])).run Tryd.prog (w1.alloc (.map #[] 0)) = .ok () (w1.alloc (.map #[{ key := .string ⟨#[84]⟩, val := (.func (.func 41) #[] #[.pointer (some ⟨q + 1 + 1, 0, none⟩), .pointer (some ⟨q + 1 + 1 + 1 + 1, 0, none⟩)]), born := 0 }] 1)) := by
      rw [run_update_new_str (es := #[]) (clock := 0) Tryd.underlying69 Tryd.underlying9 (by rw [← hm]; exact blk_new _ _) ⟨#[84]⟩ (.func (.func 41) #[] #[.pointer (some ⟨q + 1 + 1, 0, none⟩), .pointer (some ⟨q + 1 + 1 + 1 + 1, 0, none⟩)]) (fun e he => by cases he) rfl, ← hm, setBlock_alloc]; rfl
    have kU : (Instr.mapUpdate 69 (.map (some m)) (.string ⟨#[85]⟩) (.func (.func 42) #[] #[.pointer (some ⟨q + 1 + 1, 0, none⟩), .pointer (some ⟨q + 1 + 1 + 1 + 1, 0, none⟩)])).run Tryd.prog (w1.alloc (.map #[{ key := .string ⟨#[84]⟩, val := (.func (.func 41) #[] #[.pointer (some ⟨q + 1 + 1, 0, none⟩), .pointer (some ⟨q + 1 + 1 + 1 + 1, 0, none⟩)]), born := 0 }] 1)) = .ok () (w1.alloc (.map #[{ key := .string ⟨#[84]⟩, val := (.func (.func 41) #[] #[.pointer (some ⟨q + 1 + 1, 0, none⟩), .pointer (some ⟨q + 1 + 1 + 1 + 1, 0, none⟩)]), born := 0 }, { key := .string ⟨#[85]⟩, val := (.func (.func 42) #[] #[.pointer (some ⟨q + 1 + 1, 0, none⟩), .pointer (some ⟨q + 1 + 1 + 1 + 1, 0, none⟩)]), born := 1 }] 2)) := by
      rw [run_update_new_str (es := #[{ key := .string ⟨#[84]⟩, val := (.func (.func 41) #[] #[.pointer (some ⟨q + 1 + 1, 0, none⟩), .pointer (some ⟨q + 1 + 1 + 1 + 1, 0, none⟩)]), born := 0 }]) (clock := 1) Tryd.underlying69 Tryd.underlying9 (by rw [← hm]; exact blk_new _ _) ⟨#[85]⟩ (.func (.func 42) #[] #[.pointer (some ⟨q + 1 + 1, 0, none⟩), .pointer (some ⟨q + 1 + 1 + 1 + 1, 0, none⟩)]) (fun e he => by obtain rfl := List.mem_singleton.1 he; exact ⟨_, rfl⟩) (by rfl), ← hm, setBlock_alloc]; rfl
    go_wp2
    have hI : MInv w (w1.alloc (.map (fits q) 2)) q m A1 A2 A l1.length l2.length c1 c2 c ws a0_2 a0_3 ⟨#[]⟩ ⟨#[]⟩ :=
      ⟨blk_alloc B1.out _, blk_alloc B2.out _, blk_alloc B3.out _, blk_alloc B4.out _, by rw [← hm]; exact blk_new _ _, Kd.R_alloc hR4.out _, below_alloc hBB.out _, hq, by omega⟩
    have HI := Aside0.mk hI
    clear hI kmk kT kU B1 B2 B3 B4 hBB hR' hC' c2'
    go_loopw [35] (fun s wr => ∃ (i : Nat) (t u : ByteArray), s = .int .i64 i ∧ i ≤ l2.length ∧ Aside0 (fitL l1 l2 (ws.drop i) i t u = fitL l1 l2 ws 0 ⟨#[]⟩ ⟨#[]⟩) ∧ Aside0 (MInv w wr q m A1 A2 A l1.length l2.length c1 c2 c ws a0_2 a0_3 t u)) (fun s _ => l2.length - (intOf s).toNat)
    case atStart => exact ⟨0, ⟨#[]⟩, ⟨#[]⟩, rfl, by omega, ⟨rfl⟩, HI⟩
    case round =>
      clear HI
      obtain ⟨i, t, u, rfl, hi, HF, HM⟩ := hrel
      by_cases hlt : i < l2.length
      case neg =>
        obtain rfl : i = l2.length := by omega
        have hF : (a0_2, t, u, (0 : Int), a0_3, true) = (r1, r2, r3, r4, r5, r6) := by
          have h1 := HF.out
          have h2 := HH2.out
          rw [← h1, ← hlen, List.drop_length] at h2
          exact h2
        simp only [Prod.mk.injEq] at hF
        obtain ⟨rfl, rfl, rfl, rfl, rfl, rfl⟩ := hF
        have k := HM.out.b3
        have v0 : wr.cell? ⟨q + 1 + 1 + 1, 0, none⟩ = some (.int .i64 0) := blk_cell k 0
        have v1 : wr.cell? ⟨q + 1 + 1 + 1, 1, none⟩ = some (.string ⟨#[]⟩) := blk_cell k 1
        have v2 : wr.cell? ⟨q + 1 + 1 + 1, 2, none⟩ = some (.string ⟨#[]⟩) := blk_cell k 2
        have v3 : wr.cell? ⟨q + 1 + 1 + 1, 3, none⟩ = some (.int .i64 0) := blk_cell k 3
        have v4 : wr.cell? ⟨q + 1 + 1 + 1, 4, none⟩ = some (.bool false) := blk_cell k 4
        have f0 := blk_frozen k 0
        have f1 := blk_frozen k 1
        have f2 := blk_frozen k 2
        have f3 := blk_frozen k 3
        have f4 := blk_frozen k 4
        have k' := HM.out.b4
        have x0 : wr.cell? ⟨q + 1 + 1 + 1 + 1, 0, none⟩ = some (.int .i64 a0_2) := blk_cell k' 0
        have x1 : wr.cell? ⟨q + 1 + 1 + 1 + 1, 1, none⟩ = some (.string t) := blk_cell k' 1
        have x2 : wr.cell? ⟨q + 1 + 1 + 1 + 1, 2, none⟩ = some (.string u) := blk_cell k' 2
        have x3 : wr.cell? ⟨q + 1 + 1 + 1 + 1, 3, none⟩ = some (.int .i64 0) := blk_cell k' 3
        have x4 : wr.cell? ⟨q + 1 + 1 + 1 + 1, 4, none⟩ = some (.bool a0_3) := blk_cell k' 4
        clear k k'
        go_wp2
        refine bodyPost_ret (results_ct (p := 6) (u := 7) (ty := 36) Tryd.results26 _ _ _ _ _ _ _ rfl (stored5 HM.out.b3 _ _ _ _ _) Tryd.underlying36 rfl (by kernel_rfl)) rfl ?_
        exact ⟨rfl, below5 HM.out.hB (by have := HM.out.hq; omega) _ _ _ _ _⟩
      case pos =>
        have HLT := Aside0.mk hlt
        have hltI : (i : Int) < (l2.length : Int) := by omega
        obtain ⟨x, hx⟩ : ∃ x, ws.getD i ByteArray.empty = x := ⟨_, rfl⟩
        have HX := Aside0.mk hx
        obtain ⟨ad, hA, hcell⟩ := (Kd.reads_of_C (d := ByteArray.empty) (Kd.R_reads' HM.out.hR).2.2).at_ (i : Int) (by omega) (by omega)
        subst hA
        have hc1' : wr.cell? (ad.add i) = some (.string x) := by rw [← hx]; exact hcell
        clear hcell hx
        have M2 := HM.out.alloc (.cells #[.string x] 9)
        have hwb := blk_new wr (.cells #[.string x] 9)
        have Hc1 := Aside0.mk hc1'
        have kl := run_lookup_str (P := Tryd.prog) (w := wr.alloc (.cells #[.string x] 9)) (t := 69) Tryd.underlying69 Tryd.underlying9 M2.bm x (fun e he => by
          simp only [fits, List.mem_cons, List.not_mem_nil, or_false] at he
          rcases he with rfl | rfl <;> exact ⟨_, rfl⟩) (z := .nilFunc) (by kernel_rfl)
        obtain ⟨p, hp⟩ : ∃ p, l2.getD i ByteArray.empty = p := ⟨_, rfl⟩
        have HP := Aside0.mk hp
        obtain ⟨ad2, hA2, hp2⟩ := (Kd.reads_of_C (d := ByteArray.empty) (Kd.C_below HR2.out M2.hB)).at_ (i : Int) (by omega) (by omega)
        subst hA2
        have pc : (wr.alloc (.cells #[.string x] 9)).cell? (ad2.add i) = some (.string p) := by rw [← hp]; exact hp2
        have bx : (wr.alloc (.cells #[.string x] 9)).cell? ⟨q + 1 + 1, 0, none⟩ = some (.slice (some ad2) l2.length c2) := blk_cell M2.b2 0
        have x1 : (wr.alloc (.cells #[.string x] 9)).cell? ⟨q + 1 + 1 + 1 + 1, 1, none⟩ = some (.string t) := blk_cell M2.b4 1
        have x2 : (wr.alloc (.cells #[.string x] 9)).cell? ⟨q + 1 + 1 + 1 + 1, 2, none⟩ = some (.string u) := blk_cell M2.b4 2
        have f1 : (wr.alloc (.cells #[.string x] 9)).frozen? ⟨q + 1 + 1 + 1 + 1, 1, none⟩ = false := blk_frozen M2.b4 1
        have f2 : (wr.alloc (.cells #[.string x] 9)).frozen? ⟨q + 1 + 1 + 1 + 1, 2, none⟩ = false := blk_frozen M2.b4 2
        have HM2 := Aside0.mk M2
        have hlt2 : (ad2.add i).block < w.heap.size := by
          obtain ⟨ad3, hA3, hp3⟩ := (Kd.reads_of_C (d := ByteArray.empty) HR2.out).at_ (i : Int) (by omega) (by omega)
          injection hA3 with hA3
          subst hA3
          exact World.block_lt_of_cell? _ _ hp3
        have hne2 : (ad2.add i).block ≠ q + 1 + 1 + 1 + 1 := by have := M2.hq; omega
        have pc1 : ((wr.alloc (.cells #[.string x] 9)).setCell ⟨q + 1 + 1 + 1 + 1, 1, none⟩ (.string p)).cell? (ad2.add i) = some (.string p) := (World.cell?_of_block (Below.heap_setCell _ _ _ _ hne2)).trans pc
        have pc2 : ((wr.alloc (.cells #[.string x] 9)).setCell ⟨q + 1 + 1 + 1 + 1, 2, none⟩ (.string p)).cell? (ad2.add i) = some (.string p) := (World.cell?_of_block (Below.heap_setCell _ _ _ _ hne2)).trans pc
        clear M2 hp hp2 hlt2 hne2
        by_cases hT : x = ⟨#[84]⟩
        · subst hT
          have kl' : (Instr.lookup 69 (.map (some m)) (.string ⟨#[84]⟩) true).run Tryd.prog (wr.alloc (.cells #[.string ⟨#[84]⟩] 9)) = .ok (.tuple #[.func (.func 41) #[] #[.pointer (some ⟨q + 1 + 1, 0, none⟩), .pointer (some ⟨q + 1 + 1 + 1 + 1, 0, none⟩)], .bool true]) (wr.alloc (.cells #[.string ⟨#[84]⟩] 9)) := kl
          clear kl pc2 x2 f2
          have M3 := HM2.out.token p
          have HM3 := Aside0.mk M3
          by_cases hpe : p.toList = []
          · have hpe1 : (p.toList == []) = true := by rw [hpe]; rfl
            have hF : (0, ⟨#[]⟩, ⟨#[]⟩, (0 : Int), false, false) = (r1, r2, r3, r4, r5, r6) := by
              have h1 := HF.out
              have h2 := HH2.out
              rw [← h1, drop_at (by omega) HX.out] at h2
              rw [fitL_T, HP.out, if_pos hpe] at h2
              exact h2
            simp only [Prod.mk.injEq] at hF
            obtain ⟨rfl, rfl, rfl, rfl, rfl, rfl⟩ := hF
            obtain ⟨v0, v1, v2, v3, v4, g0, g1, g2, g3, g4⟩ := M3.zeros
            clear M3
            go_wp2_with (first | (go_at_call 41; go_in))
            refine bodyPost_ret (results_ct (p := 6) (u := 7) (ty := 36) Tryd.results26 _ _ _ _ _ _ _ rfl (stored5 HM3.out.b3 _ _ _ _ _) Tryd.underlying36 rfl (by kernel_rfl)) rfl ?_
            exact ⟨rfl, below5 HM3.out.hB (by have := HM3.out.hq; omega) _ _ _ _ _⟩
          · have hpe1 : (p.toList == []) = false := by simpa using hpe
            clear M3
            go_wp2_with (first | (go_at_call 41; go_in))
            go_roundw
            case rel => exact ⟨i + 1, p, u, by go_num, HLT.out, ⟨by rw [← HF.out, drop_at (by have := HLT.out; omega) HX.out, fitL_T, HP.out, if_neg hpe]⟩, HM3⟩
            case measure => have := HLT.out; simp [intOf]; omega
        by_cases hU : x = ⟨#[85]⟩
        · subst hU
          have kl' : (Instr.lookup 69 (.map (some m)) (.string ⟨#[85]⟩) true).run Tryd.prog (wr.alloc (.cells #[.string ⟨#[85]⟩] 9)) = .ok (.tuple #[.func (.func 42) #[] #[.pointer (some ⟨q + 1 + 1, 0, none⟩), .pointer (some ⟨q + 1 + 1 + 1 + 1, 0, none⟩)], .bool true]) (wr.alloc (.cells #[.string ⟨#[85]⟩] 9)) := kl
          clear kl pc1 x1 f1
          have M3 := HM2.out.user p
          have HM3 := Aside0.mk M3
          by_cases hpe : p.toList = []
          · have hpe1 : (p.toList == []) = true := by rw [hpe]; rfl
            have hF : (0, ⟨#[]⟩, ⟨#[]⟩, (0 : Int), false, false) = (r1, r2, r3, r4, r5, r6) := by
              have h1 := HF.out
              have h2 := HH2.out
              rw [← h1, drop_at (by omega) HX.out] at h2
              rw [fitL_U, HP.out, if_pos hpe] at h2
              exact h2
            simp only [Prod.mk.injEq] at hF
            obtain ⟨rfl, rfl, rfl, rfl, rfl, rfl⟩ := hF
            obtain ⟨v0, v1, v2, v3, v4, g0, g1, g2, g3, g4⟩ := M3.zeros
            clear M3
            go_wp2_with (first | (go_at_call 42; go_in))
            refine bodyPost_ret (results_ct (p := 6) (u := 7) (ty := 36) Tryd.results26 _ _ _ _ _ _ _ rfl (stored5 HM3.out.b3 _ _ _ _ _) Tryd.underlying36 rfl (by kernel_rfl)) rfl ?_
            exact ⟨rfl, below5 HM3.out.hB (by have := HM3.out.hq; omega) _ _ _ _ _⟩
          · have hpe1 : (p.toList == []) = false := by simpa using hpe
            clear M3
            go_wp2_with (first | (go_at_call 42; go_in))
            go_roundw
            case rel => exact ⟨i + 1, t, p, by go_num, HLT.out, ⟨by rw [← HF.out, drop_at (by have := HLT.out; omega) HX.out, fitL_U, HP.out, if_neg hpe]⟩, HM3⟩
            case measure => have := HLT.out; simp [intOf]; omega
        have kl' : (Instr.lookup 69 (.map (some m)) (.string x) true).run Tryd.prog (wr.alloc (.cells #[.string x] 9)) = .ok (.tuple #[.nilFunc, .bool false]) (wr.alloc (.cells #[.string x] 9)) := by
          rw [kl]
          have e1 : (x == ⟨#[84]⟩) = false := ba_ne hT
          have e2 : (x == ⟨#[85]⟩) = false := ba_ne hU
          have e : findS x (fits q).toList = none := by simp [findS, fits, e1, e2]
          rw [e]; rfl
        have HT := Aside0.mk hT
        have HU := Aside0.mk hU
        obtain ⟨g, hg⟩ : ∃ g, l1.getD i ByteArray.empty = g := ⟨_, rfl⟩
        have HG := Aside0.mk hg
        obtain ⟨ad1, hA1, hg2⟩ := (Kd.reads_of_C (d := ByteArray.empty) (Kd.C_below HR1.out HM2.out.hB)).at_ (i : Int) (by omega) (by omega)
        subst hA1
        have gc : (wr.alloc (.cells #[.string x] 9)).cell? (ad1.add i) = some (.string g) := by rw [← hg]; exact hg2
        have gx : (wr.alloc (.cells #[.string x] 9)).cell? ⟨q + 1, 0, none⟩ = some (.slice (some ad1) l1.length c1) := blk_cell HM2.out.b1 0
        have wx : (wr.alloc (.cells #[.string x] 9)).cell? ⟨wr.heap.size, 0, none⟩ = some (.string x) := blk_cell hwb 0
        have hltG : (i : Int) < (l1.length : Int) := by omega
        clear kl hT hU hg hg2 hwb pc1 pc2 x1 x2 f1 f2 bx pc
        have K3 := Aside0.mk (match3_any _ i _ _ _ _ _ g x hltG gx gc wx)
        clear gx gc wx
        by_cases hpe : g.toList = x.toList
        · have hpe1 : (g.toList == x.toList) = true := by rw [hpe]; simp
          rw [hpe1] at K3
          have HPE := Aside0.mk hpe
          clear hpe hpe1
          go_wp2_with (first | (go_at_call 43; refine K3.out.mono ?_; rintro e w' ⟨rfl, ⟨nd, rfl⟩⟩))
          have HM3 := Aside0.mk (HM2.out.drewN nd)
          go_roundw
          case rel => exact ⟨i + 1, t, u, by go_num, HLT.out, ⟨by rw [← HF.out, drop_at (by have := HLT.out; omega) HX.out, fitL_N _ _ _ _ _ _ _ HT.out HU.out, HG.out, if_pos HPE.out]⟩, HM3⟩
          case measure => have := HLT.out; simp [intOf]; omega
        · have hpe1 : (g.toList == x.toList) = false := by simpa using hpe
          rw [hpe1] at K3
          have hF : (0, ⟨#[]⟩, ⟨#[]⟩, (0 : Int), false, false) = (r1, r2, r3, r4, r5, r6) := by
            have h1 := HF.out
            have h2 := HH2.out
            rw [← h1, drop_at (by omega) HX.out, fitL_N _ _ _ _ _ _ _ HT.out HU.out, HG.out, if_neg hpe] at h2
            exact h2
          simp only [Prod.mk.injEq] at hF
          obtain ⟨rfl, rfl, rfl, rfl, rfl, rfl⟩ := hF
          clear hpe hpe1
          go_wp2_with (first | (go_at_call 43; refine K3.out.mono ?_; rintro e w' ⟨rfl, ⟨nd, rfl⟩⟩; have HM3 := Aside0.mk (HM2.out.drewN nd); obtain ⟨v0, v1, v2, v3, v4, g0, g1, g2, g3, g4⟩ := HM3.out.zeros))
          refine bodyPost_ret (results_ct (p := 6) (u := 7) (ty := 36) Tryd.results26 _ _ _ _ _ _ _ rfl (stored5 HM3.out.b3 _ _ _ _ _) Tryd.underlying36 rfl (by kernel_rfl)) rfl ?_
          exact ⟨rfl, below5 HM3.out.hB (by have := HM3.out.hq; omega) _ _ _ _ _⟩

/-! ### stringslite_TrimPrefix: function 59 -/
def stringslite_TrimPrefix.f (a0 : ByteArray) (a1 : ByteArray) : Option (ByteArray) := (stringslite_HasPrefix.f a0 a1).bind fun t143 => (if t143 = true then (if 0 ≤ (a1.size : Int) then (if (a1.size : Int) ≤ (a0.size : Int) then (some (a0.extract ((a1.size : Int) : Int).toNat a0.size)) else (none)) else (none)) else (some a0))
set_option maxHeartbeats 8000000 in
set_option maxRecDepth 100000 in
theorem stringslite_TrimPrefix.calls (a0 : ByteArray) (a1 : ByteArray) (r : ByteArray) (w : World) (h : stringslite_TrimPrefix.f a0 a1 = some r) :
    Calls Tryd.prog 59 #[.string a0, .string a1] w fun e w' => e = .returned (.string r) ∧ Drawn0 w w' := by
  have H : ((stringslite_HasPrefix.f a0 a1).bind fun t143 => (if t143 = true then (if 0 ≤ (a1.size : Int) then (if (a1.size : Int) ≤ (a0.size : Int) then (some (a0.extract ((a1.size : Int) : Int).toNat a0.size)) else (none)) else (none)) else (some a0))) = some r := h
  clear h
  replace H := Option.bind_eq_some_iff.mp H
  obtain ⟨t143, A30, H⟩ := H
  replace H : (if t143 = true then (if 0 ≤ (a1.size : Int) then (if (a1.size : Int) ≤ (a0.size : Int) then (some (a0.extract ((a1.size : Int) : Int).toNat a0.size)) else (none)) else (none)) else (some a0)) = some r := H
  have A3 := Aside0.mk A30
  clear A30
  by_cases c4 : t143 = true
  · subst c4
    have H1 : (if 0 ≤ (a1.size : Int) then (if (a1.size : Int) ≤ (a0.size : Int) then (some (a0.extract ((a1.size : Int) : Int).toNat a0.size)) else (none)) else (none)) = some r := by rw [if_pos rfl] at H; exact H
    clear H
    have H := H1
    clear H1
    by_cases c5 : 0 ≤ (a1.size : Int)
    · rw [if_pos c5] at H
      have c5b0 := eq_true c5
      have c5b1 : decide (0 ≤ (a1.size : Int)) = true := decide_eq_true c5
      clear c5
      by_cases c6 : (a1.size : Int) ≤ (a0.size : Int)
      · rw [if_pos c6] at H
        have c6b0 := eq_true c6
        have c6b1 : decide ((a1.size : Int) ≤ (a0.size : Int)) = true := decide_eq_true c6
        clear c6
        obtain rfl := Option.some.inj H
        go_enter Tryd.func59, Tryd.ntmps59
        go_wp2_with (first | ((with_reducible refine gate_callee (f := 55) rfl ?_); refine goesL_ (some 7) rfl rfl Tryd.func55 (by kernel_rfl) rfl #[.string a0, .string a1] rfl (by (try simp only [List.map_toArray, List.map_cons, List.map_nil]); first | done | rfl | (simp only [List.length_drop, List.length_take]; rfl)) ?_; (with_reducible refine (stringslite_HasPrefix.calls a0 a1 true _ A3.out).mono ?_); rintro e w' ⟨rfl, ⟨nd, rfl⟩⟩; refine ⟨_, rfl, ?_⟩))
        go_ret
        exact ⟨by first | rfl | (simp; done) | (simp [*]; done), by repeat (first | exact Drawn0.refl _ | apply Drawn0.step)⟩
      · rw [if_neg c6] at H
        exact absurd H (by simp)
    · rw [if_neg c5] at H
      exact absurd H (by simp)
  · replace c4 := Bool.eq_false_iff.mpr c4
    subst c4
    have H1 : (some a0) = some r := by rw [if_neg (show ¬ (false = true) by decide)] at H; exact H
    clear H
    have H := H1
    clear H1
    obtain rfl := Option.some.inj H
    go_enter Tryd.func59, Tryd.ntmps59
    go_wp2_with (first | ((with_reducible refine gate_callee (f := 55) rfl ?_); refine goesL_ (some 7) rfl rfl Tryd.func55 (by kernel_rfl) rfl #[.string a0, .string a1] rfl (by (try simp only [List.map_toArray, List.map_cons, List.map_nil]); first | done | rfl | (simp only [List.length_drop, List.length_take]; rfl)) ?_; (with_reducible refine (stringslite_HasPrefix.calls a0 a1 false _ A3.out).mono ?_); rintro e w' ⟨rfl, ⟨nd, rfl⟩⟩; refine ⟨_, rfl, ?_⟩))
    go_ret
    exact ⟨by first | rfl | (simp; done) | (simp [*]; done), by repeat (first | exact Drawn0.refl _ | apply Drawn0.step)⟩

/-! ### strings_TrimPrefix: function 44 -/
def strings_TrimPrefix.f (a0 : ByteArray) (a1 : ByteArray) : Option (ByteArray) := (stringslite_TrimPrefix.f a0 a1).bind fun t144 => (some t144)
set_option maxHeartbeats 8000000 in
set_option maxRecDepth 100000 in
theorem strings_TrimPrefix.calls (a0 : ByteArray) (a1 : ByteArray) (r : ByteArray) (w : World) (h : strings_TrimPrefix.f a0 a1 = some r) :
    Calls Tryd.prog 44 #[.string a0, .string a1] w fun e w' => e = .returned (.string r) ∧ Drawn0 w w' := by
  have H : ((stringslite_TrimPrefix.f a0 a1).bind fun t144 => (some t144)) = some r := h
  clear h
  replace H := Option.bind_eq_some_iff.mp H
  obtain ⟨t144, A30, H⟩ := H
  replace H : (some t144) = some r := H
  have A3 := Aside0.mk A30
  clear A30
  obtain rfl := Option.some.inj H
  go_enter Tryd.func44, Tryd.ntmps44
  go_wp2_with (first | ((with_reducible refine gate_callee (f := 59) rfl ?_); refine goesL_ (some 7) rfl rfl Tryd.func59 (by kernel_rfl) rfl #[.string a0, .string a1] rfl (by (try simp only [List.map_toArray, List.map_cons, List.map_nil]); first | done | rfl | (simp only [List.length_drop, List.length_take]; rfl)) ?_; (with_reducible refine (stringslite_TrimPrefix.calls a0 a1 t144 _ A3.out).mono ?_); rintro e w' ⟨rfl, ⟨nd, rfl⟩⟩; refine ⟨_, rfl, ?_⟩))
  go_ret
  exact ⟨by first | rfl | (simp; done) | (simp [*]; done), by repeat (first | exact Drawn0.refl _ | apply Drawn0.step)⟩

/-! ### route_raw: function 27 -/
def route_raw.f (a0 : ByteArray) : Option (List ByteArray) := (strings_Cut.f a0 (⟨#[63]⟩ : ByteArray)).bind fun bt145 => ((strings_TrimPrefix.f bt145.1 (⟨#[47]⟩ : ByteArray)).bind fun t148 => ((strings_Split.f t148 (⟨#[47]⟩ : ByteArray)).bind fun t149 => (some t149)))
set_option maxHeartbeats 8000000 in
set_option maxRecDepth 100000 in
theorem route_raw.calls (a0 : ByteArray) (r : List ByteArray) (w : World) (h : route_raw.f a0 = some r) :
    Calls Tryd.prog 27 #[.string a0] w fun e w' => ∃ v0_ : Value, e = .returned (v0_) ∧ Kd.R Kd.string 9 w' w.heap.size (fun _ => True) v0_ r ∧ Below w.heap.size w w' := by
  have HB := Aside0.mk (Below.refl w.heap.size w)
  have H : ((strings_Cut.f a0 (⟨#[63]⟩ : ByteArray)).bind fun bt145 => ((strings_TrimPrefix.f bt145.1 (⟨#[47]⟩ : ByteArray)).bind fun t148 => ((strings_Split.f t148 (⟨#[47]⟩ : ByteArray)).bind fun t149 => (some t149)))) = some r := h
  clear h
  replace H := Option.bind_eq_some_iff.mp H
  obtain ⟨⟨t145, t146, t147⟩, A20, H⟩ := H
  replace H : ((strings_TrimPrefix.f t145 (⟨#[47]⟩ : ByteArray)).bind fun t148 => ((strings_Split.f t148 (⟨#[47]⟩ : ByteArray)).bind fun t149 => (some t149))) = some r := H
  have A2 := Aside0.mk A20
  clear A20
  replace H := Option.bind_eq_some_iff.mp H
  obtain ⟨t148, A30, H⟩ := H
  replace H : ((strings_Split.f t148 (⟨#[47]⟩ : ByteArray)).bind fun t149 => (some t149)) = some r := H
  have A3 := Aside0.mk A30
  clear A30
  replace H := Option.bind_eq_some_iff.mp H
  obtain ⟨t149, A40, H⟩ := H
  replace H : (some t149) = some r := H
  have A4 := Aside0.mk A40
  clear A40
  obtain rfl := Option.some.inj H
  go_enter Tryd.func27, Tryd.ntmps27
  go_wp2_with (first | ((with_reducible refine gate_callee (f := 17) rfl ?_); refine goesL_ (some 8) rfl rfl Tryd.func17 (by kernel_rfl) rfl #[.string a0, .string (⟨#[63]⟩ : ByteArray)] rfl (by (try simp only [List.map_toArray, List.map_cons, List.map_nil]); first | done | rfl | (simp only [List.length_drop, List.length_take]; rfl)) ?_; (with_reducible refine (strings_Cut.calls a0 (⟨#[63]⟩ : ByteArray) t145 t146 t147 _ A2.out).mono ?_); rintro e w' ⟨rfl, ⟨nd, rfl⟩⟩; refine ⟨_, rfl, ?_⟩) | ((with_reducible refine gate_callee (f := 44) rfl ?_); refine goesL_ (some 13) rfl rfl Tryd.func44 (by kernel_rfl) rfl #[.string t145, .string (⟨#[47]⟩ : ByteArray)] rfl (by (try simp only [List.map_toArray, List.map_cons, List.map_nil]); first | done | rfl | (simp only [List.length_drop, List.length_take]; rfl)) ?_; (with_reducible refine (strings_TrimPrefix.calls t145 (⟨#[47]⟩ : ByteArray) t148 _ A3.out).mono ?_); rintro e w' ⟨rfl, ⟨nd, rfl⟩⟩; refine ⟨_, rfl, ?_⟩) | ((with_reducible refine gate_callee (f := 19) rfl ?_); refine goesL_ (some 14) rfl rfl Tryd.func19 (by kernel_rfl) rfl #[.string t148, .string (⟨#[47]⟩ : ByteArray)] rfl (by (try simp only [List.map_toArray, List.map_cons, List.map_nil]); first | done | rfl | (simp only [List.length_drop, List.length_take]; rfl)) ?_; (with_reducible refine (strings_Split.calls t148 (⟨#[47]⟩ : ByteArray) t149 _ A4.out).mono ?_); rintro e w5 ⟨v150, rfl, ho0, hb⟩; refine ⟨_, rfl, ?_⟩; have n0_ := Aside0.mk (Kd.R_lower ho0 (below_size (by repeat (first | (with_reducible first | exact HB.out | apply below_alloc | apply pw_below_drewN | apply below_drew1) | exact HB.out)))); have n1_ := Aside0.mk (below_step (by repeat (first | (with_reducible first | exact HB.out | apply below_alloc | apply pw_below_drewN | apply below_drew1) | exact HB.out)) hb); clear HB; have HO151 := n0_; have HB := n1_; clear n0_ n1_; (try clear hb); (try clear hb2); (try clear hk); (try clear hi); (try clear ho0)))
  go_ret
  exact ⟨_, by first | rfl | (simp [errW_none, errW_some] <;> rfl) | (simp [*, errW_none, errW_some] <;> rfl), by (with_reducible repeat (first | apply Kd.R_alloc | apply Kd.R_drewN | apply Kd.R_drew)); exact HO151.out, by repeat (first | (with_reducible first | exact HB.out | apply below_alloc | apply pw_below_drewN | apply below_drew1) | exact HB.out)⟩

/-! ### slices_Sort_string_string: function 28: a contract of my own -/
def slices_Sort_string_string.f (l0 : List ByteArray) : Option (List ByteArray) := if l0.length < 4611686018427387904 then some (((l0.map fun x => x.data.toList).mergeSort fun x y => decide (x ≤ y)).map fun x => ⟨x.toArray⟩) else none
theorem slices_Sort_string_string.calls (P0_ : Nat → Prop) (u9000_ : Value) (l0 : List ByteArray) (r : List ByteArray) (w0 w : World) (hB : Below w0.heap.size w0 w) (ho0 : Kd.R Kd.string 9 w w0.heap.size P0_ u9000_ l0) (h : slices_Sort_string_string.f l0 = some r) :
    Calls Tryd.prog 28 #[u9000_] w fun e w' => e = .returned (.tuple #[]) ∧ Kd.R Kd.string 9 w' w0.heap.size (fun k_ => (P0_ k_ ∨ w.heap.size ≤ k_)) u9000_ r ∧ Below w0.heap.size w0 w' ∧ Kept w w' (fun k_ => P0_ k_) := by
  unfold slices_Sort_string_string.f at h
  split at h
  case isFalse => cases h
  rename_i hlen
  have hr := Option.some.inj h
  clear h
  have hown : w.ownsRow w0.heap.size 9 1 u9000_ l0.length (encs Value.string l0) := Kd.own_of_R ho0
  obtain ⟨ss, hss⟩ : ∃ ss, (l0.map fun x => x.data.toList) = ss := ⟨_, rfl⟩
  have hsl : ss.length = l0.length := by rw [← hss]; simp
  have hse : encs Value.string l0 = ss.map Go.Proofs.encStr := by
    rw [← hss]
    simp only [encs, List.map_map]
    apply List.map_congr_left
    intro x _
    rfl
  rw [hss] at hr
  rw [hse, ← hsl] at hown
  rcases hown.2 with ⟨rfl, h0⟩ | ⟨g, cap, cur, rfl, hbase, hb, h1, h2, h3, h4⟩
  · have hs0 : ss = [] := List.eq_nil_of_length_eq_zero h0
    subst hs0
    simp at hr
    subst hr
    refine (Tryd.slices_Sort_string_none none 0 w).mono ?_
    rintro e w' ⟨rfl, rfl⟩
    exact ⟨rfl, Kd.R_nil _ _ _ _ _, hB, Kept.refl _ _⟩
  · have hg : g < w.heap.size := (Array.getElem?_eq_some_iff.1 hb).1
    refine (Tryd.slices_Sort_string g 0 cap ss w (holds_of_block hb (by simpa using h4)) hg (by omega)).mono ?_
    rintro e w' ⟨rfl, n, os, rfl⟩
    have hl : (ss.mergeSort fun x y => decide (x ≤ y)).length = ss.length := by simp
    have ho := ownsRow_sorted (n := n) (os := os) hl hbase hb h1 h2 h3
    have hgr := grownBy_sorted (w := w) (g := g) (n := n) (os := os) (ss.mergeSort fun x y => decide (x ≤ y)).toArray
    have hrl : r.length = ss.length := by rw [← hr, List.length_map, hl]
    have hre : encs Value.string r = (ss.mergeSort fun x y => decide (x ≤ y)).map Go.Proofs.encStr := by
      rw [← hr]
      simp only [encs, List.map_map]
      apply List.map_congr_left
      intro x _
      rfl
    rw [← hre] at ho
    have hp : P0_ g := ho0.1 g (by simp [Value.ownBlock])
    refine ⟨rfl, Kd.R_of_own (by rw [hrl]; exact ho) (fun k hk => ?_), hB.grown hgr hB.size (fun k hk => by cases hk; exact hbase), Kept.of_grown hgr (Kept.refl _ _) (fun k hk => by cases hk; exact .inl hp)⟩
    have : g = k := by simpa [Value.ownBlock] using hk
    subst this
    exact .inl hp

end Go.Proofs.YtdbbgdgjmlcgcaaDoor.PRouteB
