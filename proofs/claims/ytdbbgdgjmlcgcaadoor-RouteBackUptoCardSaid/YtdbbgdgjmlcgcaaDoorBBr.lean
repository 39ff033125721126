/- The law RouteBack holds of the given program for every route whose token and user together hold at most 1048576 letters (the statement's bulk): the call answers true and leaves its argument as it was. Conditions: that bound; the listed package variables hold what the program's text lays; the card ties them to that text. -/
import Derived.Test.YtdbbgdgjmlcgcaaDoorBBf
import Derived.Test.YtdbbgdgjmlcgcaaDoorCards
import Derived.Test.YtdbbgdgjmlcgcaaDoorTie
import Derived.ProofKit
import Derived.OpenShut
import Derived.Deep.DeepHandedRow
import Derived.Deep.DeepWitnessRowRef
import Derived.Lib.LaidTab
import Derived.Lay
import Derived.Stop.LaidErr
import Derived.Stop.ErrReads
import Derived.LaidSub
import Derived.Lib.SmallJoins
set_option linter.unusedVariables false
set_option linter.unusedSimpArgs false
namespace Go.Proofs.YtdbbgdgjmlcgcaaDoor
open Go.ChangeShapes Go.WideShapes Go.ChangeAt Go.RowKit Go.Joins Go.Deep
open Go.ChangeMaps (open_string shut_string)

theorem own : ownKnob Tryd.prog.godebug = none := by kernel_rfl
section
variable {H : Type} {enc : TypeId × Value → H} {P : Program}
/-- The law's post where the call has made new blocks alone: what came in reads as it did. -/
theorem post_new {f : Func} {s : ChangeSpec} {W W' : World} {args : Array Value} {v : Value} {ds gs : List (DataW H)} {before : List MemPlace}
    (hW : DataW.Whole enc P f.params.toList s.vars false W args.toList ds gs before) (hb : Below W.heap.size W W')
    (hres : ∀ (b : Nat) (sp : Nat → Bool) (hd : Bool), DataW.TrodAll enc P W' b sp hd f.resultTypes.toList (v.resultList f.resultTypes.size) (s.fn H (ds ++ gs)).results [])
    (hargs : ∀ sp : Nat → Bool, (∀ p ∈ before, sp p.block = true) → DataW.TrodAll enc P W' 0 sp true f.params.toList args.toList (s.fn H (ds ++ gs)).args before)
    (hvars : ∀ sp : Nat → Bool, (∀ p ∈ before, sp p.block = true) → DataW.TrodVars enc P W' sp s.vars (s.fn H (ds ++ gs)).vars [])
    (hok : ∀ (j : Nat) (t : TypeId) (r : Value), f.resultTypes[j]? = some t → (v.resultList f.resultTypes.size)[j]? = some r → Value.okWide P W' .any 0 t r) :
    s.post enc P f false true false false W args v W' := by
  have old : ∀ p ∈ before, (fun b => decide (b < W.heap.size)) p.block = true := fun p hp => by simpa using hW.lt p hp
  refine ⟨ds, gs, before, [], before, [], hW, hres _ _ _, hargs _ old, hvars _ old, World.keptBut_mono (fun p hp => ⟨hp, Or.inr (by simpa using hp)⟩) (hb.frame (· ∈ before)), fun h => by cases h⟩
end
section
variable {H : Type} {enc : TypeId × Value → H} {w : World} {base : Nat} {spare : Nat → Bool} {held : Bool}
set_option maxRecDepth 100000 in
/-- A route that came in. -/
theorem open_route {r : Reach} {b0 : Nat} {v : Value} {d : DataW H} {p : List MemPlace} (hv : Value.okWide Tryd.prog w r b0 36 v) (h : DataW.Trod enc Tryd.prog w base spare held 36 v d p) :
    ∃ (k : Int) (tok usr : ByteArray) (fr : Int) (me : Bool), v = .agg #[.int .i64 k, .string tok, .string usr, .int .i64 fr, .bool me] ∧ d = .agg [.lit (.int .i64 k), .lit (.string tok.data.toList), .lit (.string usr.data.toList), .lit (.int .i64 fr), .lit (.bool me)] ∧ p = [] ∧
      (Lit.int .i64 k).wf = true ∧ (Lit.int .i64 fr).wf = true ∧ tok.size ≤ maxLen ∧ usr.size ≤ maxLen := by
  obtain ⟨cs, rfl, hsz⟩ := okWide_struct Tryd.underlying36 hv
  obtain ⟨l⟩ := cs
  have k36 : Tryd.prog.cellsOf 36 = 5 := by kernel_rfl
  have hl5 := hsz.trans k36
  match l, hl5 with
  | [c0, c1, c2, c3, c4], _ =>
    obtain ⟨fuel, hf⟩ := h
    obtain ⟨xs, n, _, hx, _, hlen, hg⟩ := DataW.trod_struct Tryd.underlying36 hf
    have k3 : Tryd.prog.cellsOf 3 = 1 := by kernel_rfl
    have k9 : Tryd.prog.cellsOf 9 = 1 := by kernel_rfl
    have k4 : Tryd.prog.cellsOf 4 = 1 := by kernel_rfl
    match xs, hlen with
    | [y0, y1, y2, y3, y4], _ =>
      have g0 : DataW.trod enc Tryd.prog w base spare held n 3 [c0] = some y0 := by simpa [Value.cells, k3] using hg 0 _ rfl
      have g1 : DataW.trod enc Tryd.prog w base spare held n 9 [c1] = some y1 := by simpa [Value.cells, k9] using hg 1 _ rfl
      have g2 : DataW.trod enc Tryd.prog w base spare held n 9 [c2] = some y2 := by simpa [Value.cells, k9] using hg 2 _ rfl
      have g3 : DataW.trod enc Tryd.prog w base spare held n 3 [c3] = some y3 := by simpa [Value.cells, k3] using hg 3 _ rfl
      have g4 : DataW.trod enc Tryd.prog w base spare held n 4 [c4] = some y4 := by simpa [Value.cells, k4] using hg 4 _ rfl
      obtain ⟨k, e0, x0, h0⟩ := DataW.trod_int Tryd.underlying3 g0
      obtain ⟨tok, e1, x1, h1⟩ := DataW.trod_string Tryd.underlying9 g1
      obtain ⟨usr, e2, x2, h2⟩ := DataW.trod_string Tryd.underlying9 g2
      obtain ⟨fr, e3, x3, h3⟩ := DataW.trod_int Tryd.underlying3 g3
      obtain ⟨me, e4, x4⟩ := DataW.trod_bool Tryd.underlying4 g4
      simp only [List.cons.injEq, and_true] at e0 e1 e2 e3 e4
      subst e0 e1 e2 e3 e4 x0 x1 x2 x3 x4
      simp only [Prod.mk.injEq] at hx
      exact ⟨k, tok, usr, fr, me, rfl, by simpa using hx.1, by simpa using hx.2, h0, h3, h1, h2⟩
set_option maxRecDepth 100000 in
/-- A route that is handed on. -/
theorem shut_route {k : Int} {tok usr : ByteArray} {fr : Int} {me : Bool} (h0 : (Lit.int .i64 k).wf = true) (h3 : (Lit.int .i64 fr).wf = true) (h1 : tok.size ≤ maxLen) (h2 : usr.size ≤ maxLen) :
    DataW.Trod enc Tryd.prog w base spare held 36 (.agg #[.int .i64 k, .string tok, .string usr, .int .i64 fr, .bool me]) (.agg [.lit (.int .i64 k), .lit (.string tok.data.toList), .lit (.string usr.data.toList), .lit (.int .i64 fr), .lit (.bool me)]) [] := by
  obtain ⟨n0, t0⟩ := field_of_Trod (enc := enc) (w := w) (base := base) (spare := spare) (held := held) (shut_int Tryd.underlying3 h0) rfl
  obtain ⟨n1, t1⟩ := field_of_Trod (enc := enc) (w := w) (base := base) (spare := spare) (held := held) (shut_string Tryd.underlying9 h1) rfl
  obtain ⟨n2, t2⟩ := field_of_Trod (enc := enc) (w := w) (base := base) (spare := spare) (held := held) (shut_string Tryd.underlying9 h2) rfl
  obtain ⟨n3, t3⟩ := field_of_Trod (enc := enc) (w := w) (base := base) (spare := spare) (held := held) (shut_int Tryd.underlying3 h3) rfl
  obtain ⟨n4, t4⟩ := field_of_Trod (enc := enc) (w := w) (base := base) (spare := spare) (held := held) (shut_bool Tryd.underlying4 me) rfl
  have k3 : Tryd.prog.cellsOf 3 = 1 := by kernel_rfl
  have k9 : Tryd.prog.cellsOf 9 = 1 := by kernel_rfl
  have k4 : Tryd.prog.cellsOf 4 = 1 := by kernel_rfl
  have m0 := DataW.trod_le (show n0 ≤ n0 + n1 + n2 + n3 + n4 by omega) t0
  have m1 := DataW.trod_le (show n1 ≤ n0 + n1 + n2 + n3 + n4 by omega) t1
  have m2 := DataW.trod_le (show n2 ≤ n0 + n1 + n2 + n3 + n4 by omega) t2
  have m3 := DataW.trod_le (show n3 ≤ n0 + n1 + n2 + n3 + n4 by omega) t3
  have m4 := DataW.trod_le (show n4 ≤ n0 + n1 + n2 + n3 + n4 by omega) t4
  have := trod_struct_mk (enc := enc) (w := w) (base := base) (spare := spare) (held := held) (n := n0 + n1 + n2 + n3 + n4) (cs := [.int .i64 k, .string tok, .string usr, .int .i64 fr, .bool me]) (xs := [(.lit (.int .i64 k), []), (.lit (.string tok.data.toList), []), (.lit (.string usr.data.toList), []), (.lit (.int .i64 fr), []), (.lit (.bool me), [])]) Tryd.underlying36 (by kernel_rfl) (by simp [k3, k9, k4, m0, m1, m2, m3, m4])
  exact ⟨_, by simpa [Value.cells] using this⟩
end

theorem laidMetH.toMet {P : Program} {l : List (String × DataW Unit)} {w : World} (h : laidMetH P l w) (hn : (l.filter fun x => x.2.handleName?.isSome) = []) : laidMet P l w := by
  unfold laidMetH at h; rw [hn] at h; exact h
set_option maxRecDepth 100000 in
theorem contract (H : Type) (enc : TypeId × Value → H) (W : World) (base : Nat) (args : Array Value) (ds gs : List (DataW H)) (before : List MemPlace)
    (hval : ∀ (j : Nat) t v, Tryd.f6.params[j]? = some t → args[j]? = some v → Value.okWide Tryd.prog W .any base t v)
    (hW : DataW.Whole enc Tryd.prog Tryd.f6.params.toList Rows.routeBackSpec.vars false W args.toList ds gs before)
    (hk : Rows.uptoSmall H (ds ++ gs) = true)
    (hL : laidMetH Tryd.prog Rows.routeBackUptoRow.laid W) :
    Calls Tryd.prog 6 args W fun e W' => ∃ v, e = .returned v ∧ Rows.routeBackSpec.post enc Tryd.prog Tryd.f6 false true false false W args v W' := by
  have hW' := hW
  obtain ⟨p, q, hA0, hV, rfl, hfz, hnd⟩ := hW
  have hA : DataW.TrodAll enc Tryd.prog W 0 (fun _ => true) true Tryd.f6.params.toList args.toList ds p := hA0
  rw [Tryd.params6] at hA hval
  obtain ⟨v0, vs0, d0, ds0, p0, q0, hargs, rfl, rfl, h0, r0⟩ := trodAll_cons hA
  obtain ⟨rfl, rfl, rfl⟩ := trodAll_nil r0
  obtain rfl : args = #[v0] := by cases args; simp_all
  obtain ⟨rfl, rfl⟩ := trodVars_none hV
  obtain ⟨k, tok, usr, fr, me, rfl, rfl, rfl, hk0, hfr, hm1, hm2⟩ := open_route (hval 0 36 v0 rfl rfl) h0
  clear hA0
  have hb := of_decide_eq_true hk
  simp only [Rows.uptoBulkAll, Rows.uptoBulk, List.append_nil, List.cons_append, List.nil_append] at hb
  have e1 : tok.data.toList.length = tok.size := by rw [Array.length_toList]; rfl
  have e2 : usr.data.toList.length = usr.size := by rw [Array.length_toList]; rfl
  simp only [List.append_nil] at hW'
  have htab : PRouteB.TabB W := by
    have h2 := (laidMetH.toMet hL rfl).filter (fun x => x.1 == "internal/strconv.uint64pow10")
    exact Lib.tabIs_of_head (rest := []) (g := 1) (t := 114) (e := 91) (n := 20) (by kernel_rfl) (by kernel_rfl) Tryd.underlying114 Tryd.underlying91 (by kernel_rfl) (by kernel_rfl) h2
  refine (PRouteB.back_walk k tok usr fr me W (by omega) (by omega) hfr htab).mono fun e W' ⟨he, hb⟩ => ?_
  subst he
  exact ⟨_, rfl, post_new hW' hb (fun _ _ _ => trodAll_cons_mk (shut_bool Tryd.underlying4 _) trodAll_mk0) (fun _ _ => trodAll_cons_mk (shut_route hk0 hfr hm1 hm2) trodAll_mk0) (fun _ _ => rfl) (ok_one (by kernel_rfl) rfl (okWide_bool_mk Tryd.underlying4 _))⟩

theorem reads (os : Os) {H : Type} (enc : TypeId × Value → H) : ∃ places, DataW.whole enc Tryd.prog ((World.laidAll Tryd.prog os Rows.routeBackUptoRow.laid).forCall (fun _ _ => 0) ⟨#[], #[.agg #[.int .i64 0, .string .empty, .string .empty, .int .i64 0, .bool false]], []⟩).memory Tryd.f6.params.toList Rows.routeBackSpec.vars false #[Value.agg #[.int .i64 0, .string .empty, .string .empty, .int .i64 0, .bool false]].toList 8 = some ([.agg [.lit (.int .i64 0), .lit (.string []), .lit (.string []), .lit (.int .i64 0), .lit (.bool false)]], [], places) :=
  ⟨[], by kernel_rfl⟩

set_option maxRecDepth 100000 in
theorem lifted (os : Os) (started : os.Started) (H : Type) (enc : TypeId × Value → H) (F : Stop.Interp) :
    ReturnsInHanded {} Tryd.checked os 6 .any ((Rows.OpenSpec.upto Rows.routeBackSpec).preRow enc Tryd.prog Tryd.f6 Rows.routeBackUptoRow.domain false Rows.routeBackUptoRow.laid) (((Rows.OpenSpec.upto Rows.routeBackSpec).at F).post enc Tryd.prog Tryd.f6 false true false false) := by
  obtain ⟨places, hx⟩ := reads os enc
  refine returnsInHanded_of_row (C := Tryd.checked) (s := Rows.OpenSpec.upto Rows.routeBackSpec) own started (by kernel_rfl) Tryd.func6
    (witness_row_atRef (enc := enc) (C := Tryd.checked) false (World.laidAll Tryd.prog os Rows.routeBackUptoRow.laid) #[.agg #[.int .i64 0, .string .empty, .string .empty, .int .i64 0, .bool false]] (World.laidAll_os _ _ _) (by kernel_rfl) (by kernel_rfl) (by kernel_rfl)
      (OpenSpec.preRow_of_cond 8 hx (by kernel_rfl) (fun k hk => by cases hk; kernel_rfl) (by kernel_rfl) (laidMet_laidAll _ (by kernel_rfl) (by kernel_rfl)))) ?_
  intro W base args ds gs before hval hW _ hcond _ hL _ _
  exact contract H enc W base args ds gs before hval hW (hcond _ rfl) hL

theorem said : Rows.RouteBackUptoSaid :=
  OpenClaim.holds_of_cond 6 Tryd.f6 rfl rfl rfl rfl rfl rfl rfl ⟨rfl, rfl, rfl, rfl, rfl⟩ rfl rfl rfl rfl rfl (by kernel_rfl) Tryd.func6 (by kernel_rfl)
    (of_decide_eq_true (by kernel_rfl)) (by unfold Func.isWrapper; first | (rw [if_pos (by decide +kernel)]; kernel_rfl) | (rw [if_neg (by decide +kernel)]; exact ⟨rfl, rfl⟩))
    (fun os started H enc _ F => by rw [OpenClaim.pre_eq_preRow]; exact lifted os started H enc F)

/-- No parameter wants a stand-in; the program's own looks are as the card says. -/
theorem plain (f : FuncId) (fn : Func) (hf : Tryd.pinned.checked.prog.funcNamed "atrium/atriumlaw20.RouteBack" = some f) (hfn : Tryd.pinned.checked.prog.funcs[f]? = some fn) :
    false = Tryd.pinned.checked.prog.looks [] ∧ ∀ (j : Nat) t, fn.params[j]? = some t → Tryd.pinned.checked.prog.wantsStandIn t = false := by
  obtain rfl : f = 6 := Option.some.inj ((show Tryd.prog.funcNamed "atrium/atriumlaw20.RouteBack" = some 6 by kernel_rfl).symm.trans hf) |>.symm
  obtain rfl : fn = Tryd.f6 := (Option.some.inj (Tryd.func6.symm.trans hfn)).symm
  refine ⟨by kernel_rfl, fun j t ht => ?_⟩
  rw [Tryd.params6] at ht
  have h : t = 36 := by simpa using Array.mem_of_getElem? ht
  subst h
  exact (show Tryd.prog.wantsStandIn 36 = false by kernel_rfl)

/-- The card. -/
theorem routeBackUpto_card : Rows.RouteBackUptoCardSaid :=
  Claim7.holds_tied_plain_at .later [] _ _ _ _ said (fun _ h => by cases h) (by kernel_rfl) (fun _ h => by cases h) routeBackUpto_row_tie rfl ⟨rfl, rfl⟩ (by kernel_rfl) rfl plain (by kernel_rfl)
#print axioms routeBackUpto_card
end Go.Proofs.YtdbbgdgjmlcgcaaDoor
