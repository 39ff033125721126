/- The walk of Target, second part. -/
import Derived.Test.YtdbbgdgjmlcgcaaDoorBBa
import Derived.StillTailTactics
import Derived.Test.YtdbbgdgjmlcgcaaDoorWEqStruct
import Derived.Lib.AppendIntMem
set_option linter.unusedVariables false
set_option linter.unusedSimpArgs false
namespace Go.Proofs.YtdbbgdgjmlcgcaaDoor.PRouteB
open Go.RowKit Go.Proofs.YtdbbgdgjmlcgcaaDoorW.PrintWords Go.Proofs.YtdbbgdgjmlcgcaaDoorW.PrintLast Go.Proofs.YtdbbgdgjmlcgcaaDoorW.PrintMore
attribute [local go_sem] max2_int min2_int max_two min_two max_three min_three max_four min_four

/-- A word of a way, filled. -/
def tw (tok usr : ByteArray) (x : ByteArray) : ByteArray := if x.toList = [84] then mkB (escS tok.data.toList) else if x.toList = [85] then mkB (escS usr.data.toList) else x
def bld (tok usr : ByteArray) : List ByteArray → ByteArray → ByteArray
  | [], acc => acc
  | x :: r, acc => bld tok usr r (acc ++ (⟨#[47]⟩ ++ tw tok usr x))
theorem bld_snoc (tok usr x : ByteArray) : ∀ (l : List ByteArray) (acc : ByteArray), bld tok usr (l ++ [x]) acc = bld tok usr l acc ++ (⟨#[47]⟩ ++ tw tok usr x)
  | [], _ => rfl
  | y :: l, acc => bld_snoc tok usr x l _

def TabB (w : World) : Prop := Lib.TabIs Tryd.prog w "internal/strconv.uint64pow10" .u64 Lib.pow10Tab
theorem TabB.below {w w' : World} (h : TabB w) (hb : Below w.heap.size w w') : TabB w' := by
  unfold TabB Lib.TabIs World.var? at h ⊢
  cases hg : Tryd.prog.globalNamed "internal/strconv.uint64pow10" with
  | none => simp [hg] at h
  | some g =>
    simp only [hg, Option.bind_some] at h ⊢
    have hlt : g < w.heap.size := by
      rcases Nat.lt_or_ge g w.heap.size with h' | h'
      · exact h'
      · simp [Array.getElem?_eq_none h'] at h
    rw [hb.block g hlt]
    exact h
theorem itoa_b (n : Int) (h0 : -9223372036854775808 ≤ n) (h1 : n ≤ 9223372036854775807) (w : World) (hg : TabB w) :
    Calls Tryd.prog 33 #[.int .i64 n] w fun e w' => e = .returned (.string (mkB (Lib.itoa n))) ∧ Below w.heap.size w w' :=
  (Tryd.strconv_Itoa n h0 h1 w hg).mono fun e w' ⟨he, k, os, hw⟩ => ⟨he, by subst hw; exact Lib.below_grow w.heap.size w (Nat.le_refl _) k os⟩
theorem itoa_len (n : Int) (h0 : -9223372036854775808 ≤ n) (h1 : n ≤ 9223372036854775807) : (Lib.itoa n).length ≤ 30 := by
  unfold Lib.itoa
  split
  · have := dec_len 20 n.natAbs (by omega)
    simp
    omega
  · have := dec_len 20 n.toNat (by omega)
    omega
theorem wf64 {n : Int} (h : (Lit.int .i64 n).wf = true) : -9223372036854775808 ≤ n ∧ n ≤ 9223372036854775807 := by
  simpa [Lit.wf, IntKind.min, IntKind.max, IntKind.signed, IntKind.bits] using h
/-- The audit's query behind a path. -/
def tgtT (k fr : Int) (E : ByteArray) : ByteArray := if k = 8 then E ++ ((⟨#[63, 102, 114, 111, 109, 61]⟩ : ByteArray) ++ mkB (Lib.itoa fr)) else E
theorem bld_size (tok usr : ByteArray) : ∀ (l : List ByteArray) (acc : ByteArray), (∀ y ∈ l, (tw tok usr y).size ≤ 10000000) → (bld tok usr l acc).size ≤ acc.size + l.length * 10000001
  | [], acc, _ => by simp [bld]
  | y :: l, acc, h => by
    have h1 := bld_size tok usr l (acc ++ (⟨#[47]⟩ ++ tw tok usr y)) (fun z hz => h z (by simp [hz]))
    have h2 := h y (by simp)
    have h3 : ((⟨#[47]⟩ : ByteArray)).size = 1 := rfl
    simp only [ByteArray.size_append, h3] at h1
    simp only [bld, List.length_cons]
    omega
set_option maxHeartbeats 1000000 in
set_option maxRecDepth 100000 in
theorem target_neg (k : Int) (tok usr : ByteArray) (fr : Int) (me : Bool) (w : World) (hix : ixF k me theWays 0 = -1) :
    Calls Tryd.prog 15 #[.agg #[.int .i64 k, .string tok, .string usr, .int .i64 fr, .bool me]] w fun e w' => e = .returned (.tuple #[.string ⟨#[]⟩, .string ⟨#[]⟩, .bool false]) ∧ Below w.heap.size w w' := by
  have KW := Aside0.mk (fun W => route_ways.calls theWays W rfl)
  have HX := Aside0.mk hix
  have HB := Aside0.mk (Below.refl w.heap.size w)
  clear hix
  go_enter Tryd.func15, Tryd.ntmps15
  go_wp2_with fail
  have hx := blk_new w (rtCells k tok usr fr me)
  have HBa := Aside0.mk (below_alloc HB.out (rtCells k tok usr fr me))
  unfold rtCells at hx HBa
  generalize hp : w.heap.size = p at hx ⊢
  have HP := Aside0.mk hp
  clear hp
  generalize (w.alloc (.cells #[.int .i64 k, .string tok, .string usr, .int .i64 fr, .bool me] 36)) = W1 at *
  refine (KW.out _).mono ?_
  rintro e w2 ⟨v, rfl, hR, hb⟩
  obtain ⟨A, c, rfl, hcap, hC⟩ := Kd.R_reads hR
  have HB2 := Aside0.mk (below_step HBa.out hb)
  have KI := Aside0.mk (ixf_any theWays A c w2 hC (by decide) p k tok usr fr me (blk_below hx hb))
  rw [HX.out] at KI
  clear hR hC hcap hx hb HBa
  go_wp2_with fail
  refine KI.out.mono ?_
  rintro e w3 ⟨rfl, hb3⟩
  have HB3 := Aside0.mk (below_step HB2.out hb3)
  clear hb3
  go_wp2_with fail
  go_ret3
  exact ⟨rfl, HB3.out⟩
theorem eqA36b (d : Nat) (w : World) (x0 y0 : Int) (x1 y1 : ByteArray) (x2 y2 : ByteArray) (x3 y3 : Int) (x4 y4 : Bool) :
    (Op.equalIn (d + 2) 36 (.agg #[.int .i64 x0, .string x1, .string x2, .int .i64 x3, .bool x4]) (.agg #[.int .i64 y0, .string y1, .string y2, .int .i64 y3, .bool y4])).run Tryd.prog w = .ok (x0 == y0 && (x1.toList == y1.toList && (x2.toList == y2.toList && (x3 == y3 && (x4 == y4))))) w := by
  refine eqA_of Tryd.underlying36 (by kernel_rfl) ?_
  refine eqf_cons (by rfl) (by go_simp; rfl) (by go_simp; rfl) (by go_simp) ?_
  refine eqf_cons (by rfl) (by go_simp; rfl) (by go_simp; rfl) (by go_simp) ?_
  refine eqf_cons (by rfl) (by go_simp; rfl) (by go_simp; rfl) (by go_simp) ?_
  refine eqf_cons (by rfl) (by go_simp; rfl) (by go_simp; rfl) (by go_simp) ?_
  exact eqf_last (by rfl) (by go_simp; rfl) (by go_simp; rfl) (by go_simp)
/-- What Target hands back. -/
def tgtRes (ok : Bool) (m t : ByteArray) : Value := if ok = true then .tuple #[.string m, .string t, .bool true] else .tuple #[.string ⟨#[]⟩, .string ⟨#[]⟩, .bool false]
def sameR (k : Int) (tok usr : ByteArray) (fr : Int) (me : Bool) (r0 : Int) (r1 r2 : ByteArray) (r3 : Int) (r4 : Bool) : Bool := r0 == k && (r1.toList == tok.toList && (r2.toList == usr.toList && (r3 == fr && r4 == me)))
set_option maxHeartbeats 4000000 in
set_option maxRecDepth 100000 in
theorem target_pos (k : Int) (tok usr : ByteArray) (fr : Int) (me : Bool) (w : World) (i : Nat) (hi : i < theWays.length) (hix : ixF k me theWays 0 = (i : Int)) (W0 W1 : ByteArray) (W2 : Int) (W3 : Bool) (hW : theWays[i]'hi = ⟨W0, W1, W2, W3⟩)
    (words : List ByteArray) (hwords : strings_Split.f W1 ⟨#[47]⟩ = some words) (hfr : (Lit.int .i64 fr).wf = true) (htab : TabB w) (r0 : Int) (r1 r2 : ByteArray) (r3 : Int) (r4 : Bool) (r5 : Int) (kf : Nat) (hf : route_Find.f kf W0 (tgtT k fr (bld tok usr words ⟨#[]⟩)) = some (r0, r1, r2, r3, r4, r5)) (hwl : words.length ≤ 5) (htk : tok.size ≤ 3000000) (hus : usr.size ≤ 3000000) (htw : ∀ y ∈ words, (tw tok usr y).size ≤ 10000000) :
    Calls Tryd.prog 15 #[.agg #[.int .i64 k, .string tok, .string usr, .int .i64 fr, .bool me]] w fun e w' => e = .returned (tgtRes (r5 == 200 && sameR k tok usr fr me r0 r1 r2 r3 r4) W0 (tgtT k fr (bld tok usr words ⟨#[]⟩))) ∧ Below w.heap.size w w' := by
  have KW := Aside0.mk (fun W => route_ways.calls theWays W rfl)
  have HX := Aside0.mk hix
  have HB := Aside0.mk (Below.refl w.heap.size w)
  have HWW := Aside0.mk hW
  have KS := Aside0.mk (fun W => strings_Split.calls W1 ⟨#[47]⟩ words W hwords)
  have KF := Aside0.mk (fun W => route_Find.calls kf _ _ _ _ _ _ _ _ W hf)
  have HTAB := Aside0.mk htab
  have HFR := Aside0.mk hfr
  obtain ⟨ke1, he1⟩ := (tesc tok (by omega)).rounds
  obtain ⟨ke2, he2⟩ := (tesc usr (by omega)).rounds
  have KE1 := Aside0.mk (fun W => text_Escape.calls ke1 tok _ W he1)
  have KE2 := Aside0.mk (fun W => text_Escape.calls ke2 usr _ W he2)
  have HTW := Aside0.mk htw
  have hwl2 : (words.length : Int) ≤ 5 := by omega
  have hi9 : i < 10 := hi
  have hi10 : (i : Int) < 10 := by omega
  have hi0 : (0 : Int) ≤ (i : Int) := by omega
  have hil : (theWays.length : Int) = 10 := rfl
  clear hix hW hwords he1 he2 htw htk hus hwl hf htab hfr
  go_enter Tryd.func15, Tryd.ntmps15
  go_wp2_with fail
  have hx := blk_new w (rtCells k tok usr fr me)
  have HBa := Aside0.mk (below_alloc HB.out (rtCells k tok usr fr me))
  unfold rtCells at hx HBa
  generalize hp : w.heap.size = p at hx ⊢
  have HP := Aside0.mk hp
  clear hp
  generalize (w.alloc (.cells #[.int .i64 k, .string tok, .string usr, .int .i64 fr, .bool me] 36)) = W1_ at *
  refine (KW.out _).mono ?_
  rintro e w2 ⟨v, rfl, hR, hb⟩
  obtain ⟨A, c, rfl, hcap, hC⟩ := Kd.R_reads hR
  have HB2 := Aside0.mk (below_step HBa.out hb)
  have hx2 := Aside0.mk (blk_below hx hb)
  have KI := Aside0.mk (ixf_any theWays A c w2 hC (by decide) p k tok usr fr me hx2.out)
  rw [HX.out] at KI
  clear hR hC hcap hx hb HBa
  go_wp2_with fail
  refine KI.out.mono ?_
  rintro e w3 ⟨rfl, hb3⟩
  have HB3 := Aside0.mk (below_step HB2.out hb3)
  have hx3 := Aside0.mk (blk_below hx2.out hb3)
  clear hb3 hx2 HB2
  go_wp2_with fail
  refine (KW.out _).mono ?_
  rintro e w4 ⟨v, rfl, hR, hb⟩
  obtain ⟨A2, c2, rfl, hcap, hC⟩ := Kd.R_reads hR
  have HB4 := Aside0.mk (below_step HB3.out hb)
  have hx4 := Aside0.mk (blk_below hx3.out hb)
  obtain ⟨ad, eA, h0, h1, h2, h3⟩ := at_T54 hC (i : Int) hi0 (by rw [hil]; exact hi10)
  rw [rd54_at' theWays i hi, HWW.out] at h0 h1 h2 h3
  subst eA
  simp only [Int.toNat_natCast] at h0 h1 h2 h3
  clear hR hC hcap hb HB3 hx3
  go_wp2_with fail
  have hy := blk_new w4 (.cells #[.string W0, .string W1, .int .i64 W2, .bool W3] 54)
  have HBb := Aside0.mk (below_alloc HB4.out (.cells #[.string W0, .string W1, .int .i64 W2, .bool W3] 54))
  have hx5 := Aside0.mk (blk_alloc hx4.out (.cells #[.string W0, .string W1, .int .i64 W2, .bool W3] 54))
  clear h0 h1 h2 h3 HB4 hx4
  generalize hq : w4.heap.size = q at *
  generalize (w4.alloc (.cells #[.string W0, .string W1, .int .i64 W2, .bool W3] 54)) = W5 at *
  refine (KS.out _).mono ?_
  rintro e w6 ⟨v, rfl, hR, hb⟩
  obtain ⟨A3, c3, rfl, hcap3, hC3⟩ := Kd.R_reads hR
  have HB6 := Aside0.mk (below_step HBb.out hb)
  have hx6 := Aside0.mk (blk_below hx5.out hb)
  have hy6 := Aside0.mk (blk_below hy hb)
  have HC3 := Aside0.mk hC3
  clear hR hC3 hb hx5 hy HBb
  go_wp2_with fail
  go_loopg [3, 24] words.length (fun g v3 v24 wr => ∃ (j : Nat) (E : ByteArray), v3 = .string E ∧ v24 = .int .i64 (j : Int) ∧ j + g = words.length ∧ Aside0 (E = bld tok usr (words.take j) ⟨#[]⟩) ∧ Aside0 (Below w6.heap.size w6 wr))
  case atStart => exact ⟨0, _, rfl, rfl, by omega, ⟨rfl⟩, ⟨Below.refl _ _⟩⟩
  case round =>
    obtain ⟨j, E, rfl, rfl, hjg, HE, HL⟩ := hrel
    cases gk with
    | zero =>
      obtain rfl : j = words.length := by omega
      have cx0 : wr.cell? ⟨p, 0, none⟩ = some (.int .i64 k) := blk_cell (blk_below hx6.out HL.out) 0
      go_upto_if 46 with (fail)
      go_cut [3] (fun v3 wc => ∃ T, v3 = .string T ∧ Aside0 (T = tgtT k fr (bld tok usr words ⟨#[]⟩)) ∧ Aside0 (Below w6.heap.size w6 wc))
      case first =>
        by_cases h8 : k = 8
        · have h81 : (k == 8) = true := beq_iff_eq.2 h8
          have H8 := Aside0.mk h8
          have hfw := wf64 HFR.out
          have KI2 := Aside0.mk (itoa_b fr hfw.1 hfw.2 wr (TabB.below HTAB.out (below_step HB6.out HL.out)))
          have cx3 : wr.cell? ⟨p, 3, none⟩ = some (.int .i64 fr) := blk_cell (blk_below hx6.out HL.out) 3
          have hsi : ((mkB (Lib.itoa fr)).size : Int) ≤ 30 := by have := itoa_len fr hfw.1 hfw.2; rw [mkB_size]; omega
          have hsE : (E.size : Int) ≤ 60000000 := by
            have h1 := bld_size tok usr words ⟨#[]⟩ HTW.out
            have h4 := HE.out
            rw [List.take_length] at h4
            rw [← h4] at h1
            have h3 : (⟨#[]⟩ : ByteArray).size = 0 := rfl
            omega
          clear h8 hfw
          go_wp2_with (first | (go_at_call 33; refine KI2.out.mono ?_; rintro e w7 ⟨rfl, hb⟩; have HL2 := Aside0.mk (below_step HL.out hb); clear hb))
          go_meet
          case rel => exact ⟨_, rfl, ⟨by rw [HE.out, List.take_length]; unfold tgtT; rw [if_pos H8.out]⟩, HL2⟩
        · have h81 : (k == 8) = false := beq_eq_false_iff_ne.2 h8
          have H8 := Aside0.mk h8
          clear h8
          go_wp2
          go_meet
          case rel => exact ⟨_, rfl, ⟨by rw [HE.out, List.take_length]; unfold tgtT; rw [if_neg H8.out]⟩, HL⟩
      case rest =>
        clear HL HE
        obtain ⟨T, rfl, HT, HL⟩ := hcut
        rw [← HT.out] at KF
        have cq0 : wc.cell? ⟨q, 0, none⟩ = some (.string W0) := blk_cell (blk_below hy6.out HL.out) 0
        go_wp2_with fail
        refine (KF.out _).mono ?_
        rintro e w7 ⟨rfl, hb7⟩
        have HL7 := Aside0.mk (below_step HL.out hb7)
        clear hb7 cq0 HL
        have hxw := blk_below hx6.out HL7.out
        have cp0 : ∀ o, (w7.alloc o).cell? ⟨p, 0, none⟩ = some (.int .i64 k) := fun o => blk_cell (blk_alloc hxw o) 0
        have cp1 : ∀ o, (w7.alloc o).cell? ⟨p, 1, none⟩ = some (.string tok) := fun o => blk_cell (blk_alloc hxw o) 1
        have cp2 : ∀ o, (w7.alloc o).cell? ⟨p, 2, none⟩ = some (.string usr) := fun o => blk_cell (blk_alloc hxw o) 2
        have cp3 : ∀ o, (w7.alloc o).cell? ⟨p, 3, none⟩ = some (.int .i64 fr) := fun o => blk_cell (blk_alloc hxw o) 3
        have cp4 : ∀ o, (w7.alloc o).cell? ⟨p, 4, none⟩ = some (.bool me) := fun o => blk_cell (blk_alloc hxw o) 4
        have hyw := blk_below hy6.out HL7.out
        have cq0 : ∀ o, (w7.alloc o).cell? ⟨q, 0, none⟩ = some (.string W0) := fun o => blk_cell (blk_alloc hyw o) 0
        have HBz := Aside0.mk (below_step HB6.out HL7.out)
        clear hxw hyw HL7
        by_cases h5 : r5 = 200
        · subst h5
          have key : ∀ b : Bool, (b = sameR k tok usr fr me r0 r1 r2 r3 r4) → tgtRes (200 == (200 : Int) && sameR k tok usr fr me r0 r1 r2 r3 r4) W0 (tgtT k fr (bld tok usr words ⟨#[]⟩)) = tgtRes b W0 T := by
            intro b hb
            rw [HT.out, hb]
            simp
          have KEY := Aside0.mk key
          clear key
          go_wp2_with fail
          all_goals
            go_ret3
            refine ⟨?_, below_alloc HBz.out _⟩
          · rw [KEY.out true (by unfold sameR; simp [*])]
            rfl
          · rw [KEY.out false (by unfold sameR; simp [*])]
            rfl
          · rw [KEY.out false (by unfold sameR; simp [*])]
            rfl
          · rw [KEY.out false (by unfold sameR; simp [*])]
            rfl
          · rw [KEY.out false (by unfold sameR; simp [*])]
            rfl
          · rw [KEY.out false (by unfold sameR; simp [*])]
            rfl
        · have h51 : (r5 == 200) = false := beq_eq_false_iff_ne.2 h5
          have h52 : (r5 != 200) = true := bne_iff_ne.2 h5
          have H5 := Aside0.mk h51
          clear h5
          go_wp2_with fail
          go_ret3
          exact ⟨by unfold tgtRes; rw [if_neg (by rw [H5.out]; simp)]; rfl, below_alloc HBz.out _⟩
    | succ g =>
      have hj : j < words.length := by omega
      have hj2 : (j : Int) < (words.length : Int) := by omega
      have hj0 : (0 : Int) ≤ (j : Int) := by omega
      obtain ⟨ad3, eA, h0⟩ := Kd.at_string (Kd.C_below HC3.out HL.out) (j : Int) hj0 hj2
      rw [rd_at hj, Int.toNat_natCast] at h0
      subst eA
      obtain ⟨x, hx⟩ : ∃ x, words[j]'hj = x := ⟨_, rfl⟩
      rw [hx] at h0
      have hsz1 : (E.size : Int) ≤ 60000000 := by
        have h1 := bld_size tok usr (words.take j) ⟨#[]⟩ (fun y hy => HTW.out y (List.mem_of_mem_take hy))
        rw [← HE.out] at h1
        have h2 : (words.take j).length ≤ 5 := by rw [List.length_take]; omega
        have h3 : (⟨#[]⟩ : ByteArray).size = 0 := rfl
        omega
      have hsz2 : ((tw tok usr x).size : Int) ≤ 10000000 := by
        have := HTW.out x (by rw [← hx]; exact List.getElem_mem hj)
        omega
      have HT : Aside0 (words.take (j + 1) = words.take j ++ [x]) := ⟨by rw [List.take_succ_eq_append_getElem hj, hx]⟩
      clear hx hj
      have cx1 : wr.cell? ⟨p, 1, none⟩ = some (.string tok) := blk_cell (blk_below hx6.out HL.out) 1
      have cx2 : wr.cell? ⟨p, 2, none⟩ = some (.string usr) := blk_cell (blk_below hx6.out HL.out) 2
      by_cases hT : x.toList = [84]
      · have hT1 : (x.toList == ([84] : List UInt8)) = true := beq_iff_eq.2 hT
        have htwx : tw tok usr x = mkB (escS tok.data.toList) := by unfold tw; rw [if_pos hT]
        rw [htwx] at hsz2
        have HX1 := Aside0.mk htwx
        clear hT htwx
        go_wp2_with (first | (go_at_call 32; refine (KE1.out _).mono ?_; rintro e w7 ⟨rfl, hb⟩; have HL2 := Aside0.mk (below_step HL.out hb); clear hb))
        go_roundg g
        case measure => omega
        case rel => exact ⟨j + 1, _, rfl, by first | rfl | (simp; done), by omega, ⟨by rw [HT.out, bld_snoc, HX1.out, HE.out]⟩, HL2⟩
      · have hT1 : (x.toList == ([84] : List UInt8)) = false := beq_eq_false_iff_ne.2 hT
        by_cases hU : x.toList = [85]
        · have hU1 : (x.toList == ([85] : List UInt8)) = true := beq_iff_eq.2 hU
          have htwx : tw tok usr x = mkB (escS usr.data.toList) := by unfold tw; rw [if_neg hT, if_pos hU]
          rw [htwx] at hsz2
          have HX1 := Aside0.mk htwx
          clear hT hU htwx
          go_wp2_with (first | (go_at_call 32; refine (KE2.out _).mono ?_; rintro e w7 ⟨rfl, hb⟩; have HL2 := Aside0.mk (below_step HL.out hb); clear hb))
          go_roundg g
          case measure => omega
          case rel => exact ⟨j + 1, _, rfl, by first | rfl | (simp; done), by omega, ⟨by rw [HT.out, bld_snoc, HX1.out, HE.out]⟩, HL2⟩
        · have hU1 : (x.toList == ([85] : List UInt8)) = false := beq_eq_false_iff_ne.2 hU
          have htwx : tw tok usr x = x := by unfold tw; rw [if_neg hT, if_neg hU]
          rw [htwx] at hsz2
          have HX1 := Aside0.mk htwx
          clear hT hU htwx
          go_wp2
          go_roundg g
          case measure => omega
          case rel => exact ⟨j + 1, _, rfl, by first | rfl | (simp; done), by omega, ⟨by rw [HT.out, bld_snoc, HX1.out, HE.out]⟩, HL⟩
end Go.Proofs.YtdbbgdgjmlcgcaaDoor.PRouteB
