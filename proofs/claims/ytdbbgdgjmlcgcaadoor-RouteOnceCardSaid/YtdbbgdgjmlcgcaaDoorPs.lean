/- The plain law of RouteOnce, second part: which ways a target has. -/
import Derived.Test.YtdbbgdgjmlcgcaaDoorPr
import Derived.Test.YtdbbgdgjmlcgcaaDoorPRoutex6
set_option linter.unusedVariables false
set_option linter.unusedSimpArgs false
namespace Go.Proofs.YtdbbgdgjmlcgcaaDoor.PRoute
open Go.RowKit Go.Proofs.YtdbbgdgjmlcgcaaDoorW.PrintWords Go.Proofs.YtdbbgdgjmlcgcaaDoorW.PrintLast Go.Proofs.YtdbbgdgjmlcgcaaDoorW.PrintMore

/-- Does a way fit? -/
def isW (ws ps : List ByteArray) (w : S54) : Bool := match route_way_match.f w.f0 w.f1 w.f2 w.f3 ws ps with
  | some b => b.2.2.2.2.2
  | none => false
theorem match_some (ws ps : List ByteArray) (w : S54) (hw : w.f1.size < 4294967281) (hl : ps.length ≤ ws.length) : ∃ b, route_way_match.f w.f0 w.f1 w.f2 w.f3 ws ps = some b ∧ b.2.2.2.2.2 = isW ws ps w := by
  have h : ∃ b, route_way_match.f w.f0 w.f1 w.f2 w.f3 ws ps = some b := by
    unfold route_way_match.f
    rw [if_pos hl]
    obtain ⟨l, hl, _⟩ := split_some w.f1 ⟨#[47]⟩ rfl hw
    rw [hl]
    exact ⟨_, rfl⟩
  obtain ⟨b, hb⟩ := h
  exact ⟨b, hb, by unfold isW; rw [hb]⟩
theorem rd_T54_at (W : List S54) (i : Nat) (h : i < W.length) : rd_T54 W (i : Int) = W[i]'h := by
  unfold rd_T54
  simp [List.getD_eq_getElem?_getD, List.getElem?_eq_getElem h]
/-- Words in order. -/
def sortB (l : List ByteArray) : List ByteArray := ((l.map fun x => x.data.toList).mergeSort fun x y => decide (x ≤ y)).map fun x => ⟨x.toArray⟩
theorem drop_succ {α : Type} {l : List α} {i : Nat} (h : i < l.length) : l.drop i = l[i]'h :: l.drop (i + 1) := List.drop_eq_getElem_cons h

section
variable (t : ByteArray) (ws ps : List ByteArray) (hraw : route_raw.f t = some ws) (hl : ps.length ≤ ws.length) (W : List S54) (hW : ∀ w ∈ W, w.f1.size < 4294967281) (hn : W.length ≤ 1000)
include hraw hl hW hn
theorem methods_l0 : ∀ (d i : Nat) (out : List ByteArray) (k : Nat), i ≤ W.length → W.length - i ≤ d → out.length ≤ i → d < k →
    route_Methods.l0 k t ps out W (W.length : Int) (i : Int) = some (sortB (out ++ ((W.drop i).filter (isW ws ps)).map (·.f0))) := by
  intro d
  induction d with
  | zero =>
    intro i out k hi hd ho hk
    obtain ⟨k, rfl⟩ : ∃ m, k = m + 1 := ⟨k - 1, by omega⟩
    obtain rfl : i = W.length := by omega
    simp only [route_Methods.l0]
    rw [if_neg (by omega)]
    unfold slices_Sort_string_string.f
    rw [if_pos (by omega)]
    simp [sortB]
  | succ d ih =>
    intro i out k hi hd ho hk
    obtain ⟨k, rfl⟩ : ∃ m, k = m + 1 := ⟨k - 1, by omega⟩
    by_cases hlt : i < W.length
    case neg =>
      obtain rfl : i = W.length := by omega
      simp only [route_Methods.l0]
      rw [if_neg (by omega)]
      unfold slices_Sort_string_string.f
      rw [if_pos (by omega)]
      simp [sortB]
    have e1 : wrap64 ((i : Int) + 1) = ((i + 1 : Nat) : Int) := by rw [w64 (by omega) (by omega)]; rfl
    obtain ⟨b, hb, hbi⟩ := match_some ws ps (W[i]'hlt) (hW _ (List.getElem_mem hlt)) hl
    simp only [route_Methods.l0]
    rw [if_pos (by omega), if_pos (by omega), if_pos (by omega), hraw, e1, rd_T54_at W i hlt]
    simp only [Option.bind_some]
    rw [hb]
    simp only [Option.bind_some]
    rw [hbi, drop_succ hlt]
    by_cases hiw : isW ws ps (W[i]'hlt) = true
    · rw [if_pos hiw, if_pos (by omega), ih (i + 1) _ k (by omega) (by omega) (by simp; omega) (by omega), List.filter_cons_of_pos hiw]
      simp
    · rw [if_neg hiw, ih (i + 1) _ k (by omega) (by omega) (by omega) (by omega), List.filter_cons_of_neg hiw]

theorem find_l0 (m q : ByteArray) (has : Bool) (hq : q.size ≤ 1024) : ∀ (d i : Nat) (st : Int) (k : Nat), i ≤ W.length → W.length - i ≤ d → 4000 + d < k →
    ∃ r, route_Find.l0 k m t ps q has st W (W.length : Int) (i : Int) = some r ∧
      ((∃ w ∈ W.drop i, isW ws ps w = true ∧ w.f0.toList = m.toList) → r.2.2.2.2.2 = 200 ∨ r.2.2.2.2.2 = 400) ∧
      ((¬ ∃ w ∈ W.drop i, isW ws ps w = true ∧ w.f0.toList = m.toList) → r.2.2.2.2.2 = if (W.drop i).any (isW ws ps) = true then 405 else st) := by
  intro d
  induction d with
  | zero =>
    intro i st k hi hd hk
    obtain ⟨k, rfl⟩ : ∃ m, k = m + 1 := ⟨k - 1, by omega⟩
    obtain rfl : i = W.length := by omega
    refine ⟨_, by simp only [route_Find.l0]; rw [if_neg (by omega)], ?_, ?_⟩
    · rw [List.drop_length]; rintro ⟨w, h, _⟩; cases h
    · intro _; simp
  | succ d ih =>
    intro i st k hi hd hk
    obtain ⟨k, rfl⟩ : ∃ m, k = m + 1 := ⟨k - 1, by omega⟩
    by_cases hlt : i < W.length
    case neg =>
      obtain rfl : i = W.length := by omega
      refine ⟨_, by simp only [route_Find.l0]; rw [if_neg (by omega)], ?_, ?_⟩
      · rw [List.drop_length]; rintro ⟨w, h, _⟩; cases h
      · intro _; simp
    have e1 : wrap64 ((i : Int) + 1) = ((i + 1 : Nat) : Int) := by rw [w64 (by omega) (by omega)]; rfl
    obtain ⟨b, hb, hbi⟩ := match_some ws ps (W[i]'hlt) (hW _ (List.getElem_mem hlt)) hl
    simp only [route_Find.l0]
    rw [if_pos (by omega), if_pos (by omega), if_pos (by omega), hraw, e1, rd_T54_at W i hlt]
    simp only [Option.bind_some]
    rw [hb]
    simp only [Option.bind_some]
    rw [hbi, drop_succ hlt]
    by_cases hiw : isW ws ps (W[i]'hlt) = true
    · rw [if_pos hiw]
      by_cases hm : (W[i]'hlt).f0.toList = m.toList
      · rw [if_pos hm]
        obtain ⟨a, ha⟩ := asked_some b.1 b.2.1 b.2.2.1 b.2.2.2.1 b.2.2.2.2.1 q has (by omega) k (by omega)
        rw [ha]
        simp only [Option.bind_some]
        by_cases h1 : a.1 = true
        · rw [if_pos h1]
          exact ⟨_, rfl, fun _ => .inl rfl, fun h => absurd ⟨_, List.mem_cons_self, hiw, hm⟩ h⟩
        · rw [if_neg h1]
          exact ⟨_, rfl, fun _ => .inr rfl, fun h => absurd ⟨_, List.mem_cons_self, hiw, hm⟩ h⟩
      · rw [if_neg hm]
        obtain ⟨r, hr, h1, h2⟩ := ih (i + 1) 405 k (by omega) (by omega) (by omega)
        refine ⟨r, hr, ?_, ?_⟩
        · rintro ⟨w, hw, hw1, hw2⟩
          rcases List.mem_cons.1 hw with rfl | hw
          · exact absurd hw2 hm
          · exact h1 ⟨w, hw, hw1, hw2⟩
        · intro h
          rw [h2 (fun ⟨w, hw, hw1, hw2⟩ => h ⟨w, List.mem_cons_of_mem _ hw, hw1, hw2⟩), List.any_cons, hiw, Bool.true_or, if_pos rfl]
          split <;> rfl
    · rw [if_neg hiw]
      obtain ⟨r, hr, h1, h2⟩ := ih (i + 1) st k (by omega) (by omega) (by omega)
      refine ⟨r, hr, ?_, ?_⟩
      · rintro ⟨w, hw, hw1, hw2⟩
        rcases List.mem_cons.1 hw with rfl | hw
        · exact absurd hw1 hiw
        · exact h1 ⟨w, hw, hw1, hw2⟩
      · intro h
        rw [h2 (fun ⟨w, hw, hw1, hw2⟩ => h ⟨w, List.mem_cons_of_mem _ hw, hw1, hw2⟩), List.any_cons, Bool.eq_false_iff.2 hiw, Bool.false_or]
end

/-- The words of the pieces. -/
def sess : List UInt8 := [115, 101, 115, 115, 105, 111, 110, 115]
def POST : ByteArray := ⟨#[80, 79, 83, 84]⟩
def GET : ByteArray := ⟨#[71, 69, 84]⟩
def DELETE : ByteArray := ⟨#[68, 69, 76, 69, 84, 69]⟩
theorem tl (l : List UInt8) : (⟨l.toArray⟩ : ByteArray).toList = l := by rw [ByteArray.toList_eq]
theorem isW_iff (ws ps : List ByteArray) (hl : ps.length ≤ ws.length) (w : S54) (words : List ByteArray) (hs : strings_Split.f w.f1 ⟨#[47]⟩ = some words) :
    isW ws ps w = (decide (words.length = ps.length) && (fitL ws ps words 0 ⟨#[]⟩ ⟨#[]⟩).isSome) := by
  unfold isW route_way_match.f
  rw [if_pos hl, hs]
  simp only [Option.bind_some]
  by_cases h : words.length = ps.length
  · rw [if_pos h, decide_eq_true h]
    cases hf : fitL ws ps words 0 ⟨#[]⟩ ⟨#[]⟩ with
    | none => rfl
    | some x => obtain ⟨a, b⟩ := x; rfl
  · rw [if_neg h, decide_eq_false h]
    rfl

theorem isW_one (ws ps : List ByteArray) (hl : ps.length ≤ ws.length) (a : ByteArray) (x : List UInt8) (k : Int) (me : Bool) (hs : strings_Split.f ⟨x.toArray⟩ ⟨#[47]⟩ = some [⟨x.toArray⟩]) (hT : x ≠ [84]) (hU : x ≠ [85]) :
    isW ws ps ⟨a, ⟨x.toArray⟩, k, me⟩ = (decide (ps.length = 1) && decide ((ws.getD 0 ByteArray.empty).toList = x)) := by
  rw [isW_iff ws ps hl _ _ hs]
  simp only [fitL, tl, if_neg hT, if_neg hU, List.length_singleton]
  generalize (ws.getD 0 ByteArray.empty).toList = A0
  by_cases h : ps.length = 1
  · by_cases h2 : A0 = x <;> simp [h, h2]
  · have : ¬ 1 = ps.length := fun e => h e.symm
    simp [h, this]
theorem isW_two (ws ps : List ByteArray) (hl : ps.length ≤ ws.length) (a : ByteArray) (k : Int) (me : Bool) :
    isW ws ps ⟨a, ⟨#[115, 101, 115, 115, 105, 111, 110, 115, 47, 84]⟩, k, me⟩ = (decide (ps.length = 2) && (decide ((ws.getD 0 ByteArray.empty).toList = sess) && (!decide ((ps.getD 1 ByteArray.empty).toList = [])))) := by
  rw [isW_iff ws ps hl _ [⟨#[115, 101, 115, 115, 105, 111, 110, 115]⟩, ⟨#[84]⟩] (by kernel_rfl)]
  have e0 : (⟨#[115, 101, 115, 115, 105, 111, 110, 115]⟩ : ByteArray).toList = sess := tl sess
  simp only [fitL, e0, toList_T, if_neg (show sess ≠ [84] by decide), if_neg (show sess ≠ [85] by decide), if_true]
  simp only [Nat.zero_add, Nat.reduceAdd]
  generalize (ws.getD 0 ByteArray.empty).toList = A0
  generalize hP : (ps.getD 1 ByteArray.empty).toList = P1
  by_cases h : ps.length = 2
  · by_cases h2 : A0 = sess <;> by_cases h3 : P1 = [] <;> simp [h, h2, h3]
  · have : ¬ 2 = ps.length := fun e => h e.symm
    simp [h, this]
theorem isW_touch (ws ps : List ByteArray) (hl : ps.length ≤ ws.length) (a : ByteArray) (k : Int) (me : Bool) :
    isW ws ps ⟨a, ⟨#[115, 101, 115, 115, 105, 111, 110, 115, 47, 84, 47, 116, 111, 117, 99, 104]⟩, k, me⟩ = (decide (ps.length = 3) && (decide ((ws.getD 0 ByteArray.empty).toList = sess) && (!decide ((ps.getD 1 ByteArray.empty).toList = [])) && decide ((ws.getD 2 ByteArray.empty).toList = ([116, 111, 117, 99, 104] : List UInt8)))) := by
  rw [isW_iff ws ps hl _ [⟨#[115, 101, 115, 115, 105, 111, 110, 115]⟩, ⟨#[84]⟩, ⟨#[116, 111, 117, 99, 104]⟩] (by kernel_rfl)]
  have e0 : (⟨#[115, 101, 115, 115, 105, 111, 110, 115]⟩ : ByteArray).toList = sess := tl sess
  have e2 : (⟨#[116, 111, 117, 99, 104]⟩ : ByteArray).toList = [116, 111, 117, 99, 104] := tl _
  simp only [fitL, e0, e2, toList_T, if_neg (show sess ≠ [84] by decide), if_neg (show sess ≠ [85] by decide), if_neg (show ([116, 111, 117, 99, 104] : List UInt8) ≠ [84] by decide), if_neg (show ([116, 111, 117, 99, 104] : List UInt8) ≠ [85] by decide), if_true]
  simp only [Nat.zero_add, Nat.reduceAdd]
  generalize (ws.getD 0 ByteArray.empty).toList = A0
  generalize (ws.getD 2 ByteArray.empty).toList = A2
  generalize hP : (ps.getD 1 ByteArray.empty).toList = P1
  by_cases h : ps.length = 3
  · by_cases h2 : A0 = sess <;> by_cases h3 : P1 = [] <;> by_cases h4 : A2 = ([116, 111, 117, 99, 104] : List UInt8) <;> simp [h, h2, h3, h4]
  · have : ¬ 3 = ps.length := fun e => h e.symm
    simp [h, this]
theorem isW_users (ws ps : List ByteArray) (hl : ps.length ≤ ws.length) (a : ByteArray) (k : Int) (me : Bool) :
    isW ws ps ⟨a, ⟨#[117, 115, 101, 114, 115, 47, 85, 47, 115, 101, 115, 115, 105, 111, 110, 115]⟩, k, me⟩ = (decide (ps.length = 3) && (decide ((ws.getD 0 ByteArray.empty).toList = ([117, 115, 101, 114, 115] : List UInt8)) && (!decide ((ps.getD 1 ByteArray.empty).toList = [])) && decide ((ws.getD 2 ByteArray.empty).toList = sess))) := by
  rw [isW_iff ws ps hl _ [⟨#[117, 115, 101, 114, 115]⟩, ⟨#[85]⟩, ⟨#[115, 101, 115, 115, 105, 111, 110, 115]⟩] (by kernel_rfl)]
  have e0 : (⟨#[117, 115, 101, 114, 115]⟩ : ByteArray).toList = [117, 115, 101, 114, 115] := tl _
  have e2 : (⟨#[115, 101, 115, 115, 105, 111, 110, 115]⟩ : ByteArray).toList = sess := tl sess
  simp only [fitL, e0, e2, toList_U, if_neg (show ([85] : List UInt8) ≠ [84] by decide), if_neg (show sess ≠ [84] by decide), if_neg (show sess ≠ [85] by decide), if_neg (show ([117, 115, 101, 114, 115] : List UInt8) ≠ [84] by decide), if_neg (show ([117, 115, 101, 114, 115] : List UInt8) ≠ [85] by decide), if_true]
  simp only [Nat.zero_add, Nat.reduceAdd]
  generalize (ws.getD 0 ByteArray.empty).toList = A0
  generalize (ws.getD 2 ByteArray.empty).toList = A2
  generalize hP : (ps.getD 1 ByteArray.empty).toList = P1
  by_cases h : ps.length = 3
  · by_cases h2 : A0 = ([117, 115, 101, 114, 115] : List UInt8) <;> by_cases h3 : P1 = [] <;> by_cases h4 : A2 = sess <;> simp [h, h2, h3, h4]
  · have : ¬ 3 = ps.length := fun e => h e.symm
    simp [h, this]
end Go.Proofs.YtdbbgdgjmlcgcaaDoor.PRoute
