/- What Find makes of a target. -/
import Derived.Test.YtdbbgdgjmlcgcaaDoorBLa
set_option linter.unusedVariables false
set_option linter.unusedSimpArgs false
namespace Go.Proofs.YtdbbgdgjmlcgcaaDoor.PRouteB
open Go.RowKit Go.Proofs.YtdbbgdgjmlcgcaaDoorW.PrintWords Go.Proofs.YtdbbgdgjmlcgcaaDoorW.PrintLast Go.Proofs.YtdbbgdgjmlcgcaaDoorW.PrintMore

theorem strOfNums_map (l : List UInt8) : strOfNums (l.map fun c => (c.toNat : Int)) = mkB l := by
  unfold strOfNums mkB
  rw [List.map_map]
  congr 2
  conv => rhs; rw [← List.map_id l]
  apply List.map_congr_left
  intro c _
  simp
theorem unB_some {s : ByteArray} {m : List UInt8} (h : unescS s.data.toList = some m) : unB s = (mkB m, 0) := by
  unfold unB
  rw [h]
  simp only [resU, List.nil_append]
  rw [strOfNums_map]

def POST : ByteArray := ⟨#[80, 79, 83, 84]⟩
def GET : ByteArray := ⟨#[71, 69, 84]⟩
def DELETE : ByteArray := ⟨#[68, 69, 76, 69, 84, 69]⟩
def bSess : List UInt8 := [115, 101, 115, 115, 105, 111, 110, 115]
def bUsers : List UInt8 := [117, 115, 101, 114, 115]
def bTouch : List UInt8 := [116, 111, 117, 99, 104]
def bAudit : List UInt8 := [97, 117, 100, 105, 116]
def bMe : List UInt8 := [109, 101]
def bStats : List UInt8 := [115, 116, 97, 116, 115]
/-- The ways, and their words. -/
def theWays : List S54 := [⟨POST, ⟨#[115, 101, 115, 115, 105, 111, 110, 115]⟩, 1, false⟩, ⟨GET, ⟨#[115, 101, 115, 115, 105, 111, 110, 115, 47, 84]⟩, 2, false⟩,
  ⟨POST, ⟨#[115, 101, 115, 115, 105, 111, 110, 115, 47, 84, 47, 116, 111, 117, 99, 104]⟩, 3, false⟩, ⟨DELETE, ⟨#[115, 101, 115, 115, 105, 111, 110, 115, 47, 84]⟩, 4, false⟩,
  ⟨DELETE, ⟨#[117, 115, 101, 114, 115, 47, 85, 47, 115, 101, 115, 115, 105, 111, 110, 115]⟩, 5, false⟩, ⟨DELETE, ⟨#[115, 101, 115, 115, 105, 111, 110, 115]⟩, 6, false⟩,
  ⟨GET, ⟨#[117, 115, 101, 114, 115, 47, 85, 47, 115, 101, 115, 115, 105, 111, 110, 115]⟩, 7, false⟩, ⟨GET, ⟨#[97, 117, 100, 105, 116]⟩, 8, false⟩, ⟨GET, ⟨#[109, 101]⟩, 2, true⟩, ⟨GET, ⟨#[115, 116, 97, 116, 115]⟩, 9, false⟩]
theorem ways_eq : route_ways.f = some theWays := rfl
abbrev Res : Type := Int × ByteArray × ByteArray × Int × Bool × Bool
/-- What a way's words say of a target's pieces. -/
def wres (w : S54) (words ws ps : List ByteArray) : Res :=
  if words.length = ps.length then match fitL ws ps words 0 ⟨#[]⟩ ⟨#[]⟩ with
      | none => (0, ⟨#[]⟩, ⟨#[]⟩, 0, false, false)
      | some (t, u) => (w.f2, t, u, 0, w.f3, true) else (0, ⟨#[]⟩, ⟨#[]⟩, 0, false, false)
theorem match_wres (w : S54) (words ws ps : List ByteArray) (hs : strings_Split.f w.f1 ⟨#[47]⟩ = some words) (hl : ps.length ≤ ws.length) : route_way_match.f w.f0 w.f1 w.f2 w.f3 ws ps = some (wres w words ws ps) := by
  unfold route_way_match.f wres
  rw [if_pos hl, hs]
  rfl
/-- What is found: the ways one behind the other. -/
def findS (m : ByteArray) (ws ps : List ByteArray) (ask : Int → ByteArray → ByteArray → Int → Bool → Bool × Int × ByteArray × ByteArray × Int × Bool) : List (S54 × List ByteArray) → Int → Int × ByteArray × ByteArray × Int × Bool × Int
  | [], st => (0, ⟨#[]⟩, ⟨#[]⟩, 0, false, st)
  | (w, words) :: r, st =>
    if (wres w words ws ps).2.2.2.2.2 = true then
      (if w.f0.toList = m.toList then
        (if (ask (wres w words ws ps).1 (wres w words ws ps).2.1 (wres w words ws ps).2.2.1 (wres w words ws ps).2.2.2.1 (wres w words ws ps).2.2.2.2.1).1 = true then
          ((ask (wres w words ws ps).1 (wres w words ws ps).2.1 (wres w words ws ps).2.2.1 (wres w words ws ps).2.2.2.1 (wres w words ws ps).2.2.2.2.1).2.1,
           (ask (wres w words ws ps).1 (wres w words ws ps).2.1 (wres w words ws ps).2.2.1 (wres w words ws ps).2.2.2.1 (wres w words ws ps).2.2.2.2.1).2.2.1,
           (ask (wres w words ws ps).1 (wres w words ws ps).2.1 (wres w words ws ps).2.2.1 (wres w words ws ps).2.2.2.1 (wres w words ws ps).2.2.2.2.1).2.2.2.1,
           (ask (wres w words ws ps).1 (wres w words ws ps).2.1 (wres w words ws ps).2.2.1 (wres w words ws ps).2.2.2.1 (wres w words ws ps).2.2.2.2.1).2.2.2.2.1,
           (ask (wres w words ws ps).1 (wres w words ws ps).2.1 (wres w words ws ps).2.2.1 (wres w words ws ps).2.2.2.1 (wres w words ws ps).2.2.2.2.1).2.2.2.2.2, 200)
        else (0, ⟨#[]⟩, ⟨#[]⟩, 0, false, 400))
      else findS m ws ps ask r 405)
    else findS m ws ps ask r st
theorem rd54_at (W : List S54) (i : Nat) (h : i < W.length) : rd_T54 W (i : Int) = W[i]'h := by
  unfold rd_T54
  simp [List.getD_eq_getElem?_getD, List.getElem?_eq_getElem h]
theorem find_ev (m t : ByteArray) (ws ps : List ByteArray) (q : ByteArray) (has : Bool) (ask : Int → ByteArray → ByteArray → Int → Bool → Bool × Int × ByteArray × ByteArray × Int × Bool)
    (hraw : route_raw.f t = some ws) (hl : ps.length ≤ ws.length) (hask : ∀ a b c d e, Ev (fun k => route_asked.f k a b c d e q has) (ask a b c d e))
    (W : List (S54 × List ByteArray)) (hW : ∀ x ∈ W, strings_Split.f x.1.f1 ⟨#[47]⟩ = some x.2) (hn : W.length ≤ 1000) : ∀ (d i : Nat) (st : Int), W.length - i ≤ d → i ≤ W.length →
    Ev (fun k => route_Find.l0 k m t ps q has st (W.map (·.1)) ((W.map (·.1)).length : Int) (i : Int)) (findS m ws ps ask (W.drop i) st) := by
  intro d
  have base : ∀ st, Ev (fun k => route_Find.l0 k m t ps q has st (W.map (·.1)) ((W.map (·.1)).length : Int) (W.length : Int)) (findS m ws ps ask (W.drop W.length) st) := by
    intro st
    rw [List.drop_length]
    refine Ev.step (f := fun k => some ((0 : Int), (⟨#[]⟩ : ByteArray), (⟨#[]⟩ : ByteArray), (0 : Int), false, st)) (fun k => ?_) (Ev.now _)
    simp only [route_Find.l0, List.length_map]
    rw [if_neg (by omega)]
  induction d with
  | zero =>
    intro i st hd hi
    obtain rfl : i = W.length := by omega
    exact base st
  | succ d ih =>
    intro i st hd hi
    by_cases hlt : i < W.length
    case neg =>
      obtain rfl : i = W.length := by omega
      exact base st
    have E : Hw i := Hw.mk' (by omega)
    have hm := match_wres (W[i]'hlt).1 (W[i]'hlt).2 ws ps (hW _ (List.getElem_mem hlt)) hl
    have hrd : rd_T54 (W.map (·.1)) (i : Int) = (W[i]'hlt).1 := by
      rw [rd54_at _ i (by rw [List.length_map]; exact hlt), List.getElem_map]
    rw [List.drop_eq_getElem_cons hlt]
    obtain ⟨⟨w, words⟩, hx⟩ : ∃ x, W[i]'hlt = x := ⟨_, rfl⟩
    rw [hx] at hm hrd ⊢
    simp only at hm hrd
    unfold findS
    obtain ⟨b, hb⟩ : ∃ b, wres w words ws ps = b := ⟨_, rfl⟩
    rw [hb] at hm ⊢
    have hlen : ((W.map (·.1)).length : Int) = (W.length : Int) := by rw [List.length_map]
    by_cases h1 : b.2.2.2.2.2 = true
    · rw [if_pos h1]
      by_cases h2 : w.f0.toList = m.toList
      · rw [if_pos h2]
        refine Ev.step (f := fun k => (route_asked.f k b.1 b.2.1 b.2.2.1 b.2.2.2.1 b.2.2.2.2.1 q has).bind fun bt221 => (if bt221.1 = true then (some (bt221.2.1, bt221.2.2.1, bt221.2.2.2.1, bt221.2.2.2.2.1, bt221.2.2.2.2.2, (200 : Int))) else (some ((0 : Int), (⟨#[]⟩ : ByteArray), (⟨#[]⟩ : ByteArray), (0 : Int), false, (400 : Int))))) (fun k => ?_) (Ev.bind (hask _ _ _ _ _) ?_)
        · simp only [route_Find.l0]
          rw [hlen, if_pos (by omega), if_pos (by omega), if_pos (by omega), hraw]
          simp only [Option.bind_some]
          rw [hrd, hm]
          simp only [Option.bind_some]
          rw [if_pos h1, if_pos h2]
        · obtain ⟨a, ha⟩ : ∃ a, ask b.1 b.2.1 b.2.2.1 b.2.2.2.1 b.2.2.2.2.1 = a := ⟨_, rfl⟩
          rw [ha]
          by_cases h3 : a.1 = true
          · simp only [if_pos h3]
            exact Ev.now _
          · simp only [if_neg h3]
            exact Ev.now _
      · rw [if_neg h2]
        refine Ev.step (fun k => ?_) (ih (i + 1) 405 (by omega) (by omega))
        simp only [route_Find.l0]
        rw [hlen, if_pos (by omega), if_pos (by omega), if_pos (by omega), hraw, E.e1]
        simp only [Option.bind_some]
        rw [hrd, hm]
        simp only [Option.bind_some]
        rw [if_pos h1, if_neg h2]
    · rw [if_neg h1]
      refine Ev.step (fun k => ?_) (ih (i + 1) st (by omega) (by omega))
      simp only [route_Find.l0]
      rw [hlen, if_pos (by omega), if_pos (by omega), if_pos (by omega), hraw, E.e1]
      simp only [Option.bind_some]
      rw [hrd, hm]
      simp only [Option.bind_some]
      rw [if_neg h1]
/-- The ways with their words. -/
def WW : List (S54 × List ByteArray) := [(⟨POST, ⟨#[115, 101, 115, 115, 105, 111, 110, 115]⟩, 1, false⟩, [mkB bSess]), (⟨GET, ⟨#[115, 101, 115, 115, 105, 111, 110, 115, 47, 84]⟩, 2, false⟩, [mkB bSess, ⟨#[84]⟩]),
  (⟨POST, ⟨#[115, 101, 115, 115, 105, 111, 110, 115, 47, 84, 47, 116, 111, 117, 99, 104]⟩, 3, false⟩, [mkB bSess, ⟨#[84]⟩, mkB bTouch]), (⟨DELETE, ⟨#[115, 101, 115, 115, 105, 111, 110, 115, 47, 84]⟩, 4, false⟩, [mkB bSess, ⟨#[84]⟩]),
  (⟨DELETE, ⟨#[117, 115, 101, 114, 115, 47, 85, 47, 115, 101, 115, 115, 105, 111, 110, 115]⟩, 5, false⟩, [mkB bUsers, ⟨#[85]⟩, mkB bSess]), (⟨DELETE, ⟨#[115, 101, 115, 115, 105, 111, 110, 115]⟩, 6, false⟩, [mkB bSess]),
  (⟨GET, ⟨#[117, 115, 101, 114, 115, 47, 85, 47, 115, 101, 115, 115, 105, 111, 110, 115]⟩, 7, false⟩, [mkB bUsers, ⟨#[85]⟩, mkB bSess]), (⟨GET, ⟨#[97, 117, 100, 105, 116]⟩, 8, false⟩, [mkB bAudit]), (⟨GET, ⟨#[109, 101]⟩, 2, true⟩, [mkB bMe]), (⟨GET, ⟨#[115, 116, 97, 116, 115]⟩, 9, false⟩, [mkB bStats])]
theorem WW_ways : WW.map (·.1) = theWays := rfl
theorem WW_split : ∀ x ∈ WW, strings_Split.f x.1.f1 ⟨#[47]⟩ = some x.2 := by
  simp only [WW, List.forall_mem_cons]
  refine ⟨by kernel_rfl, by kernel_rfl, by kernel_rfl, by kernel_rfl, by kernel_rfl, by kernel_rfl, by kernel_rfl, by kernel_rfl, by kernel_rfl, by kernel_rfl, fun x h => by cases h⟩
theorem asked_no (a : Int) (b c : ByteArray) (d : Int) (e : Bool) (q : ByteArray) : Ev (fun k => route_asked.f k a b c d e q false) (true, a, b, c, (if a = 8 then 1 else d), e) := by
  have h0 : ∀ d, Ev (fun k => route_asked.j0 k q false a b c d e) (true, a, b, c, d, e) := fun d => Ev.step (fun k => by simp only [route_asked.j0]; rw [if_neg (by decide)]) (Ev.now _)
  by_cases h : a = 8
  · refine Ev.congr (fun k => ?_) (by simpa [h] using h0 1)
    unfold route_asked.f
    rw [if_pos h, h]
  · refine Ev.congr (fun k => ?_) (by simpa [h] using h0 d)
    unfold route_asked.f
    rw [if_neg h]
/-- Find, of a target that has a path and perhaps a query. -/
theorem find_of (m t : ByteArray) (ws ps : List ByteArray) (q : ByteArray) (has : Bool) (ask : Int → ByteArray → ByteArray → Int → Bool → Bool × Int × ByteArray × ByteArray × Int × Bool)
    (hsp : Ev (fun k => route_Split.f k t) (ps, q, has, (0 : Int))) (hraw : route_raw.f t = some ws) (hl : ps.length ≤ ws.length) (hask : ∀ a b c d e, Ev (fun k => route_asked.f k a b c d e q has) (ask a b c d e)) :
    Ev (fun k => route_Find.f k m t) (findS m ws ps ask WW 404) := by
  refine Ev.bind hsp ?_
  have := find_ev m t ws ps q has ask hraw hl hask WW WW_split (by decide) 10 0 404 (by decide) (by decide)
  simp only [if_true, ways_eq, Option.bind_some]
  rw [List.drop_zero, WW_ways] at this
  exact this
theorem trimPrefix1 (c : UInt8) (l : List UInt8) : strings_TrimPrefix.f (mkB (c :: l)) ⟨#[c]⟩ = some (mkB l) := by
  unfold strings_TrimPrefix.f stringslite_TrimPrefix.f stringslite_HasPrefix.f
  have e1 : ((⟨#[c]⟩ : ByteArray).size : Int) = 1 := rfl
  rw [e1]
  have e2 : ((mkB (c :: l)).size : Int) = (l.length : Int) + 1 := by rw [mkB_size]; simp
  have e3 : ((mkB (c :: l)).extract 0 (1 : Int).toNat).toList = [c] := by rw [ext_mkB, toL]; simp [mkB_data]
  have e4 : (⟨#[c]⟩ : ByteArray).toList = [c] := toL _
  have e5 : (mkB (c :: l)).extract (1 : Int).toNat (mkB (c :: l)).size = mkB l := by rw [ext_mkB]; simp [mkB_data, mkB_size]
  rw [e2, if_pos (by omega), if_pos (by omega), if_pos (by omega), e3, e4, e5]
  simp only [Option.bind_some]
  rw [if_pos (by simp), if_pos (by omega), if_pos (by omega)]
  simp
/-- A target: a path, perhaps a query. -/
theorem split_of (X : List UInt8) (q : ByteArray) (has : Bool) (t a : ByteArray) (hsz : t.size ≤ 1024) (hX : X.length ≤ 1024) (hcut : strings_Cut.f t ⟨#[63]⟩ = some (a, q, has)) (ha : a = mkB (47 :: X)) (hok : allOk (pieces 47 (mkB X)) = true) :
    Ev (fun k => route_Split.f k t) ((pieces 47 (mkB X)).map (fun x => (unB x).1), q, has, (0 : Int)) ∧ route_raw.f t = some (pieces 47 (mkB X)) := by
  have hx : ∀ x ∈ pieces 47 (mkB X), x.size ≤ 1000000000 := fun x h => by have := pieces_size 47 (mkB X) x h; rw [mkB_size] at this; omega
  have hn : (pieces 47 (mkB X)).length ≤ 1000000000 := by have := pieces_len 47 (mkB X); rw [mkB_size] at this; omega
  subst ha
  constructor
  · refine Ev.congr (f := fun k => route_Split.l0 k [] q has (pieces 47 (mkB X)) ((pieces 47 (mkB X)).length : Int) ((0 : Nat) : Int)) (fun k => ?_) ?_
    · unfold route_Split.f
      rw [if_neg (by omega), hcut]
      simp only [Option.bind_some]
      rw [cutPrefix1]
      simp only [Option.bind_some, if_true]
      rw [tsplit (mkB X) 47 (by rw [mkB_size]; omega)]
      rfl
    · have := tsplit_l0 _ hx hn q has (pieces 47 (mkB X)).length 0 [] (by omega) (by omega) (by simp)
      rw [List.drop_zero, List.nil_append, if_pos hok] at this
      exact this
  · unfold route_raw.f
    rw [hcut]
    simp only [Option.bind_some]
    rw [trimPrefix1]
    simp only [Option.bind_some]
    rw [tsplit (mkB X) 47 (by rw [mkB_size]; omega)]
    rfl
end Go.Proofs.YtdbbgdgjmlcgcaaDoor.PRouteB
