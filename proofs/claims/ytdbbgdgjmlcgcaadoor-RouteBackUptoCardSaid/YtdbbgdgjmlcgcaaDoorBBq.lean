/- The plain law of RouteBack, second part: what is found of each way's target. -/
import Derived.Test.YtdbbgdgjmlcgcaaDoorBBp
set_option linter.unusedVariables false
set_option linter.unusedSimpArgs false
namespace Go.Proofs.YtdbbgdgjmlcgcaaDoor.PRouteB
open Go.RowKit Go.Proofs.YtdbbgdgjmlcgcaaDoorW.PrintWords Go.Proofs.YtdbbgdgjmlcgcaaDoorW.PrintLast Go.Proofs.YtdbbgdgjmlcgcaaDoorW.PrintMore

abbrev Ask : Type := Int → ByteArray → ByteArray → Int → Bool → Bool × Int × ByteArray × ByteArray × Int × Bool
def ask0 : Ask := fun a b c d e => (true, a, b, c, (if a = 8 then 1 else d), e)
theorem posn_none {c : UInt8} : ∀ {l : List UInt8}, c ∉ l → posn c l = none
  | [], _ => rfl
  | b :: l, h => by
    unfold posn
    rw [if_neg (fun e => h (by simp [e])), posn_none (fun h' => h (List.mem_cons_of_mem _ h'))]
    rfl
theorem posn_hit {c : UInt8} {r : List UInt8} : ∀ {l : List UInt8}, c ∉ l → posn c (l ++ c :: r) = some l.length
  | [], _ => by simp [posn]
  | b :: l, h => by
    have hb : ¬ b = c := fun e => h (by simp [e])
    simp only [List.cons_append, posn, if_neg hb]
    rw [posn_hit (fun h' => h (List.mem_cons_of_mem _ h'))]
    rfl
theorem cut_none (c : UInt8) (l : List UInt8) (h : c ∉ l) (hl : l.length ≤ 1000000000) : strings_Cut.f (mkB l) ⟨#[c]⟩ = some (mkB l, ⟨#[]⟩, false) := by
  rw [tcut (mkB l) c (by rw [mkB_size]; omega), mkB_data, posn_none h]
theorem cut_hit (c : UInt8) (l r : List UInt8) (h : c ∉ l) (hl : (l ++ c :: r).length ≤ 1000000000) : strings_Cut.f (mkB (l ++ c :: r)) ⟨#[c]⟩ = some (mkB l, mkB r, true) := by
  rw [tcut (mkB (l ++ c :: r)) c (by rw [mkB_size]; omega), mkB_data, posn_hit h]
  simp only
  rw [ext_mkB, ext_mkB, mkB_data, mkB_size]
  have e1 : ((l ++ c :: r).drop 0).take (l.length - 0) = l := by simp
  have e2 : ((l ++ c :: r).drop (l.length + 1)).take ((l ++ c :: r).length - (l.length + 1)) = r := by
    have : (l ++ c :: r).drop (l.length + 1) = r := by
      rw [show l ++ c :: r = (l ++ [c]) ++ r by simp]
      exact List.drop_left' (by simp)
    rw [this, List.take_of_length_le (by rw [List.length_append, List.length_cons]; omega)]
  rw [e1, e2]
theorem unB_mkB {l m : List UInt8} (h : unescS l = some m) : unB (mkB l) = (mkB m, 0) := unB_some (by rw [mkB_data]; exact h)
theorem tl (l : List UInt8) : (mkB l).toList = l := toL _

section
variable (m : ByteArray)
/-- One word. -/
theorem path1 (W : List UInt8) (h63 : (63 : UInt8) ∉ W) (h47 : (47 : UInt8) ∉ W) (hu : unescS W = some W) (hl : W.length ≤ 20) :
    Ev (fun k => route_Find.f k m (mkB (47 :: W))) (findS m [mkB W] [mkB W] ask0 WW 404) := by
  have h : (63 : UInt8) ∉ 47 :: W := by
    intro h
    rcases List.mem_cons.1 h with h | h
    · exact absurd h (by decide)
    · exact h63 h
  have hp : pieces 47 (mkB W) = [mkB W] := by
    unfold pieces
    rw [mkB_data, pcs_miss 47 W [] h47]
    rfl
  have u := unB_mkB hu
  obtain ⟨s1, s2⟩ := split_of W ⟨#[]⟩ false _ _ (by rw [mkB_size]; simp; omega) (by omega) (cut_none 63 _ h (by simp; omega)) rfl (by rw [hp]; simp [allOk, u])
  rw [hp] at s1 s2
  simp only [List.map_cons, List.map_nil, u] at s1
  exact find_of m _ _ _ _ _ _ s1 s2 (by simp) (fun a b c d e => asked_no a b c d e _)
/-- A word, and a name. -/
theorem path2 (E nm : List UInt8) (hE : ∀ x ∈ E, x ≠ 63 ∧ x ≠ 47) (hu : unescS E = some nm) (hsz : (47 :: (bSess ++ 47 :: E)).length ≤ 1024) :
    Ev (fun k => route_Find.f k m (mkB (47 :: (bSess ++ 47 :: E)))) (findS m [mkB bSess, mkB E] [mkB bSess, mkB nm] ask0 WW 404) := by
  have h63 : (63 : UInt8) ∉ 47 :: (bSess ++ 47 :: E) := by
    intro h
    simp only [List.mem_cons, List.mem_append] at h
    rcases h with h | h | h | h
    · exact absurd h (by decide)
    · exact absurd h (by decide)
    · exact absurd h (by decide)
    · exact (hE _ h).1 rfl
  have hp : pieces 47 (mkB (bSess ++ 47 :: E)) = [mkB bSess, mkB E] := by
    unfold pieces
    rw [mkB_data, pcs_hit 47 E bSess [] (by decide), pcs_miss 47 E [] (fun h => (hE _ h).2 rfl)]
    rfl
  have u1 : unB (mkB bSess) = (mkB bSess, 0) := unB_mkB (by decide)
  have u2 : unB (mkB E) = (mkB nm, 0) := unB_mkB hu
  obtain ⟨s1, s2⟩ := split_of (bSess ++ 47 :: E) ⟨#[]⟩ false _ _ (by rw [mkB_size]; exact hsz) (by rw [List.length_cons] at hsz; omega) (cut_none 63 _ h63 (by omega)) rfl (by rw [hp]; simp [allOk, u1, u2])
  rw [hp] at s1 s2
  simp only [List.map_cons, List.map_nil, u1, u2] at s1
  exact find_of m _ _ _ _ _ _ s1 s2 (by simp) (fun a b c d e => asked_no a b c d e _)
/-- A word, a name, a word. -/
theorem path3 (A B E nm : List UInt8) (hA : (63 : UInt8) ∉ A ∧ (47 : UInt8) ∉ A) (hB : (63 : UInt8) ∉ B ∧ (47 : UInt8) ∉ B) (uA : unescS A = some A) (uB : unescS B = some B) (hE : ∀ x ∈ E, x ≠ 63 ∧ x ≠ 47) (hu : unescS E = some nm)
    (hsz : (47 :: (A ++ 47 :: (E ++ 47 :: B))).length ≤ 1024) :
    Ev (fun k => route_Find.f k m (mkB (47 :: (A ++ 47 :: (E ++ 47 :: B))))) (findS m [mkB A, mkB E, mkB B] [mkB A, mkB nm, mkB B] ask0 WW 404) := by
  have h63 : (63 : UInt8) ∉ 47 :: (A ++ 47 :: (E ++ 47 :: B)) := by
    intro h
    simp only [List.mem_cons, List.mem_append] at h
    rcases h with h | h | h | h | h | h
    · exact absurd h (by decide)
    · exact hA.1 h
    · exact absurd h (by decide)
    · exact (hE _ h).1 rfl
    · exact absurd h (by decide)
    · exact hB.1 h
  have hp : pieces 47 (mkB (A ++ 47 :: (E ++ 47 :: B))) = [mkB A, mkB E, mkB B] := by
    unfold pieces
    rw [mkB_data, pcs_hit 47 _ A [] hA.2, pcs_hit 47 _ E [] (fun h => (hE _ h).2 rfl), pcs_miss 47 B [] hB.2]
    rfl
  have u1 : unB (mkB A) = (mkB A, 0) := unB_mkB uA
  have u3 : unB (mkB B) = (mkB B, 0) := unB_mkB uB
  have u2 : unB (mkB E) = (mkB nm, 0) := unB_mkB hu
  obtain ⟨s1, s2⟩ := split_of (A ++ 47 :: (E ++ 47 :: B)) ⟨#[]⟩ false _ _ (by rw [mkB_size]; exact hsz) (by rw [List.length_cons] at hsz; omega) (cut_none 63 _ h63 (by omega)) rfl (by rw [hp]; simp [allOk, u1, u2, u3])
  rw [hp] at s1 s2
  simp only [List.map_cons, List.map_nil, u1, u2, u3] at s1
  exact find_of m _ _ _ _ _ _ s1 s2 (by simp) (fun a b c d e => asked_no a b c d e _)
end
def bFrom : List UInt8 := [102, 114, 111, 109]
/-- The query of a number. -/
theorem query_from (N : List UInt8) (hN : ∀ c ∈ N, c ≠ 38 ∧ c ≠ 37) (hl : N.length ≤ 1000) : Ev (fun k => route_Query.f k (mkB (bFrom ++ 61 :: N))) ([(⟨mkB bFrom, mkB N⟩ : S32)], (0 : Int)) := by
  have huN : unescS N = some N := by
    clear hl
    induction N with
    | nil => rfl
    | cons c r ih =>
      rw [unescS_ne (hN c (by simp)).2, ih (fun x hx => hN x (by simp [hx]))]
      rfl
  have h38 : (38 : UInt8) ∉ bFrom ++ 61 :: N := by
    intro h
    simp only [List.mem_cons, List.mem_append] at h
    rcases h with h | h | h
    · exact absurd h (by decide)
    · exact absurd h (by decide)
    · exact (hN _ h).1 rfl
  have hp : pieces 38 (mkB (bFrom ++ 61 :: N)) = [mkB (bFrom ++ 61 :: N)] := by
    unfold pieces
    rw [mkB_data, pcs_miss 38 _ [] h38]
    rfl
  have hsz : (bFrom ++ 61 :: N).length ≤ 1100 := by simp [bFrom]; omega
  have hcut := cut_hit 61 bFrom N (by decide) (by omega)
  have u1 := tun (mkB bFrom) (by rw [mkB_size]; decide)
  have u2 := tun (mkB N) (by rw [mkB_size]; omega)
  rw [unB_mkB (show unescS bFrom = some bFrom by decide)] at u1
  rw [unB_mkB huN] at u2
  have last : Ev (fun k => route_Query.l0 k [(⟨mkB bFrom, mkB N⟩ : S32)] [mkB (bFrom ++ 61 :: N)] (([mkB (bFrom ++ 61 :: N)] : List ByteArray).length : Int) 1) ([(⟨mkB bFrom, mkB N⟩ : S32)], (0 : Int)) :=
    Ev.step (fun k => by simp only [route_Query.l0]; rw [if_neg (by simp)]) (Ev.now _)
  refine Ev.congr (f := fun k => route_Query.l0 k [] [mkB (bFrom ++ 61 :: N)] (([mkB (bFrom ++ 61 :: N)] : List ByteArray).length : Int) 0) (fun k => ?_) ?_
  · unfold route_Query.f
    rw [if_neg (by rw [tl]; simp [bFrom]), tsplit _ 38 (by rw [mkB_size]; omega), hp]
    rfl
  · refine Ev.step (f := fun k => (text_Unescape.f k (mkB bFrom)).bind fun bt184 => ((text_Unescape.f k (mkB N)).bind fun bt186 => (if bt184.2 = 0 then (if bt186.2 = 0 then (route_Query.l0 k [(⟨bt184.1, bt186.1⟩ : S32)] [mkB (bFrom ++ 61 :: N)] (([mkB (bFrom ++ 61 :: N)] : List ByteArray).length : Int) 1) else (some (([] : List (S32)), (150 : Int)))) else (some (([] : List (S32)), (150 : Int)))))) (fun k => ?_) (Ev.bind u1 (Ev.bind u2 ?_))
    · simp only [route_Query.l0]
      rw [if_pos (by simp), if_pos (by simp), if_pos (by simp), show rdOf ByteArray.empty [mkB (bFrom ++ 61 :: N)] 0 = mkB (bFrom ++ 61 :: N) from rfl, hcut]
      simp only [Option.bind_some, if_true, List.length_nil, List.nil_append, if_pos (show (0 : Nat) < 4398046511104 by omega), show wrap64 (0 + 1) = 1 from by unfold wrap64; omega]
    · simp only [if_true]
      exact last
def askN (d : Int × Int) : Ask := fun a b c d' e => if a = 8 then (d.2 == 0, a, b, c, d.1, e) else (false, a, b, c, d', e)
theorem asked_from (N : List UInt8) (hN : ∀ c ∈ N, c ≠ 38 ∧ c ≠ 37) (hl : N.length ≤ 1000) (d : Int × Int) (hd : text_Digits.f (mkB N) 999999999 = some d) (a : Int) (b c : ByteArray) (d' : Int) (e : Bool) :
    Ev (fun k => route_asked.f k a b c d' e (mkB (bFrom ++ 61 :: N)) true) (askN d a b c d' e) := by
  have hq := query_from N hN hl
  have key : (mkB bFrom).toList = ([102, 114, 111, 109] : List UInt8) := tl _
  have hj : ∀ dd, Ev (fun k => route_asked.j0 k (mkB (bFrom ++ 61 :: N)) true a b c dd e) (if a = 8 then (d.2 == 0, a, b, c, d.1, e) else (false, a, b, c, dd, e)) := by
    intro dd
    refine Ev.step (f := fun k => (route_Query.f k (mkB (bFrom ++ 61 :: N))).bind fun bt191 => (if bt191.2 = 0 then (if a = 8 then (if (bt191.1.length : Int) = 1 then (if 0 < (bt191.1.length : Int) then (if ((rd_T32 bt191.1 0).f0).toList = ([102, 114, 111, 109] : List UInt8) then ((text_Digits.f ((rd_T32 bt191.1 0).f1) 999999999).bind fun bt197 => (some ((bt197.2 == 0), a, b, c, bt197.1, e))) else (some (false, a, b, c, dd, e))) else (none)) else (some (false, a, b, c, dd, e))) else (some (false, a, b, c, dd, e))) else (some (false, a, b, c, dd, e)))) (fun k => ?_) (Ev.bind hq ?_)
    · simp only [route_asked.j0]
      rw [if_pos trivial]
    · simp only [if_true]
      by_cases h : a = 8
      · simp only [if_pos h]
        have e0 : (rd_T32 [(⟨mkB bFrom, mkB N⟩ : S32)] 0) = ⟨mkB bFrom, mkB N⟩ := rfl
        simp only [e0, key, if_true, hd, Option.bind_some]
        exact Ev.now _
      · simp only [if_neg h]
        exact Ev.now _
  by_cases h : a = 8
  · refine Ev.congr (fun k => ?_) (by simpa [h, askN] using hj 1)
    unfold route_asked.f
    rw [if_pos h, h]
  · refine Ev.congr (fun k => ?_) (by simpa [h, askN] using hj d')
    unfold route_asked.f
    rw [if_neg h]
/-- The audit's target. -/
theorem pathq (m : ByteArray) (N : List UInt8) (hN : ∀ c ∈ N, c ≠ 38 ∧ c ≠ 37) (hl : N.length ≤ 1000) (d : Int × Int) (hd : text_Digits.f (mkB N) 999999999 = some d) :
    Ev (fun k => route_Find.f k m (mkB ((47 :: bAudit) ++ 63 :: (bFrom ++ 61 :: N)))) (findS m [mkB bAudit] [mkB bAudit] (askN d) WW 404) := by
  have hp : pieces 47 (mkB bAudit) = [mkB bAudit] := by decide
  have u : unB (mkB bAudit) = (mkB bAudit, 0) := unB_mkB (by decide)
  have hsz : ((47 :: bAudit) ++ 63 :: (bFrom ++ 61 :: N)).length ≤ 1024 := by simp [bAudit, bFrom]; omega
  obtain ⟨s1, s2⟩ := split_of bAudit (mkB (bFrom ++ 61 :: N)) true _ _ (by rw [mkB_size]; exact hsz) (by decide) (cut_hit 63 (47 :: bAudit) _ (by decide) (by omega)) rfl (by rw [hp]; simp [allOk, u])
  rw [hp] at s1 s2
  simp only [List.map_cons, List.map_nil, u] at s1
  exact find_of m _ _ _ _ _ _ s1 s2 (by simp) (fun a b c d' e => asked_from N hN hl d hd a b c d' e)
end Go.Proofs.YtdbbgdgjmlcgcaaDoor.PRouteB
