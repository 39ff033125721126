/- The plain law of RouteEscapes: what is escaped is found again. -/
import Derived.Test.YtdbbgdgjmlcgcaaDoorELf
set_option linter.unusedVariables false
set_option linter.unusedSimpArgs false
namespace Go.Proofs.YtdbbgdgjmlcgcaaDoor.PRouteE
open Go.RowKit Go.Proofs.YtdbbgdgjmlcgcaaDoorW.PrintWords Go.Proofs.YtdbbgdgjmlcgcaaDoorW.PrintLast Go.Proofs.YtdbbgdgjmlcgcaaDoorW.PrintMore

/-- The digits. -/
def hexD : List UInt8 := [48, 49, 50, 51, 52, 53, 54, 55, 56, 57, 65, 66, 67, 68, 69, 70]
def hx (n : Nat) : UInt8 := hexD.getD n 0
/-- One byte, escaped or not. -/
def escB (plain : Bool) (c : UInt8) : List UInt8 := if plain then [c] else [37, hx (c.toNat / 16), hx (c.toNat % 16)]
/-- Small letters and digits. -/
def low (c : UInt8) : Bool := (decide (97 ≤ c.toNat) && decide (c.toNat ≤ 122)) || (decide (48 ≤ c.toNat) && decide (c.toNat ≤ 57))
/-- What the law makes of a name: bytes ahead of a place may stay. -/
def escL (at_ : Int) : Nat → List UInt8 → List UInt8
  | _, [] => []
  | j, c :: r => escB (decide ((j : Int) < at_) && low c) c ++ escL at_ (j + 1) r
theorem hexv_hx : ∀ n : Fin 16, hexv (hx n.val) = some n.val := by decide
theorem hx_ne : ∀ n : Fin 16, hx n.val ≠ 63 ∧ hx n.val ≠ 47 := by decide
theorem low_ne (c : UInt8) (h : low c = true) : c ≠ 63 ∧ c ≠ 47 ∧ c ≠ 37 := by
  refine ⟨?_, ?_, ?_⟩ <;> (rintro rfl; revert h; decide)
theorem escB_ne (p : Bool) (c : UInt8) : ∀ x ∈ escB (p && low c) c, x ≠ 63 ∧ x ≠ 47 := by
  intro x hx'
  unfold escB at hx'
  split at hx'
  · rename_i h
    obtain rfl := List.mem_singleton.1 hx'
    simp at h
    exact ⟨(low_ne _ h.2).1, (low_ne _ h.2).2.1⟩
  · have h1 : c.toNat / 16 < 16 := by have := UInt8.toNat_lt c; omega
    have h2 : c.toNat % 16 < 16 := by omega
    simp only [List.mem_cons, List.not_mem_nil, or_false] at hx'
    rcases hx' with rfl | rfl | rfl
    · decide
    · exact hx_ne ⟨_, h1⟩
    · exact hx_ne ⟨_, h2⟩
theorem escL_ne (at_ : Int) : ∀ (l : List UInt8) (j : Nat), ∀ x ∈ escL at_ j l, x ≠ 63 ∧ x ≠ 47
  | [], j, x, h => by cases h
  | c :: r, j, x, h => by
    rcases List.mem_append.1 h with h | h
    · exact escB_ne _ c x h
    · exact escL_ne at_ r (j + 1) x h
theorem escB_len (p : Bool) (c : UInt8) : (escB p c).length ≤ 3 := by unfold escB; split <;> simp
theorem escL_length (at_ : Int) : ∀ (l : List UInt8) (j : Nat), (escL at_ j l).length ≤ 3 * l.length
  | [], _ => by simp [escL]
  | c :: r, j => by
    have h1 := escL_length at_ r (j + 1)
    have h2 := escB_len (decide ((j : Int) < at_) && low c) c
    simp [escL]
    omega
theorem unesc_escL (at_ : Int) : ∀ (l : List UInt8) (j : Nat), unescS (escL at_ j l) = some l
  | [], _ => rfl
  | c :: r, j => by
    have ih := unesc_escL at_ r (j + 1)
    unfold escL
    by_cases hb : (decide ((j : Int) < at_) && low c) = true
    · rw [hb]
      have hne := (low_ne c (by simp at hb; exact hb.2)).2.2
      show unescS (c :: escL at_ (j + 1) r) = _
      rw [unescS_ne hne, ih]
      rfl
    · have hb' : (decide ((j : Int) < at_) && low c) = false := by simpa using hb
      rw [hb']
      show unescS (37 :: hx (c.toNat / 16) :: hx (c.toNat % 16) :: escL at_ (j + 1) r) = _
      have h1 : c.toNat / 16 < 16 := by have := UInt8.toNat_lt c; omega
      have h2 : c.toNat % 16 < 16 := by omega
      have d1 := hexv_hx ⟨_, h1⟩
      have d2 := hexv_hx ⟨_, h2⟩
      simp only at d1 d2
      unfold unescS
      rw [if_pos rfl]
      simp only [d1, d2]
      rw [ih, show c.toNat / 16 * 16 + c.toNat % 16 = c.toNat by omega]
      simp
theorem posn_none {c : UInt8} : ∀ {l : List UInt8}, c ∉ l → posn c l = none
  | [], _ => rfl
  | b :: l, h => by
    unfold posn
    rw [if_neg (fun e => h (by simp [e])), posn_none (fun h' => h (List.mem_cons_of_mem _ h'))]
    rfl
theorem cut_none (l : List UInt8) (h : (63 : UInt8) ∉ l) (hl : l.length ≤ 1000000000) : strings_Cut.f (mkB l) ⟨#[63]⟩ = some (mkB l, ⟨#[]⟩, false) := by
  rw [tcut (mkB l) 63 (by rw [mkB_size]; omega), mkB_data, posn_none h]
theorem unB_mkB {l m : List UInt8} (h : unescS l = some m) : unB (mkB l) = (mkB m, 0) := unB_some (by rw [mkB_data]; exact h)
theorem tl (l : List UInt8) : (mkB l).toList = l := toL _

/-- What of a name is found under sessions. -/
theorem find_session (E nm : List UInt8) (hE : ∀ x ∈ E, x ≠ 63 ∧ x ≠ 47) (hl : E.length ≤ 900) (hu : unescS E = some nm) :
    Ev (fun k => route_Find.f k GET (mkB (47 :: (bSess ++ 47 :: E)))) (if nm = [] then ((0 : Int), (⟨#[]⟩ : ByteArray), (⟨#[]⟩ : ByteArray), (0 : Int), false, (404 : Int)) else (2, mkB nm, ⟨#[]⟩, 0, false, 200)) := by
  have h63 : (63 : UInt8) ∉ 47 :: (bSess ++ 47 :: E) := by
    intro h
    simp only [List.mem_cons, List.mem_append] at h
    rcases h with h | h | h | h
    · exact absurd h (by decide)
    · exact absurd h (by decide)
    · exact absurd h (by decide)
    · exact (hE _ h).1 rfl
  have hp : pieces 47 (mkB (bSess ++ 47 :: E)) = [mkB bSess, mkB E] := by
    unfold pieces
    rw [mkB_data, pcs_hit 47 E bSess [] (by decide), pcs_miss 47 E [] (fun h => (hE _ h).2 rfl)]
    rfl
  have u1 : unB (mkB bSess) = (mkB bSess, 0) := unB_mkB (by decide)
  have u2 : unB (mkB E) = (mkB nm, 0) := unB_mkB hu
  have hsz : (mkB (47 :: (bSess ++ 47 :: E))).size ≤ 1024 := by rw [mkB_size]; simp [bSess]; omega
  obtain ⟨s1, s2⟩ := split_of (bSess ++ 47 :: E) ⟨#[]⟩ false _ _ hsz (by simp [bSess]; omega) (cut_none _ h63 (by simp [bSess]; omega)) rfl (by rw [hp]; simp [allOk, u1, u2])
  rw [hp] at s1 s2
  simp only [List.map_cons, List.map_nil, u1, u2] at s1
  have := find_of GET _ _ _ _ _ _ s1 s2 (by simp) (fun a b c d e => asked_no a b c d e _)
  refine Eq.mp (congrArg (Ev _) ?_) this
  have es : bSess ≠ [84] := by decide
  have es2 : bSess ≠ [85] := by decide
  have eu : bUsers ≠ [84] := by decide
  have eu2 : bUsers ≠ [85] := by decide
  have eT : (⟨#[84]⟩ : ByteArray).toList = [84] := toL _
  have eU : (⟨#[85]⟩ : ByteArray).toList = [85] := toL _
  have m1 : GET.toList ≠ POST.toList := by rw [GET, POST, toL, toL]; decide
  have m2 : DELETE.toList ≠ GET.toList := by rw [GET, DELETE, toL, toL]; decide
  by_cases hn : nm = []
  · simp [findS, WW, wres, fitL, tl, eT, eU, es, es2, eu, eu2, hn, m1, m2]
  · simp [findS, WW, wres, fitL, tl, eT, eU, es, es2, eu, eu2, hn, m1, m2]
/-- What of a name is found under users. -/
theorem find_user (E nm : List UInt8) (hE : ∀ x ∈ E, x ≠ 63 ∧ x ≠ 47) (hl : E.length ≤ 900) (hu : unescS E = some nm) :
    Ev (fun k => route_Find.f k GET (mkB (47 :: (bUsers ++ 47 :: (E ++ 47 :: bSess))))) (if nm = [] then ((0 : Int), (⟨#[]⟩ : ByteArray), (⟨#[]⟩ : ByteArray), (0 : Int), false, (404 : Int)) else (7, ⟨#[]⟩, mkB nm, 0, false, 200)) := by
  have h63 : (63 : UInt8) ∉ 47 :: (bUsers ++ 47 :: (E ++ 47 :: bSess)) := by
    intro h
    simp only [List.mem_cons, List.mem_append] at h
    rcases h with h | h | h | h | h | h
    · exact absurd h (by decide)
    · exact absurd h (by decide)
    · exact absurd h (by decide)
    · exact (hE _ h).1 rfl
    · exact absurd h (by decide)
    · exact absurd h (by decide)
  have hp : pieces 47 (mkB (bUsers ++ 47 :: (E ++ 47 :: bSess))) = [mkB bUsers, mkB E, mkB bSess] := by
    unfold pieces
    rw [mkB_data, pcs_hit 47 _ bUsers [] (by decide), pcs_hit 47 _ E [] (fun h => (hE _ h).2 rfl), pcs_miss 47 bSess [] (by decide)]
    rfl
  have u1 : unB (mkB bSess) = (mkB bSess, 0) := unB_mkB (by decide)
  have u3 : unB (mkB bUsers) = (mkB bUsers, 0) := unB_mkB (by decide)
  have u2 : unB (mkB E) = (mkB nm, 0) := unB_mkB hu
  have hsz : (mkB (47 :: (bUsers ++ 47 :: (E ++ 47 :: bSess)))).size ≤ 1024 := by rw [mkB_size]; simp [bSess, bUsers]; omega
  obtain ⟨s1, s2⟩ := split_of (bUsers ++ 47 :: (E ++ 47 :: bSess)) ⟨#[]⟩ false _ _ hsz (by simp [bSess, bUsers]; omega) (cut_none _ h63 (by simp [bSess, bUsers]; omega)) rfl (by rw [hp]; simp [allOk, u1, u2, u3])
  rw [hp] at s1 s2
  simp only [List.map_cons, List.map_nil, u1, u2, u3] at s1
  have := find_of GET _ _ _ _ _ _ s1 s2 (by simp) (fun a b c d e => asked_no a b c d e _)
  refine Eq.mp (congrArg (Ev _) ?_) this
  have es : bSess ≠ [84] := by decide
  have es2 : bSess ≠ [85] := by decide
  have eu : bUsers ≠ [84] := by decide
  have eu2 : bUsers ≠ [85] := by decide
  have eus : bUsers ≠ bSess := by decide
  have et : bTouch ≠ [84] := by decide
  have et2 : bTouch ≠ [85] := by decide
  have eT : (⟨#[84]⟩ : ByteArray).toList = [84] := toL _
  have eU : (⟨#[85]⟩ : ByteArray).toList = [85] := toL _
  have m1 : GET.toList ≠ POST.toList := by rw [GET, POST, toL, toL]; decide
  have m2 : DELETE.toList ≠ GET.toList := by rw [GET, DELETE, toL, toL]; decide
  by_cases hn : nm = []
  · simp [findS, WW, wres, fitL, tl, eT, eU, es, es2, eu, eu2, eus, et, et2, hn, m1, m2]
  · simp [findS, WW, wres, fitL, tl, eT, eU, es, es2, eu, eu2, eus, et, et2, hn, m1, m2]
end Go.Proofs.YtdbbgdgjmlcgcaaDoor.PRouteE
