/- The plain law of RouteOnce, third part: the law itself. -/
import Derived.Test.YtdbbgdgjmlcgcaaDoorPs
import Derived.Test.YtdbbgdgjmlcgcaaDoorPRoutex9
set_option linter.unusedVariables false
set_option linter.unusedSimpArgs false
namespace Go.Proofs.YtdbbgdgjmlcgcaaDoor.PRoute
open Go.RowKit Go.Proofs.YtdbbgdgjmlcgcaaDoorW.PrintWords Go.Proofs.YtdbbgdgjmlcgcaaDoorW.PrintLast Go.Proofs.YtdbbgdgjmlcgcaaDoorW.PrintMore

/-- The ways. -/
def theWays : List S54 := [⟨POST, ⟨#[115, 101, 115, 115, 105, 111, 110, 115]⟩, 1, false⟩, ⟨GET, ⟨#[115, 101, 115, 115, 105, 111, 110, 115, 47, 84]⟩, 2, false⟩,
  ⟨POST, ⟨#[115, 101, 115, 115, 105, 111, 110, 115, 47, 84, 47, 116, 111, 117, 99, 104]⟩, 3, false⟩, ⟨DELETE, ⟨#[115, 101, 115, 115, 105, 111, 110, 115, 47, 84]⟩, 4, false⟩,
  ⟨DELETE, ⟨#[117, 115, 101, 114, 115, 47, 85, 47, 115, 101, 115, 115, 105, 111, 110, 115]⟩, 5, false⟩, ⟨DELETE, ⟨#[115, 101, 115, 115, 105, 111, 110, 115]⟩, 6, false⟩,
  ⟨GET, ⟨#[117, 115, 101, 114, 115, 47, 85, 47, 115, 101, 115, 115, 105, 111, 110, 115]⟩, 7, false⟩, ⟨GET, ⟨#[97, 117, 100, 105, 116]⟩, 8, false⟩, ⟨GET, ⟨#[109, 101]⟩, 2, true⟩, ⟨GET, ⟨#[115, 116, 97, 116, 115]⟩, 9, false⟩]
theorem ways_eq : route_ways.f = some theWays := rfl
theorem ways_small : ∀ w ∈ theWays, w.f1.size < 4294967281 := by decide

/-- The methods of the ways that fit: one of six lists. -/
theorem classes (ws ps : List ByteArray) (hl : ps.length ≤ ws.length) :
    (theWays.filter (isW ws ps)).map (·.f0) = [] ∨ (theWays.filter (isW ws ps)).map (·.f0) = [POST, DELETE] ∨ (theWays.filter (isW ws ps)).map (·.f0) = [GET] ∨
    (theWays.filter (isW ws ps)).map (·.f0) = [GET, DELETE] ∨ (theWays.filter (isW ws ps)).map (·.f0) = [POST] ∨ (theWays.filter (isW ws ps)).map (·.f0) = [DELETE, GET] := by
  have h1 := fun k me => isW_one ws ps hl POST [115, 101, 115, 115, 105, 111, 110, 115] k me (by kernel_rfl) (by decide) (by decide)
  have h6 := fun k me => isW_one ws ps hl DELETE [115, 101, 115, 115, 105, 111, 110, 115] k me (by kernel_rfl) (by decide) (by decide)
  have h8 := fun k me => isW_one ws ps hl GET [97, 117, 100, 105, 116] k me (by kernel_rfl) (by decide) (by decide)
  have h9 := fun k me => isW_one ws ps hl GET [109, 101] k me (by kernel_rfl) (by decide) (by decide)
  have h10 := fun k me => isW_one ws ps hl GET [115, 116, 97, 116, 115] k me (by kernel_rfl) (by decide) (by decide)
  have h2 := isW_two ws ps hl
  have h3 := isW_touch ws ps hl
  have h5 := isW_users ws ps hl
  simp only [theWays, List.filter_cons, List.filter_nil, h1, h2, h3, h5, h6, h8, h9, h10]
  generalize (ws.getD 0 ByteArray.empty).toList = A0
  generalize (ws.getD 2 ByteArray.empty).toList = A2
  generalize (ps.getD 1 ByteArray.empty).toList = P1
  by_cases n1 : ps.length = 1
  · by_cases a1 : A0 = [115, 101, 115, 115, 105, 111, 110, 115]
    · simp [n1, a1]
    · by_cases a2 : A0 = [97, 117, 100, 105, 116]
      · simp [n1, a2]
      · by_cases a3 : A0 = [109, 101]
        · simp [n1, a3]
        · by_cases a4 : A0 = [115, 116, 97, 116, 115]
          · simp [n1, a4]
          · simp [n1, a1, a2, a3, a4]
  · by_cases n2 : ps.length = 2
    · by_cases a1 : A0 = sess <;> by_cases p1 : P1 = [] <;> simp [n2, a1, p1]
    · by_cases n3 : ps.length = 3
      · by_cases a1 : A0 = sess
        · by_cases p1 : P1 = [] <;> by_cases c1 : A2 = [116, 111, 117, 99, 104] <;> simp [n3, a1, p1, c1, sess]
        · by_cases a2 : A0 = [117, 115, 101, 114, 115]
          · by_cases p1 : P1 = [] <;> by_cases c1 : A2 = sess <;> simp [n3, a2, p1, c1, show ¬ (([117, 115, 101, 114, 115] : List UInt8) = sess) by decide]
          · simp [n3, a1, a2]
      · simp [n1, n2, n3]

theorem sort_nil : sortB [] = [] := by simp [sortB]
theorem sort_one (x : ByteArray) : sortB [x] = [x] := by simp [sortB]
theorem sort_pd : sortB [POST, DELETE] = [DELETE, POST] := by
  have hle : ¬ ([80, 79, 83, 84] : List UInt8) ≤ [68, 69, 76, 69, 84, 69] := by decide
  simp [sortB, POST, DELETE, List.mergeSort, List.MergeSort.Internal.splitInTwo, List.merge, hle]
theorem sort_gd : sortB [GET, DELETE] = [DELETE, GET] := by
  have hle : ¬ ([71, 69, 84] : List UInt8) ≤ [68, 69, 76, 69, 84, 69] := by decide
  simp [sortB, GET, DELETE, List.mergeSort, List.MergeSort.Internal.splitInTwo, List.merge, hle]
theorem sort_dg : sortB [DELETE, GET] = [DELETE, GET] := by
  have hle : ([68, 69, 76, 69, 84, 69] : List UInt8) ≤ [71, 69, 84] := by decide
  simp [sortB, GET, DELETE, List.mergeSort, List.MergeSort.Internal.splitInTwo, List.merge, hle]

/-- The law's loop. -/
theorem once_l0 (m t : ByteArray) (l : List ByteArray) (hn : l.length ≤ 10) (hs : ∀ i, i + 1 < l.length → Op.bytesLess (l.getD i ByteArray.empty).toList (l.getD (i + 1) ByteArray.empty).toList = true) (K : Nat)
    (hf : ∀ x ∈ l, ∃ r, (∀ k, K ≤ k → route_Find.f k x t = some r) ∧ (r.2.2.2.2.2 = 200 ∨ r.2.2.2.2.2 = 400))
    (hm : ∃ r, (∀ k, K ≤ k → route_Find.f k m t = some r) ∧ ((∃ x ∈ l, x.toList = m.toList) ∨ (r.2.2.2.2.2 = 405 ∧ 0 < l.length) ∨ ((r.2.2.2.2.2 = 404 ∨ r.2.2.2.2.2 = 400) ∧ l.length = 0))) :
    ∀ (d i : Nat) (has : Bool) (k : Nat), i ≤ l.length → l.length - i ≤ d → ((∃ j, j < i ∧ (l.getD j ByteArray.empty).toList = m.toList) → has = true) → K + 2 * d + 2 ≤ k →
    atriumlaw20_RouteOnce.l0 k m t l has l (l.length : Int) (i : Int) = some true := by
  have fin : ∀ (has : Bool) (k : Nat), ((∃ j, j < l.length ∧ (l.getD j ByteArray.empty).toList = m.toList) → has = true) → K + 1 ≤ k → atriumlaw20_RouteOnce.l0 k m t l has l (l.length : Int) (l.length : Int) = some true := by
    intro has k hh hk
    obtain ⟨k, rfl⟩ : ∃ m, k = m + 1 := ⟨k - 1, by omega⟩
    obtain ⟨r, hr, hc⟩ := hm
    simp only [atriumlaw20_RouteOnce.l0]
    rw [if_neg (by omega), hr k (by omega)]
    simp only [Option.bind_some]
    rcases hc with ⟨x, hx, hxm⟩ | ⟨h1, h2⟩ | ⟨h1, h2⟩
    · obtain ⟨j, hj, rfl⟩ := List.mem_iff_getElem.1 hx
      rw [if_pos (hh ⟨j, hj, by rw [List.getD_eq_getElem?_getD, List.getElem?_eq_getElem hj]; exact hxm⟩)]
    · by_cases hb : has = true
      · rw [if_pos hb]
      · rw [if_neg hb, if_pos h1, if_pos (by omega)]
    · by_cases hb : has = true
      · rw [if_pos hb]
      · rcases h1 with h1 | h1
        · rw [if_neg hb, if_neg (by omega), if_pos h1, h2]; rfl
        · rw [if_neg hb, if_neg (by omega), if_neg (by omega), if_pos h1, h2]; rfl
  intro d
  induction d with
  | zero =>
    intro i has k hi hd hh hk
    obtain rfl : i = l.length := by omega
    exact fin has k hh (by omega)
  | succ d ih =>
    intro i has k hi hd hh hk
    by_cases hlt : i < l.length
    case neg =>
      obtain rfl : i = l.length := by omega
      exact fin has k hh (by omega)
    obtain ⟨k, rfl⟩ : ∃ m, k = m + 1 := ⟨k - 1, by omega⟩
    have e1 : wrap64 ((i : Int) + 1) = ((i + 1 : Nat) : Int) := by rw [w64 (by omega) (by omega)]; rfl
    have hrd : rdOf ByteArray.empty l (i : Int) = l.getD i ByteArray.empty := by show l.getD ((i : Int).toNat) _ = _; rw [Int.toNat_natCast]
    obtain ⟨r, hr, hrs⟩ := hf _ (getD_mem hlt)
    have nx : ∀ has', ((∃ j, j < i + 1 ∧ (l.getD j ByteArray.empty).toList = m.toList) → has' = true) → ∀ k, K + 2 * d + 2 ≤ k → atriumlaw20_RouteOnce.l0 k m t l has' l (l.length : Int) ((i + 1 : Nat) : Int) = some true := fun has' h k hk => ih (i + 1) has' k (by omega) (by omega) h hk
    have hj1 : atriumlaw20_RouteOnce.j1 k m t l has (l.getD i ByteArray.empty) l (l.length : Int) (i : Int) false = some true := by
      obtain ⟨k, rfl⟩ : ∃ m, k = m + 1 := ⟨k - 1, by omega⟩
      simp only [atriumlaw20_RouteOnce.j1]
      rw [if_neg (by decide), hr k (by omega), e1]
      simp only [Option.bind_some]
      have both : (if has = true then atriumlaw20_RouteOnce.l0 k m t l true l (l.length : Int) ((i + 1 : Nat) : Int) else atriumlaw20_RouteOnce.l0 k m t l ((l.getD i ByteArray.empty).toList == m.toList) l (l.length : Int) ((i + 1 : Nat) : Int)) = some true := by
        by_cases hb : has = true
        · rw [if_pos hb]
          exact nx true (fun _ => rfl) k (by omega)
        · rw [if_neg hb]
          refine nx _ ?_ k (by omega)
          rintro ⟨j, hj, hjm⟩
          by_cases hji : j = i
          · subst hji
            rw [hjm]
            simp
          · exact absurd (hh ⟨j, by omega, hjm⟩) hb
      rcases hrs with h | h
      · rw [if_pos h]; exact both
      · rw [if_neg (by omega), if_pos h]; exact both
    simp only [atriumlaw20_RouteOnce.l0]
    rw [if_pos (by omega), if_pos (by omega), if_pos (by omega), hrd]
    by_cases h0 : (i : Int) > 0
    · have e2 : wrap64 ((i : Int) - 1) = ((i - 1 : Nat) : Int) := by rw [w64 (by omega) (by omega)]; omega
      have hrd2 : rdOf ByteArray.empty l ((i - 1 : Nat) : Int) = l.getD (i - 1) ByteArray.empty := by show l.getD (((i - 1 : Nat) : Int).toNat) _ = _; rw [Int.toNat_natCast]
      have hs2 := hs (i - 1) (by omega)
      rw [show i - 1 + 1 = i by omega] at hs2
      rw [if_pos h0, e2, if_pos (by omega), if_pos (by omega), hrd2, hs2]
      exact hj1
    · rw [if_neg h0]
      exact hj1

/-- The law. -/
theorem RouteOnce (m t : ByteArray) : ∃ k, atriumlaw20_RouteOnce.f k m t = some true := by
  obtain ⟨⟨ps, q, has, e⟩, hsp, h0⟩ := route_split t
  obtain ⟨M, hM0⟩ : ∃ M : Nat, M = 20000 := ⟨_, rfl⟩
  obtain ⟨N, hN⟩ : ∃ N : Nat, N = 30000 := ⟨_, rfl⟩
  rw [← hM0] at hsp
  have hSP : ∀ k, M ≤ k → route_Split.f k t = some (ps, q, has, e) := fun k hk => at_rounds (route_Split.mono t) hk hsp
  refine ⟨N, ?_⟩
  unfold atriumlaw20_RouteOnce.f atriumlaw20_awake.f
  simp only [Option.bind_some, if_true]
  by_cases he : e = 0
  · obtain ⟨hq, ws, hraw, hlen⟩ := h0 he
    simp only at hq hlen
    have hl : ps.length ≤ ws.length := by omega
    have hM : route_Methods.f N t = some (sortB ((theWays.filter (isW ws ps)).map (·.f0))) := by
      unfold route_Methods.f
      rw [hSP N (by omega)]
      simp only [Option.bind_some]
      rw [if_pos he, ways_eq]
      simp only [Option.bind_some]
      have := methods_l0 t ws ps hraw hl theWays ways_small (by decide) 10 0 [] N (by decide) (by decide) (by simp) (by omega)
      simpa using this
    have hF : ∀ x : ByteArray, ∃ r, (∀ k, M ≤ k → route_Find.f k x t = some r) ∧
        ((∃ w ∈ theWays, isW ws ps w = true ∧ w.f0.toList = x.toList) → r.2.2.2.2.2 = 200 ∨ r.2.2.2.2.2 = 400) ∧
        ((¬ ∃ w ∈ theWays, isW ws ps w = true ∧ w.f0.toList = x.toList) → r.2.2.2.2.2 = if theWays.any (isW ws ps) = true then 405 else 404) := by
      intro x
      obtain ⟨r, hr, h1, h2⟩ := find_l0 t ws ps hraw hl theWays ways_small (by decide) x q has hq 10 0 404 M (by decide) (by decide) (by omega)
      have hf : route_Find.f M x t = some r := by
        unfold route_Find.f
        rw [hSP M (by omega)]
        simp only [Option.bind_some]
        rw [if_pos he, ways_eq]
        simp only [Option.bind_some]
        exact hr
      exact ⟨r, fun k hk => at_rounds (route_Find.mono x t) hk hf, h1, h2⟩
    rw [hM]
    simp only [Option.bind_some]
    have hc := classes ws ps hl
    obtain ⟨ms, hms⟩ : ∃ ms, (theWays.filter (isW ws ps)).map (·.f0) = ms := ⟨_, rfl⟩
    have hmem : ∀ x : ByteArray, (∃ y ∈ ms, y.toList = x.toList) ↔ ∃ w ∈ theWays, isW ws ps w = true ∧ w.f0.toList = x.toList := by
      intro x
      rw [← hms]
      constructor
      · rintro ⟨y, hy, hyx⟩
        obtain ⟨w, hw, rfl⟩ := List.mem_map.1 hy
        obtain ⟨hw1, hw2⟩ := List.mem_filter.1 hw
        exact ⟨w, hw1, hw2, hyx⟩
      · rintro ⟨w, hw1, hw2, hyx⟩
        exact ⟨w.f0, List.mem_map.2 ⟨w, List.mem_filter.2 ⟨hw1, hw2⟩, rfl⟩, hyx⟩
    have hany : theWays.any (isW ws ps) = true ↔ ms ≠ [] := by
      rw [← hms]
      constructor
      · intro h h'
        obtain ⟨w, hw, hw2⟩ := List.any_eq_true.1 h
        have : w.f0 ∈ (theWays.filter (isW ws ps)).map (·.f0) := List.mem_map.2 ⟨w, List.mem_filter.2 ⟨hw, hw2⟩, rfl⟩
        rw [h'] at this
        cases this
      · intro h
        obtain ⟨y, hy⟩ := List.exists_mem_of_ne_nil _ h
        obtain ⟨w, hw, rfl⟩ := List.mem_map.1 hy
        obtain ⟨hw1, hw2⟩ := List.mem_filter.1 hw
        exact List.any_eq_true.2 ⟨w, hw1, hw2⟩
    rw [hms] at hc ⊢
    have main : ∀ l : List ByteArray, sortB ms = l → l.length ≤ 10 → l.length = ms.length → (∀ y, y ∈ l ↔ y ∈ ms) → (∀ i, i + 1 < l.length → Op.bytesLess (l.getD i ByteArray.empty).toList (l.getD (i + 1) ByteArray.empty).toList = true) →
        atriumlaw20_RouteOnce.l0 N m t (sortB ms) false (sortB ms) ((sortB ms).length : Int) 0 = some true := by
      intro l hl1 hl2 hl3 hl4 hl5
      rw [hl1]
      refine once_l0 m t l hl2 hl5 M (fun x hx => ?_) ?_ 10 0 false N (by omega) (by omega) (fun ⟨j, hj, _⟩ => by omega) (by omega)
      · obtain ⟨r, hr, h1, _⟩ := hF x
        exact ⟨r, hr, h1 ((hmem x).1 ⟨x, (hl4 x).1 hx, rfl⟩)⟩
      · obtain ⟨r, hr, h1, h2⟩ := hF m
        refine ⟨r, hr, ?_⟩
        by_cases hx : ∃ y ∈ ms, y.toList = m.toList
        · obtain ⟨y, hy, hym⟩ := hx
          exact .inl ⟨y, (hl4 y).2 hy, hym⟩
        · have h3 := h2 (fun h => hx ((hmem m).2 h))
          by_cases hne : ms = []
          · rw [if_neg (fun h => hany.1 h hne)] at h3
            exact .inr (.inr ⟨.inl h3, by rw [hl3, hne]; rfl⟩)
          · rw [if_pos (hany.2 hne)] at h3
            exact .inr (.inl ⟨h3, by rw [hl3]; exact List.length_pos_iff.2 hne⟩)
    have less : ∀ a b : ByteArray, Op.bytesLess a.toList b.toList = true → ∀ i, i + 1 < [a, b].length → Op.bytesLess ([a, b].getD i ByteArray.empty).toList ([a, b].getD (i + 1) ByteArray.empty).toList = true := by
      intro a b h i hi
      have : i = 0 := by simp at hi; omega
      subst this
      exact h
    have d1 : Op.bytesLess DELETE.toList POST.toList = true := by
      rw [show DELETE.toList = [68, 69, 76, 69, 84, 69] from tl _, show POST.toList = [80, 79, 83, 84] from tl _]; decide
    have d2 : Op.bytesLess DELETE.toList GET.toList = true := by
      rw [show DELETE.toList = [68, 69, 76, 69, 84, 69] from tl _, show GET.toList = [71, 69, 84] from tl _]; decide
    rcases hc with h | h | h | h | h | h
    · subst h; exact main [] sort_nil (by simp) (by simp) (by simp) (by simp)
    · subst h; exact main [DELETE, POST] sort_pd (by simp) (by simp) (by simp [or_comm]) (less _ _ d1)
    · subst h; exact main [GET] (sort_one _) (by simp) (by simp) (by simp) (by simp)
    · subst h; exact main [DELETE, GET] sort_gd (by simp) (by simp) (by simp [or_comm]) (less _ _ d2)
    · subst h; exact main [POST] (sort_one _) (by simp) (by simp) (by simp) (by simp)
    · subst h; exact main [DELETE, GET] sort_dg (by simp) (by simp) (by simp) (less _ _ d2)
  · have hM : route_Methods.f N t = some [] := by
      unfold route_Methods.f
      rw [hSP N (by omega)]
      simp only [Option.bind_some]
      rw [if_neg he]
    have hF : ∀ k, M ≤ k → route_Find.f k m t = some (0, ⟨#[]⟩, ⟨#[]⟩, 0, false, 400) := by
      intro k hk
      unfold route_Find.f
      rw [hSP k hk]
      simp only [Option.bind_some]
      rw [if_neg he]
    rw [hM]
    simp only [Option.bind_some]
    exact once_l0 m t [] (by simp) (by simp) M (fun x hx => by cases hx) ⟨_, hF, .inr (.inr ⟨.inr rfl, rfl⟩)⟩ 10 0 false N (by simp) (by simp) (fun ⟨j, hj, _⟩ => by omega) (by omega)
end Go.Proofs.YtdbbgdgjmlcgcaaDoor.PRoute
