/- The plain law of RouteOnce, first part: everything that is asked ends. -/
import Derived.Test.YtdbbgdgjmlcgcaaDoorPRoutex8
import Derived.Lib.IndexLaws
import Derived.Lib.SplitLaws
set_option linter.unusedVariables false
set_option linter.unusedSimpArgs false
namespace Go.Proofs.YtdbbgdgjmlcgcaaDoor.PRoute
open Go.RowKit Go.Proofs.YtdbbgdgjmlcgcaaDoorW.PrintWords Go.Proofs.YtdbbgdgjmlcgcaaDoorW.PrintLast Go.Proofs.YtdbbgdgjmlcgcaaDoorW.PrintMore

theorem w64 {i : Int} (h0 : -9223372036854775808 ≤ i) (h1 : i ≤ 9223372036854775807) : wrap64 i = i := by unfold wrap64; omega
theorem digit_some (c : Int) : ∃ v, text_digit.f c = some v := by
  unfold text_digit.f strings_IndexByte.f
  split
  · split <;> exact ⟨_, rfl⟩
  · exact ⟨_, rfl⟩

theorem unesc_l0 (s : ByteArray) (hs : s.size ≤ 1000000000) : ∀ (d : Nat) (i : Int) (out : List Int) (k : Nat), 0 ≤ i → i ≤ s.size + 2 → (s.size : Int) - i ≤ d → out.length ≤ i → 2 * d + 3 ≤ k → ∃ r, text_Unescape.l0 k s out i = some r := by
  intro d
  induction d with
  | zero =>
    intro i out k h0 h1 hd ho hk
    obtain ⟨k, rfl⟩ : ∃ m, k = m + 1 := ⟨k - 1, by omega⟩
    exact ⟨_, by simp only [text_Unescape.l0]; rw [if_neg (by omega)]⟩
  | succ d ih =>
    intro i out k h0 h1 hd ho hk
    obtain ⟨k, rfl⟩ : ∃ m, k = m + 1 := ⟨k - 1, by omega⟩
    by_cases hlt : i < (s.size : Int)
    case neg => exact ⟨_, by simp only [text_Unescape.l0]; rw [if_neg hlt]⟩
    have e1 : wrap64 (i + 1) = i + 1 := w64 (by omega) (by omega)
    have e2 : wrap64 (i + 2) = i + 2 := w64 (by omega) (by omega)
    have e3 : wrap64 (i + 2 + 1) = i + 2 + 1 := w64 (by omega) (by omega)
    simp only [text_Unescape.l0]
    rw [if_pos hlt, if_pos h0, e1, e2]
    by_cases h37 : bt s i = 37
    · rw [if_pos h37]
      obtain ⟨k, rfl⟩ : ∃ m, k = m + 1 := ⟨k - 1, by omega⟩
      have ht : ∃ r, text_Unescape.j1 (k + 1) s out i true = some r := ⟨_, by simp only [text_Unescape.j1]; rw [if_pos trivial]⟩
      by_cases hge : i + 2 ≥ (s.size : Int)
      · rw [if_pos hge]
        exact ht
      · rw [if_neg hge, if_pos (show 0 ≤ i + 1 by omega), if_pos (show i + 1 < (s.size : Int) by omega)]
        obtain ⟨v1, hv1⟩ := digit_some (bt s (i + 1))
        obtain ⟨v2, hv2⟩ := digit_some (bt s (i + 2))
        rw [hv1]
        simp only [Option.bind_some]
        by_cases hn : v1 < 0
        · rw [if_pos hn]
          exact ht
        · rw [if_neg hn, if_pos (show 0 ≤ i + 2 by omega), if_pos (show i + 2 < (s.size : Int) by omega), hv2]
          simp only [Option.bind_some]
          by_cases hn2 : v2 < 0
          · rw [decide_eq_true hn2]
            exact ht
          · rw [decide_eq_false hn2]
            obtain ⟨r, hr⟩ := ih (i + 2 + 1) (out ++ [(Go.bits .or .i64 (wrap64 (v1 * 16)) v2) % 256]) k (by omega) (by omega) (by omega) (by simp; omega) (by omega)
            refine ⟨r, ?_⟩
            simp only [text_Unescape.j1]
            rw [if_neg (by decide), e1, e2, if_pos (show 0 ≤ i + 1 by omega), if_pos (show i + 1 < (s.size : Int) by omega), hv1]
            simp only [Option.bind_some]
            rw [if_pos (show 0 ≤ i + 2 by omega), if_pos (show i + 2 < (s.size : Int) by omega), hv2]
            simp only [Option.bind_some]
            rw [if_pos (by omega), e3]
            exact hr
    · rw [if_neg h37, if_pos (by omega)]
      exact ih (i + 1) _ k (by omega) (by omega) (by omega) (by simp; omega) (by omega)
theorem unesc_some (s : ByteArray) (hs : s.size ≤ 1000000000) (k : Nat) (hk : 2 * s.size + 3 ≤ k) : ∃ r, text_Unescape.f k s = some r :=
  unesc_l0 s hs s.size 0 [] k (by omega) (by omega) (by omega) (by simp) hk

theorem extract_size_le (s : ByteArray) (a b : Nat) : (s.extract a b).size ≤ s.size := by
  rw [ByteArray.size_extract]; omega
theorem splitB_sizes (sep : ByteArray) : ∀ (n : Nat) (s : ByteArray) (x : ByteArray), x ∈ Lib.splitB sep 0 n s → x.size ≤ s.size
  | 0, s, x, h => by
    obtain rfl : x = s := by simpa [Lib.splitB] using h
    exact Nat.le_refl _
  | n + 1, s, x, h => by
    unfold Lib.splitB at h
    split at h
    · obtain rfl : x = s := by simpa using h
      exact Nat.le_refl _
    · rcases List.mem_cons.1 h with rfl | h
      · exact extract_size_le _ _ _
      · exact Nat.le_trans (splitB_sizes sep n _ x h) (extract_size_le _ _ _)
theorem split_some (s sep : ByteArray) (h1 : sep.size = 1) (hs : s.size < 4294967281) : ∃ l, strings_Split.f s sep = some l ∧ (∀ x ∈ l, x.size ≤ s.size) ∧ l.length ≤ s.size + 1 := by
  refine ⟨_, by unfold strings_Split.f strings_genSplit.f; rw [if_pos ⟨h1, hs, rfl, rfl⟩]; rfl, fun x hx => splitB_sizes sep _ s x hx, ?_⟩
  rw [Lib.splitB_all sep (Nat.le_of_eq h1.symm) 0 _ s rfl]
  have := Lib.countB_le sep (Nat.le_of_eq h1.symm) s.size s (Nat.le_refl _)
  omega
theorem indexByte_lt (l : List UInt8) (c : UInt8) : Lib.indexByte l c < 0 ∨ (0 ≤ Lib.indexByte l c ∧ Lib.indexByte l c < l.length) := by
  have h := Lib.indexByte_ge l c
  by_cases h0 : Lib.indexByte l c < 0
  · exact .inl h0
  · obtain ⟨o, ho⟩ : ∃ o : Nat, Lib.indexByte l c = o := ⟨(Lib.indexByte l c).toNat, by omega⟩
    have := (Lib.indexByte_some ho).1
    have := (List.getElem?_eq_some_iff.1 this).1
    omega
theorem cut_some (s sep : ByteArray) (h1 : sep.size = 1) (hs : s.size ≤ 1000000000) : ∃ r, strings_Cut.f s sep = some r ∧ r.1.size ≤ s.size ∧ r.2.1.size ≤ s.size := by
  unfold strings_Cut.f stringslite_Cut.f stringslite_Index.f
  rw [if_pos h1]
  simp only [Option.bind_some]
  have hl : s.data.toList.length = s.size := data_length s
  rcases indexByte_lt s.data.toList (sep.data.toList.headD 0) with h | ⟨h, h'⟩
  · rw [if_neg (by omega)]
    exact ⟨_, rfl, Nat.le_refl _, Nat.zero_le _⟩
  · rw [h1, w64 (by omega) (by omega), if_pos (by omega), if_pos (by omega), if_pos (by omega), if_pos (by omega), if_pos (by omega)]
    exact ⟨_, rfl, extract_size_le _ _ _, extract_size_le _ _ _⟩
theorem hasPrefix_some (s p : ByteArray) : ∃ b, stringslite_HasPrefix.f s p = some b ∧ (b = true → p.size ≤ s.size) := by
  unfold stringslite_HasPrefix.f
  by_cases h : (s.size : Int) ≥ (p.size : Int)
  · rw [if_pos h, if_pos (by omega), if_pos (by omega)]
    exact ⟨_, rfl, fun _ => by omega⟩
  · rw [if_neg h]
    exact ⟨_, rfl, fun h => by cases h⟩
/-- What is cut ahead: both ways of saying it. -/
theorem prefix_some (s p : ByteArray) : ∃ x b, strings_CutPrefix.f s p = some (x, b) ∧ strings_TrimPrefix.f s p = some x ∧ x.size ≤ s.size := by
  obtain ⟨b, hb, hle⟩ := hasPrefix_some s p
  unfold strings_CutPrefix.f stringslite_CutPrefix.f strings_TrimPrefix.f stringslite_TrimPrefix.f
  rw [hb]
  simp only [Option.bind_some]
  cases b with
  | true =>
    have := hle rfl
    rw [if_pos rfl, if_pos (by omega), if_pos (by omega), if_pos rfl, if_pos (by omega), if_pos (by omega)]
    exact ⟨_, _, rfl, rfl, extract_size_le _ _ _⟩
  | false => exact ⟨_, _, rfl, rfl, Nat.le_refl _⟩

theorem getD_mem {xs : List ByteArray} {i : Nat} (h : i < xs.length) : xs.getD i ByteArray.empty ∈ xs := by
  rw [List.getD_eq_getElem?_getD, List.getElem?_eq_getElem h]
  exact List.getElem_mem h
theorem split_l0 (q : ByteArray) (has : Bool) (xs : List ByteArray) (B : Nat) (hB : B ≤ 1000000000) (hx : ∀ x ∈ xs, x.size ≤ B) (hn : xs.length ≤ 1000000000) : ∀ (d i : Nat) (acc : List ByteArray) (k : Nat), i ≤ xs.length → xs.length - i ≤ d → acc.length = i → 2 * B + 3 + d + 1 ≤ k →
    ∃ r, route_Split.l0 k acc q has xs (xs.length : Int) (i : Int) = some r ∧ (r.2.2.2 = 0 → r.1.length = xs.length ∧ r.2.1 = q) := by
  intro d
  induction d with
  | zero =>
    intro i acc k hi hd ha hk
    obtain ⟨k, rfl⟩ : ∃ m, k = m + 1 := ⟨k - 1, by omega⟩
    exact ⟨_, by simp only [route_Split.l0]; rw [if_neg (by omega)], fun _ => ⟨by show acc.length = _; omega, rfl⟩⟩
  | succ d ih =>
    intro i acc k hi hd ha hk
    obtain ⟨k, rfl⟩ : ∃ m, k = m + 1 := ⟨k - 1, by omega⟩
    by_cases hlt : i < xs.length
    case neg => exact ⟨_, by simp only [route_Split.l0]; rw [if_neg (by omega)], fun _ => ⟨by show acc.length = _; omega, rfl⟩⟩
    have e1 : wrap64 ((i : Int) + 1) = ((i + 1 : Nat) : Int) := by rw [w64 (by omega) (by omega)]; rfl
    simp only [route_Split.l0]
    rw [if_pos (by omega), if_pos (by omega), if_pos (by omega), e1]
    have hsz := hx _ (getD_mem hlt)
    obtain ⟨⟨u, e⟩, hu⟩ := unesc_some (rdOf ByteArray.empty xs (i : Int)) (by show (xs.getD ((i : Int).toNat) _).size ≤ _; rw [Int.toNat_natCast]; omega) k (by have : (rdOf ByteArray.empty xs (i : Int)).size ≤ B := (by show (xs.getD ((i : Int).toNat) _).size ≤ _; rw [Int.toNat_natCast]; omega); omega)
    rw [hu]
    simp only [Option.bind_some]
    by_cases he : e = 0
    · rw [if_pos he, if_pos (by omega)]
      exact ih (i + 1) (acc ++ [u]) k (by omega) (by omega) (by simp; omega) (by omega)
    · rw [if_neg he]
      exact ⟨_, rfl, fun h => absurd h he⟩

/-- A target's pieces, and its pieces as they stand. -/
theorem route_split (t : ByteArray) : ∃ r, route_Split.f 20000 t = some r ∧ (r.2.2.2 = 0 → r.2.1.size ≤ 1024 ∧ ∃ ws, route_raw.f t = some ws ∧ r.1.length = ws.length) := by
  unfold route_Split.f
  by_cases h : (t.size : Int) > 1024
  · rw [if_pos h]
    exact ⟨_, rfl, fun h => by cases h⟩
  · rw [if_neg h]
    obtain ⟨⟨a, b, c⟩, hc, hs1, hs2⟩ := cut_some t ⟨#[63]⟩ rfl (by omega)
    obtain ⟨x, o, hp, htp, hxs⟩ := prefix_some a ⟨#[47]⟩
    obtain ⟨l, hl, hls, hll⟩ := split_some x ⟨#[47]⟩ rfl (by simp only at hs1; omega)
    rw [hc]
    simp only [Option.bind_some]
    rw [hp]
    simp only [Option.bind_some]
    by_cases ho : o = true
    · rw [if_pos ho, hl]
      simp only [Option.bind_some] at hs1 hs2 ⊢
      obtain ⟨r, hr, hr2⟩ := split_l0 b c l 1024 (by omega) (fun y hy => by have := hls y hy; omega) (by omega) l.length 0 [] 20000 (by omega) (by omega) rfl (by omega)
      refine ⟨r, hr, fun h0 => ?_⟩
      obtain ⟨h1, h2⟩ := hr2 h0
      refine ⟨by rw [h2]; omega, l, ?_, h1⟩
      unfold route_raw.f
      rw [hc]
      simp only [Option.bind_some]
      rw [htp]
      simp only [Option.bind_some]
      rw [hl]
      rfl
    · rw [if_neg ho]
      exact ⟨_, rfl, fun h => by cases h⟩

theorem query_l0 (xs : List ByteArray) (B : Nat) (hB : B ≤ 1000000000) (hx : ∀ x ∈ xs, x.size ≤ B) (hn : xs.length ≤ 1000000000) : ∀ (d i : Nat) (acc : List S32) (k : Nat), i ≤ xs.length → xs.length - i ≤ d → acc.length ≤ i → 2 * B + 3 + d + 1 ≤ k →
    ∃ r, route_Query.l0 k acc xs (xs.length : Int) (i : Int) = some r := by
  intro d
  induction d with
  | zero =>
    intro i acc k hi hd ha hk
    obtain ⟨k, rfl⟩ : ∃ m, k = m + 1 := ⟨k - 1, by omega⟩
    exact ⟨_, by simp only [route_Query.l0]; rw [if_neg (by omega)]⟩
  | succ d ih =>
    intro i acc k hi hd ha hk
    obtain ⟨k, rfl⟩ : ∃ m, k = m + 1 := ⟨k - 1, by omega⟩
    by_cases hlt : i < xs.length
    case neg => exact ⟨_, by simp only [route_Query.l0]; rw [if_neg (by omega)]⟩
    have e1 : wrap64 ((i : Int) + 1) = ((i + 1 : Nat) : Int) := by rw [w64 (by omega) (by omega)]; rfl
    simp only [route_Query.l0]
    rw [if_pos (by omega), if_pos (by omega), if_pos (by omega), e1]
    have hsz := hx _ (getD_mem hlt)
    have hrd : (rdOf ByteArray.empty xs (i : Int)).size ≤ B := by show (xs.getD ((i : Int).toNat) _).size ≤ _; rw [Int.toNat_natCast]; omega
    obtain ⟨⟨a, b, c⟩, hc, hs1, hs2⟩ := cut_some (rdOf ByteArray.empty xs (i : Int)) ⟨#[61]⟩ rfl (by omega)
    simp only at hs1 hs2
    rw [hc]
    simp only [Option.bind_some]
    obtain ⟨⟨u, e⟩, hu⟩ := unesc_some a (by omega) k (by omega)
    obtain ⟨⟨v, f⟩, hv⟩ := unesc_some b (by omega) k (by omega)
    by_cases hcc : c = true
    · rw [if_pos hcc, hu]
      simp only [Option.bind_some]
      rw [hv]
      simp only [Option.bind_some]
      by_cases he : e = 0
      · rw [if_pos he]
        by_cases hf : f = 0
        · rw [if_pos hf, if_pos (by omega)]
          exact ih (i + 1) _ k (by omega) (by omega) (by simp; omega) (by omega)
        · rw [if_neg hf]
          exact ⟨_, rfl⟩
      · rw [if_neg he]
        exact ⟨_, rfl⟩
    · rw [if_neg hcc]
      exact ⟨_, rfl⟩
theorem query_some (q : ByteArray) (hq : q.size ≤ 100000000) (k : Nat) (hk : 3 * q.size + 10 ≤ k) : ∃ r, route_Query.f k q = some r := by
  unfold route_Query.f
  split
  · exact ⟨_, rfl⟩
  · obtain ⟨l, hl, hls, hll⟩ := split_some q ⟨#[38]⟩ rfl (by omega)
    rw [hl]
    simp only [Option.bind_some]
    exact query_l0 l q.size (by omega) hls (by omega) l.length 0 [] k (by omega) (by omega) (by simp) (by omega)
theorem asked_some (a : Int) (b c : ByteArray) (d : Int) (e : Bool) (q : ByteArray) (has : Bool) (hq : q.size ≤ 100000000) (k : Nat) (hk : 3 * q.size + 11 ≤ k) : ∃ r, route_asked.f k a b c d e q has = some r := by
  obtain ⟨k, rfl⟩ : ∃ m, k = m + 1 := ⟨k - 1, by omega⟩
  obtain ⟨⟨l, x⟩, hl⟩ := query_some q hq k (by omega)
  have h0 : ∀ d, ∃ r, route_asked.j0 (k + 1) q has a b c d e = some r := by
    intro d
    simp only [route_asked.j0]
    by_cases h1 : has = true
    · rw [if_pos h1, hl]
      simp only [Option.bind_some]
      by_cases h2 : x = 0
      · rw [if_pos h2]
        by_cases h3 : a = 8
        · rw [if_pos h3]
          by_cases h4 : (l.length : Int) = 1
          · rw [if_pos h4, if_pos (by omega)]
            split
            · unfold text_Digits.f
              exact ⟨_, rfl⟩
            · exact ⟨_, rfl⟩
          · rw [if_neg h4]
            exact ⟨_, rfl⟩
        · rw [if_neg h3]
          exact ⟨_, rfl⟩
      · rw [if_neg h2]
        exact ⟨_, rfl⟩
    · rw [if_neg h1]
      exact ⟨_, rfl⟩
  unfold route_asked.f
  split
  · exact h0 1
  · exact h0 d
end Go.Proofs.YtdbbgdgjmlcgcaaDoor.PRoute
