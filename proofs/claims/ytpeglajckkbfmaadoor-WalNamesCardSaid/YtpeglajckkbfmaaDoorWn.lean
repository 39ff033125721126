/- The names of logs' files: what the program does with them. -/
import Derived.Test.YtpeglajckkbfmaaDoorWd
import Derived.Test.YtpeglajckkbfmaaDoorShelf
import Derived.Lib.AtoiAllCases
import Derived.Lib.AtoiTie
import Derived.Lib.AppendIntMem
set_option linter.unusedVariables false
set_option linter.unusedSimpArgs false
namespace Go.Proofs.YtpeglajckkbfmaaDoor
open Go.RowKit

/-- What the listed variables hold. -/
structure Glob (w : World) : Prop where
  tab : Lib.TabIs Tryd.prog w "internal/strconv.uint64pow10" .u64 Lib.pow10Tab
  syn : ∃ tp p, w.var? Tryd.prog "strconv.ErrSyntax" = some #[.iface tp p]
  ran : ∃ tp p, w.var? Tryd.prog "strconv.ErrRange" = some #[.iface tp p]
theorem var_only {w w' : World} {n : String} {cs : Array Value} (h : Only (fun _ => False) w w') (hv : w.var? Tryd.prog n = some cs) : w'.var? Tryd.prog n = some cs := by
  unfold World.var? at hv ⊢
  cases hg : Tryd.prog.globalNamed n with
  | none => simp [hg] at hv
  | some g =>
    simp only [hg, Option.bind_some] at hv ⊢
    have hlt : g < w.heap.size := by
      rcases Nat.lt_or_ge g w.heap.size with h' | h'
      · exact h'
      · simp [Array.getElem?_eq_none h'] at hv
    rw [h.block g hlt (fun h => h)]
    exact hv
theorem Glob.only {w w' : World} (h : Glob w) (ho : Only (fun _ => False) w w') : Glob w' :=
  ⟨var_only ho h.tab, h.syn.imp fun _ ⟨p, hp⟩ => ⟨p, var_only ho hp⟩, h.ran.imp fun _ ⟨p, hp⟩ => ⟨p, var_only ho hp⟩⟩

theorem itoa_c (n : Int) (h0 : -9223372036854775808 ≤ n) (h1 : n ≤ 9223372036854775807) (w : World) (hg : Glob w) :
    Calls Tryd.prog 31 #[.int .i64 n] w fun e w' => e = .returned (.string (str (Lib.itoa n))) ∧ Only (fun _ => False) w w' :=
  (Tryd.strconv_Itoa n h0 h1 w hg.tab).mono fun e w' ⟨he, k, os, hw⟩ => ⟨he, by subst hw; exact Only.of_below (Lib.below_grow w.heap.size w (Nat.le_refl _) k os) _⟩
theorem repeat_c (s : List UInt8) (c : Nat) (w : World) (hc : c ≤ 9223372036854775807) (hs : s.length * c ≤ 140737488355328) :
    Calls Tryd.prog 32 #[.string (str s), .int .i64 c] w fun e w' => e = .returned (.string (str (Lib.repeatL s c))) ∧ Only (fun _ => False) w w' :=
  (Tryd.strings_Repeat (str s) c w hc hs).mono fun e w' ⟨he, hw⟩ => ⟨he, Only.of_below hw _⟩
theorem cutPrefix_c (s p : List UInt8) (w : World) :
    Calls Tryd.prog 15 #[.string (str s), .string (str p)] w fun e w' => e = .returned (.tuple #[.string (str (Lib.trimPrefix s p)), .bool (Lib.hasPrefix s p)]) ∧ w = w' :=
  (Tryd.strings_CutPrefix (str s) (str p) w).mono fun e w' ⟨he, hw⟩ => ⟨he, hw.symm⟩
theorem atoi_ok_c (s : List UInt8) (hs : s.length ≤ 140737488355328) (v : Int) (hv : Lib.atoiAll s = .ok v) (w : World) :
    Calls Tryd.prog 16 #[.string (str s)] w fun e w' => e = .returned (.tuple #[.int .i64 v, .nilIface]) ∧ Only (fun _ => False) w w' :=
  (Tryd.strconv_Atoi_ok (str s) (by show s.length ≤ _; omega) v hv w).mono fun e w' ⟨he, hw⟩ => ⟨he, by
    rcases hw with rfl | ⟨t, rfl⟩
    · exact Only.refl _ _
    · exact (Only.refl _ _).bytesW _ _⟩
theorem atoi_no_c (s : List UInt8) (hs : s.length ≤ 140737488355328) (hv : ∀ v, Lib.atoiAll s ≠ .ok v) (w : World) (hg : Glob w) :
    Calls Tryd.prog 16 #[.string (str s)] w fun e w' => (∃ (n : Int) (N : Nat), e = .returned (.tuple #[.int .i64 n, .iface 80 (.pointer (some ⟨N, 0, none⟩))])) ∧ Only (fun _ => False) w w' := by
  by_cases hr : Lib.atoiAll s = .range
  · obtain ⟨tp, p, hp⟩ := hg.ran
    exact (Tryd.strconv_Atoi_range_var (str s) (by show s.length ≤ _; omega) hr tp p w hp).mono fun e w' ⟨N, he, _, _, hb⟩ => ⟨⟨_, N, he⟩, Only.of_below hb _⟩
  · obtain ⟨tp, p, hp⟩ := hg.syn
    exact (Tryd.strconv_Atoi_other_var (str s) (by show s.length ≤ _; omega) hv hr tp p w hp).mono fun e w' ⟨N, he, _, _, hb⟩ => ⟨⟨_, N, he⟩, Only.of_below hb _⟩

theorem decDigits_length (u k : Nat) (h : u < 10 ^ k) (hk : 0 < k) : (Lib.decDigits u).length ≤ k := by
  induction k generalizing u with
  | zero => omega
  | succ k ih =>
    unfold Lib.decDigits
    split
    · simp
    · rename_i h10
      have hk0 : 0 < k := by
        rcases Nat.eq_zero_or_pos k with rfl | h'
        · simp at h; omega
        · exact h'
      have := ih (u / 10) (by rw [Nat.pow_succ] at h; omega) hk0
      simp
      omega
theorem itoa_length (n : Int) (h0 : 0 ≤ n) (h1 : n ≤ 9223372036854775807) : (Lib.itoa n).length ≤ 19 := by
  unfold Lib.itoa
  rw [if_neg (by omega)]
  exact decDigits_length _ 19 (by omega) (by omega)

/-- The name of a number behind a word. -/
def namedL (pre : List UInt8) (n : Int) : List UInt8 := if n < 0 then [] else pre ++ (Lib.repeatL [48] (6 - (Lib.itoa n).length) ++ Lib.itoa n)

set_option maxHeartbeats 400000 in
theorem named_any (pre : List UInt8) (hp : pre.length ≤ 1000) (n : Int) (h0 : -9223372036854775808 ≤ n) (h1 : n ≤ 9223372036854775807) (w : World) (hg : Glob w) :
    Calls Tryd.prog 17 #[.string (str pre), .int .i64 n] w fun e w' => e = .returned (.string (str (namedL pre n))) ∧ Only (fun _ => False) w w' := by
  by_cases hn : n < 0
  · have hN : Hid (namedL pre n = []) := by simp [namedL, hn, Hid]
    go_enter Tryd.func17, Tryd.ntmps17
    go_wp2
    go_ret
    exact ⟨by rw [hN.out]; rfl, Only.refl _ _⟩
  · have hlen := itoa_length n (by omega) h1
    have hN : Hid (namedL pre n = pre ++ (Lib.repeatL [48] (6 - (Lib.itoa n).length) ++ Lib.itoa n)) := by simp [namedL, hn, Hid]
    have hi := Lib.hid (itoa_c n h0 h1 w hg)
    generalize Lib.itoa n = d at *
    have hrl := Lib.repeatL_length [48] (6 - d.length)
    have hr := Lib.hid (fun w1 => repeat_c [48] (6 - d.length) w1 (by omega) (by simp <;> omega))
    have hrl' : (Lib.repeatL [48] (6 - d.length)).length ≤ 6 := by rw [hrl]; simp only [List.length_singleton]; omega
    clear hrl
    generalize Lib.repeatL [48] (6 - d.length) = r at *
    have es : ∀ l : List UInt8, (str l).size = l.length := fun _ => rfl
    have ha : ∀ l m : List UInt8, str l ++ str m = str (l ++ m) := str_append
    go_enter Tryd.func17, Tryd.ntmps17
    go_wp2_with fail
    refine hi.out.mono ?_
    rintro e w1 ⟨rfl, o1⟩
    have O1 := Lib.hid o1
    clear o1 hg
    go_wp2_with fail
    rw [show (max 0 (6 - (d.length : Int))) = ((6 - d.length : Nat) : Int) from by omega]
    refine (hr.out w1).mono ?_
    rintro e w2 ⟨rfl, o2⟩
    have O2 := Lib.hid (O1.out.trans o2)
    clear o2
    go_wp2
    go_ret
    exact ⟨by rw [hN.out, ← List.append_assoc]; rfl, O2.out⟩

/-- What wal.Number finds. -/
def walNum (l : List UInt8) : Int × Bool :=
  if Lib.hasPrefix l [119, 97, 108, 45] = true then
    match Lib.atoiAll (l.drop 4) with
    | .ok v => if v < 0 then (0, false) else if 2147483647 < v then (0, false) else if namedL [119, 97, 108, 45] v = l then (v, true) else (0, false)
    | _ => (0, false)
  else (0, false)

def WN (w : World) (x : Int × Bool) (e : Ending) (w' : World) : Prop := e = .returned (.tuple #[.int .i64 x.1, .bool x.2]) ∧ Only (fun _ => False) w w'

set_option maxHeartbeats 400000 in
theorem walNumber_not (l : List UInt8) (hl : l.length ≤ 140737488351232) (h : Lib.hasPrefix l [119, 97, 108, 45] = false) (w : World) (hg : Glob w) :
    Calls Tryd.prog 5 #[.string (str l)] w (WN w (0, false)) := by
  have hC := Lib.hid (cutPrefix_c l [119, 97, 108, 45])
  rw [h] at hC
  have htl : (Lib.trimPrefix l [119, 97, 108, 45]).length ≤ 140737488355328 := by
    unfold Lib.trimPrefix; split
    · simp; omega
    · omega
  generalize Lib.trimPrefix l [119, 97, 108, 45] = t at *
  clear h
  go_enter Tryd.func5, Tryd.ntmps5
  go_wp2_with fail
  refine (hC.out w).mono ?_
  rintro e w' ⟨rfl, rfl⟩
  go_wp2_with fail
  by_cases ha : ∃ v, Lib.atoiAll t = .ok v
  · obtain ⟨v, hv⟩ := ha
    refine (atoi_ok_c t htl v hv w).mono ?_
    rintro e w1 ⟨rfl, o1⟩
    have O1 := Lib.hid o1
    clear o1 hv hg
    go_wp2
    go_ret2
    exact ⟨rfl, O1.out⟩
  · refine (atoi_no_c t htl (fun v hv => ha ⟨v, hv⟩) w hg).mono ?_
    rintro e w1 ⟨⟨n, N, rfl⟩, o1⟩
    have O1 := Lib.hid o1
    clear o1 ha hg
    go_wp2
    go_ret2
    exact ⟨rfl, O1.out⟩
set_option maxHeartbeats 400000 in
theorem walNumber_bad (l : List UInt8) (hl : l.length ≤ 140737488351232) (h : Lib.hasPrefix l [119, 97, 108, 45] = true) (hn : ∀ v, Lib.atoiAll (l.drop 4) ≠ .ok v) (w : World) (hg : Glob w) :
    Calls Tryd.prog 5 #[.string (str l)] w (WN w (0, false)) := by
  have hC := Lib.hid (cutPrefix_c l [119, 97, 108, 45])
  rw [h, show Lib.trimPrefix l [119, 97, 108, 45] = l.drop 4 by simp [Lib.trimPrefix, h]] at hC
  have htl : (l.drop 4).length ≤ 140737488355328 := by simp; omega
  generalize l.drop 4 = t at *
  clear hl h
  go_enter Tryd.func5, Tryd.ntmps5
  go_wp2_with fail
  refine (hC.out w).mono ?_
  rintro e w' ⟨rfl, rfl⟩
  go_wp2_with fail
  refine (atoi_no_c t htl hn w hg).mono ?_
  rintro e w1 ⟨⟨n, N, rfl⟩, o1⟩
  have O1 := Lib.hid o1
  clear o1 hn hg
  go_wp2
  go_ret2
  exact ⟨rfl, O1.out⟩
set_option maxHeartbeats 400000 in
theorem walNumber_ok (l : List UInt8) (hl : l.length ≤ 140737488351232) (h : Lib.hasPrefix l [119, 97, 108, 45] = true) (v : Int) (hv : Lib.atoiAll (l.drop 4) = .ok v) (w : World) (hg : Glob w) :
    Calls Tryd.prog 5 #[.string (str l)] w (WN w (walNum l)) := by
  have hW : walNum l = if v < 0 then (0, false) else if 2147483647 < v then (0, false) else if namedL [119, 97, 108, 45] v = l then (v, true) else (0, false) := by simp [walNum, h, hv]
  have hC := Lib.hid (cutPrefix_c l [119, 97, 108, 45])
  rw [h, show Lib.trimPrefix l [119, 97, 108, 45] = l.drop 4 by simp [Lib.trimPrefix, h]] at hC
  have htl : (l.drop 4).length ≤ 140737488355328 := by simp; omega
  have hbd := Lib.atoiAll_bounds hv
  have HA := Lib.hid (atoi_ok_c _ htl v hv)
  have HN := Lib.hid (named_any [119, 97, 108, 45] (by decide) v hbd.1 hbd.2)
  clear hl h hv
  generalize l.drop 4 = t at *
  generalize namedL [119, 97, 108, 45] v = nm at *
  rw [hW]
  clear hW htl hbd
  by_cases h1 : v < 0
  · rw [if_pos h1]
    go_enter Tryd.func5, Tryd.ntmps5
    go_wp2_with fail
    refine (hC.out w).mono ?_
    rintro e w' ⟨rfl, rfl⟩
    go_wp2_with fail
    refine (HA.out w).mono ?_
    rintro e w1 ⟨rfl, o1⟩
    have O1 := Lib.hid o1
    clear o1 hg
    go_wp2
    go_ret2
    exact ⟨rfl, O1.out⟩
  · rw [if_neg h1]
    by_cases h2 : 2147483647 < v
    · rw [if_pos h2]
      go_enter Tryd.func5, Tryd.ntmps5
      go_wp2_with fail
      refine (hC.out w).mono ?_
      rintro e w' ⟨rfl, rfl⟩
      go_wp2_with fail
      refine (HA.out w).mono ?_
      rintro e w1 ⟨rfl, o1⟩
      have O1 := Lib.hid o1
      clear o1 hg
      go_wp2
      go_ret2
      exact ⟨rfl, O1.out⟩
    · rw [if_neg h2]
      by_cases h3 : nm = l
      · rw [if_pos h3]
        subst h3
        go_enter Tryd.func5, Tryd.ntmps5
        go_wp2_with fail
        refine (hC.out w).mono ?_
        rintro e w' ⟨rfl, rfl⟩
        go_wp2_with fail
        refine (HA.out w).mono ?_
        rintro e w1 ⟨rfl, o1⟩
        have O1 := Lib.hid o1
        have HG := Lib.hid (hg.only o1)
        clear o1 hg
        go_wp2_with fail
        refine (HN.out w1 HG.out).mono ?_
        rintro e w2 ⟨rfl, o2⟩
        have O2 := Lib.hid (O1.out.trans o2)
        clear o2
        go_wp2
        go_ret2
        exact ⟨rfl, O2.out⟩
      · rw [if_neg h3]
        have hne : ((str nm).toList == (str l).toList) = false := str_ne h3
        clear h3
        go_enter Tryd.func5, Tryd.ntmps5
        go_wp2_with fail
        refine (hC.out w).mono ?_
        rintro e w' ⟨rfl, rfl⟩
        go_wp2_with fail
        refine (HA.out w).mono ?_
        rintro e w1 ⟨rfl, o1⟩
        have O1 := Lib.hid o1
        have HG := Lib.hid (hg.only o1)
        clear o1 hg
        go_wp2_with fail
        refine (HN.out w1 HG.out).mono ?_
        rintro e w2 ⟨rfl, o2⟩
        have O2 := Lib.hid (O1.out.trans o2)
        clear o2
        go_wp2
        go_ret2
        exact ⟨rfl, O2.out⟩
theorem walNumber_any (l : List UInt8) (hl : l.length ≤ 140737488351232) (w : World) (hg : Glob w) :
    Calls Tryd.prog 5 #[.string (str l)] w (WN w (walNum l)) := by
  cases h : Lib.hasPrefix l [119, 97, 108, 45] with
  | false =>
    have e : walNum l = (0, false) := by simp [walNum, h]
    rw [e]; exact walNumber_not l hl h w hg
  | true =>
    rcases hv : Lib.atoiAll (l.drop 4) with v | _ | _
    · exact walNumber_ok l hl h v hv w hg
    · have e : walNum l = (0, false) := by simp [walNum, h, hv]
      rw [e]; exact walNumber_bad l hl h (by simp [hv]) w hg
    · have e : walNum l = (0, false) := by simp [walNum, h, hv]
      rw [e]; exact walNumber_bad l hl h (by simp [hv]) w hg

/-- The reference's decimal digits, six at least. -/
def pad6 : Nat → Nat → Nat → List UInt8 → List UInt8
  | 0, _, _, s => s
  | f + 1, i, n, s => if i < 6 ∨ 0 < n then pad6 f (i + 1) (n / 10) (UInt8.ofNat (48 + n % 10) :: s) else s
theorem pad6_stop (f i n : Nat) (s : List UInt8) (h6 : 6 ≤ i) (hn : n = 0) : pad6 f i n s = s := by
  cases f with
  | zero => rfl
  | succ f => simp [pad6, hn]; omega
def refNameL (pre : List UInt8) (n : Int) : List UInt8 := if n < 0 then [] else pre ++ pad6 30 0 n.toNat []

set_option maxHeartbeats 400000 in
theorem refName_any (pre : List UInt8) (hp : pre.length ≤ 1000) (n : Int) (h1 : n ≤ 9223372036854775807) (w : World) :
    Calls Tryd.prog 10 #[.string (str pre), .int .i64 n] w fun e w' => e = .returned (.string (str (refNameL pre n))) ∧ Only (fun _ => False) w w' := by
  by_cases hn : n < 0
  · have hN : Hid (refNameL pre n = []) := by simp [refNameL, hn, Hid]
    go_enter Tryd.func10, Tryd.ntmps10
    go_wp2
    go_ret
    exact ⟨by rw [hN.out]; rfl, Only.refl _ _⟩
  · obtain ⟨m, rfl⟩ := Int.eq_ofNat_of_zero_le (show 0 ≤ n by omega)
    have hN : Hid (refNameL pre m = pre ++ pad6 30 0 m []) := by simp [refNameL, hn, Hid]
    have es : ∀ l : List UInt8, (str l).size = l.length := fun _ => rfl
    have ha : ∀ l m : List UInt8, str l ++ str m = str (l ++ m) := str_append
    go_enter Tryd.func10, Tryd.ntmps10
    go_wp2_with fail
    go_loopw [1, 5, 6] (fun a b c wr => ∃ (i q : Nat) (l : List UInt8), c = .int .i64 i ∧ a = .int .i64 q ∧ b = .string (str l) ∧ Hid (q = m / 10 ^ i) ∧ i ≤ 25 ∧ l.length ≤ 25 ∧ Hid (l.length = i) ∧ Hid (pad6 30 0 m [] = pad6 (30 - i) i q l) ∧ Only (fun _ => False) w wr) (fun _ _ c _ => 30 - (intOf c).toNat)
    case atStart => exact ⟨0, m, [], rfl, rfl, rfl, by simp [Hid], by omega, by simp, by simp [Hid], rfl, Only.refl _ _⟩
    case round =>
      obtain ⟨i, q, l, rfl, rfl, rfl, hq, hi, hl, hli, hpad, ho⟩ := hrel
      have HO := Lib.hid ho
      clear ho
      have hqm : (q : Int) ≤ 9223372036854775807 := by have h2 := hq.out; have h3 := Nat.div_le_self m (10 ^ i); omega
      by_cases hgo : i < 6 ∨ 0 < q
      · have hi18 : i ≤ 18 := by
          rcases hgo with h | h
          · omega
          · have h2 := hq.out
            have h3 : 10 ^ i ≤ m := by
              rcases Nat.lt_or_ge m (10 ^ i) with h' | h'
              · rw [Nat.div_eq_of_lt h'] at h2; omega
              · exact h'
            have h4 : 10 ^ i < 10 ^ 19 := by omega
            have := (Nat.pow_lt_pow_iff_right (a := 10) (by omega)).1 h4
            omega
        have hstep : Hid (pad6 (30 - i) i q l = pad6 (30 - (i + 1)) (i + 1) (q / 10) (UInt8.ofNat (48 + q % 10) :: l)) := by
          show pad6 (30 - i) i q l = _
          obtain ⟨f, hf⟩ : ∃ f, 30 - i = f + 1 := ⟨29 - i, by omega⟩
          have hf2 : 30 - (i + 1) = f := by omega
          rw [hf, hf2]
          simp [pad6, hgo]
        have hdiv : Hid (q / 10 = m / 10 ^ (i + 1)) := by
          show q / 10 = _
          rw [hq.out, Nat.pow_succ, Nat.div_div_eq_div_mul]
        have ed : (48 + (q : Int) % 10) = ((UInt8.ofNat (48 + q % 10)).toNat : Int) := by simp; omega
        have kc : ∀ W : World, (convert 23 9 (.slice (some ⟨W.heap.size, 0, none⟩) 1 1)).run Tryd.prog (W.alloc (.cells #[.int .u8 (48 + (q : Int) % 10)] 5)) = .ok (.string (str [UInt8.ofNat (48 + q % 10)])) (W.alloc (.cells #[.int .u8 (48 + (q : Int) % 10)] 5)) := fun W => by
          rw [ed]; exact conv_one Tryd.underlying23 Tryd.underlying5 Tryd.underlying9 _ W
        clear ed
        generalize UInt8.ofNat (48 + q % 10) = c at *
        have hc1 : ((i : Int) < 6) ∨ ¬ ((i : Int) < 6) := by omega
        rcases hc1 with h6 | h6
        · clear hgo
          go_wp2
          go_roundw
          case rel => exact ⟨i + 1, q / 10, c :: l, by go_num, by go_num, rfl, hdiv, by omega, by simp; have := hli.out; omega, by show (c :: l).length = i + 1; simp [hli.out], by show _ = _; rw [hpad.out, hstep.out], HO.out.alloc _⟩
          case measure => simp [intOf]; omega
        · have h0 : 0 < q := by omega
          clear hgo
          go_wp2
          go_roundw
          case rel => exact ⟨i + 1, q / 10, c :: l, by go_num, by go_num, rfl, hdiv, by omega, by simp; have := hli.out; omega, by show (c :: l).length = i + 1; simp [hli.out], by show _ = _; rw [hpad.out, hstep.out], HO.out.alloc _⟩
          case measure => simp [intOf]; omega
      · obtain ⟨h6, h0⟩ : 6 ≤ i ∧ q = 0 := by omega
        subst h0
        have hend : Hid (pad6 30 0 m [] = l) := by
          show pad6 30 0 m [] = l
          rw [hpad.out]
          exact pad6_stop _ _ _ _ h6 rfl
        clear hgo
        go_wp2
        go_ret
        exact ⟨by rw [hN.out, hend.out]; rfl, HO.out⟩

def wal : List UInt8 := [119, 97, 108, 45]
/-- What the reference's Number finds. -/
def refNumL (l : List UInt8) : Int × Bool :=
  if l.length < 4 ∨ 14 < l.length then (0, false)
  else match Lib.decFrom 0 (l.drop 4) with
    | none => (0, false)
    | some n => if 2147483647 < n then (0, false) else if refNameL wal n = l then ((n : Int), true) else (0, false)
theorem digitVal_some (b : UInt8) (h1 : 48 ≤ b.toNat) (h2 : b.toNat ≤ 57) : Lib.digitVal b = some (b.toNat - 48) := by
  simp [Lib.digitVal, h1, h2]
theorem digitVal_none (b : UInt8) (h : ¬ (48 ≤ b.toNat ∧ b.toNat ≤ 57)) : Lib.digitVal b = none := by
  unfold Lib.digitVal; rw [if_neg h]
theorem decFrom_bad {l : List UInt8} {k : Nat} {b : UInt8} (hk : l[k]? = some b) (hb : Lib.digitVal b = none) (acc : Nat) : Lib.decFrom acc l = none := by
  cases h : Lib.decFrom acc l with
  | none => rfl
  | some n =>
    obtain ⟨d, hd⟩ := Lib.digit_of_decFrom l acc n h k b hk
    rw [hb] at hd; cases hd
theorem drop_get {l : List UInt8} {j : Nat} (h : 4 + j < l.length) : (l.drop 4)[j]? = some (l.getD (4 + j) 0) := by
  rw [List.getElem?_drop, List.getD_eq_getElem?_getD, List.getElem?_eq_getElem h]; rfl

set_option maxHeartbeats 800000 in
theorem refNumber_any (l : List UInt8) (hl : l.length ≤ 140737488351232) (w : World) :
    Calls Tryd.prog 6 #[.string (str wal), .string (str l)] w (WN w (refNumL l)) := by
  have es : ∀ l : List UInt8, (str l).size = l.length := fun _ => rfl
  have hw4 : wal.length = 4 := rfl
  by_cases hb : l.length < 4 ∨ 14 < l.length
  · have e : refNumL l = (0, false) := by simp [refNumL, hb]
    rw [e]
    rcases hb with hb | hb
    · go_enter Tryd.func6, Tryd.ntmps6
      go_wp2
      go_ret2
      exact ⟨rfl, Only.refl _ _⟩
    · go_enter Tryd.func6, Tryd.ntmps6
      go_wp2
      go_ret2
      exact ⟨rfl, Only.refl _ _⟩
  · have h4 : 4 ≤ l.length := by omega
    have h14 : l.length ≤ 14 := by omega
    have hR : Hid (refNumL l = match Lib.decFrom 0 (l.drop 4) with
      | none => (0, false)
      | some n => if 2147483647 < n then (0, false) else if refNameL wal n = l then ((n : Int), true) else (0, false)) := by
      show refNumL l = _
      unfold refNumL
      rw [if_neg hb]
    clear hb
    have hfl : ¬ l.length < 4 := by omega
    have hfl2 : ¬ 14 < l.length := by omega
    go_enter Tryd.func6, Tryd.ntmps6
    go_wp2_with fail
    go_loop [6, 7] (fun a b => ∃ (j v : Nat), b = .int .i64 ((4 + j : Nat) : Int) ∧ a = .int .i64 v ∧ 4 + j ≤ l.length ∧ Hid (Lib.decFrom 0 ((l.drop 4).take j) = some v)) (fun _ b => l.length - (intOf b).toNat)
    case atStart => exact ⟨0, 0, rfl, rfl, h4, rfl⟩
    case round =>
      obtain ⟨j, v, rfl, rfl, hj, hv⟩ := hrel
      have hv17 := Lib.decFrom_take_lt hv.out (show j ≤ 17 by omega)
      by_cases hlt : 4 + j < l.length
      · have hbt := bt_at l (4 + j)
        have hb8 := bt_lt l (4 + j)
        have hget := drop_get hlt
        have Hget := Lib.hid hget
        have Hb : Hid (bt l (4 + j) = (l.getD (4 + j) 0).toNat) := rfl
        clear hget
        generalize l.getD (4 + j) 0 = c at *
        generalize bt l (4 + j) = b at *
        by_cases hd1 : b < 48
        · have hn : Hid (Lib.decFrom 0 (l.drop 4) = none) := decFrom_bad Hget.out (digitVal_none c (by have := Hb.out; omega)) 0
          go_wp2
          go_ret2
          exact ⟨by rw [hR.out, hn.out]; rfl, Only.refl _ _⟩
        · by_cases hd2 : 57 < b
          · have hn : Hid (Lib.decFrom 0 (l.drop 4) = none) := decFrom_bad Hget.out (digitVal_none c (by have := Hb.out; omega)) 0
            go_wp2
            go_ret2
            exact ⟨by rw [hR.out, hn.out]; rfl, Only.refl _ _⟩
          · have hv' : Hid (Lib.decFrom 0 ((l.drop 4).take (j + 1)) = some (v * 10 + (b - 48))) :=
              Lib.decFrom_take _ j 0 v c _ hv.out Hget.out (by rw [digitVal_some c (by have := Hb.out; omega) (by have := Hb.out; omega), Hb.out])
            have h48 : 48 ≤ b := by omega
            have h57 : b ≤ 57 := by omega
            go_wp2
            go_round
            case rel => exact ⟨j + 1, v * 10 + (b - 48), by go_num, by congr 1; omega, by omega, hv'⟩
            case measure => simp [intOf]; omega
      · have hje : Hid (j = l.length - 4) := by show j = l.length - 4; omega
        have hv2 : Hid (Lib.decFrom 0 (l.drop 4) = some v) := by
          have h := hv.out
          rw [List.take_of_length_le (by have := hje.out; simp; omega)] at h
          exact h
        by_cases hbig : 2147483647 < v
        · have hR2 : Hid (refNumL l = (0, false)) := by show _ = _; rw [hR.out, hv2.out]; simp [hbig]
          go_wp2
          go_ret2
          exact ⟨by rw [hR2.out]; rfl, Only.refl _ _⟩
        · have HN := Lib.hid (refName_any wal (by decide) (v : Int) (by omega))
          by_cases hnm : refNameL wal (v : Int) = l
          · have hR2 : Hid (refNumL l = ((v : Int), true)) := by show _ = _; rw [hR.out, hv2.out]; simp [hbig, hnm]
            rw [hnm] at HN
            clear hnm
            go_wp2_with fail
            refine (HN.out w).mono ?_
            rintro e w2 ⟨rfl, o2⟩
            have O2 := Lib.hid o2
            clear o2
            go_wp2
            go_ret2
            exact ⟨by rw [hR2.out]; rfl, O2.out⟩
          · have hR2 : Hid (refNumL l = (0, false)) := by show _ = _; rw [hR.out, hv2.out]; simp [hbig, hnm]
            have hne : ((str (refNameL wal (v : Int))).toList == (str l).toList) = false := str_ne hnm
            generalize refNameL wal (v : Int) = nm at *
            clear hnm
            go_wp2_with fail
            refine (HN.out w).mono ?_
            rintro e w2 ⟨rfl, o2⟩
            have O2 := Lib.hid o2
            clear o2
            go_wp2
            go_ret2
            exact ⟨by rw [hR2.out]; rfl, O2.out⟩
end Go.Proofs.YtpeglajckkbfmaaDoor
