/- The law RouteEscapes, walked by hand. -/
import Derived.Test.YtdbbgdgjmlcgcaaDoorEPe
import Derived.Test.YtdbbgdgjmlcgcaaDoorPRouteEx8
import Derived.Test.YtdbbgdgjmlcgcaaDoorPRouteEx1
set_option linter.unusedVariables false
set_option linter.unusedSimpArgs false
namespace Go.Proofs.YtdbbgdgjmlcgcaaDoor.PRouteE
open Go.RowKit Go.Proofs.YtdbbgdgjmlcgcaaDoorW.PrintWords Go.Proofs.YtdbbgdgjmlcgcaaDoorW.PrintLast Go.Proofs.YtdbbgdgjmlcgcaaDoorW.PrintMore
attribute [local go_sem] max2_int min2_int max_two min_two max_three min_three max_four min_four

theorem escL_snoc (at_ : Int) (c : UInt8) : ∀ (l : List UInt8) (j : Nat), escL at_ j (l ++ [c]) = escL at_ j l ++ escB (decide (((j + l.length : Nat) : Int) < at_) && low c) c
  | [], j => by simp [escL]
  | b :: l, j => by
    simp only [List.cons_append, escL, List.length_cons]
    rw [escL_snoc at_ c l (j + 1), List.append_assoc, show j + 1 + l.length = j + (l.length + 1) by omega]
theorem mkB_app (a b : List UInt8) : mkB a ++ mkB b = mkB (a ++ b) := by simp [mkB, ByteArray.ext_iff]
theorem hexD_take : ∀ x : Fin 16, (hexD.drop x.val).take (x.val + 1 - x.val) = [hx x.val] := by decide
theorem esc_bytes (E : ByteArray) (c : UInt8) : E ++ ((⟨#[37]⟩ : ByteArray) ++ (⟨#[48, 49, 50, 51, 52, 53, 54, 55, 56, 57, 65, 66, 67, 68, 69, 70]⟩ : ByteArray).extract (c.toNat / 16) (c.toNat / 16 + 1) ++ (⟨#[48, 49, 50, 51, 52, 53, 54, 55, 56, 57, 65, 66, 67, 68, 69, 70]⟩ : ByteArray).extract (c.toNat % 16) (c.toNat % 16 + 1)) = E ++ mkB (escB false c) := by
  have h1 : c.toNat / 16 < 16 := by have := UInt8.toNat_lt c; omega
  have h2 : c.toNat % 16 < 16 := by omega
  have d1 := hexD_take ⟨_, h1⟩
  have d2 := hexD_take ⟨_, h2⟩
  simp only at d1 d2
  have e1 : (⟨#[48, 49, 50, 51, 52, 53, 54, 55, 56, 57, 65, 66, 67, 68, 69, 70]⟩ : ByteArray).extract (c.toNat / 16) (c.toNat / 16 + 1) = mkB [hx (c.toNat / 16)] := by rw [ext_mkB]; exact congrArg mkB d1
  have e2 : (⟨#[48, 49, 50, 51, 52, 53, 54, 55, 56, 57, 65, 66, 67, 68, 69, 70]⟩ : ByteArray).extract (c.toNat % 16) (c.toNat % 16 + 1) = mkB [hx (c.toNat % 16)] := by rw [ext_mkB]; exact congrArg mkB d2
  rw [e1, e2, show (⟨#[37]⟩ : ByteArray) = mkB [37] from rfl, mkB_app, mkB_app]
  rfl
theorem target_s (E : List UInt8) : (⟨#[47, 115, 101, 115, 115, 105, 111, 110, 115, 47]⟩ : ByteArray) ++ mkB E = mkB (47 :: (bSess ++ 47 :: E)) := by
  rw [show (⟨#[47, 115, 101, 115, 115, 105, 111, 110, 115, 47]⟩ : ByteArray) = mkB [47, 115, 101, 115, 115, 105, 111, 110, 115, 47] from rfl, mkB_app]
  rfl
theorem target_u (E : List UInt8) : (⟨#[47, 117, 115, 101, 114, 115, 47]⟩ : ByteArray) ++ mkB E ++ (⟨#[47, 115, 101, 115, 115, 105, 111, 110, 115]⟩ : ByteArray) = mkB (47 :: (bUsers ++ 47 :: (E ++ 47 :: bSess))) := by
  rw [show (⟨#[47, 117, 115, 101, 114, 115, 47]⟩ : ByteArray) = mkB [47, 117, 115, 101, 114, 115, 47] from rfl, show (⟨#[47, 115, 101, 115, 115, 105, 111, 110, 115]⟩ : ByteArray) = mkB [47, 115, 101, 115, 115, 105, 111, 110, 115] from rfl, mkB_app, mkB_app]
  congr 1
/-- The law's name: 300 bytes of it. -/
def nameOf (nm : ByteArray) : List UInt8 := nm.data.toList.take 300
theorem nameOf_long {nm : ByteArray} (h : (nm.size : Int) > 300) : nm.extract 0 300 = mkB (nameOf nm) := by rw [ext_mkB]; rfl
theorem nameOf_short {nm : ByteArray} (h : ¬ (nm.size : Int) > 300) : nm = mkB (nameOf nm) := by
  unfold nameOf
  rw [List.take_of_length_le (by rw [data_length]; omega), mkB_of]
theorem nameOf_le (nm : ByteArray) : (nameOf nm).length ≤ 300 := by unfold nameOf; rw [List.length_take]; omega

set_option maxHeartbeats 4000000 in
set_option maxRecDepth 100000 in
theorem escapes_walk (nm : ByteArray) (n : Int) (hn : (Lit.int .i64 n).wf = true) (w : World) :
    Calls Tryd.prog 5 #[.string nm, .int .i64 n] w fun e w' => e = .returned (.bool true) ∧ Below w.heap.size w w' := by
  have KA := Aside0.mk (fun W => atriumlaw20_awake.calls true W rfl)
  have HB := Aside0.mk (Below.refl w.heap.size w)
  obtain ⟨s, hs⟩ : ∃ s, s = nameOf nm := ⟨_, rfl⟩
  have HS := Aside0.mk hs
  have hlen : (s.length : Int) ≤ 300 := by have := nameOf_le nm; rw [hs]; omega
  clear hs
  go_enter Tryd.func5, Tryd.ntmps5
  go_upto_if 18 with (first | (go_at_call 9; refine (KA.out _).mono ?_; rintro e w1 ⟨rfl, hb⟩; have n0_ := Aside0.mk (below_step HB.out hb); clear HB; have HB := n0_; clear n0_; (try clear hb)))
  (try simp only [Act.put, List.setIfInBounds_toArray, List.set_cons_zero, List.set_cons_succ])
  go_cut [0] (fun v0 wc => v0 = .string (mkB s) ∧ Aside0 (Below w.heap.size w wc))
  case first =>
    by_cases c7 : (nm.size : Int) > 300
    · have e7 := Aside0.mk (nameOf_long c7)
      have c7b0 : decide (300 < (nm.size : Int)) = true := decide_eq_true c7
      have c7b1 : decide (300 < nm.size) = true := decide_eq_true (by omega)
      have c9b1 : decide (300 ≤ (nm.size : Int)) = true := decide_eq_true (by omega)
      have c9b0 := eq_true (show 300 ≤ (nm.size : Int) by omega)
      clear c7
      (first | rw [c7b0] | (simp only [i64_w, i32_w]; rw [c7b0]) | skip)
      go_wp2
      repeat (go_quiet (fail); try go_wp2)
      go_meet
      case rel => exact ⟨by rw [HS.out, ← e7.out], HB⟩
    · have e7 := Aside0.mk (nameOf_short c7)
      have c7b0 : decide (300 < (nm.size : Int)) = false := decide_eq_false c7
      have c7b1 : decide (300 < nm.size) = false := decide_eq_false (by omega)
      clear c7
      (first | rw [c7b0] | (simp only [i64_w, i32_w]; rw [c7b0]) | skip)
      go_wp2
      repeat (go_quiet (fail); try go_wp2)
      go_meet
      case rel => exact ⟨by rw [HS.out, ← e7.out], HB⟩
  case rest =>
    obtain ⟨rfl, HB⟩ := hcut
    have hsz : (mkB s).size = s.length := mkB_size s
    go_upto_if 22 with (fail)
    repeat (go_quiet (fail); go_upto_if 22 with (fail))
    go_cut [5] (fun v5 wc => ∃ at_ : Int, v5 = .int .i64 at_ ∧ Aside0 (Below w.heap.size w wc))
    case first =>
      by_cases c11 : n > 0
      · have c11b0 : decide (0 < n) = true := decide_eq_true c11
        clear c11
        (first | rw [c11b0] | (simp only [i64_w, i32_w]; rw [c11b0]) | skip)
        have e1 : wrap64 (((mkB s).size : Int) + 1) = (s.length : Int) + 1 := by unfold wrap64; rw [hsz]; omega
        have c12b0 : ((wrap64 (((mkB s).size : Int) + 1)) == 0) = false := by rw [e1]; exact beq_eq_false_iff_ne.mpr (by omega)
        have c12b1 : (((s.length : Int) + 1) == 0) = false := beq_eq_false_iff_ne.mpr (by omega)
        go_wp2
        repeat (go_quiet (fail); try go_wp2)
        go_meet
        case rel => exact ⟨_, rfl, HB⟩
      · have c11b0 : decide (0 < n) = false := decide_eq_false c11
        clear c11
        (first | rw [c11b0] | (simp only [i64_w, i32_w]; rw [c11b0]) | skip)
        go_wp2
        repeat (go_quiet (fail); try go_wp2)
        go_meet
        case rel => exact ⟨_, rfl, HB⟩
    case rest =>
      obtain ⟨at_, rfl, HB⟩ := hcut
      go_wp2
      repeat (go_quiet (fail); try go_wp2)
      go_loopg [6, 7] s.length (fun g v6 v7 w' => ∃ (i : Nat) (E : ByteArray), v6 = .string E ∧ v7 = .int .i64 (i : Int) ∧ Aside0 (E = mkB (escL at_ 0 (s.take i)) ∧ i + g = s.length) ∧ Aside0 (Below w.heap.size w w'))
      case atStart => exact ⟨0, _, rfl, rfl, ⟨rfl, by omega⟩, HB⟩
      case round =>
        clear HB
        obtain ⟨i, E, rfl, rfl, HE, HB⟩ := hrel
        cases gk with
        | zero =>
          have hi : i = s.length := by have := HE.out.2; omega
          have hE := HE.out.1
          rw [hi, List.take_length] at hE
          have hne := escL_ne at_ s 0
          have hll : (escL at_ 0 s).length ≤ 900 := by have := escL_length at_ s 0; omega
          have hun := unesc_escL at_ s 0
          have f1 := find_session _ s hne hll hun
          have f2 := find_user _ s hne hll hun
          rw [← target_s, ← hE] at f1
          rw [← target_u, ← hE] at f2
          have hEs : (E.size : Int) ≤ 900 := by rw [hE, mkB_size]; omega
          have HI := Aside0.mk hi
          have hi2 : ¬ (i : Int) < (s.length : Int) := by omega
          clear hE hne hll hun hi HE
          by_cases hs0 : s = []
          · rw [if_pos hs0] at f1 f2
            obtain ⟨k1, h1⟩ := f1.rounds
            obtain ⟨k2, h2⟩ := f2.rounds
            have K1 := Aside0.mk (fun W => route_Find.calls k1 _ _ _ _ _ _ _ _ W h1)
            have K2 := Aside0.mk (fun W => route_Find.calls k2 _ _ _ _ _ _ _ _ W h2)
            clear f1 f2 h1 h2
            have z1 : (mkB s).toList = [] := by rw [hs0]; exact toL _
            clear hs0
            go_wp2_with fail
            refine (K1.out _).mono ?_
            rintro e w2 ⟨rfl, hb2⟩
            have HB2 := Aside0.mk (below_step HB.out hb2)
            clear hb2 HB
            go_wp2_with fail
            have hb := below_alloc HB2.out (.cells #[.int .i64 0, .string ⟨#[]⟩, .string ⟨#[]⟩, .int .i64 0, .bool false] 36)
            have hx := blk_new w2 (.cells #[.int .i64 0, .string ⟨#[]⟩, .string ⟨#[]⟩, .int .i64 0, .bool false] 36)
            generalize w2.heap.size = q at *
            generalize (w2.alloc (.cells #[.int .i64 0, .string ⟨#[]⟩, .string ⟨#[]⟩, .int .i64 0, .bool false] 36)) = W1 at *
            refine (K2.out _).mono ?_
            rintro e w3 ⟨rfl, hb3⟩
            have hx2 := Aside0.mk (blk_below hx hb3)
            have HB3 := Aside0.mk (below_step hb hb3)
            clear hx hb hb3 HB2
            have c0 : ∀ o, (w3.alloc o).cell? ⟨q, 0, none⟩ = some (.int .i64 0) := fun o => blk_cell (blk_alloc hx2.out o) 0
            have c1 : ∀ o, (w3.alloc o).cell? ⟨q, 1, none⟩ = some (.string ⟨#[]⟩) := fun o => blk_cell (blk_alloc hx2.out o) 1
            have c2 : ∀ o, (w3.alloc o).cell? ⟨q, 2, none⟩ = some (.string ⟨#[]⟩) := fun o => blk_cell (blk_alloc hx2.out o) 2
            have c3 : ∀ o, (w3.alloc o).cell? ⟨q, 3, none⟩ = some (.int .i64 0) := fun o => blk_cell (blk_alloc hx2.out o) 3
            have c4 : ∀ o, (w3.alloc o).cell? ⟨q, 4, none⟩ = some (.bool false) := fun o => blk_cell (blk_alloc hx2.out o) 4
            go_wp2_with fail
            go_ret
            exact ⟨rfl, below_alloc HB3.out _⟩
          · rw [if_neg hs0] at f1 f2
            obtain ⟨k1, h1⟩ := f1.rounds
            obtain ⟨k2, h2⟩ := f2.rounds
            have K1 := Aside0.mk (fun W => route_Find.calls k1 _ _ _ _ _ _ _ _ W h1)
            have K2 := Aside0.mk (fun W => route_Find.calls k2 _ _ _ _ _ _ _ _ W h2)
            clear f1 f2 h1 h2
            have z1 : (mkB s).toList.isEmpty = false := by rw [toL, mkB_data]; cases s with
              | nil => exact absurd rfl hs0
              | cons a l => rfl
            have z2 : (!(mkB s).toList.isEmpty) = true := by rw [z1]; rfl
            clear hs0
            go_wp2_with fail
            refine (K1.out _).mono ?_
            rintro e w2 ⟨rfl, hb2⟩
            have HB2 := Aside0.mk (below_step HB.out hb2)
            clear hb2 HB
            go_wp2_with fail
            have hb := below_alloc HB2.out (.cells #[.int .i64 2, .string (mkB s), .string ⟨#[]⟩, .int .i64 0, .bool false] 36)
            have hx := blk_new w2 (.cells #[.int .i64 2, .string (mkB s), .string ⟨#[]⟩, .int .i64 0, .bool false] 36)
            generalize w2.heap.size = q at *
            generalize (w2.alloc (.cells #[.int .i64 2, .string (mkB s), .string ⟨#[]⟩, .int .i64 0, .bool false] 36)) = W1 at *
            refine (K2.out _).mono ?_
            rintro e w3 ⟨rfl, hb3⟩
            have hx2 := Aside0.mk (blk_below hx hb3)
            have HB3 := Aside0.mk (below_step hb hb3)
            clear hx hb hb3 HB2
            have c0 : ∀ o, (w3.alloc o).cell? ⟨q, 0, none⟩ = some (.int .i64 2) := fun o => blk_cell (blk_alloc hx2.out o) 0
            have c1 : ∀ o, (w3.alloc o).cell? ⟨q, 1, none⟩ = some (.string (mkB s)) := fun o => blk_cell (blk_alloc hx2.out o) 1
            have c2 : ∀ o, (w3.alloc o).cell? ⟨q, 2, none⟩ = some (.string ⟨#[]⟩) := fun o => blk_cell (blk_alloc hx2.out o) 2
            have c3 : ∀ o, (w3.alloc o).cell? ⟨q, 3, none⟩ = some (.int .i64 0) := fun o => blk_cell (blk_alloc hx2.out o) 3
            have c4 : ∀ o, (w3.alloc o).cell? ⟨q, 4, none⟩ = some (.bool false) := fun o => blk_cell (blk_alloc hx2.out o) 4
            go_wp2_with fail
            go_ret
            exact ⟨rfl, below_alloc HB3.out _⟩
        | succ g =>
          have hi : i < s.length := by have := HE.out.2; omega
          have hi2 : (i : Int) < (s.length : Int) := by omega
          have hi0 : (0 : Int) ≤ (i : Int) := by omega
          have hEs : (E.size : Int) ≤ 900 := by
            have h1 := HE.out.1
            have h2 := escL_length at_ (s.take i) 0
            have h3 : (s.take i).length ≤ s.length := by rw [List.length_take]; omega
            rw [h1, mkB_size]
            omega
          obtain ⟨c, hc⟩ : ∃ c, s[i]'hi = c := ⟨_, rfl⟩
          have HC : Aside0 (s.take (i + 1) = s.take i ++ [c]) := ⟨by rw [List.take_succ_eq_append_getElem hi, hc]⟩
          have hx15 : ∀ h : i < (mkB s).size, ((mkB s)[i]'h).toNat = c.toNat := by
            intro h
            have : (mkB s)[i]'h = s[i]'hi := rfl
            rw [this, hc]
          obtain ⟨b, hcb⟩ : ∃ b : Nat, c.toNat = b := ⟨_, rfl⟩
          have hb255 : b < 256 := by rw [← hcb]; exact c.toNat_lt
          rw [hcb] at hx15
          have HCB := Aside0.mk hcb
          have HD : Aside0 ((s.drop i).take (i + 1 - i) = [c]) := ⟨by rw [List.drop_eq_getElem_cons hi, hc, show i + 1 - i = 1 by omega]; rfl⟩
          clear hi hc hcb
          have hb0 : (0 : Int) ≤ (b : Int) := by omega
          have hb1 : (b : Int) ≤ 255 := by omega
          go_upto_region 13 with (fail)
          go_cut [9] (fun v wc => ∃ p : Bool, v = .bool p ∧ Aside0 (p = low c) ∧ Aside0 (Below w.heap.size w wc))
          case first =>
            have hlow : low c = ((decide (97 ≤ b) && decide (b ≤ 122)) || (decide (48 ≤ b) && decide (b ≤ 57))) := by unfold low; rw [HCB.out]
            have HL := Aside0.mk hlow
            clear hlow
            by_cases c16 : 97 ≤ b
            · by_cases c17 : b ≤ 122
              · have C := Aside0.mk (And.intro c16 c17)
                go_wp2
                repeat (go_quiet (fail); try go_wp2)
                go_meet
                case rel => exact ⟨_, rfl, ⟨by have h5 := C.out; rw [HL.out, Bool.eq_iff_iff]; simp; omega⟩, HB⟩
              · have c57 : ¬ b ≤ 57 := by omega
                have C := Aside0.mk (show ¬ b ≤ 122 ∧ ¬ b ≤ 57 by omega)
                go_wp2
                repeat (go_quiet (fail); try go_wp2)
                go_meet
                case rel => exact ⟨_, rfl, ⟨by have h5 := C.out; rw [HL.out, Bool.eq_iff_iff]; simp; omega⟩, HB⟩
            · by_cases c48 : 48 ≤ b
              · by_cases c57 : b ≤ 57
                · have C := Aside0.mk (And.intro c48 c57)
                  go_wp2
                  repeat (go_quiet (fail); try go_wp2)
                  go_meet
                  case rel => exact ⟨_, rfl, ⟨by have h5 := C.out; rw [HL.out, Bool.eq_iff_iff]; simp; omega⟩, HB⟩
                · have C := Aside0.mk (And.intro c16 c57)
                  go_wp2
                  repeat (go_quiet (fail); try go_wp2)
                  go_meet
                  case rel => exact ⟨_, rfl, ⟨by have h5 := C.out; rw [HL.out, Bool.eq_iff_iff]; simp; omega⟩, HB⟩
              · have C := Aside0.mk (And.intro c16 c48)
                go_wp2
                repeat (go_quiet (fail); try go_wp2)
                go_meet
                case rel => exact ⟨_, rfl, ⟨by have h5 := C.out; rw [HL.out, Bool.eq_iff_iff]; simp; omega⟩, HB⟩
          case rest =>
            clear HB
            obtain ⟨p, rfl, HP, HB⟩ := hcut
            have esc : ∀ q : Bool, (q = (decide ((i : Int) < at_) && p)) → mkB (escL at_ 0 (s.take (i + 1))) = E ++ mkB (escB q c) := by
              intro q hq
              rw [HC.out, escL_snoc, HE.out.1, hq, HP.out]
              have : (s.take i).length = i := by rw [List.length_take]; have := HE.out.2; omega
              rw [this, Nat.zero_add]
              simp [mkB, ByteArray.ext_iff]
            have ESC := Aside0.mk esc
            clear esc
            have d1 := eq_true (show (i : Int) ≤ (i : Int) + 1 by omega)
            have d2 := eq_true (show (i : Int) + 1 ≤ (s.length : Int) by omega)
            cases p with
            | true =>
              by_cases c18 : (i : Int) < at_
              · have c18b0 : decide ((i : Int) < at_) = true := decide_eq_true c18
                have C18 := Aside0.mk c18b0
                clear c18
                go_wp2
                go_roundg g
                case measure => omega
                case rel => exact ⟨i + 1, E ++ mkB [c], by rw [show (mkB s).extract i (i + 1) = mkB [c] from by rw [ext_mkB, mkB_data, ← HD.out]], by first | rfl | (simp; done), ⟨by rw [ESC.out true (by rw [C18.out]; rfl)]; rfl, by have := HE.out.2; omega⟩, HB⟩
              · have c18b0 : decide ((i : Int) < at_) = false := decide_eq_false c18
                have C18 := Aside0.mk c18b0
                clear c18
                have e0 := eq_true (show (0 : Int) ≤ (b : Int) / 16 by omega)
                have e1 := eq_true (show (b : Int) / 16 ≤ (b : Int) / 16 + 1 by omega)
                have e2 := eq_true (show (b : Int) / 16 + 1 ≤ 16 by omega)
                have e3 := eq_true (show (0 : Int) ≤ (b : Int) % 16 by omega)
                have e4 := eq_true (show (b : Int) % 16 ≤ (b : Int) % 16 + 1 by omega)
                have e5 := eq_true (show (b : Int) % 16 + 1 ≤ 16 by omega)
                go_wp2
                go_quiet (fail)
                go_wp2
                go_roundg g
                case measure => omega
                case rel => exact ⟨i + 1, E ++ mkB (escB false c), by rw [← esc_bytes E c, HCB.out], by first | rfl | (simp; done), ⟨by rw [ESC.out false (by rw [C18.out]; rfl)], by have := HE.out.2; omega⟩, ⟨pw_below_drewN HB.out _⟩⟩
            | false =>
              have e0 := eq_true (show (0 : Int) ≤ (b : Int) / 16 by omega)
              have e1 := eq_true (show (b : Int) / 16 ≤ (b : Int) / 16 + 1 by omega)
              have e2 := eq_true (show (b : Int) / 16 + 1 ≤ 16 by omega)
              have e3 := eq_true (show (0 : Int) ≤ (b : Int) % 16 by omega)
              have e4 := eq_true (show (b : Int) % 16 ≤ (b : Int) % 16 + 1 by omega)
              have e5 := eq_true (show (b : Int) % 16 + 1 ≤ 16 by omega)
              go_wp2
              go_quiet (fail)
              go_wp2
              go_roundg g
              case measure => omega
              case rel => exact ⟨i + 1, E ++ mkB (escB false c), by rw [← esc_bytes E c, HCB.out], by first | rfl | (simp; done), ⟨by rw [ESC.out false (by simp)], by have := HE.out.2; omega⟩, ⟨pw_below_drewN HB.out _⟩⟩
end Go.Proofs.YtdbbgdgjmlcgcaaDoor.PRouteE
