/- Maps whose keys are strings: what making, storing and asking do. Over any program. -/
import Derived.Test.YtdbbgdgjmlcgcaaDoorProg
import Derived.RowKit3
import Derived.WalkKit
import Derived.WideKeyElems
set_option linter.unusedVariables false
set_option linter.unusedSimpArgs false
namespace Go.Proofs.YtdbbgdgjmlcgcaaDoor
open Go.RowKit Go.MapKept Go.ChangeMaps

def StrKeys (es : List MapEntry) : Prop := ∀ e ∈ es, ∃ s, e.key = .string s
/-- The value of a key. -/
def findS (k : ByteArray) : List MapEntry → Option Value
  | [] => none
  | e :: es => match e.key with
    | .string s => if k == s then some e.val else findS k es
    | _ => none
theorem findNow_str (k : ByteArray) : ∀ (es : List MapEntry) (i : Nat), StrKeys es → ∃ r, Instr.findNow .string (.string k) es i = some r ∧ r.map (·.2) = findS k es
  | [], i, _ => ⟨none, rfl, rfl⟩
  | e :: es, i, h => by
    obtain ⟨s, hs⟩ := h e (List.mem_cons_self ..)
    unfold Instr.findNow findS
    rw [hs]
    simp only [Instr.sameNow]
    cases hk : k == s with
    | true => exact ⟨_, rfl, by simp⟩
    | false => simpa using findNow_str k es (i + 1) fun e he => h e (List.mem_cons_of_mem _ he)
theorem isKey_str {k : ByteArray} : MapKept.IsKey .string (.string k) := by first | trivial | simp [MapKept.IsKey]
section
variable {P : Program} {w : World} {t kt et : TypeId} {b : Nat} {es : Array MapEntry} {clock : Nat}
theorem run_findKey_str (hk : P.underlying kt = some .string) (k : ByteArray) (hs : StrKeys es.toList) : ∃ r : Option (Nat × Value), (Instr.findKey kt (.string k) es.toList).run P w = .ok r w ∧ r.map (·.2) = findS k es.toList := by
  obtain ⟨r, h1, h2⟩ := findNow_str k es.toList 0 hs
  exact ⟨r, by simp [Instr.findKey, run_underlying hk, h1], h2⟩
theorem run_lookup_str (ht : P.underlying t = some (.map kt et)) (hk : P.underlying kt = some .string) (hb : w.heap[b]? = some (.map es clock)) (k : ByteArray) (hs : StrKeys es.toList) {z : Value} (hz : (zeroValue et).run P w = .ok z w) :
    (Instr.lookup t (.map (some b)) (.string k) true).run P w = .ok (.tuple #[(findS k es.toList).getD z, .bool (findS k es.toList).isSome]) w := by
  obtain ⟨r, h1, h2⟩ := run_findKey_str (P := P) (w := w) hk k hs
  rw [← h2]
  have hck := fun e => MapKept.run_checkKey (P := P) (w := w) hk (k := .string k) isKey_str e 9999
  cases r with
  | none => simp [Instr.lookup, run_underlying ht, MapKept.run_getObj_map hb, hck, h1, hz, Result.andThen]
  | some x => simp [Instr.lookup, run_underlying ht, MapKept.run_getObj_map hb, hck, h1, Result.andThen]
theorem run_update_new_str (ht : P.underlying t = some (.map kt et)) (hk : P.underlying kt = some .string) (hb : w.heap[b]? = some (.map es clock)) (k : ByteArray) (v : Value) (hs : StrKeys es.toList) (hn : findS k es.toList = none) :
    (Instr.mapUpdate t (.map (some b)) (.string k) v).run P w = .ok () (setBlock w b (.map (es.push { key := .string k, val := v, born := clock }) (clock + 1))) := by
  obtain ⟨r, h1, h2⟩ := run_findKey_str (P := P) (w := w) hk k hs
  rw [hn] at h2
  have hck := fun e => MapKept.run_checkKey (P := P) (w := w) hk (k := .string k) isKey_str e 9999
  cases r with
  | none => simp [Instr.mapUpdate, run_underlying ht, MapKept.run_getObj_map hb, hck, h1, MapKept.run_setObj_map _ hb, setBlock, Result.andThen]
  | some x => cases h2
end
theorem setBlock_alloc (W : World) (o o' : Obj) : setBlock (W.alloc o) W.heap.size o' = W.alloc o' := by
  have e : (W.heap.push o).setIfInBounds W.heap.size o' = W.heap.push o' := by
    apply Array.ext'
    rw [Array.toList_setIfInBounds, Array.toList_push, Array.toList_push, List.set_append_right _ _ (by simp)]
    simp
  simp [setBlock, World.alloc, -World.alloc_eq, e]
end Go.Proofs.YtdbbgdgjmlcgcaaDoor
