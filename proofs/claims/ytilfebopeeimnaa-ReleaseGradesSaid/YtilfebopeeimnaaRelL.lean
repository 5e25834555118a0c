/-
  m[k] = append(m[k], v), its two halves on a map's block. No conditions but those in each statement.
-/
import Derived.Test.YtilfebopeeimnaaRelK
import Derived.MapKept
namespace Go.Proofs.Ytilfebopeeimnaa
open Go.RowKit Go.Maps

theorem zero68 (w : World) : (zeroValue 68).run Try.prog w = .ok (.slice none 0 0) w := by kernel_rfl
theorem run_entry {w : World} {b clock : Nat} {es : Array MapEntry} {key : Value} {kl : Lit} (hb : w.heap[b]? = some (.map es clock)) (hk : keyOf Try.prog 77 key = some kl) (hks : ∀ e ∈ es.toList, ∃ l, keyOf Try.prog 77 e.key = some l) :
    ((∀ e ∈ es.toList, e.key ≠ key) ∧ (Instr.mapEntry 82 (.map (some b)) key).run Try.prog w = .ok (.tuple #[.slice none 0 0, goInt clock]) { w with heap := w.heap.setIfInBounds b (.map (es.push { key, val := .slice none 0 0, born := clock }) (clock + 1)) }) ∨
    (∃ (j : Nat) (e : MapEntry), es[j]? = some e ∧ e.key = key ∧ (Instr.mapEntry 82 (.map (some b)) key).run Try.prog w = .ok (.tuple #[e.val, goInt e.born]) { w with heap := w.heap.setIfInBounds b (.map (es.modify j fun e => { e with key := key }) clock) }) := by
  have hc := keyed77.check w false hk
  rcases keyed77.find w hk es.toList hks with ⟨h1, h2⟩ | ⟨j, e, h1, h2, h3⟩
  · refine .inl ⟨h2, ?_⟩
    simp [Instr.mapEntry, run_underlying Try.underlying82, MapKept.run_getObj_map hb, hc, h1, MapKept.run_setObj_map _ hb, Result.andThen]
  · have hj : es[j]? = some e := by simpa using h2
    have hst := keyed77.stays w hk
    refine .inr ⟨j, e, hj, h3, ?_⟩
    simp [Instr.mapEntry, run_underlying Try.underlying82, MapKept.run_getObj_map hb, hc, h1, hj, h3, hst, MapKept.run_setObj_map _ hb, Result.andThen]
theorem find_born {es : Array MapEntry} (hborn : ∀ (i : Nat) (e : MapEntry), es[i]? = some e → e.born = i) {j : Nat} (hj : j < es.size) : es.findIdx? (fun e => (e.born : Int) == (j : Int)) = some j := by
  rw [Array.findIdx?_eq_some_iff_getElem]
  refine ⟨hj, ?_, fun i hi => ?_⟩
  · have := hborn j es[j] (Array.getElem?_eq_getElem hj)
    simp [this]
  · have := hborn i (es[i]'(by omega)) (Array.getElem?_eq_getElem (by omega))
    simp [this]
    omega
theorem run_put {w : World} {b clock : Nat} {es : Array MapEntry} (hb : w.heap[b]? = some (.map es clock)) (hborn : ∀ (i : Nat) (e : MapEntry), es[i]? = some e → e.born = i) {j : Nat} (hj : j < es.size) (v : Value) :
    (Instr.entryStore 82 (.map (some b)) (.int .i64 j) v).run Try.prog w = .ok () { w with heap := w.heap.setIfInBounds b (.map (es.modify j fun e => { e with val := v }) clock) } := by
  have hf := find_born hborn hj
  simp [Instr.entryStore, MapKept.run_getObj_map hb, asInt, asIntOf, hf, MapKept.run_setObj_map _ hb, Result.andThen]
end Go.Proofs.Ytilfebopeeimnaa
