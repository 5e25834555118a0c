/-
  The look-up of a class in a map's block. No conditions but those in each statement.
-/
import Derived.Test.YtilfebopeeimnaaRelL
namespace Go.Proofs.Ytilfebopeeimnaa
open Go.RowKit Go.Maps

theorem run_look {w : World} {b clock : Nat} {es : Array MapEntry} {key : Value} {kl : Lit} (hb : w.heap[b]? = some (.map es clock)) (hk : keyOf Try.prog 77 key = some kl) (hks : ∀ e ∈ es.toList, ∃ l, keyOf Try.prog 77 e.key = some l) :
    ((∀ e ∈ es.toList, e.key ≠ key) ∧ (Instr.lookup 82 (.map (some b)) key false).run Try.prog w = .ok (.slice none 0 0) w) ∨
    (∃ (j : Nat) (e : MapEntry), es[j]? = some e ∧ e.key = key ∧ (Instr.lookup 82 (.map (some b)) key false).run Try.prog w = .ok e.val w) := by
  have hc2 := keyed77.check w es.isEmpty hk
  rcases keyed77.find w hk es.toList hks with ⟨h1, h2⟩ | ⟨j, e, h1, h2, h3⟩
  · refine .inl ⟨h2, ?_⟩
    simp [Instr.lookup, run_underlying Try.underlying82, MapKept.run_getObj_map hb, hc2, h1, Result.andThen]
  · have hj : es[j]? = some e := by simpa using h2
    refine .inr ⟨j, e, hj, h3, ?_⟩
    simp [Instr.lookup, run_underlying Try.underlying82, MapKept.run_getObj_map hb, hc2, h1, Result.andThen]
end Go.Proofs.Ytilfebopeeimnaa
