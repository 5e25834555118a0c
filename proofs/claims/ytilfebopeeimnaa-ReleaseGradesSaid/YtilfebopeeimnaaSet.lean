/-
  A block of the call's own behind a store; a known block more. No conditions but those in the statements.
-/
import Derived.Test.YtilfebopeeimnaaSt
namespace Go.Proofs.Ytilfebopeeimnaa
open Go.RowKit

/-- A known block more. -/
theorem St.more {w W : World} {L : List (Nat × Array Value × TypeId)} (h : St w W L) {b : Nat} {cs : Array Value} {t : TypeId} (hb : W.heap[b]? = some (.cells cs t (0, 0))) : St w W ((b, cs, t) :: L) :=
  ⟨h.below, hb, h.blks⟩

/-- The list of blocks behind a store. -/
def setIn (b i : Nat) (v : Value) : List (Nat × Array Value × TypeId) → List (Nat × Array Value × TypeId)
  | [] => []
  | p :: L => (if p.1 = b then (p.1, p.2.1.setIfInBounds i v, p.2.2) else p) :: setIn b i v L

theorem Blks.set {W : World} {b i : Nat} {v : Value} : ∀ {L : List (Nat × Array Value × TypeId)}, Blks W L → Blks (W.setCell ⟨b, i, none⟩ v) (setIn b i v L)
  | [], _ => trivial
  | (n, cs, t) :: L, h => by
    refine ⟨?_, Blks.set h.2⟩
    by_cases hn : n = b
    · subst hn
      rw [if_pos rfl]
      exact set_blk h.1 i v
    · rw [if_neg hn]
      exact blk_set_other h.1 _ _ hn

theorem St.set {w W : World} {L : List (Nat × Array Value × TypeId)} (h : St w W L) (b i : Nat) (v : Value) (hb : w.heap.size ≤ b) : St w (W.setCell ⟨b, i, none⟩ v) (setIn b i v L) :=
  ⟨h.below.setCell hb v, h.blks.set⟩

theorem put4_0 (a b c d v : Value) : (#[a, b, c, d] : Array Value).setIfInBounds 0 v = #[v, b, c, d] := rfl
theorem put4_1 (a b c d v : Value) : (#[a, b, c, d] : Array Value).setIfInBounds 1 v = #[a, v, c, d] := rfl
theorem put4_2 (a b c d v : Value) : (#[a, b, c, d] : Array Value).setIfInBounds 2 v = #[a, b, v, d] := rfl
theorem put4_3 (a b c d v : Value) : (#[a, b, c, d] : Array Value).setIfInBounds 3 v = #[a, b, c, v] := rfl
theorem St.start_with {w : World} {L : List (Nat × Array Value × TypeId)} (h : Blks w L) : St w w L := ⟨Below.refl _ _, h⟩

end Go.Proofs.Ytilfebopeeimnaa
