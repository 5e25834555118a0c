/-
  Blocks looked up behind new blocks, draws and stores; three boxes of the call's own that hold what three arguments hold; a block of the call's own behind a store. No conditions but those in the statements.
-/
import Derived.Test.YteghionkljbggaaDetI
import Derived.Test.YteghionkljbggaaDetP
import Derived.Test.YteghionkljbggaaDetS
import Derived.Test.YteghionkljbggaaDetT
import Derived.Test.YteghionkljbggaaLaw
import Derived.Deep.DeepCutAuto
namespace Go.Proofs.Yteghionkljbggaa
open Go.RowKit

theorem heapAt_drew (w : World) (n : Nat) : w.drew.heap[n]? = w.heap[n]? := rfl

/-- Three boxes of the call's own, and what they hold. -/
def MixAt (X : World) (A B C : Array Value) (v21 v22 v23 : Value) (wr : World) : Prop :=
  ∃ x y z : Nat, v21 = .pointer (some ⟨x, 0, none⟩) ∧ v22 = .pointer (some ⟨y, 0, none⟩) ∧ v23 = .pointer (some ⟨z, 0, none⟩) ∧ x ≠ y ∧ x ≠ z ∧ y ≠ z ∧
    X.heap.size ≤ x ∧ X.heap.size ≤ y ∧ X.heap.size ≤ z ∧ Below X.heap.size X wr ∧
    wr.heap[x]? = some (.cells A 25 (0, 0)) ∧ wr.heap[y]? = some (.cells B 25 (0, 0)) ∧ wr.heap[z]? = some (.cells C 27 (0, 0))

/-- A known block more. -/
theorem St.more {w W : World} {L : List (Nat × Array Value × TypeId)} (h : St w W L) {b : Nat} {cs : Array Value} {t : TypeId} (hb : W.heap[b]? = some (.cells cs t (0, 0))) : St w W ((b, cs, t) :: L) :=
  ⟨h.below, hb, h.blks⟩

/-- The list of blocks behind a store. -/
def setIn (b i : Nat) (v : Value) : List (Nat × Array Value × TypeId) → List (Nat × Array Value × TypeId)
  | [] => []
  | p :: L => (if p.1 = b then (p.1, p.2.1.setIfInBounds i v, p.2.2) else p) :: setIn b i v L

theorem Blks.set {W : World} {b i : Nat} {v : Value} : ∀ {L : List (Nat × Array Value × TypeId)}, Blks W L → Blks (W.setCell ⟨b, i, none⟩ v) (setIn b i v L)
  | [], _ => trivial
  | (n, cs, t) :: L, h => by
    refine ⟨?_, Blks.set h.2⟩
    by_cases hn : n = b
    · subst hn
      rw [if_pos rfl]
      exact set_blk h.1 i v
    · rw [if_neg hn]
      exact blk_set_other h.1 _ _ hn

theorem St.set {w W : World} {L : List (Nat × Array Value × TypeId)} (h : St w W L) (b i : Nat) (v : Value) (hb : w.heap.size ≤ b) : St w (W.setCell ⟨b, i, none⟩ v) (setIn b i v L) :=
  ⟨h.below.setCell hb v, h.blks.set⟩

end Go.Proofs.Yteghionkljbggaa
