/-
  The call's own blocks, kept along a walk: lists of blocks that are known whole, carried over allocations, draws and calls. No conditions but those in the statements.
-/
import Derived.Test.YtilfebopeeimnaaKit
namespace Go.Proofs.Ytilfebopeeimnaa
open Go.RowKit

/-! ### The call's own blocks, kept along a walk -/
/-- Each of these blocks holds these cells, none of them frozen. -/
def Blks (W : World) : List (Nat × Array Value × TypeId) → Prop
  | [] => True
  | p :: L => W.heap[p.1]? = some (.cells p.2.1 p.2.2 (0, 0)) ∧ Blks W L
/-- The same as rules for the walk. -/
def Rules (W : World) : List (Nat × Array Value × TypeId) → Prop
  | [] => True
  | p :: L => ((∀ i, W.cell? ⟨p.1, i, none⟩ = p.2.1[i]?) ∧ (∀ i, W.frozen? ⟨p.1, i, none⟩ = false) ∧ p.1 < W.heap.size) ∧ Rules W L
theorem Blks.rules {W : World} : ∀ {L : List (Nat × Array Value × TypeId)}, Blks W L → Rules W L
  | [], _ => trivial
  | _ :: _, h => ⟨blk_rules h.1, Blks.rules h.2⟩
theorem Blks.keep {W W' : World} : ∀ {L : List (Nat × Array Value × TypeId)}, (∀ (b : Nat) (o : Obj), W.heap[b]? = some o → W'.heap[b]? = some o) → Blks W L → Blks W' L
  | [], _, _ => trivial
  | _ :: _, hk, h => ⟨hk _ _ h.1, Blks.keep hk h.2⟩

/-- Since the call began in w what was there is as it was; the call's own blocks hold L. -/
structure St (w W : World) (L : List (Nat × Array Value × TypeId)) : Prop where
  below : Below w.heap.size w W
  blks : Blks W L
theorem St.start (w : World) : St w w [] := ⟨Below.refl _ _, trivial⟩
theorem St.alloc {w W : World} {L : List (Nat × Array Value × TypeId)} (h : St w W L) (cs : Array Value) (t : TypeId) : St w (W.alloc (.cells cs t)) ((W.heap.size, cs, t) :: L) :=
  ⟨h.below.alloc h.below.size _, blk_new _ _, h.blks.keep fun _ _ hb => blk_old hb _⟩
theorem St.later {w W W' : World} {L : List (Nat × Array Value × TypeId)} (h : St w W L) (hb : Below W.heap.size W W') : St w W' L :=
  ⟨below_step h.below (Nat.le_refl _) hb, h.blks.keep fun _ _ hk => blk_later hk hb⟩
theorem St.drew {w W : World} {L : List (Nat × Array Value × TypeId)} (h : St w W L) : St w W.drew L := h.later (Below.refl _ _).drew
theorem St.drewN {w W : World} {L : List (Nat × Array Value × TypeId)} (h : St w W L) (n : Nat) : St w (W.drewN n) L := h.later (Joins.below_draws _ _ _)
theorem St.cast {w W X : World} {L : List (Nat × Array Value × TypeId)} (hX : W = X) (h : St w W L) : St w X L := by rw [← hX]; exact h
theorem St.rules {w W : World} {L : List (Nat × Array Value × TypeId)} (h : St w W L) : Rules W L := h.blks.rules

end Go.Proofs.Ytilfebopeeimnaa
