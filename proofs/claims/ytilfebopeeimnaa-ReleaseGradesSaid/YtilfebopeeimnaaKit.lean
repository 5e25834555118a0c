/-
  Helpers over any program: what a call returns while what was there stays as it was (Ret, Qui); a block that is known whole; a region that draws its order, whose operations read and whose calls leave what was there as it was, walked once in the text's order (Later, wp_region_later). No conditions but those in each statement.
-/
import Derived.WalkKit
import Derived.WalkSpells
import Derived.WalkLawsBesides
import Derived.Deep.QuietTactic
import Derived.BigQuiet
import Derived.Lib.Hide
import Derived.RegionTactic
import Derived.Deep.RegionHeld3
import Derived.Deep.DrawnRows
import Derived.Lib.SmallJoins
import Derived.Handy
import Derived.LoopN
namespace Go.Proofs.Ytilfebopeeimnaa
open Go.RowKit

/-- The call returns v; what was there before is as it was. -/
def Ret (v : Value) (w : World) (e : Ending) (w' : World) : Prop := e = .returned v ∧ Below w.heap.size w w'
/-- The call returns v and only draws. -/
def Qui (v : Value) (w : World) (e : Ending) (w' : World) : Prop := e = .returned v ∧ ∃ n, w' = w.drewN n

theorem Qui.ret {v : Value} {w w' : World} {e : Ending} (h : Qui v w e w') : Ret v w e w' := by
  obtain ⟨h1, n, rfl⟩ := h
  exact ⟨h1, Joins.below_draws _ _ _⟩
theorem Ret.same {v : Value} {w w' : World} {e : Ending} (h1 : e = .returned v) (h2 : w = w') : Ret v w e w' := ⟨h1, by rw [← h2]; exact Below.refl _ _⟩
theorem Ret.val {v v' : Value} {w w' : World} {e : Ending} (h : Ret v w e w') (hv : v = v') : Ret v' w e w' := ⟨by rw [h.1, hv], h.2⟩

theorem below_step {B : Nat} {w wx w' : World} (h : Below B w wx) (hB : B ≤ w.heap.size) (hb : Below wx.heap.size wx w') : Below B w w' :=
  h.trans (hb.mono (Nat.le_trans hB h.size))

theorem ret_int {k : IntKind} {a b : Int} (h : a = b) : Ending.returned (.int k a) = .returned (.int k b) := by rw [h]
theorem ret_bool {a b : Bool} (h : a = b) : Ending.returned (.bool a) = .returned (.bool b) := by rw [h]

/-- Out of a block that is known whole: a cell; that it may be written; the block behind a store. -/
theorem cell_blk {w : World} {b : Nat} {cs : Array Value} {t : TypeId} {f : Nat × Nat} (h : w.heap[b]? = some (.cells cs t f)) (i : Nat) (v : Value) (hv : cs[i]? = some v) : w.cell? ⟨b, i, none⟩ = some v := by
  simp [World.cell?, h, hv]
theorem free_blk {w : World} {b : Nat} {cs : Array Value} {t : TypeId} (h : w.heap[b]? = some (.cells cs t (0, 0))) (i : Nat) : w.frozen? ⟨b, i, none⟩ = false := by
  simp [World.frozen?, h]
theorem set_blk {w : World} {b : Nat} {cs : Array Value} {t : TypeId} {f : Nat × Nat} (h : w.heap[b]? = some (.cells cs t f)) (i : Nat) (v : Value) : (w.setCell ⟨b, i, none⟩ v).heap[b]? = some (.cells (cs.setIfInBounds i v) t f) := by
  have hlt := lt_of_block h
  have h' : w.heap[b] = .cells cs t f := by simpa [Array.getElem?_eq_getElem hlt] using h
  show (w.heap.modify b _)[b]? = _
  rw [Array.getElem?_eq_getElem (by simpa using hlt), Array.getElem_modify_self, h']
  rfl
theorem blk_set_other {w : World} {b : Nat} {o : Option Obj} (h : w.heap[b]? = o) (a : Addr) (v : Value) (hb : b ≠ a.block) : (w.setCell a v).heap[b]? = o := by
  rw [Below.heap_setCell _ _ _ _ hb, h]
theorem blk_new (w : World) (o : Obj) : (w.alloc o).heap[w.heap.size]? = some o := by
  show (w.heap.push o)[w.heap.size]? = _
  simp
theorem blk_at (w : World) (o : Obj) (n : Nat) (h : n = w.heap.size) : (w.alloc o).heap[n]? = some o := by
  subst h; exact blk_new w o
theorem blk_old {w : World} {b : Nat} {o : Obj} (h : w.heap[b]? = some o) (p : Obj) : (w.alloc p).heap[b]? = some o := by
  rw [Below.heap_alloc _ _ _ (lt_of_block h), h]

/-- What the walk takes for rules behind a call that leaves what was there as it was. -/
theorem bcell {W w1 : World} (hb : Below W.heap.size W w1) : (∀ b o, b < W.heap.size → w1.cell? ⟨b, o, none⟩ = W.cell? ⟨b, o, none⟩) ∧ (∀ b o, b < W.heap.size → w1.frozen? ⟨b, o, none⟩ = W.frozen? ⟨b, o, none⟩) :=
  ⟨fun b o h => hb.cell (p := ⟨b, o, none⟩) h, fun b o h => hb.frozen (p := ⟨b, o, none⟩) h⟩
theorem blk_below {B b : Nat} {w w1 : World} {o : Obj} (h : w.heap[b]? = some o) (hb : Below B w w1) (hB : b < B) : w1.heap[b]? = some o := (hb.block b hB).trans h
theorem blk_later {b : Nat} {w w1 : World} {o : Obj} (h : w.heap[b]? = some o) (hb : Below w.heap.size w w1) : w1.heap[b]? = some o := (hb.block b (lt_of_block h)).trans h

/-- A block that is known whole, as rules for the walk. -/
theorem blk_rules {w : World} {b : Nat} {cs : Array Value} {t : TypeId} (h : w.heap[b]? = some (.cells cs t (0, 0))) : (∀ i, w.cell? ⟨b, i, none⟩ = cs[i]?) ∧ (∀ i, w.frozen? ⟨b, i, none⟩ = false) ∧ b < w.heap.size :=
  ⟨fun i => by simp [World.cell?, h], free_blk h, lt_of_block h⟩

/-- A world in which all blocks of w are as they were. -/
structure Later (w : World) where
  u : World
  ok : Below w.heap.size w u
instance (w : World) : Nonempty (Later w) := ⟨⟨w, Below.refl _ _⟩⟩

@[go_sem] theorem Later.cell {w : World} (x : Later w) (p : Addr) (h : p.block < w.heap.size) : x.u.cell? p = w.cell? p := x.ok.cell h
theorem Later.cell_some {w : World} (x : Later w) {p : Addr} {v : Value} (h : w.cell? p = some v) : x.u.cell? p = some v := cell_later x.ok h
theorem Later.call {P : Program} {f : FuncId} {args : Array Value} {w : World} {x : Later w} {v : Value} (h : Calls P f args x.u (Ret v x.u)) :
    Calls P f args x.u fun e w'' => e = .returned v ∧ ∃ y : Later w, w'' = y.u :=
  h.mono fun _ w'' ⟨h1, h2⟩ => ⟨h1, ⟨w'', below_step x.ok (Nat.le_refl _) h2⟩, rfl⟩

/-- A region that draws its order, its operations reading and its calls leaving what was there as it was: one walk in the order of the text serves every order. -/
theorem wp_region_later {P : Program} {id : Nat} {Q : Exit → Act → World → Prop} {a : Act} {w : World} {l : List Oper} (hm : P.follows .mixedOrders = true) (hB : Region.lexB .any l.toArray = true)
    (h : wpQuiet P l.toArray (fun w' => ∃ x : Later w, w' = x.u) (fun a' => ∀ w', (∃ x : Later w, w' = x.u) → Q .normal a' w') l a) : (Code.region id l.toArray true).wp P Q a w :=
  wp_region_quiet (C := fun w' => ∃ x : Later w, w' = x.u) hm hB ⟨⟨_, (Below.refl _ _).drew⟩, rfl⟩ (by simpa using h)

end Go.Proofs.Ytilfebopeeimnaa
