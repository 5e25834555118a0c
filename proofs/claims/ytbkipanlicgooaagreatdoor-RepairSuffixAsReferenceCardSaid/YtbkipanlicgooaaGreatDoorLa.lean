/-
  Helpers over any program: what a call returns while what was there stays as it was (Ret, Qui); a block that is known whole; a region that draws its order, whose operations read and whose calls leave what was there as it was, walked once in the text's order (Later, wp_region_later). No conditions but those in each statement.
-/
import Derived.WalkKit
import Derived.WalkSpells
import Derived.WalkLawsBesides
import Derived.Deep.QuietTactic
import Derived.BigQuiet
import Derived.Lib.Hide
import Derived.RegionTactic
import Derived.Deep.RegionHeld3
import Derived.Deep.DrawnRows
import Derived.Lib.SmallJoins
import Derived.Handy
import Derived.LoopN
import Derived.StillTail
namespace Go.Proofs.YtbkipanlicgooaaGreatDoor
open Go.RowKit

/-- The call returns v; what was there before is as it was. -/
def Ret (v : Value) (w : World) (e : Ending) (w' : World) : Prop := e = .returned v ∧ Below w.heap.size w w'
/-- The call returns v and only draws. -/
def Qui (v : Value) (w : World) (e : Ending) (w' : World) : Prop := e = .returned v ∧ ∃ n, w' = w.drewN n

theorem Qui.ret {v : Value} {w w' : World} {e : Ending} (h : Qui v w e w') : Ret v w e w' := by
  obtain ⟨h1, n, rfl⟩ := h
  exact ⟨h1, Joins.below_draws _ _ _⟩
theorem Ret.same {v : Value} {w w' : World} {e : Ending} (h1 : e = .returned v) (h2 : w = w') : Ret v w e w' := ⟨h1, by rw [← h2]; exact Below.refl _ _⟩
theorem Ret.val {v v' : Value} {w w' : World} {e : Ending} (h : Ret v w e w') (hv : v = v') : Ret v' w e w' := ⟨by rw [h.1, hv], h.2⟩

theorem below_step {B : Nat} {w wx w' : World} (h : Below B w wx) (hB : B ≤ w.heap.size) (hb : Below wx.heap.size wx w') : Below B w w' :=
  h.trans (hb.mono (Nat.le_trans hB h.size))

/-- Out of a block that is known whole: a cell; that it may be written; the block behind a store. -/
theorem cell_blk {w : World} {b : Nat} {cs : Array Value} {t : TypeId} {f : Nat × Nat} (h : w.heap[b]? = some (.cells cs t f)) (i : Nat) (v : Value) (hv : cs[i]? = some v) : w.cell? ⟨b, i, none⟩ = some v := by
  simp [World.cell?, h, hv]
theorem free_blk {w : World} {b : Nat} {cs : Array Value} {t : TypeId} (h : w.heap[b]? = some (.cells cs t (0, 0))) (i : Nat) : w.frozen? ⟨b, i, none⟩ = false := by
  simp [World.frozen?, h]
theorem set_blk {w : World} {b : Nat} {cs : Array Value} {t : TypeId} {f : Nat × Nat} (h : w.heap[b]? = some (.cells cs t f)) (i : Nat) (v : Value) : (w.setCell ⟨b, i, none⟩ v).heap[b]? = some (.cells (cs.setIfInBounds i v) t f) := by
  have hlt := lt_of_block h
  have h' : w.heap[b] = .cells cs t f := by simpa [Array.getElem?_eq_getElem hlt] using h
  show (w.heap.modify b _)[b]? = _
  rw [Array.getElem?_eq_getElem (by simpa using hlt), Array.getElem_modify_self, h']
  rfl
theorem blk_set_other {w : World} {b : Nat} {o : Option Obj} (h : w.heap[b]? = o) (a : Addr) (v : Value) (hb : b ≠ a.block) : (w.setCell a v).heap[b]? = o := by
  rw [Below.heap_setCell _ _ _ _ hb, h]
theorem blk_new (w : World) (o : Obj) : (w.alloc o).heap[w.heap.size]? = some o := by
  show (w.heap.push o)[w.heap.size]? = _
  simp
theorem blk_at (w : World) (o : Obj) (n : Nat) (h : n = w.heap.size) : (w.alloc o).heap[n]? = some o := by
  subst h; exact blk_new w o
theorem blk_old {w : World} {b : Nat} {o : Obj} (h : w.heap[b]? = some o) (p : Obj) : (w.alloc p).heap[b]? = some o := by
  rw [Below.heap_alloc _ _ _ (lt_of_block h), h]

theorem blk_later {b : Nat} {w w1 : World} {o : Obj} (h : w.heap[b]? = some o) (hb : Below w.heap.size w w1) : w1.heap[b]? = some o := (hb.block b (lt_of_block h)).trans h

/-- A block that is known whole, as rules for the walk. -/
theorem blk_rules {w : World} {b : Nat} {cs : Array Value} {t : TypeId} (h : w.heap[b]? = some (.cells cs t (0, 0))) : (∀ i, w.cell? ⟨b, i, none⟩ = cs[i]?) ∧ (∀ i, w.frozen? ⟨b, i, none⟩ = false) ∧ b < w.heap.size :=
  ⟨fun i => by simp [World.cell?, h], free_blk h, lt_of_block h⟩

/-- A world in which all blocks of w are as they were. -/
structure Later (w : World) where
  u : World
  ok : Below w.heap.size w u
instance (w : World) : Nonempty (Later w) := ⟨⟨w, Below.refl _ _⟩⟩

@[go_sem] theorem Later.cell {w : World} (x : Later w) (p : Addr) (h : p.block < w.heap.size) : x.u.cell? p = w.cell? p := x.ok.cell h
theorem Later.call {P : Program} {f : FuncId} {args : Array Value} {w : World} {x : Later w} {v : Value} (h : Calls P f args x.u (Ret v x.u)) :
    Calls P f args x.u fun e w'' => e = .returned v ∧ ∃ y : Later w, w'' = y.u :=
  h.mono fun _ w'' ⟨h1, h2⟩ => ⟨h1, ⟨w'', below_step x.ok (Nat.le_refl _) h2⟩, rfl⟩

/-- A region that draws its order, its operations reading and its calls leaving what was there as it was: one walk in the order of the text serves every order. -/
theorem wp_region_later {P : Program} {id : Nat} {Q : Exit → Act → World → Prop} {a : Act} {w : World} {l : List Oper} (hm : P.follows .mixedOrders = true) (hB : Region.lexB .any l.toArray = true)
    (h : wpQuiet P l.toArray (fun w' => ∃ x : Later w, w' = x.u) (fun a' => ∀ w', (∃ x : Later w, w' = x.u) → Q .normal a' w') l a) : (Code.region id l.toArray true).wp P Q a w :=
  wp_region_quiet (C := fun w' => ∃ x : Later w, w' = x.u) hm hB ⟨⟨_, (Below.refl _ _).drew⟩, rfl⟩ (by simpa using h)

end Go.Proofs.YtbkipanlicgooaaGreatDoor
namespace Go.Proofs.YtbkipanlicgooaaGreatDoor
open Go.RowKit
section
variable {P : Program} {ops : Array Oper} {md : Region.Mode} {C : World → Prop}

/-- Of the head's operations any that is ready may come next; each is quiet in the class C; L holds when the head is done. -/
def HeadQ (P : Program) (md : Region.Mode) (ops : Array Oper) (C : World → Prop) (n : Nat) (L : Array Bool → Act → Prop) : Nat → Array Bool → Act → Prop
  | 0, done, a => L done a
  | f + 1, done, a => Region.ready md ops done ≠ [] ∧ ∀ i ∈ Region.ready md ops done, i < n ∧ qOp P ops C i (HeadQ P md ops C n L f (done.setIfInBounds i true)) a

theorem HeadQ.any {n g : Nat} {L : Array Bool → Act → Prop} {Q : Exit → Act → World → Prop} (hL : ∀ done a w, C w → L done a → wpAny P md ops Q g done a w) :
    ∀ (f : Nat) (done : Array Bool) (a : Act) (w : World), C w → HeadQ P md ops C n L f done a → wpAny P md ops Q (f + g) done a w := by
  intro f
  induction f with
  | zero => intro done a w hw h; rw [Nat.zero_add]; exact hL _ _ _ hw h
  | succ f ih =>
    intro done a w hw h
    rw [show f + 1 + g = (f + g) + 1 by omega]
    exact ⟨fun h0 => absurd h0 h.1, fun i hi => wpOp_of_qOp hw (fun a' w' hw' h' => ih _ a' w' hw' h') (h.2 i hi).2⟩

theorem HeadQ.first {n i : Nat} {oi : Oper} {v : Value} {L : Array Bool → Act → Prop} (hi : ops[i]? = some oi) (hsel : ∀ (j : Nat) (o : Oper) cs b, ops[j]? = some o → o.op ≠ .select cs b)
    (hs : Region.sinkB md ops n = true) (hc : Region.chainB md ops n = true) (hn : n < ops.size) (hin : i < n) (hend : ∀ done a, L done a → ∀ j ∈ Region.ready md ops done, n ≤ j) :
    ∀ (f : Nat) (done : Array Bool) (a : Act), HeadInv md ops n done →
      (∀ j oj, ops[j]? = some oj → j ≠ i → done.getD j true = false → (∀ e ∈ oj.after, Region.binds md e = true → e.on ≠ i) → oi.apart ops oj = true) →
      i ∈ Region.ready md ops done → YieldsIn P ops C oi v a →
      HeadQ P md ops C n L f (done.setIfInBounds i true) (a.put oi.dst v) → HeadQ P md ops C n L (f + 1) done a := by
  intro f
  induction f with
  | zero =>
    intro done a inv _ hr hy H
    have hun := (mem_ready.1 hr).1
    refine ⟨fun h => (by rw [h] at hr; cases hr), fun j hj => ?_⟩
    have hjn : j < n := (Nat.lt_or_ge j n).elim id fun h => absurd hj (tail_waits hs hc hn inv _ i rfl hin hun j h)
    refine ⟨hjn, ?_⟩
    by_cases hji : j = i
    · subst hji; exact hy.qOp hi H
    · have := hend _ _ H j (ready_mono hj hji)
      omega
  | succ f ih =>
    intro done a inv hfree hr hy H
    have hun := (mem_ready.1 hr).1
    refine ⟨fun h => (by rw [h] at hr; cases hr), fun j hj => ?_⟩
    have hjn : j < n := (Nat.lt_or_ge j n).elim id fun h => absurd hj (tail_waits hs hc hn inv _ i rfl hin hun j h)
    refine ⟨hjn, ?_⟩
    by_cases hji : j = i
    · subst hji; exact hy.qOp hi H
    · have h1 := (H.2 j (ready_mono hj hji)).2
      obtain ⟨hjun, oj, hoj, hall⟩ := mem_ready.1 hj
      have hnot : ∀ e ∈ oj.after, Region.binds md e = true → e.on ≠ i := fun e he hb heq => by
        have h1 := hall e he hb
        rw [heq, getD_both hun] at h1
        cases h1
      have h2 := qOp_put hoj (hfree j oj hoj hji hjun hnot) (fun cs b => hsel i oi cs b hi) (fun cs b => hsel j oj cs b hoj) hy h1
      have hfree' : ∀ k ok, ops[k]? = some ok → k ≠ i → (done.setIfInBounds j true).getD k true = false →
          (∀ e ∈ ok.after, Region.binds md e = true → e.on ≠ i) → oi.apart ops ok = true := fun k ok hk hki hu hno => by
        refine hfree k ok hk hki ?_ hno
        by_cases hjk : j = k
        · subst hjk; exact hjun
        · rw [getD_set_ne true hjk] at hu; exact hu
      refine qOp_mono (fun a' h3 => ih (done.setIfInBounds j true) a' (inv.set hj hjn) hfree' (ready_mono hr (Ne.symm hji)) h3.1 ?_) h2
      rw [Array.setIfInBounds_comm _ _ hji]
      exact h3.2

theorem HeadQ.lex {n g : Nat} {Lq : Act → Prop} (hsel : Region.noSelect ops = true) (hs : Region.sinkB md ops n = true) (hc : Region.chainB md ops n = true) (hn : n < ops.size) :
    ∀ (l : List Oper) (k : Nat) (done : Array Bool) (a : Act), (∀ j, j < l.length → l[j]? = ops[k + j]?) → k + l.length = n → HeadInv md ops n done →
    Region.lexHead md ops g l.length k done = true → wpQuiet P ops C Lq l a →
    HeadQ P md ops C n (fun d a' => Region.seqB md ops g n d = true ∧ Lq a') l.length done a := by
  intro l
  induction l with
  | nil =>
    intro k done a _ hk _ hB h
    have : k = n := by simpa using hk
    subst this
    exact ⟨by simpa [Region.lexHead] using hB, h⟩
  | cons o l ih =>
    intro k done a hl hk inv hB h
    have h0 : ops[k]? = some o := by simpa using (hl 0 (by simp)).symm
    simp only [List.length_cons, Region.lexHead, Bool.and_eq_true] at hB
    obtain ⟨⟨hr, hf⟩, hB'⟩ := hB
    have hkn : k < n := by simp only [List.length_cons] at hk; omega
    have hr' : k ∈ Region.ready md ops done := by simpa using hr
    have hst : qOp P ops C k (wpQuiet P ops C Lq l) a := by unfold qOp; simp only [h0]; exact h
    obtain ⟨v, hy, hK⟩ := yieldsIn_of_qOp h0 hst
    exact HeadQ.first h0 (Region.noSelect_spec hsel) hs hc hn hkn (fun d a' hL => seqB_ready hL.1) l.length done a inv (Region.free_spec h0 hf) hr' hy
      (ih (k + 1) _ _ (fun j hj => by have := hl (j + 1) (by simp; omega); simpa [Nat.add_assoc, Nat.add_comm 1 j] using this) (by simp only [List.length_cons] at hk; omega) (inv.set hr' hkn) hB' hK)

/-- The first n operations read and call quietly; those behind them come in the text's order, whatever is drawn. -/
theorem wp_region_later_tail {id : Nat} {Q : Exit → Act → World → Prop} {a : Act} {w : World} {l : List Oper} (n : Nat) (hm : P.follows .mixedOrders = true) (hB : Region.lexTailB .any l.toArray n = true)
    (h : wpQuiet P l.toArray (fun w' => ∃ x : Later w, w' = x.u) (fun a' => ∀ w', (∃ x : Later w, w' = x.u) → wpList P l.toArray Q (l.drop n) a' w') (l.take n) a) : (Code.region id l.toArray true).wp P Q a w := by
  simp only [Region.lexTailB, Bool.and_eq_true, decide_eq_true_eq] at hB
  obtain ⟨⟨⟨⟨hsel, hn⟩, hs⟩, hc⟩, hlex⟩ := hB
  have hn' : n < l.length := by simpa using hn
  have htl : (l.take n).length = n := by simp; omega
  have hdl : (l.drop n).length = l.toArray.size - n := by simp
  have inv0 : HeadInv .any l.toArray n (Array.replicate l.toArray.size false) :=
    ⟨by simp, fun j oj _ hl => (by rw [getD_replicate_false] at hl; cases hl), fun t _ ht => getD_in (by simpa using ht) (getD_replicate_false _ _)⟩
  have H := HeadQ.lex (md := .any) (g := l.toArray.size - n) hsel hs hc hn (l.take n) 0 _ a (fun j hj => by
    have hj' : j < n := by rw [htl] at hj; exact hj
    simp [hj']) (by simpa using htl) inv0 (by rw [htl]; exact hlex) h
  refine wp_region_any hm ?_
  have := HeadQ.any (Q := Q) (g := l.toArray.size - n) (fun done a' w' hw' hL => by
    have := wpAny_of_seq (md := .any) (Q' := Q) (l.drop n) n done a' w' (fun j => by simp [List.getElem?_drop]) (by rw [hdl]; exact hL.1) (hL.2 w' hw')
    rwa [hdl] at this) _ _ _ { w with drawn := w.drawn + 1 } ⟨⟨_, (Below.refl _ _).drew⟩, rfl⟩ H
  rw [htl, show n + (l.toArray.size - n) = l.toArray.size by omega] at this
  exact this
end
end Go.Proofs.YtbkipanlicgooaaGreatDoor
namespace Go.Proofs.YtbkipanlicgooaaGreatDoor
open Go.RowKit

/-! ### The call's own blocks, kept along a walk -/
/-- Each of these blocks holds these cells, none of them frozen. -/
def Blks (W : World) : List (Nat × Array Value × TypeId) → Prop
  | [] => True
  | p :: L => W.heap[p.1]? = some (.cells p.2.1 p.2.2 (0, 0)) ∧ Blks W L
/-- The same as rules for the walk. -/
def Rules (W : World) : List (Nat × Array Value × TypeId) → Prop
  | [] => True
  | p :: L => ((∀ i, W.cell? ⟨p.1, i, none⟩ = p.2.1[i]?) ∧ (∀ i, W.frozen? ⟨p.1, i, none⟩ = false) ∧ p.1 < W.heap.size) ∧ Rules W L
theorem Blks.rules {W : World} : ∀ {L : List (Nat × Array Value × TypeId)}, Blks W L → Rules W L
  | [], _ => trivial
  | _ :: _, h => ⟨blk_rules h.1, Blks.rules h.2⟩
theorem Blks.keep {W W' : World} : ∀ {L : List (Nat × Array Value × TypeId)}, (∀ (b : Nat) (o : Obj), W.heap[b]? = some o → W'.heap[b]? = some o) → Blks W L → Blks W' L
  | [], _, _ => trivial
  | _ :: _, hk, h => ⟨hk _ _ h.1, Blks.keep hk h.2⟩

/-- Since the call began in w what was there is as it was; the call's own blocks hold L. -/
structure St (w W : World) (L : List (Nat × Array Value × TypeId)) : Prop where
  below : Below w.heap.size w W
  blks : Blks W L
theorem St.start (w : World) : St w w [] := ⟨Below.refl _ _, trivial⟩
theorem St.alloc {w W : World} {L : List (Nat × Array Value × TypeId)} (h : St w W L) (cs : Array Value) (t : TypeId) : St w (W.alloc (.cells cs t)) ((W.heap.size, cs, t) :: L) :=
  ⟨h.below.alloc h.below.size _, blk_new _ _, h.blks.keep fun _ _ hb => blk_old hb _⟩
theorem St.later {w W W' : World} {L : List (Nat × Array Value × TypeId)} (h : St w W L) (hb : Below W.heap.size W W') : St w W' L :=
  ⟨below_step h.below (Nat.le_refl _) hb, h.blks.keep fun _ _ hk => blk_later hk hb⟩
theorem St.drew {w W : World} {L : List (Nat × Array Value × TypeId)} (h : St w W L) : St w W.drew L := h.later (Below.refl _ _).drew
theorem St.drewN {w W : World} {L : List (Nat × Array Value × TypeId)} (h : St w W L) (n : Nat) : St w (W.drewN n) L := h.later (Joins.below_draws _ _ _)
theorem St.cast {w W X : World} {L : List (Nat × Array Value × TypeId)} (hX : W = X) (h : St w W L) : St w X L := by rw [← hX]; exact h
theorem St.rules {w W : World} {L : List (Nat × Array Value × TypeId)} (h : St w W L) : Rules W L := h.blks.rules

end Go.Proofs.YtbkipanlicgooaaGreatDoor
namespace Go.Proofs.YtbkipanlicgooaaGreatDoor
open Go.RowKit

/-- A known block more. -/
theorem St.more {w W : World} {L : List (Nat × Array Value × TypeId)} (h : St w W L) {b : Nat} {cs : Array Value} {t : TypeId} (hb : W.heap[b]? = some (.cells cs t (0, 0))) : St w W ((b, cs, t) :: L) :=
  ⟨h.below, hb, h.blks⟩

/-- The list of blocks behind a store. -/
def setIn (b i : Nat) (v : Value) : List (Nat × Array Value × TypeId) → List (Nat × Array Value × TypeId)
  | [] => []
  | p :: L => (if p.1 = b then (p.1, p.2.1.setIfInBounds i v, p.2.2) else p) :: setIn b i v L

theorem Blks.set {W : World} {b i : Nat} {v : Value} : ∀ {L : List (Nat × Array Value × TypeId)}, Blks W L → Blks (W.setCell ⟨b, i, none⟩ v) (setIn b i v L)
  | [], _ => trivial
  | (n, cs, t) :: L, h => by
    refine ⟨?_, Blks.set h.2⟩
    by_cases hn : n = b
    · subst hn
      rw [if_pos rfl]
      exact set_blk h.1 i v
    · rw [if_neg hn]
      exact blk_set_other h.1 _ _ hn

theorem St.set {w W : World} {L : List (Nat × Array Value × TypeId)} (h : St w W L) (b i : Nat) (v : Value) (hb : w.heap.size ≤ b) : St w (W.setCell ⟨b, i, none⟩ v) (setIn b i v L) :=
  ⟨h.below.setCell hb v, h.blks.set⟩

end Go.Proofs.YtbkipanlicgooaaGreatDoor
