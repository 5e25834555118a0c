/-
  append onto a row that the call itself made, over the walk's words for its own blocks: the source may be nil; what is there before stays. No conditions but those in the statements.
-/
import Derived.Maps.AppendAt
import Derived.Deep.AppendLies
import Derived.Laws.OwnMore
import Derived.OwnWalk
import Derived.Test.YtmplcceoepkppaaCadH
import Derived.Test.YtmplcceoepkppaaLawD
namespace Go.Proofs.Ytmplcceoepkppaa
open Go.RowKit

/-- Behind the slice A lie k cells, as f says. -/
def GenAt (w : World) (A : Option Addr) (k : Nat) (f : Nat → Value) : Prop :=
  ∀ i, i < k → ∃ ad, A = some ad ∧ (ad.add i).block < w.heap.size ∧ w.cell? (ad.add i) = some (f i)
theorem IntsAt.gen {w : World} {A : Option Addr} {N : Nat} {M : Nat → Int} (h : IntsAt w A N M) : GenAt w A N (fun i => .int .i64 (M i)) := h
/-- The cells of steps, in their order. -/
def stepG (s : Sq) (i : Nat) : Value := if i % 3 = 0 then .int .i64 (s.F (i / 3)) else if i % 3 = 1 then .int .i64 (s.L (i / 3)) else .int .i64 (s.M (i / 3))
theorem add_two (a : Addr) (m k : Nat) (hk : 0 < k) : (⟨(a.add m).block, (a.add m).off + k, none⟩ : Addr) = a.add (m + k) := by
  unfold Addr.add
  by_cases h : m = 0
  · subst h
    rw [if_pos rfl, if_neg (by omega), Nat.zero_add]
  · rw [if_neg h, if_neg (by omega)]
    simp [Nat.add_assoc]
theorem block_add (a : Addr) (n : Nat) : (a.add n).block = a.block := by unfold Addr.add; split <;> rfl
theorem StepsAt.gen {w : World} {A : Option Addr} {s : Sq} (h : StepsAt w A s) : GenAt w A (s.n * 3) (stepG s) := by
  intro i hi
  obtain ⟨ad, rfl, hb, h0, h1, h2⟩ := h (i / 3) (by omega)
  rw [block_add] at hb
  refine ⟨ad, rfl, by rw [block_add]; exact hb, ?_⟩
  unfold stepG
  split
  · rename_i e
    rw [show i = i / 3 * 3 by omega]
    simpa using h0
  · split
    · rename_i e
      rw [add_two _ _ _ (by omega), show i / 3 * 3 + 1 = i by omega] at h1
      exact h1
    · rw [add_two _ _ _ (by omega), show i / 3 * 3 + 2 = i by omega] at h2
      exact h2

theorem range_app {a b : Nat} {f g F : Nat → Value} (h1 : ∀ i, i < a → F i = f i) (h2 : ∀ i, i < b → F (a + i) = g i) : (List.range a).map f ++ (List.range b).map g = (List.range (a + b)).map F := by
  rw [List.range_add, List.map_append, List.map_map]
  congr 1
  · exact List.map_congr_left fun i hi => (h1 i (List.mem_range.1 hi)).symm
  · exact List.map_congr_left fun i hi => (h2 i (List.mem_range.1 hi)).symm

section
variable {P : Program}
theorem run_append_nothing (w : World) (base : Nat) (t ty e : TypeId) (i : TypeInfo) (size : Nat) (ht : P.underlying t = some (.slice e)) (hi : P.info? e = some i)
    (v : Value) (n : Nat) (xs : List Value) (hown : w.ownsRow base e size v n xs) (c : Nat) : (Builtin.append_ #[t, t] ty #[v, .slice none 0 c]).run P w = .ok v w := by
  rcases hown.2 with ⟨rfl, rfl⟩ | ⟨g, cap, cur, rfl, _, _, hnc, _⟩
  · simp [Builtin.append_, run_underlying ht, sizeOf, typeInfo, hi, Builtin.lenOf, Builtin.firstCells]
  · simp [Builtin.append_, run_underlying ht, sizeOf, typeInfo, hi, Builtin.lenOf, Builtin.firstCells, hnc, storeCells]

/-- No block of the list holds elements of the type e. -/
def Other (e : TypeId) : List (Nat × Array Value × TypeId) → Prop
  | [] => True
  | p :: L => p.2.2 ≠ e ∧ Other e L

theorem Blks.grown {W W' : World} {base n size : Nat} {e : TypeId} {v : Value} {xs : List Value} (hown : W.ownsRow base e size v n xs) (hg : W.grownBy W' v.ownBlock) :
    ∀ {L : List (Nat × Array Value × TypeId)}, Other e L → Blks W L → Blks W' L
  | [], _, _ => trivial
  | p :: L, ho, hb => ⟨by
      refine (hg.block p.1 (lt_of_block hb.1) fun he => ?_).trans hb.1
      rcases hown.2 with ⟨rfl, _⟩ | ⟨g, cap, cur, rfl, _, hh, _⟩
      · simp [Value.ownBlock] at he
      · have e1 : p.1 = g := by simpa [Value.ownBlock] using he
        have h1 := hb.1
        rw [e1, hh] at h1
        simp at h1
        exact ho.1 h1.2.symm, Blks.grown hown hg ho.2 hb.2⟩

theorem St.grown {w W W' : World} {L : List (Nat × Array Value × TypeId)} {n size : Nat} {e : TypeId} {v : Value} {xs : List Value} (h : St w W L)
    (hown : W.ownsRow w.heap.size e size v n xs) (hg : W.grownBy W' v.ownBlock) (ho : Other e L) : St w W' L :=
  ⟨h.below.grown hg h.below.size fun g hv => (hown.lt g hv).1, h.blks.grown hown hg ho⟩
theorem St.skip {w W : World} {L : List (Nat × Array Value × TypeId)} (h : St w W L) (o : Obj) : St w (W.alloc o) L :=
  ⟨h.below.alloc h.below.size _, h.blks.keep fun _ _ hb => blk_old hb _⟩

/-- append, run: the row grows; the call's own blocks, and what was there before, stay. -/
theorem run_app {w W : World} {L : List (Nat × Array Value × TypeId)} (B : St w W L) {t ty e : TypeId} {i : TypeInfo} {z : Value} {size bytes : Nat} (ht : P.underlying t = some (.slice e)) (hi : P.info? e = some i) (hz : i.zero = some z)
    (hsize : i.size = size) (hby : i.bytes = bytes) (hzs : z.cells.size = size) (hsz : 0 < size) {v : Value} {n k : Nat} {f : Nat → Value} (hown : W.ownsRow w.heap.size e size v n ((List.range k).map f)) (ho : Other e L)
    {A : Option Addr} {m c : Nat} {g : Nat → Value} (hsrc : GenAt W A (m * size) g) (h1 : ∀ i, (g i).oneCell' = true) (h63 : n + m ≤ maxLen) (hbytes : (n + m) * bytes ≤ 140737488355328)
    (F : Nat → Value) (hF1 : ∀ i, i < k → F i = f i) (hF2 : ∀ i, i < m * size → F (k + i) = g i) :
    ∃ v' W', (Builtin.append_ #[t, t] ty #[v, .slice A m c]).run P W = .ok v' W' ∧ W'.ownsRow w.heap.size e size v' (n + m) ((List.range (k + m * size)).map F) ∧ St w W' L := by
  rcases A with _ | ad
  · have hm : m = 0 := by
      rcases Nat.eq_zero_or_pos (m * size) with h0 | h0
      · rcases Nat.mul_eq_zero.1 h0 with h | h <;> omega
      · obtain ⟨_, h, _⟩ := hsrc 0 h0
        cases h
    subst hm
    refine ⟨v, W, run_append_nothing W w.heap.size t ty e i size ht hi v n _ hown c, ?_, B⟩
    rw [← range_app hF1 hF2]
    simpa using hown
  · obtain ⟨v', W', hr, h2, h3, _, _⟩ := run_append_own_at (P := P) W w.heap.size t ty e i z size bytes ht hi hz hsize hby hzs hsz v n _ hown ad m c ((List.range (m * size)).map g) (by simp)
      (fun j u hu => by
        have hj : j < m * size := by
          rcases Nat.lt_or_ge j (m * size) with h | h
          · exact h
          · rw [List.getElem?_eq_none (by simpa using h)] at hu; cases hu
        obtain ⟨ad', he, _, hc⟩ := hsrc j hj
        obtain rfl : ad = ad' := by injection he
        rw [hc]
        simpa [hj] using hu)
      (fun u hu => by
        obtain ⟨j, _, rfl⟩ := List.mem_map.1 hu
        exact h1 j) h63 hbytes B.below.size
    exact ⟨v', W', hr, by rw [← range_app hF1 hF2]; exact h2, B.grown hown h3 ho⟩

theorem wp_app {w W : World} {L : List (Nat × Array Value × TypeId)} (B : St w W L) {o : Oper} {a : Act} {K : Act → World → Prop} {Q : Exit → Act → World → Prop} (s x : Operand) {t e : TypeId}
    (hop : o.op = .call { callee := .builtin .append, args := #[s, x], argTypes := #[t, t] }) {i : TypeInfo} {z : Value} {size bytes : Nat} (ht : P.underlying t = some (.slice e)) (hi : P.info? e = some i) (hz : i.zero = some z)
    (hsize : i.size = size) (hby : i.bytes = bytes) (hzs : z.cells.size = size) (hsz : 0 < size) {v : Value} {n k : Nat} {f : Nat → Value} (hs : a.eval s = v) (hown : W.ownsRow w.heap.size e size v n ((List.range k).map f)) (ho : Other e L)
    {A : Option Addr} {m c : Nat} {g : Nat → Value} (hx : a.eval x = .slice A m c) (hsrc : GenAt W A (m * size) g) (h1 : ∀ i, (g i).oneCell' = true) (h63 : n + m ≤ maxLen) (hbytes : (n + m) * bytes ≤ 140737488355328)
    (F : Nat → Value) (hF1 : ∀ i, i < k → F i = f i) (hF2 : ∀ i, i < m * size → F (k + i) = g i)
    (h : ∀ v' W', W'.ownsRow w.heap.size e size v' (n + m) ((List.range (k + m * size)).map F) → St w W' L → K (a.put o.dst v') W') : o.wp P a W K Q := by
  obtain ⟨v', W', hr, h2, h3⟩ := run_app (P := P) (ty := o.type) B ht hi hz hsize hby hzs hsz hown ho (c := c) hsrc h1 h63 hbytes F hF1 hF2
  unfold Oper.wp execOp
  simp only [hop, resolve, invoke, builtin, Sem.run_bind, Sem.run_pure, Result.andThen_ok, List.map_toArray, List.map_cons, List.map_nil, hs, hx, hr]
  exact h v' W' h2 h3

/-- In a plain region. -/
theorem wpList_app {w W : World} {L : List (Nat × Array Value × TypeId)} (B : St w W L) {ops : Array Oper} {rest : List Oper} {o : Oper} {a : Act} {Q : Exit → Act → World → Prop} (hgd : o.guard = none) (s x : Operand) {t e : TypeId}
    (hop : o.op = .call { callee := .builtin .append, args := #[s, x], argTypes := #[t, t] }) {i : TypeInfo} {z : Value} {size bytes : Nat} (ht : P.underlying t = some (.slice e)) (hi : P.info? e = some i) (hz : i.zero = some z)
    (hsize : i.size = size) (hby : i.bytes = bytes) (hzs : z.cells.size = size) (hsz : 0 < size) {v : Value} {n k : Nat} {f : Nat → Value} (hs : a.eval s = v) (hown : W.ownsRow w.heap.size e size v n ((List.range k).map f)) (ho : Other e L)
    {A : Option Addr} {m c : Nat} {g : Nat → Value} (hx : a.eval x = .slice A m c) (hsrc : GenAt W A (m * size) g) (h1 : ∀ i, (g i).oneCell' = true) (h63 : n + m ≤ maxLen) (hbytes : (n + m) * bytes ≤ 140737488355328)
    (F : Nat → Value) (hF1 : ∀ i, i < k → F i = f i) (hF2 : ∀ i, i < m * size → F (k + i) = g i)
    (h : ∀ v' W', W'.ownsRow w.heap.size e size v' (n + m) ((List.range (k + m * size)).map F) → St w W' L → wpList P ops Q rest (a.put o.dst v') W') : wpList P ops Q (o :: rest) a W :=
  wpList_plain hgd fun _ hK => wp_app B s x hop ht hi hz hsize hby hzs hsz hs hown ho hx hsrc h1 h63 hbytes F hF1 hF2 fun v' W' h2 h3 => hK _ _ (h v' W' h2 h3)

/-- In a region that draws its order. -/
theorem step_app {w W : World} {L : List (Nat × Array Value × TypeId)} (B : St w W L) {ops : Array Oper} {o : Oper} {a : Act} {K : Act → World → Prop} {Q : Exit → Act → World → Prop} {E : Prop} (hgd : o.guard = none) (s x : Operand) {t e : TypeId}
    (hop : o.op = .call { callee := .builtin .append, args := #[s, x], argTypes := #[t, t] }) {i : TypeInfo} {z : Value} {size bytes : Nat} (ht : P.underlying t = some (.slice e)) (hi : P.info? e = some i) (hz : i.zero = some z)
    (hsize : i.size = size) (hby : i.bytes = bytes) (hzs : z.cells.size = size) (hsz : 0 < size) {v : Value} {n k : Nat} {f : Nat → Value} (hs : a.eval s = v) (hown : W.ownsRow w.heap.size e size v n ((List.range k).map f)) (ho : Other e L)
    {A : Option Addr} {m c : Nat} {g : Nat → Value} (hx : a.eval x = .slice A m c) (hsrc : GenAt W A (m * size) g) (h1 : ∀ i, (g i).oneCell' = true) (h63 : n + m ≤ maxLen) (hbytes : (n + m) * bytes ≤ 140737488355328)
    (F : Nat → Value) (hF1 : ∀ i, i < k → F i = f i) (hF2 : ∀ i, i < m * size → F (k + i) = g i)
    (h : ∀ v' W', W'.ownsRow w.heap.size e size v' (n + m) ((List.range (k + m * size)).map F) → St w W' L → K (a.put o.dst v') W') :
    if Region.wanted o (yielded ops a.tmps) = true then Oper.wp P o a W K Q else E := by
  have hw : Region.wanted o (yielded ops a.tmps) = true := by simp [Region.wanted, hgd]
  rw [if_pos hw]
  exact wp_app B s x hop ht hi hz hsize hby hzs hsz hs hown ho hx hsrc h1 h63 hbytes F hF1 hF2 h
end

/-! ### What an own row holds, as moments and as steps -/
theorem own_some {w : World} {base n size : Nat} {e : TypeId} {v : Value} {xs : List Value} (h : w.ownsRow base e size v n xs) :
    ∃ (A : Option Addr) (c : Nat), v = .slice A n c ∧ n ≤ c ∧ ∀ j u, xs[j]? = some u → ∃ g : Nat, A = some ⟨g, 0, none⟩ ∧ base ≤ g ∧ g < w.heap.size ∧ w.cell? ⟨g, j, none⟩ = some u ∧ w.frozen? ⟨g, j, none⟩ = false := by
  have hl := h.1
  rcases h.2 with ⟨rfl, rfl⟩ | ⟨g, cap, cur, rfl, hb, hh, hnc, _, hcs, htake⟩
  · refine ⟨none, 0, rfl, Nat.le_refl _, fun j u hu => ?_⟩
    have hx : xs = [] := List.eq_nil_of_length_eq_zero (by simpa using hl)
    rw [hx] at hu
    simp at hu
  · refine ⟨_, _, rfl, hnc, fun j u hu => ⟨g, rfl, hb, lt_of_block hh, ?_, by simp [World.frozen?, hh]⟩⟩
    rw [← htake, List.getElem?_take] at hu
    split at hu
    · simpa [World.cell?, hh] using hu
    · cases hu
theorem own_gen {w : World} {base n size k : Nat} {e : TypeId} {v : Value} {f : Nat → Value} (h : w.ownsRow base e size v n ((List.range k).map f)) :
    ∃ (A : Option Addr) (c : Nat), v = .slice A n c ∧ n ≤ c ∧ GenAt w A k f := by
  obtain ⟨A, c, hv, hc, hx⟩ := own_some h
  refine ⟨A, c, hv, hc, fun i hi => ?_⟩
  obtain ⟨g, rfl, _, hg, hcell, _⟩ := hx i (f i) (by simp [hi])
  exact ⟨_, rfl, by rw [block_add]; exact hg, by
    have e : (⟨g, 0, none⟩ : Addr).add i = ⟨g, i, none⟩ := by unfold Addr.add; split <;> simp_all
    rw [e]; exact hcell⟩

/-- The own row, as a block of the walk. -/
theorem own_blk {w : World} {base n size k : Nat} {e : TypeId} {v : Value} {f : Nat → Value} (h : w.ownsRow base e size v n ((List.range k).map f)) (hk : 0 < k) :
    ∃ (g c : Nat) (cur : Array Value), v = .slice (some ⟨g, 0, none⟩) n c ∧ n ≤ c ∧ base ≤ g ∧ w.heap[g]? = some (.cells cur e (0, 0)) ∧ ∀ j, j < k → cur[j]? = some (f j) := by
  have hl := h.1
  rcases h.2 with ⟨rfl, rfl⟩ | ⟨g, cap, cur, rfl, hb, hh, hnc, _, hcs, htake⟩
  · simp at hl
    omega
  · refine ⟨g, cap, cur, rfl, hnc, hb, hh, fun j hj => ?_⟩
    have h1 : (cur.toList.take (n * size))[j]? = some (f j) := by rw [htake]; simp [hj]
    rw [List.getElem?_take] at h1
    split at h1
    · simpa using h1
    · cases h1
theorem blk_ne {w : World} {a b : Nat} {c d : Array Value} {t u : TypeId} (h1 : w.heap[a]? = some (.cells c t (0, 0))) (h2 : w.heap[b]? = some (.cells d u (0, 0))) (ht : t ≠ u) : a ≠ b := by
  rintro rfl
  rw [h1] at h2
  simp at h2
  exact ht h2.2
theorem own_of_blk {W : World} {base g : Nat} {e : TypeId} (hb : W.heap[g]? = some (.cells #[] e (0, 0))) (hg : base ≤ g) (size : Nat) (f : Nat → Value) : W.ownsRow base e size (.slice (some ⟨g, 0, none⟩) 0 0) 0 ((List.range 0).map f) :=
  ⟨by simp, .inr ⟨g, 0, #[], rfl, hg, hb, Nat.le_refl _, by decide, by simp, by simp⟩⟩
theorem put2_0 (a b v : Value) : (#[a, b] : Array Value).setIfInBounds 0 v = #[v, b] := rfl
theorem stepG_0 (s : Sq) (i : Nat) : stepG s (i * 3) = .int .i64 (s.F i) := by simp [stepG]
theorem stepG_1 (s : Sq) (i : Nat) : stepG s (i * 3 + 1) = .int .i64 (s.L i) := by
  have e : (i * 3 + 1) / 3 = i := by omega
  have e2 : (i * 3 + 1) % 3 = 1 := by omega
  simp [stepG, e, e2]
theorem stepG_2 (s : Sq) (i : Nat) : stepG s (i * 3 + 2) = .int .i64 (s.M i) := by
  have e : (i * 3 + 2) / 3 = i := by omega
  have e2 : (i * 3 + 2) % 3 = 2 := by omega
  simp [stepG, e, e2]
theorem stepG_one (s : Sq) (i : Nat) : (stepG s i).oneCell' = true := by
  unfold stepG
  split
  · rfl
  · split <;> rfl
/-- The cells of the wider sequence. -/
theorem wider_cells {cur : Array Value} {s : Sq} {k : Nat} {l m : Int} (hc : ∀ j, j < s.n * 3 → cur[j]? = some (stepG s j)) : ∀ i, i < (widerS s k l m).n →
    ((cur.setIfInBounds (k * 3 + 1) (.int .i64 l)).setIfInBounds (k * 3 + 2) (.int .i64 m))[i * 3]? = some (.int .i64 ((widerS s k l m).F i)) ∧
    ((cur.setIfInBounds (k * 3 + 1) (.int .i64 l)).setIfInBounds (k * 3 + 2) (.int .i64 m))[i * 3 + 1]? = some (.int .i64 ((widerS s k l m).L i)) ∧
    ((cur.setIfInBounds (k * 3 + 1) (.int .i64 l)).setIfInBounds (k * 3 + 2) (.int .i64 m))[i * 3 + 2]? = some (.int .i64 ((widerS s k l m).M i)) := by
  intro i hi
  have hi' : i < s.n := hi
  have h0 := hc (i * 3) (by omega)
  have h1 := hc (i * 3 + 1) (by omega)
  have h2 := hc (i * 3 + 2) (by omega)
  rw [stepG_0] at h0
  rw [stepG_1] at h1
  rw [stepG_2] at h2
  have hs : i * 3 + 2 < cur.size := by
    rcases Nat.lt_or_ge (i * 3 + 2) cur.size with h | h
    · exact h
    · rw [Array.getElem?_eq_none h] at h2; cases h2
  refine ⟨?_, ?_, ?_⟩
  · rw [Array.getElem?_setIfInBounds_ne (by omega), Array.getElem?_setIfInBounds_ne (by omega)]
    exact h0
  · rw [Array.getElem?_setIfInBounds_ne (by omega)]
    by_cases e : i = k
    · subst e
      rw [Array.getElem?_setIfInBounds_self_of_lt (by omega)]
      simp [widerS]
    · rw [Array.getElem?_setIfInBounds_ne (by omega), h1]
      simp [widerS, e]
  · by_cases e : i = k
    · subst e
      rw [Array.getElem?_setIfInBounds_self_of_lt (by simp; omega)]
      simp [widerS]
    · rw [Array.getElem?_setIfInBounds_ne (by omega), Array.getElem?_setIfInBounds_ne (by omega), h2]
      simp [widerS, e]

theorem gen_one (w : World) (x : Value) (t : TypeId) : GenAt (w.alloc (.cells #[x] t)) (some ⟨w.heap.size, 0, none⟩) (1 * 1) (fun _ => x) := by
  intro i hi
  obtain rfl : i = 0 := by omega
  exact ⟨_, rfl, by simp [Addr.add], by simp [Addr.add, cell_blk (blk_new w (.cells #[x] t)) 0 x rfl]⟩

theorem int_info : (Try.prog.info? 3).map (fun i => (i.zero, i.size, i.bytes)) = some (some (.int .i64 0), 1, 8) := by kernel_rfl
theorem step_info : (Try.prog.info? 44).map (fun i => (i.zero, i.size, i.bytes)) = some (some (.agg #[.int .i64 0, .int .i64 0, .int .i64 0]), 3, 24) := by kernel_rfl

end Go.Proofs.Ytmplcceoepkppaa
