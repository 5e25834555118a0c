/-
  The payments of each class, gathered in a map of slices: one step of the gathering, and the look-up. No conditions but those in each statement.
-/
import Derived.Test.YtilfebopeeimnaaRelM
import Derived.Test.YtilfebopeeimnaaRelC
import Derived.Maps.AppendAt
namespace Go.Proofs.Ytilfebopeeimnaa
open Go.RowKit Go.Maps

def Cls : Type := Int × Int × Int
instance : DecidableEq Cls := inferInstanceAs (DecidableEq (Int × Int × Int))
def Pay.cls (p : Pay) : Cls := (p.k, p.t, p.f)
def Dbt.cls (p : Dbt) : Cls := (p.k, p.t, p.f)
def clsV (c : Cls) : Value := .agg #[.int .i64 c.1, .int .i64 c.2.1, .int .i64 c.2.2]
theorem clsV_inj {c d : Cls} (h : clsV c = clsV d) : c = d := by
  obtain ⟨a, b, e⟩ := c
  obtain ⟨a', b', e'⟩ := d
  simp [clsV] at h
  obtain ⟨rfl, rfl, rfl⟩ := h
  rfl
def idxs (P : Nat → Pay) (c : Cls) (k : Nat) : List Nat := (List.range k).filter fun j => decide ((P j).cls = c)
theorem idxs_succ (P : Nat → Pay) (c : Cls) (k : Nat) : idxs P c (k + 1) = idxs P c k ++ (if (P k).cls = c then [k] else []) := by
  simp only [idxs, List.range_succ, List.filter_append]
  congr 1
  by_cases h : (P k).cls = c <;> simp [h]
theorem idxs_len (P : Nat → Pay) (c : Cls) (k : Nat) : (idxs P c k).length ≤ k := by
  have := List.length_filter_le (fun j => decide ((P j).cls = c)) (List.range k)
  simpa [idxs] using this
theorem idxs_lt {P : Nat → Pay} {c : Cls} {k j : Nat} (h : j ∈ idxs P c k) : j < k ∧ (P j).cls = c := by
  simpa [idxs] using h
def natV (j : Nat) : Value := .int .i64 j
def goodP (P : Nat → Pay) (n : Nat) : Prop := ∀ j, j < n → clsB (P j).k (P j).t (P j).f = true
theorem key_of_cls {c : Cls} (h : clsB c.1 c.2.1 c.2.2 = true) : ∃ kl, keyOf Try.prog 77 (clsV c) = some kl := by
  obtain ⟨h1, h2, h3⟩ := wf_cls h
  exact class3 h1 h2 h3

/-- The first k payments, gathered by class: an entry a class, in the order of the first payment of each. T: all rows lie below it. -/
def Grp (P : Nat → Pay) (k : Nat) (w : World) (B T : Nat) : Prop :=
  B < T ∧ T ≤ w.heap.size ∧ ∃ es : Array MapEntry, w.heap[B]? = some (.map es es.size) ∧
    (∀ (i : Nat) (e : MapEntry), es[i]? = some e → e.born = i ∧ ∃ c : Cls, e.key = clsV c ∧ clsB c.1 c.2.1 c.2.2 = true ∧ (idxs P c k) ≠ [] ∧ w.ownsRow (B + 1) 3 1 e.val (idxs P c k).length ((idxs P c k).map natV) ∧ ∀ g, e.val.ownBlock = some g → g < T) ∧
    (∀ (i j : Nat) (e e' : MapEntry), es[i]? = some e → es[j]? = some e' → i ≠ j → e.key ≠ e'.key ∧ e.val.ownBlock ≠ e'.val.ownBlock) ∧
    (∀ j, j < k → ∃ (i : Nat) (e : MapEntry), es[i]? = some e ∧ e.key = clsV (P j).cls)

theorem own_below {w w' : World} {base n size T : Nat} {e : TypeId} {v : Value} {xs : List Value} (h : w.ownsRow base e size v n xs) (hb : Below T w w') (hg : ∀ g, v.ownBlock = some g → g < T) : w'.ownsRow base e size v n xs := by
  refine ⟨h.1, ?_⟩
  rcases h.2 with h2 | ⟨g, cap, cur, h1, h2, h3, h4⟩
  · exact .inl h2
  · exact .inr ⟨g, cap, cur, h1, h2, (hb.block g (hg g (by rw [h1]; rfl))).trans h3, h4⟩
theorem Grp.below {P : Nat → Pay} {k : Nat} {w w' : World} {B T : Nat} (h : Grp P k w B T) (hb : Below T w w') : Grp P k w' B T := by
  obtain ⟨h0, h1, es, h2, h3, h4, h5⟩ := h
  refine ⟨h0, Nat.le_trans h1 hb.size, es, (hb.block B h0).trans h2, fun i e he => ?_, h4, h5⟩
  obtain ⟨e1, c, e2, e3, e4, e5, e6⟩ := h3 i e he
  exact ⟨e1, c, e2, e3, e4, own_below e5 hb e6, e6⟩
theorem Grp.start (P : Nat → Pay) (w : World) : Grp P 0 (w.alloc (.map #[] 0)) w.heap.size (w.heap.size + 1) := by
  refine ⟨Nat.lt_succ_self _, by simp, #[], blk_new _ _, ?_, ?_, ?_⟩
  · intro i e he; simp at he
  · intro i j e e' he; simp at he
  · intro j hj; omega
theorem Grp.wide {P : Nat → Pay} {k : Nat} {w : World} {B T T' : Nat} (h : Grp P k w B T) (h1 : T ≤ T') (h2 : T' ≤ w.heap.size) : Grp P k w B T' := by
  obtain ⟨g0, _, es, g2, g3, g4, g5⟩ := h
  refine ⟨by omega, h2, es, g2, fun i e he => ?_, g4, g5⟩
  obtain ⟨e1, c, e2, e3, e4, e5, e6⟩ := g3 i e he
  exact ⟨e1, c, e2, e3, e4, e5, fun g hg => Nat.lt_of_lt_of_le (e6 g hg) h1⟩

/-- What a look-up gives: a slice of the indexes of the class. -/
def RowAt (w : World) (A : Option Addr) (l : List Nat) : Prop := ∀ j, j < l.length → ∃ g, A = some ⟨g, 0, none⟩ ∧ g < w.heap.size ∧ w.cell? ⟨g, j, none⟩ = some (.int .i64 (l.getD j 0 : Nat))
theorem Grp.look {P : Nat → Pay} {k : Nat} {w : World} {B T : Nat} (h : Grp P k w B T) {c : Cls} (hc : clsB c.1 c.2.1 c.2.2 = true) :
    ∃ A cap, (Instr.lookup 82 (.map (some B)) (clsV c) false).run Try.prog w = .ok (.slice A (idxs P c k).length cap) w ∧ RowAt w A (idxs P c k) ∧ (∀ g, A = some ⟨g, 0, none⟩ → g < T) := by
  obtain ⟨h0, h1, es, h2, h3, h4, h5⟩ := h
  obtain ⟨kl, hk⟩ := key_of_cls hc
  have hks : ∀ e ∈ es.toList, ∃ l, keyOf Try.prog 77 e.key = some l := fun e he => by
    obtain ⟨i, hi⟩ := List.mem_iff_getElem?.1 he
    obtain ⟨_, d, e2, e3, _⟩ := h3 i e (by simpa using hi)
    rw [e2]
    exact key_of_cls e3
  rcases run_look h2 hk hks with ⟨n1, n2⟩ | ⟨j, e, n1, n2, n3⟩
  · have hnil : idxs P c k = [] := by
      rw [List.eq_nil_iff_forall_not_mem]
      intro j hj
      obtain ⟨hj1, hj2⟩ := idxs_lt hj
      obtain ⟨i, e, he, hke⟩ := h5 j hj1
      rw [hj2] at hke
      exact n1 e (by simpa using Array.mem_of_getElem? he) hke
    rw [hnil]
    exact ⟨none, 0, n2, fun j hj => absurd hj (by simp), fun g hg => by cases hg⟩
  · obtain ⟨e1, d, e2, e3, e4, e5, e6⟩ := h3 j e n1
    obtain rfl : d = c := clsV_inj (by rw [← e2, n2])
    rcases e5.2 with ⟨f1, f2⟩ | ⟨g, cap, cur, f1, f2, f3, f4⟩
    · have : idxs P d k = [] := by simpa using f2
      exact absurd this e4
    · refine ⟨some ⟨g, 0, none⟩, cap, by rw [← f1]; exact n3, fun j hj => ⟨g, rfl, lt_of_block f3, ?_⟩, fun g' hg' => ?_⟩
      · have h9 := World.ownsRow.cellAt (f1 ▸ e5) j (by simpa using hj)
        rw [h9]
        simp [List.getElem?_map, List.getElem?_eq_getElem hj, natV]
      · cases hg'
        exact e6 g (by rw [f1]; rfl)

theorem grownBy_put {w : World} {b : Nat} (o : Obj) : w.grownBy { w with heap := w.heap.setIfInBounds b o } (some b) :=
  ⟨rfl, rfl, rfl, by simp, fun k _ hk => by
    have : b ≠ k := fun e => hk (by rw [e])
    simp [this]⟩
theorem heap_put {w : World} {b : Nat} (o : Obj) (hb : b < w.heap.size) : ({ w with heap := w.heap.setIfInBounds b o } : World).heap[b]? = some o := by
  simp [hb]

/-- One step of the gathering: the entry, and behind the append the entry's store. -/
theorem Grp.step {P : Nat → Pay} {k : Nat} {w : World} {B T : Nat} (h : Grp P k w B T) (hc : clsB (P k).cls.1 (P k).cls.2.1 (P k).cls.2.2 = true) :
    ∃ (v : Value) (born : Nat) (w1 : World), (Instr.mapEntry 82 (.map (some B)) (clsV (P k).cls)).run Try.prog w = .ok (.tuple #[v, goInt born]) w1 ∧ w.grownBy w1 (some B) ∧ w1.heap.size = w.heap.size ∧
      w1.ownsRow (B + 1) 3 1 v (idxs P (P k).cls k).length ((idxs P (P k).cls k).map natV) ∧ (∀ g, v.ownBlock = some g → B < g ∧ g < T) ∧
      ∀ (v' : Value) (wa w2 : World), Below w1.heap.size w1 wa → wa.grownBy w2 v.ownBlock → w2.ownsRow (B + 1) 3 1 v' ((idxs P (P k).cls k).length + 1) ((idxs P (P k).cls k).map natV ++ [natV k]) →
        (v'.ownBlock = v.ownBlock ∨ ∃ g, v'.ownBlock = some g ∧ wa.heap.size ≤ g) →
        ∃ w3, (Instr.entryStore 82 (.map (some B)) (.int .i64 born) v').run Try.prog w2 = .ok () w3 ∧ w2.grownBy w3 (some B) ∧ Grp P (k + 1) w3 B w3.heap.size := by
  obtain ⟨h0, h1, es, h2, h3, h4, h5⟩ := h
  obtain ⟨kl, hk⟩ := key_of_cls hc
  have hks : ∀ e ∈ es.toList, ∃ l, keyOf Try.prog 77 e.key = some l := fun e he => by
    obtain ⟨i, hi⟩ := List.mem_iff_getElem?.1 he
    obtain ⟨_, d, e2, e3, _⟩ := h3 i e (by simpa using hi)
    rw [e2]
    exact key_of_cls e3
  have hnew : idxs P (P k).cls (k + 1) = idxs P (P k).cls k ++ [k] := by rw [idxs_succ, if_pos rfl]
  have hold : ∀ c, c ≠ (P k).cls → idxs P c (k + 1) = idxs P c k := fun c hne => by
    rw [idxs_succ, if_neg (fun e => hne e.symm), List.append_nil]
  rcases run_entry h2 hk hks with ⟨n1, n2⟩ | ⟨j, e, n1, n2, n3⟩
  · have hnil : idxs P (P k).cls k = [] := by
      rw [List.eq_nil_iff_forall_not_mem]
      intro j hj
      obtain ⟨hj1, hj2⟩ := idxs_lt hj
      obtain ⟨i, e, he, hke⟩ := h5 j hj1
      rw [hj2] at hke
      exact n1 e (by simpa using Array.mem_of_getElem? he) hke
    refine ⟨.slice none 0 0, es.size, _, n2, grownBy_put _, by simp, by rw [hnil]; exact World.ownsRow_nil _ _ _ _, (fun g hg => by cases hg), ?_⟩
    intro v' wa w2 hba hg hown hat
    generalize hes : es.push { key := clsV (P k).cls, val := .slice none 0 0, born := es.size } = es1
    have hsz : es1.size = es.size + 1 := by rw [← hes]; simp
    have hb1 : w2.heap[B]? = some (.map es1 es1.size) := by
      have q1 : wa.heap[B]? = some (.map es1 es1.size) := by
        refine (hba.block B (by simp; omega)).trans ?_
        rw [heap_put _ (by omega), hes, hsz]
      rw [hg.block B (lt_of_block q1) (by simp [Value.ownBlock])]
      exact q1
    have hget : ∀ i e, es1[i]? = some e → (i < es.size ∧ es[i]? = some e) ∨ (i = es.size ∧ e = { key := clsV (P k).cls, val := .slice none 0 0, born := es.size }) := by
      intro i e he
      rw [← hes, Array.getElem?_push] at he
      split at he
      · right; exact ⟨by assumption, by cases he; rfl⟩
      · left
        exact ⟨(Array.getElem?_eq_some_iff.1 he).1, he⟩
    have hborn : ∀ (i : Nat) (e : MapEntry), es1[i]? = some e → e.born = i := fun i e he => by
      rcases hget i e he with ⟨_, q⟩ | ⟨q1, q2⟩
      · exact (h3 i e q).1
      · rw [q2, q1]
    have hput := run_put hb1 hborn (j := es.size) (by omega) v'
    refine ⟨_, hput, grownBy_put _, ?_⟩
    have hne2 : ∀ g, v'.ownBlock = some g → wa.heap.size ≤ g := by
      intro g hg'
      rcases hat with q | ⟨g', q1, q2⟩
      · rw [q] at hg'; cases hg'
      · rw [q1] at hg'; cases hg'; exact q2
    have hba1 : w.heap.size ≤ wa.heap.size := by have := hba.size; simp at this; omega
    have hwg : wa.grownBy w2 none := hg
    have hlt2 : B < w2.heap.size := lt_of_block hb1
    refine ⟨by simpa using hlt2, Nat.le_refl _, es1.modify es.size fun e => { e with val := v' }, ?_, ?_, ?_, ?_⟩
    · rw [heap_put _ hlt2]
      simp
    · intro i e he
      rw [Array.getElem?_modify] at he
      by_cases hi : es.size = i
      · rw [if_pos hi] at he
        cases h9 : es1[i]? with
        | none => rw [h9] at he; simp at he
        | some e9 =>
          rw [h9] at he
          simp only [Option.map_some, Option.some.injEq] at he
          rcases hget i e9 h9 with ⟨q1, _⟩ | ⟨q1, q2⟩
          · omega
          · rw [← he, q2]
            refine ⟨hi, (P k).cls, rfl, hc, by rw [hnew]; simp, ?_, ?_⟩
            · rw [hnew]
              have := World.ownsRow.kept hown (grownBy_put (w := w2) (b := B) (.map (es1.modify es.size fun e => { e with val := v' }) es1.size)) (by
                right
                intro q
                have := hne2 B q
                omega)
              simpa using this
            · intro g hg'
              have := (hown.lt g hg').2
              simpa using this
      · rw [if_neg hi] at he
        rcases hget i e he with ⟨q1, q2⟩ | ⟨q1, q2⟩
        · obtain ⟨e1, c, e2, e3, e4, e5, e6⟩ := h3 i e q2
          have hne : c ≠ (P k).cls := fun q => n1 e (by simpa using Array.mem_of_getElem? q2) (by rw [e2, q])
          refine ⟨e1, c, e2, e3, by rw [hold c hne]; exact e4, ?_, ?_⟩
          · rw [hold c hne]
            have a1 := World.ownsRow.kept e5 (grownBy_put (w := w) (b := B) (.map (es.push { key := clsV (P k).cls, val := .slice none 0 0, born := es.size }) (es.size + 1))) (by
              right
              intro q
              have := (e5.lt B q).1
              omega)
            have a2 := own_below a1 hba (fun g hg' => by have := e6 g hg'; simp; omega)
            have a3 := World.ownsRow.kept a2 hwg (by
              by_cases q : e.val.ownBlock = none
              · exact .inl q
              · exact .inr q)
            exact World.ownsRow.kept a3 (grownBy_put _) (by
              right
              intro q
              have := (e5.lt B q).1
              omega)
          · intro g hg'
            have := e6 g hg'
            have := hwg.size
            simp
            omega
        · omega
    · intro i j e e' hi hj hij
      have old : ∀ (i : Nat) (e : MapEntry), es1[i]? = some e → i ≠ es.size → es[i]? = some e := fun i e he hne => by
        rcases hget i e he with ⟨_, q⟩ | ⟨q1, _⟩
        · exact q
        · exact absurd q1 hne
      have new : ∀ (e : MapEntry), (Option.map (fun e => ({ e with val := v' } : MapEntry)) es1[es.size]?) = some e → e.key = clsV (P k).cls ∧ e.val = v' := fun e he => by
        cases h9 : es1[es.size]? with
        | none => rw [h9] at he; simp at he
        | some e9 =>
          rw [h9] at he
          simp only [Option.map_some, Option.some.injEq] at he
          rcases hget _ e9 h9 with ⟨q1, _⟩ | ⟨_, q2⟩
          · omega
          · rw [← he, q2]; exact ⟨rfl, rfl⟩
      have apart : ∀ (i : Nat) (e e' : MapEntry), es[i]? = some e → e'.key = clsV (P k).cls → e'.val = v' → e.key ≠ e'.key ∧ e.val.ownBlock ≠ e'.val.ownBlock := fun i e e' he hk' hv' => by
        refine ⟨by rw [hk']; exact n1 e (by simpa using Array.mem_of_getElem? he), fun q => ?_⟩
        rw [hv'] at q
        obtain ⟨_, c, _, _, e4, e5, e6⟩ := h3 i e he
        rcases e5.2 with ⟨_, f2⟩ | ⟨g, cap, cur, f1, f2, f3, f4⟩
        · exact e4 (by simpa using f2)
        · have r1 : e.val.ownBlock = some g := by rw [f1]; rfl
          have r2 := e6 g r1
          have r3 := hne2 g (by rw [← q]; exact r1)
          omega
      rw [Array.getElem?_modify] at hi hj
      by_cases ci : es.size = i
      · subst ci
        rw [if_pos rfl] at hi
        rw [if_neg hij] at hj
        obtain ⟨b1, b2⟩ := new e hi
        obtain ⟨c1, c2⟩ := apart j e' e (old j e' hj (Ne.symm hij)) b1 b2
        exact ⟨Ne.symm c1, Ne.symm c2⟩
      · rw [if_neg ci] at hi
        by_cases cj : es.size = j
        · subst cj
          rw [if_pos rfl] at hj
          obtain ⟨b1, b2⟩ := new e' hj
          exact apart i e e' (old i e hi (Ne.symm ci)) b1 b2
        · rw [if_neg cj] at hj
          exact h4 i j e e' (old i e hi (Ne.symm ci)) (old j e' hj (Ne.symm cj)) hij
    · intro j hj
      by_cases cj : j = k
      · subst cj
        refine ⟨es.size, { key := clsV (P j).cls, val := v', born := es.size }, ?_, rfl⟩
        rw [Array.getElem?_modify, if_pos rfl, ← hes]
        simp
      · obtain ⟨i, e, he, hke⟩ := h5 j (by omega)
        have hi : i < es.size := (Array.getElem?_eq_some_iff.1 he).1
        refine ⟨i, e, ?_, hke⟩
        rw [Array.getElem?_modify, if_neg (by omega), ← hes, Array.getElem?_push, if_neg (by omega)]
        exact he
  · obtain ⟨e1, c, e2, e3, e4, e5, e6⟩ := h3 j e n1
    obtain rfl : c = (P k).cls := clsV_inj (by rw [← e2, n2])
    have hj : j < es.size := (Array.getElem?_eq_some_iff.1 n1).1
    have hvB : ∀ g, e.val.ownBlock = some g → B < g ∧ g < T := fun g hg => ⟨by have := (e5.lt g hg).1; omega, e6 g hg⟩
    have heq : (es.modify j fun e => { e with key := clsV (P k).cls }) = es := by
      apply Array.ext_getElem?
      intro i
      rw [Array.getElem?_modify]
      by_cases hij : j = i
      · subst hij
        rw [if_pos rfl, n1]
        simp only [Option.map_some, Option.some.injEq]
        rw [← n2]
      · rw [if_neg hij]
    rw [heq] at n3
    refine ⟨e.val, e.born, _, n3, grownBy_put _, by simp, ?_, hvB, ?_⟩
    · exact World.ownsRow.kept e5 (grownBy_put _) (by
        right
        intro q
        have := (hvB B q).1
        omega)
    intro v' wa w2 hba hg hown hat
    have hb1 : w2.heap[B]? = some (.map es es.size) := by
      have q1 : wa.heap[B]? = some (.map es es.size) := by
        refine (hba.block B (by simp; omega)).trans ?_
        rw [heap_put _ (by omega)]
      rw [hg.block B (lt_of_block q1) (fun q => by
        have := (hvB B q.symm).1
        omega)]
      exact q1
    have hborn : ∀ (i : Nat) (e : MapEntry), es[i]? = some e → e.born = i := fun i e he => (h3 i e he).1
    have hput := run_put hb1 hborn (j := j) hj v'
    rw [e1]
    have hba1 : w.heap.size ≤ wa.heap.size := by have := hba.size; simp at this; omega
    have hlt2 : B < w2.heap.size := lt_of_block hb1
    have hg2 := hg.size
    refine ⟨_, hput, grownBy_put _, by simpa using hlt2, Nat.le_refl _, es.modify j fun e => { e with val := v' }, ?_, ?_, ?_, ?_⟩
    · rw [heap_put _ hlt2]
      simp
    · intro i e' he
      rw [Array.getElem?_modify] at he
      by_cases hi : j = i
      · subst hi
        rw [if_pos rfl, n1] at he
        simp only [Option.map_some, Option.some.injEq] at he
        rw [← he]
        refine ⟨e1, (P k).cls, e2, hc, by rw [hnew]; simp, ?_, ?_⟩
        · rw [hnew]
          have := World.ownsRow.kept hown (grownBy_put (w := w2) (b := B) (.map (es.modify j fun e => { e with val := v' }) es.size)) (by
            right
            intro q
            have := (hown.lt B q).1
            omega)
          simpa using this
        · intro g hg'
          have := (hown.lt g hg').2
          simpa using this
      · rw [if_neg hi] at he
        obtain ⟨f1, d, f2, f3, f4, f5, f6⟩ := h3 i e' he
        have hap := h4 j i e e' n1 he hi
        have hne : d ≠ (P k).cls := fun q => hap.1 (by rw [n2, f2, q])
        refine ⟨f1, d, f2, f3, by rw [hold d hne]; exact f4, ?_, ?_⟩
        · rw [hold d hne]
          have a1 := World.ownsRow.kept f5 (grownBy_put (w := w) (b := B) (.map es es.size)) (by
            right
            intro q
            have := (f5.lt B q).1
            omega)
          have a2 := own_below a1 hba (fun g hg' => by have := f6 g hg'; simp; omega)
          have a3 := World.ownsRow.kept a2 hg (.inr (Ne.symm hap.2))
          exact World.ownsRow.kept a3 (grownBy_put _) (by
            right
            intro q
            have := (f5.lt B q).1
            omega)
        · intro g hg'
          have := f6 g hg'
          simp
          omega
    · have apart : ∀ (i : Nat) (e' : MapEntry), es[i]? = some e' → j ≠ i → e'.key ≠ e.key ∧ e'.val.ownBlock ≠ v'.ownBlock := fun i e' he hne => by
        have hap := h4 j i e e' n1 he hne
        refine ⟨Ne.symm hap.1, fun q => ?_⟩
        rcases hat with r | ⟨g, r1, r2⟩
        · exact hap.2 (by rw [q, r])
        · obtain ⟨_, _, _, _, _, _, f6⟩ := h3 i e' he
          have := f6 g (by rw [q, r1])
          omega
      intro i i' a a' hi hi' hii
      rw [Array.getElem?_modify] at hi hi'
      by_cases ci : j = i
      · subst ci
        rw [if_pos rfl, n1] at hi
        rw [if_neg hii] at hi'
        simp only [Option.map_some, Option.some.injEq] at hi
        rw [← hi]
        obtain ⟨c1, c2⟩ := apart i' a' hi' hii
        exact ⟨Ne.symm c1, Ne.symm c2⟩
      · rw [if_neg ci] at hi
        by_cases ci' : j = i'
        · subst ci'
          rw [if_pos rfl, n1] at hi'
          simp only [Option.map_some, Option.some.injEq] at hi'
          rw [← hi']
          exact apart i a hi ci
        · rw [if_neg ci'] at hi'
          exact h4 i i' a a' hi hi' hii
    · intro i hi
      by_cases ci : i = k
      · subst ci
        refine ⟨j, { e with val := v' }, ?_, e2⟩
        rw [Array.getElem?_modify, if_pos rfl, n1]
        rfl
      · obtain ⟨i', e', he', hke⟩ := h5 i (by omega)
        by_cases cj : j = i'
        · subst cj
          rw [n1] at he'
          cases he'
          refine ⟨j, { e with val := v' }, ?_, hke⟩
          rw [Array.getElem?_modify, if_pos rfl, n1]
          rfl
        · exact ⟨i', e', by rw [Array.getElem?_modify, if_neg cj]; exact he', hke⟩
end Go.Proofs.Ytilfebopeeimnaa
