/-
  The plain law of lists of tallies: places, valid lists, what one list has and another lacks. No program in sight; no conditions but those in each statement.
-/
namespace Go.Proofs.Ytilfebopeeimnaa

/-- A tally. -/
structure Tal where
  t : Int
  c : Int
  f : Int
  n : Int
deriving DecidableEq
/-- Its place. -/
def Tal.pl (x : Tal) : Int × Int × Int := (x.t, x.c, x.f)
def exB (x : Tal) : Bool := decide (0 ≤ x.t) && decide (x.t < 512) && decide (0 ≤ x.c) && decide (x.c < 4) && decide (0 ≤ x.f) && decide (x.f < 8)
/-- What compare returns of two places. -/
def cmpP (x y : Tal) : Int := if x.t - y.t ≠ 0 then x.t - y.t else if x.c - y.c ≠ 0 then x.c - y.c else x.f - y.f
/-- The first k elements are valid. -/
def okT (l : Nat → Tal) : Nat → Bool
  | 0 => true
  | k + 1 => okT l k && exB (l k) && decide (1 ≤ (l k).n) && decide ((l k).n ≤ 1000) && (k == 0 || decide (cmpP (l (k - 1)) (l k) < 0))
def talB (l : Nat → Tal) (n : Nat) : Bool := okT l n && decide (n ≤ 1000)

theorem okT_at {l : Nat → Tal} {n k : Nat} (h : okT l n = true) (hk : k < n) : exB (l k) = true ∧ (k = 0 ∨ cmpP (l (k - 1)) (l k) < 0) := by
  induction n with
  | zero => omega
  | succ m ih =>
    simp only [okT, Bool.and_eq_true, Bool.or_eq_true, beq_iff_eq, decide_eq_true_eq] at h
    by_cases e : k = m
    · subst e
      exact ⟨h.1.1.1.2, h.2⟩
    · exact ih h.1.1.1.1 (by omega)

/-- Places rise. -/
def lessP (x y : Tal) : Prop := x.t < y.t ∨ (x.t = y.t ∧ (x.c < y.c ∨ (x.c = y.c ∧ x.f < y.f)))
theorem lessP_of_cmp {x y : Tal} (h : cmpP x y < 0) : lessP x y := by
  unfold cmpP at h
  unfold lessP
  split at h
  · omega
  · split at h
    · omega
    · omega
theorem lessP_trans {x y z : Tal} (h : lessP x y) (k : lessP y z) : lessP x z := by
  unfold lessP at *
  omega
theorem lessP_ne {x y : Tal} (h : lessP x y) : x.pl ≠ y.pl := by
  intro e
  simp only [Tal.pl, Prod.mk.injEq] at e
  unfold lessP at h
  omega
theorem rising {l : Nat → Tal} {n : Nat} (h : okT l n = true) : ∀ {i j : Nat}, i < j → j < n → lessP (l i) (l j)
  | i, 0, hij, _ => by omega
  | i, j + 1, hij, hj => by
    have h1 := lessP_of_cmp ((okT_at h hj).2.resolve_left (by omega))
    simp only [Nat.add_sub_cancel] at h1
    by_cases e : i = j
    · subst e; exact h1
    · exact lessP_trans (rising h (by omega) (by omega)) h1

/-! ### Lists that have no place twice -/
theorem count_both {α : Type} [DecidableEq α] : ∀ (A B : List α), A.Nodup → B.Nodup → (B.filter fun y => decide (y ∈ A)).length = (A.filter fun x => decide (x ∈ B)).length
  | [], B, _, _ => by simp
  | x :: A, B, hA, hB => by
    have hx : x ∉ A := (List.nodup_cons.1 hA).1
    have ih := count_both A B (List.nodup_cons.1 hA).2 hB
    have e : ∀ C : List α, C.Nodup → (C.filter fun y => decide (y ∈ x :: A)).length = (if x ∈ C then 1 else 0) + (C.filter fun y => decide (y ∈ A)).length := by
      intro C
      induction C with
      | nil => intro _; simp
      | cons y C ih2 =>
        intro hC
        have hy := List.nodup_cons.1 hC
        have i2 := ih2 hy.2
        by_cases h1 : y = x
        · subst h1
          have h3 : y ∉ C := hy.1
          simp only [List.filter_cons, List.mem_cons, true_or, decide_true, if_true, List.length_cons, hx, decide_false, Bool.false_eq_true, if_false]
          simp only [h3, if_false, List.mem_cons] at i2
          omega
        · have h4 : (x ∈ y :: C) = (x ∈ C) := by
            simp only [List.mem_cons, eq_iff_iff]
            constructor
            · rintro (h | h)
              · exact absurd h.symm h1
              · exact h
            · exact Or.inr
          simp only [List.filter_cons, List.mem_cons, h1, false_or, h4]
          simp only [List.mem_cons] at i2
          by_cases h2 : y ∈ A
          · simp only [h2, decide_true, if_true, List.length_cons]
            omega
          · simp only [h2, decide_false, Bool.false_eq_true, if_false]
            omega
    rw [e B hB, List.filter_cons]
    by_cases hb : x ∈ B
    · simp only [hb, if_true, decide_true, List.length_cons]
      omega
    · simp only [hb, if_false, decide_false, Bool.false_eq_true]
      omega

/-- x is on the list. -/
def memB {α : Type} [DecidableEq α] (A : List α) (x : α) : Bool := decide (x ∈ A)
theorem memB_iff {α : Type} [DecidableEq α] {A : List α} {x : α} : memB A x = true ↔ x ∈ A := by simp [memB]
theorem count_memB {α : Type} [DecidableEq α] (A B : List α) (hA : A.Nodup) (hB : B.Nodup) : (B.filter (memB A)).length = (A.filter (memB B)).length := count_both A B hA hB

/-! ### What one list has and another lacks -/
def hasP (l : Nat → Tal) (n : Nat) (x : Tal) : Bool := (List.range n).any fun i => decide ((l i).pl = x.pl)
/-- The elements of the first list whose places the second one does not have. -/
def lackL (l : Nat → Tal) (n : Nat) (m : Nat → Tal) (k : Nat) : List Tal := ((List.range n).map l).filter fun x => !hasP m k x
def plsOf (l : Nat → Tal) (n : Nat) : List (Int × Int × Int) := (List.range n).map fun i => (l i).pl

theorem hasP_mem {l : Nat → Tal} {n : Nat} {x : Tal} : hasP l n x = memB (plsOf l n) x.pl := by
  rw [Bool.eq_iff_iff, memB_iff]
  simp only [hasP, plsOf, List.any_eq_true, List.mem_range, decide_eq_true_eq, List.mem_map]
theorem pls_nodup {l : Nat → Tal} {n : Nat} (h : okT l n = true) : (plsOf l n).Nodup := by
  unfold plsOf
  rw [List.Nodup, List.pairwise_map]
  refine List.Pairwise.imp_of_mem ?_ (List.pairwise_lt_range (n := n))
  intro i j _ hj hij
  exact lessP_ne (rising h hij (List.mem_range.1 hj))
theorem filter_split {α : Type} (p : α → Bool) : ∀ (l : List α), (l.filter p).length + (l.filter fun x => !p x).length = l.length
  | [] => rfl
  | x :: l => by
    have ih := filter_split p l
    cases h : p x <;> simp [h] <;> omega
theorem lack_len {l m : Nat → Tal} {n k : Nat} : (lackL l n m k).length = ((plsOf l n).filter fun p => !memB (plsOf m k) p).length := by
  unfold lackL
  have e : plsOf l n = ((List.range n).map l).map Tal.pl := by simp [plsOf]
  have e2 : ((List.range n).map l).filter (fun x => !hasP m k x) = ((List.range n).map l).filter ((fun p => !memB (plsOf m k) p) ∘ Tal.pl) := by
    apply List.filter_congr
    intro x _
    simp only [hasP_mem, Function.comp]
  have e3 : (((List.range n).map l).map Tal.pl).filter (fun p => !memB (plsOf m k) p) = (((List.range n).map l).filter ((fun p => !memB (plsOf m k) p) ∘ Tal.pl)).map Tal.pl := List.filter_map
  rw [e2, e, e3, List.length_map]
theorem lens {a b : Nat → Tal} {na nb : Nat} (ha : okT a na = true) (hb : okT b nb = true) : (na : Int) - (lackL a na b nb).length + (lackL b nb a na).length = nb := by
  have h1 := filter_split (memB (plsOf b nb)) (plsOf a na)
  have h2 := filter_split (memB (plsOf a na)) (plsOf b nb)
  have h3 := count_memB (plsOf a na) (plsOf b nb) (pls_nodup ha) (pls_nodup hb)
  rw [lack_len, lack_len]
  have l1 : (plsOf a na).length = na := by simp [plsOf]
  have l2 : (plsOf b nb).length = nb := by simp [plsOf]
  omega
theorem lack_self {a : Nat → Tal} {n : Nat} : lackL a n a n = [] := by
  unfold lackL
  rw [List.filter_eq_nil_iff]
  intro x hx
  obtain ⟨i, hi, rfl⟩ := List.mem_map.1 hx
  have h : hasP a n (a i) = true := by
    rw [hasP_mem, memB_iff]
    exact List.mem_map.2 ⟨i, hi, rfl⟩
  simp [h]

end Go.Proofs.Ytilfebopeeimnaa
