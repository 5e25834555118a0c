/-
  Confirmed, Find, Same: what each call returns. No conditions but those in each statement.
-/
import Derived.Test.YtilfebopeeimnaaRelC
namespace Go.Proofs.Ytilfebopeeimnaa
open Go.RowKit

set_option maxHeartbeats 1000000 in
theorem confirmed_any (A : Option Addr) (n c : Nat) (l : Nat → Tal) (w : World) (hs : TalsAt w A n l) (hn : n ≤ maxLen) :
    Calls Try.prog 11 #[.slice A n c, .int .i64 1] w fun e w' => ∃ v, e = .returned (.tuple #[v, .int .i64 (if talB l n then 0 else 1)]) ∧ Below w.heap.size w w' := by
  have C := Lib.hid (fun W (h : Below w.heap.size w W) => tallies_any A n c l W (hs.later h) hn)
  cases hb : talB l n with
  | false =>
    rw [hb] at C
    clear hs
    go_enter Try.func11, Try.ntmps11
    have B := St.start w
    go_wp2_with fail
    generalize hX : World.alloc _ _ = X
    replace B := St.cast hX (B.alloc _ _)
    clear hX
    refine (C.out _ B.below).mono ?_
    rintro e' w1 ⟨rfl, h⟩
    replace B := B.later h
    have R := B.rules
    simp only [Rules] at R
    clear h
    go_wp2
    exact bodyPost_ret (v := .tuple #[.slice none 0 0, .int .i64 1]) (by simp [results, Try.results11, go_sem, *]) rfl ⟨⟨_, rfl⟩, B.below⟩
  | true =>
    rw [hb] at C
    have h1000 : n ≤ 1000 := by
      simp only [talB, Bool.and_eq_true, decide_eq_true_eq] at hb
      exact hb.2
    go_enter Try.func11, Try.ntmps11
    have B := St.start w
    go_wp2_with fail
    generalize hX : World.alloc _ _ = X
    replace B := St.cast hX (B.alloc _ _)
    clear hX
    refine (C.out _ B.below).mono ?_
    rintro e' w1 ⟨rfl, h⟩
    replace B := B.later h
    have R := B.rules
    simp only [Rules] at R
    clear h
    go_wp2_with fail
    refine (only16_any A n c l (fun i => decide ((1 : Int) ≤ (l i).n)) w.heap.size w1 (hs.later B.below) h1000 (fun W i hW _ => conf1_any _ _ _ _ 1 _ W (blk_later B.blks.1 hW))).mono ?_
    rintro e' w2 ⟨v, rfl, _, h⟩
    replace B := B.later h
    clear h
    go_wp2
    exact bodyPost_ret (v := .tuple #[v, .int .i64 0]) (by simp [results, Try.results11, go_sem, *]) rfl ⟨⟨v, rfl⟩, B.below⟩

/-! ### Find -/
def fnd (l : Nat → Tal) (x : Tal) : Nat → Nat → Int
  | 0, _ => -1
  | f + 1, k => if sameB (l k) x then k else fnd l x f (k + 1)
theorem fnd_step {l : Nat → Tal} {x : Tal} {n k : Nat} (h : k < n) : fnd l x (n - k) k = if sameB (l k) x then (k : Int) else fnd l x (n - (k + 1)) (k + 1) := by
  rw [show n - k = (n - (k + 1)) + 1 by omega]
  rfl
theorem sameB_pl {x y : Tal} : sameB x y = decide (x.pl = y.pl) := by
  rw [Bool.eq_iff_iff]
  simp [sameB, Tal.pl, and_assoc]
theorem fnd_neg {l : Nat → Tal} {x : Tal} : ∀ (f k : Nat), fnd l x f k < 0 ↔ ∀ i, i < f → sameB (l (k + i)) x = false
  | 0, k => by simp [fnd]
  | f + 1, k => by
    unfold fnd
    cases h : sameB (l k) x with
    | true =>
      simp only [if_true]
      constructor
      · intro h1; omega
      · intro h1
        have := h1 0 (by omega)
        rw [Nat.add_zero, h] at this
        cases this
    | false =>
      simp only [Bool.false_eq_true, if_false]
      rw [fnd_neg f (k + 1)]
      constructor
      · intro h1 i hi
        rcases i with _ | i
        · exact h
        · have := h1 i (by omega)
          rwa [show k + 1 + i = k + (i + 1) by omega] at this
      · intro h1 i hi
        have := h1 (i + 1) (by omega)
        rwa [show k + (i + 1) = k + 1 + i by omega] at this
/-- Find says whether the list has the place. -/
theorem fnd_has {l : Nat → Tal} {x : Tal} {n : Nat} : decide (fnd l x n 0 < 0) = !hasP l n x := by
  rw [Bool.eq_iff_iff, decide_eq_true_eq, fnd_neg, Bool.not_eq_true', ← Bool.not_eq_true, hasP]
  simp only [List.any_eq_true, List.mem_range, decide_eq_true_eq, not_exists, not_and]
  constructor
  · intro h i hi e
    have := h i hi
    rw [Nat.zero_add, sameB_pl] at this
    simp [e] at this
  · intro h i hi
    rw [Nat.zero_add, sameB_pl]
    simpa using h i hi

def FindRel (l : Nat → Tal) (x : Tal) (n : Nat) (w : World) (L : List (Nat × Array Value × TypeId)) (v5 : Value) (wr : World) : Prop :=
  ∃ k : Nat, k ≤ n ∧ v5 = .int .i64 k ∧ fnd l x (n - k) k = fnd l x n 0 ∧ St w wr L
set_option maxHeartbeats 2000000 in
theorem find_any (A : Option Addr) (n c : Nat) (l : Nat → Tal) (t cc f m : Int) (w : World) (hs : TalsAt w A n l) (hn : n ≤ maxLen) :
    Calls Try.prog 7 #[.slice A n c, .agg #[.int .i64 t, .int .i64 cc, .int .i64 f, .int .i64 m]] w (Ret (.int .i64 (fnd l ⟨t, cc, f, m⟩ n 0)) w) := by
  unfold maxLen at hn
  go_enter Try.func7, Try.ntmps7
  have B := St.start w
  go_wp2_with fail
  generalize hX : World.alloc _ _ = X
  replace B := St.cast hX (B.alloc _ _)
  clear hX
  go_loopw [5] (FindRel l ⟨t, cc, f, m⟩ n w [(w.heap.size, #[.int .i64 t, .int .i64 cc, .int .i64 f, .int .i64 m], 29)]) (fun v _ => n - (intOf v).toNat)
  case atStart => exact ⟨0, by omega, rfl, rfl, B⟩
  case round =>
    clear B
    obtain ⟨k, hk, rfl, hf, B⟩ := hrel
    have R := B.rules
    simp only [Rules] at R
    by_cases hlt : k < n
    rotate_left
    · obtain rfl : k = n := by omega
      have Hq := Lib.hid hf
      clear hf
      go_wp2
      go_ret
      exact ⟨by rw [← Hq.out, Nat.sub_self]; rfl, B.below⟩
    rw [fnd_step hlt] at hf
    obtain ⟨ad, rfl, hblt, c0, c1, c2, c3⟩ := (hs.later B.below) k hlt
    have hlt' : (k : Int) < n := by omega
    generalize l k = y at hf c0 c1 c2 c3
    obtain ⟨t', cc', f', m'⟩ := y
    dsimp only at c0 c1 c2 c3
    cases hb : sameB ⟨t', cc', f', m'⟩ ⟨t, cc, f, m⟩ with
    | true =>
      rw [hb] at hf
      have Hq := Lib.hid hf
      have C := Lib.hid (fun W => hb ▸ same_any t' cc' f' m' t cc f m W)
      clear hf
      go_wp2_with fail
      refine wp_region_later (by kernel_rfl) (by kernel_rfl) ?_
      repeat (go_big_quiet_step (first | (go_at_call 13; exact Later.call (C.out _))))
      refine wpQuiet_nil ?_
      rintro _ ⟨⟨wq, hq⟩, rfl⟩
      replace B := B.later hq
      go_wp2
      go_ret
      exact ⟨by rw [← Hq.out]; rfl, B.below⟩
    | false =>
      rw [hb] at hf
      have Hq := Lib.hid hf
      have C := Lib.hid (fun W => hb ▸ same_any t' cc' f' m' t cc f m W)
      clear hf
      go_wp2_with fail
      refine wp_region_later (by kernel_rfl) (by kernel_rfl) ?_
      repeat (go_big_quiet_step (first | (go_at_call 13; exact Later.call (C.out _))))
      refine wpQuiet_nil ?_
      rintro _ ⟨⟨wq, hq⟩, rfl⟩
      replace B := B.later hq
      go_wp2
      exact ⟨⟨k + 1, by omega, by go_num, Hq.out, B⟩, by simp [intOf]; omega⟩

/-! ### Same -/
def eqT (x y : Tal) : Bool := x.t == y.t && x.c == y.c && x.f == y.f && x.n == y.n
theorem eq29g (n : Nat) (a b c d a' b' c' d' : Int) (w : World) :
    (Op.equalIn (n + 2) 29 (.agg #[.int .i64 a, .int .i64 b, .int .i64 c, .int .i64 d]) (.agg #[.int .i64 a', .int .i64 b', .int .i64 c', .int .i64 d'])).run Try.prog w = .ok (eqT ⟨a, b, c, d⟩ ⟨a', b', c', d'⟩) w := by
  rw [Op.equalIn]
  simp [run_underlying Try.underlying29, go_sem, List.forIn_cons, eqT]
  by_cases h1 : a = a' <;> by_cases h2 : b = b' <;> by_cases h3 : c = c' <;> by_cases h4 : d = d' <;> simp [*]
@[go_sem ↓ high] theorem eq29 (a b c d a' b' c' d' : Int) (w : World) :
    (Op.equalIn 10000 29 (.agg #[.int .i64 a, .int .i64 b, .int .i64 c, .int .i64 d]) (.agg #[.int .i64 a', .int .i64 b', .int .i64 c', .int .i64 d'])).run Try.prog w = .ok (eqT ⟨a, b, c, d⟩ ⟨a', b', c', d'⟩) w :=
  eq29g 9998 a b c d a' b' c' d' w
theorem eqT_iff {x y : Tal} : eqT x y = true ↔ x = y := by
  obtain ⟨a, b, c, d⟩ := x
  obtain ⟨a', b', c', d'⟩ := y
  simp [eqT, and_assoc]
def sameL (a b : Nat → Tal) (n m : Nat) : Bool := n == m && allTo (fun i => eqT (a i) (b i)) n
def SameRel (a b : Nat → Tal) (n : Nat) (w : World) (v5 : Value) (wr : World) : Prop := ∃ k : Nat, k ≤ n ∧ v5 = .int .i64 k ∧ allTo (fun i => eqT (a i) (b i)) k = true ∧ Below w.heap.size w wr
set_option maxHeartbeats 2000000 in
theorem samel_any (A B : Option Addr) (n m c d : Nat) (a b : Nat → Tal) (w : World) (ha : TalsAt w A n a) (hb : TalsAt w B m b) (hn : n ≤ maxLen) (hm : m ≤ maxLen) :
    Calls Try.prog 10 #[.slice A n c, .slice B m d] w (Ret (.bool (sameL a b n m)) w) := by
  unfold maxLen at hn hm
  by_cases hnm : n = m
  rotate_left
  · have hq := Lib.hid (show sameL a b n m = false from by simp [sameL, hnm])
    have h1 : ((n : Int) == (m : Int)) = false := by rw [beq_eq_false_iff_ne]; omega
    have h2 : ((n : Int) != (m : Int)) = true := by simp [bne, h1]
    have h3 : ¬ (n : Int) = (m : Int) := by omega
    clear ha hb
    go_enter Try.func10, Try.ntmps10
    go_wp2
    go_ret
    exact ⟨by rw [hq.out]; rfl, by go_grown⟩
  subst hnm
  have HQ := Lib.hid (show sameL a b n n = allTo (fun i => eqT (a i) (b i)) n from by simp [sameL])
  go_enter Try.func10, Try.ntmps10
  go_wp2_with fail
  go_loopw [5] (SameRel a b n w) (fun v _ => n - (intOf v).toNat)
  case atStart => exact ⟨0, by omega, rfl, rfl, Below.refl _ _⟩
  case round =>
    obtain ⟨k, hk, rfl, hall, hbel⟩ := hrel
    by_cases hlt : k < n
    rotate_left
    · obtain rfl : k = n := by omega
      have Hq := Lib.hid hall
      clear hall
      go_wp2
      go_ret
      exact ⟨by rw [HQ.out, Hq.out]; rfl, hbel⟩
    obtain ⟨ad, rfl, ha0, c0, c1, c2, c3⟩ := (ha.later hbel) k hlt
    obtain ⟨bd, rfl, hb0, e0, e1, e2, e3⟩ := (hb.later hbel) k hlt
    have hlt' : (k : Int) < n := by omega
    have hgood : eqT (a k) (b k) = true → allTo (fun i => eqT (a i) (b i)) (k + 1) = true := fun h => by simp only [allTo, hall, h]; rfl
    have hbad : eqT (a k) (b k) = false → allTo (fun i => eqT (a i) (b i)) n = false := fun h => by
      cases e : allTo (fun i => eqT (a i) (b i)) n with
      | false => rfl
      | true => rw [allTo_iff.1 e k hlt] at h; cases h
    have HG := Lib.hid hgood
    have HB := Lib.hid hbad
    clear hgood hbad hall ha hb
    generalize a k = x at c0 c1 c2 c3 HG HB
    generalize b k = y at e0 e1 e2 e3 HG HB
    obtain ⟨t, cc, f, m⟩ := x
    obtain ⟨t', cc', f', m'⟩ := y
    dsimp only at c0 c1 c2 c3 e0 e1 e2 e3
    cases h : eqT ⟨t, cc, f, m⟩ ⟨t', cc', f', m'⟩ with
    | true =>
      have Hn := Lib.hid (HG.out h)
      go_wp2_with fail
      refine wp_region_later (by kernel_rfl) (by kernel_rfl) ?_
      repeat (go_big_quiet_step (fail))
      refine wpQuiet_nil ?_
      rintro _ ⟨⟨wq, hq⟩, rfl⟩
      go_wp2
      exact ⟨⟨k + 1, by omega, by go_num, Hn.out, below_step hbel (Nat.le_refl _) hq⟩, by simp [intOf]; omega⟩
    | false =>
      have Hn := Lib.hid (HB.out h)
      go_wp2_with fail
      refine wp_region_later (by kernel_rfl) (by kernel_rfl) ?_
      repeat (go_big_quiet_step (fail))
      refine wpQuiet_nil ?_
      rintro _ ⟨⟨wq, hq⟩, rfl⟩
      go_wp2
      go_ret
      exact ⟨by rw [HQ.out, Hn.out]; rfl, below_step hbel (Nat.le_refl _) hq⟩

end Go.Proofs.Ytilfebopeeimnaa
