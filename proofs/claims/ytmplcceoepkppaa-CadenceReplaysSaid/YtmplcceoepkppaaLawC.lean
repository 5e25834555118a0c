/-
  The plain law of sequences, on: the course behind k steps; what a taken step says of the gap; sequences that are wider, moments that are later. No program in sight; no conditions but those in each statement.
-/
import Derived.Test.YtmplcceoepkppaaLawB
namespace Go.Proofs.Ytmplcceoepkppaa

/-- T steps of n, in r rounds: what quotient and rest are. -/
theorem div_facts {T n r : Int} (hn : 1 ≤ n) (h0 : 0 ≤ T) (h1 : T ≤ r * n) : 0 ≤ T % n ∧ T % n ≤ n - 1 ∧ 0 ≤ T / n ∧ T / n ≤ r ∧ (T / n) * n + T % n = T ∧ (T / n = r ↔ T = r * n) ∧ (T / n = r → T % n = 0) := by
  have e : n * (T / n) + T % n = T := Int.mul_ediv_add_emod T n
  have e' : (T / n) * n + T % n = T := by rw [Int.mul_comm]; exact e
  have m0 : 0 ≤ T % n := Int.emod_nonneg _ (by omega)
  have m1 : T % n < n := Int.emod_lt_of_pos _ (by omega)
  have q0 : 0 ≤ T / n := Int.ediv_nonneg h0 (by omega)
  have q1 : T / n ≤ r := by
    have : (T / n) * n ≤ r * n := by omega
    exact Int.le_of_mul_le_mul_right this (by omega)
  have hz : T / n = r → T % n = 0 := fun h => by
    rw [h] at e'
    omega
  refine ⟨m0, by omega, q0, q1, e', ⟨fun h => ?_, fun h => ?_⟩, hz⟩
  · have := hz h
    rw [h] at e'
    omega
  · rw [h]
    exact Int.mul_ediv_cancel _ (by omega)

/-- A course that is not over has steps left. -/
theorem taken_lt {s : Sq} {c : Crs} (h : courseB s c = true) (ho : c.ov = false) : 0 ≤ taken s c ∧ taken s c + 1 ≤ s.r * s.n := by
  obtain ⟨x1, x2, x3, x4, _, _⟩ := course_open h ho
  have hq := course_valid h
  obtain ⟨⟨n1, _⟩, _, _⟩ := sqB_parts hq
  have hm := mul_bounds (a := c.rd) (b := (s.n : Int)) (x := s.r - 1) (y := s.n) x3 x4 (by omega) (Int.le_refl _)
  rw [Int.sub_mul, Int.one_mul] at hm
  simp only [taken]
  omega

theorem liveB_open {s : Sq} {c : Crs} (h : c.ov = false) : liveB s c = (inB 0 c.nx (s.n - 1) && inB 0 c.rd (s.r - 1) && inB 0 c.la 38399 && decide (0 < c.nx + c.rd)) := by simp [liveB, h]
theorem next_facts {s : Sq} {c : Crs} {m : Int} (h : readyE s c m = 0) :
    courseB s (nextC s c m) = true ∧ taken s (nextC s c m) = taken s c + 1 ∧ (nextC s c m).ov = ((taken s c + 1) == s.r * s.n) ∧
    0 ≤ (nextC s c m).nx ∧ (nextC s c m).nx ≤ 40 ∧ 0 ≤ (nextC s c m).rd ∧ (nextC s c m).rd ≤ 100 ∧ 0 ≤ taken s c ∧ taken s c + 1 ≤ s.r * s.n := by
  obtain ⟨hc, hm, ho, _, _⟩ := ready_ok h
  have hq := course_valid hc
  obtain ⟨⟨n1, n2⟩, ⟨r1, r2⟩, _⟩ := sqB_parts hq
  obtain ⟨t0, t1⟩ := taken_lt hc ho
  obtain ⟨m0, m1, q0, q1, e, hiff, hz⟩ := div_facts n1 (show 0 ≤ taken s c + 1 by omega) t1
  have hov : ((taken s c + 1) / s.n == s.r) = ((taken s c + 1) == s.r * s.n) := by
    rw [Bool.eq_iff_iff]
    simpa using hiff
  refine ⟨?_, e, hov, m0, by simp only [nextC]; omega, q0, by simp only [nextC]; omega, t0, t1⟩
  simp only [courseB, hq, Bool.true_and, Bool.or_eq_true]
  right
  by_cases hr : (taken s c + 1) / s.n = s.r
  · have := hz hr
    have hb := inB_iff.1 hm
    simp [liveB, nextC, hr, this, inB, hb]
  · have hb := inB_iff.1 hm
    have hp : 0 < (taken s c + 1) % s.n + (taken s c + 1) / s.n := by
      rcases Int.lt_or_eq_of_le q0 with hlt | heq
      · omega
      · rw [← heq] at e
        omega
    rw [liveB_open (show (nextC s c m).ov = false from by simpa [nextC] using hr)]
    simp only [inB, Bool.and_eq_true, decide_eq_true_eq]
    simp only [nextC]
    omega

/-- The course behind k + 1 steps, said at once. -/
theorem runC_taken {s : Sq} {M : Nat → Int} : ∀ {k : Nat}, okTo s M k → taken s (runC s M k) = k
  | 0, _ => by simp [runC, zeroC, taken]
  | k + 1, h => by
    have hk : okTo s M k := fun i hi => h i (by omega)
    have := (next_facts (h k (by omega))).2.1
    rw [runC_taken hk] at this
    simpa [runC] using this
theorem runC_succ {s : Sq} {M : Nat → Int} {k : Nat} (h : okTo s M k) : runC s M (k + 1) = ⟨((k : Int) + 1) % s.n, ((k : Int) + 1) / s.n, M k, ((k : Int) + 1) / s.n == s.r⟩ := by
  simp only [runC, nextC, runC_taken h]

/-- The gap before step i. -/
theorem gap_ok {s : Sq} {M : Nat → Int} {N i : Nat} (h : okTo s M N) (hi : i + 1 < N) :
    1 ≤ (s.n : Int) ∧ 0 ≤ M i ∧ M i ≤ 38399 ∧ 0 ≤ M (i + 1) ∧ M (i + 1) ≤ 38399 ∧ s.L ((i + 1) % s.n) ≤ M (i + 1) - M i ∧ M (i + 1) - M i ≤ s.M ((i + 1) % s.n) := by
  have hk : okTo s M i := fun j hj => h j (by omega)
  have h1 := h (i + 1) hi
  have h0 := h i (by omega)
  obtain ⟨_, hb0, _, _, _⟩ := ready_ok h0
  obtain ⟨hc, hb1, _, h4, h5⟩ := ready_ok h1
  have c0 := inB_iff.1 hb0
  have c1 := inB_iff.1 hb1
  obtain ⟨⟨n1, _⟩, _, _⟩ := sqB_parts (course_valid hc)
  have e : runC s M (i + 1) = ⟨(((i + 1) % s.n : Nat) : Int), (((i + 1) / s.n : Nat) : Int), M i, (((i + 1) / s.n : Nat) : Int) == s.r⟩ := by
    rw [runC_succ hk]
    simp
  have hz : ¬ (((i + 1) % s.n : Nat) : Int) + (((i + 1) / s.n : Nat) : Int) = 0 := by
    have hd := Nat.div_add_mod (i + 1) s.n
    generalize (i + 1) % s.n = x at hd
    generalize (i + 1) / s.n = y at hd
    intro h0
    have e1 : x = 0 := by omega
    have e2 : y = 0 := by omega
    rw [e1, e2] at hd
    omega
  rw [e] at h4 h5
  simp only [fromOf, untilOf, if_neg hz, Int.toNat_natCast] at h4 h5
  omega

theorem okTo_le {s : Sq} {M : Nat → Int} {N k : Nat} (h : okTo s M N) (hk : k ≤ N) : okTo s M k := fun i hi => h i (by omega)
theorem repR_ok {s : Sq} {M : Nat → Int} {N : Nat} (hq : sqB s = true) (h : okTo s M N) : repR s M N = (runC s M N, (N : Int), 0) := by
  rcases repR_cases s M N with ⟨h1, _⟩ | ⟨_, _, h3⟩ | ⟨_, i, h2, _, h4, _⟩
  · rw [hq] at h1; cases h1
  · exact h3
  · exact absurd (h i h2) h4
theorem repR_at {s : Sq} {M : Nat → Int} {N i : Nat} (hq : sqB s = true) (hi : i < N) (h : okTo s M i) (hr : ¬ readyE s (runC s M i) (M i) = 0) : repR s M N = (zeroC, (i : Int), readyE s (runC s M i) (M i)) := by
  rcases repR_cases s M N with ⟨h1, _⟩ | ⟨_, h2, _⟩ | ⟨_, j, h2, h3, h4, h5⟩
  · rw [hq] at h1; cases h1
  · exact absurd (h2 i hi) hr
  · have : i = j := by
      rcases Nat.lt_trichotomy i j with hlt | heq | hlt
      · exact absurd (h3 i hlt) hr
      · exact heq
      · exact absurd (h j hlt) h4
    rw [this]
    exact h5
theorem runC_same {s : Sq} {M M' : Nat → Int} : ∀ {k : Nat}, (∀ i, i < k → M' i = M i) → runC s M' k = runC s M k
  | 0, _ => rfl
  | k + 1, h => by simp only [runC, runC_same (k := k) fun i hi => h i (by omega), h k (by omega)]
theorem okTo_same {s : Sq} {M M' : Nat → Int} {k : Nat} (h : ∀ i, i < k → M' i = M i) (ho : okTo s M k) : okTo s M' k := fun i hi => by
  rw [runC_same fun j hj => h j (by omega), h i hi]
  exact ho i hi

/-- What Replay says of one more moment. -/
theorem repR_more {s : Sq} {M M' : Nat → Int} {N : Nat} (hq : sqB s = true) (ho : okTo s M N) (h : ∀ i, i < N → M' i = M i) :
    repR s M' (N + 1) = if readyE s (runC s M N) (M' N) = 0 then (nextC s (runC s M N) (M' N), (N : Int) + 1, 0) else (zeroC, (N : Int), readyE s (runC s M N) (M' N)) := by
  have ho' := okTo_same h ho
  have e : runC s M' N = runC s M N := runC_same h
  by_cases hr : readyE s (runC s M N) (M' N) = 0
  · rw [if_pos hr, repR_ok hq (N := N + 1)]
    · simp [runC, e]
    · intro i hi
      by_cases hiN : i = N
      · rw [hiN, e]; exact hr
      · exact ho' i (by omega)
  · rw [if_neg hr, repR_at hq (Nat.lt_succ_self N) ho' (by rw [e]; exact hr), e]

end Go.Proofs.Ytmplcceoepkppaa
