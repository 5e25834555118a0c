/-
  The plain law of sequences, on: a sequence with a wider step accepts what it accepted; later moments. No program in sight; no conditions but those in each statement.
-/
import Derived.Test.YtmplcceoepkppaaLawC
namespace Go.Proofs.Ytmplcceoepkppaa

/-! ### A wider step -/
/-- The sequence with other bounds for step k. -/
def widerS (s : Sq) (k : Nat) (l m : Int) : Sq := ⟨s.n, s.F, fun i => if i = k then l else s.L i, fun i => if i = k then m else s.M i, s.r⟩
theorem stepsB_intro {s : Sq} : ∀ {n : Nat}, (∀ i, i < n → stepB s i = true) → stepsB s n = true
  | 0, _ => rfl
  | n + 1, h => by
    simp only [stepsB, Bool.and_eq_true]
    exact ⟨stepsB_intro fun i hi => h i (by omega), h n (by omega)⟩
theorem stepB_iff {s : Sq} {i : Nat} : stepB s i = true ↔ (0 ≤ s.F i ∧ s.F i ≤ 7) ∧ (0 ≤ s.L i ∧ s.L i ≤ s.M i) ∧ s.M i ≤ 38399 := by
  simp [stepB, inB, and_assoc]
theorem wider_valid {s : Sq} {k : Nat} {l m : Int} (h : sqB s = true) (l0 : 0 ≤ l) (l1 : l ≤ s.L k) (m0 : s.M k ≤ m) (m1 : m ≤ 38399) (hk : k < s.n) : sqB (widerS s k l m) = true := by
  obtain ⟨k0, k1, k2⟩ := step_parts h hk
  simp only [sqB, Bool.and_eq_true] at h ⊢
  refine ⟨h.1, stepsB_intro fun i hi => ?_⟩
  have hb := stepB_iff.1 (stepsB_at h.2 hi)
  rw [stepB_iff]
  simp only [widerS]
  by_cases e : i = k
  · subst e
    simp only [if_true]
    omega
  · simp only [e, if_false]
    exact hb
theorem wider_ready {s : Sq} {k : Nat} {l m : Int} (hq : sqB (widerS s k l m) = true) (l1 : l ≤ s.L k) (m0 : s.M k ≤ m) {c : Crs} {t : Int} (h : readyE s c t = 0) : readyE (widerS s k l m) c t = 0 := by
  obtain ⟨hc, ht, ho, h4, h5⟩ := ready_ok h
  have hc' : courseB (widerS s k l m) c = true := by
    simp only [courseB, Bool.and_eq_true] at hc ⊢
    exact ⟨hq, hc.2⟩
  have h4' : fromOf (widerS s k l m) c ≤ t := by
    refine Int.le_trans ?_ h4
    simp only [fromOf, widerS]
    split
    · exact Int.le_refl _
    · split
      · rename_i e
        rw [e]
        omega
      · exact Int.le_refl _
  have h5' : t ≤ untilOf (widerS s k l m) c := by
    refine Int.le_trans h5 ?_
    simp only [untilOf, widerS]
    split
    · exact Int.le_refl _
    · split
      · rename_i e
        rw [e]
        omega
      · exact Int.le_refl _
  simp [readyE, hc', ht, ho, h4', h5']
theorem wider_run {s : Sq} {k : Nat} {l m : Int} {M : Nat → Int} : ∀ {N : Nat}, runC (widerS s k l m) M N = runC s M N
  | 0 => rfl
  | N + 1 => by
    simp only [runC, wider_run (N := N)]
    rfl
theorem wider_rep {s : Sq} {k : Nat} {l m : Int} {M : Nat → Int} {N : Nat} (h : sqB s = true) (ho : okTo s M N) (l0 : 0 ≤ l) (l1 : l ≤ s.L k) (m0 : s.M k ≤ m) (m1 : m ≤ 38399) (hk : k < s.n) :
    repR (widerS s k l m) M N = (runC s M N, (N : Int), 0) := by
  have hq := wider_valid h l0 l1 m0 m1 hk
  rw [repR_ok hq, wider_run]
  intro i hi
  rw [wider_run]
  exact wider_ready hq l1 m0 (ho i hi)

/-! ### Later moments -/
theorem run_pos {s : Sq} {M : Nat → Int} {i : Nat} (hn : 1 ≤ (s.n : Int)) (hk : okTo s M i) : ¬ (runC s M (i + 1)).nx + (runC s M (i + 1)).rd = 0 ∧ (runC s M (i + 1)).la = M i := by
  rw [runC_succ hk]
  refine ⟨?_, rfl⟩
  have e : (s.n : Int) * (((i : Int) + 1) / s.n) + ((i : Int) + 1) % s.n = (i : Int) + 1 := Int.mul_ediv_add_emod _ _
  have m0 : 0 ≤ ((i : Int) + 1) % s.n := Int.emod_nonneg _ (by omega)
  have q0 : 0 ≤ ((i : Int) + 1) / s.n := Int.ediv_nonneg (by omega) (by omega)
  intro h0
  dsimp only at h0
  have e1 : ((i : Int) + 1) / s.n = 0 := by omega
  rw [e1] at e
  omega
/-- The course, its Last moved. -/
def lateC (c : Crs) (d : Int) : Crs := ⟨c.nx, c.rd, c.la + d, c.ov⟩
theorem late_ready {s : Sq} {c : Crs} {m d : Int} (hz : ¬ c.nx + c.rd = 0) (l0 : 0 ≤ c.la) (l1 : c.la ≤ 38399 - d) (m0 : 0 ≤ m) (m1 : m ≤ 38399 - d) (d0 : 0 ≤ d) : readyE s (lateC c d) (m + d) = readyE s c m := by
  have hc : courseB s (lateC c d) = courseB s c := by
    have z1 : zeroB c = false := by
      cases h : zeroB c with
      | false => rfl
      | true =>
        obtain ⟨e1, e2, _, _⟩ := eqC_iff.1 h
        omega
    have z2 : zeroB (lateC c d) = false := by
      cases h : zeroB (lateC c d) with
      | false => rfl
      | true =>
        obtain ⟨e1, e2, _, _⟩ := eqC_iff.1 h
        simp only [lateC] at e1 e2
        omega
    have b1 : inB 0 c.la 38399 = true := inB_iff.2 ⟨l0, by omega⟩
    have b2 : inB 0 (c.la + d) 38399 = true := inB_iff.2 ⟨by omega, by omega⟩
    have e : liveB s (lateC c d) = liveB s c := by
      simp only [liveB, lateC, b1, b2]
      rfl
    simp only [courseB, z1, z2, e]
  have i1 : inB 0 m 38399 = true := inB_iff.2 ⟨m0, by omega⟩
  have i2 : inB 0 (m + d) 38399 = true := inB_iff.2 ⟨by omega, by omega⟩
  have f1 : (fromOf s (lateC c d) ≤ m + d) = (fromOf s c ≤ m) := by
    apply propext
    simp only [fromOf, lateC, if_neg hz]
    omega
  have u1 : (m + d ≤ untilOf s (lateC c d)) = (m ≤ untilOf s c) := by
    apply propext
    simp only [untilOf, lateC, if_neg hz]
    omega
  simp only [readyE, hc, i1, i2, f1, u1]
  rfl
section
variable {s : Sq} {M M' : Nat → Int} {N : Nat} {d : Int}
theorem late_step (hq : sqB s = true) (d0 : 0 ≤ d) (h : ∀ i, i < N → M' i = M i + d ∧ 0 ≤ M i ∧ M i ≤ 38399 - d) :
    ∀ {k : Nat}, k ≤ N → okTo s M k → okTo s M' k ∧ runC s M' k = (if k = 0 then zeroC else lateC (runC s M k) d) ∧ (k < N → readyE s (runC s M' k) (M' k) = readyE s (runC s M k) (M k))
  | 0, _, _ => by
    refine ⟨fun i hi => absurd hi (by omega), rfl, fun hN => ?_⟩
    obtain ⟨e, m0, m1⟩ := h 0 hN
    have hz : courseB s zeroC = true := by simp [courseB, hq, zeroB, zeroC, eqC]
    rw [show runC s M' 0 = zeroC from rfl, show runC s M 0 = zeroC from rfl, ready_zero hz (inB_iff.2 ⟨m0, by omega⟩) rfl (by simp [zeroC]), ready_zero hz (inB_iff.2 ⟨by omega, by omega⟩) rfl (by simp [zeroC])]
  | k + 1, hk, ho => by
    have hok : okTo s M k := okTo_le ho (by omega)
    obtain ⟨i1, i2, i3⟩ := late_step hq d0 h (k := k) (by omega) hok
    have hn := (sqB_parts hq).1.1
    have ho' : okTo s M' (k + 1) := fun i hi => by
      by_cases e : i = k
      · rw [e, i3 (by omega)]
        exact ho k (by omega)
      · exact i1 i (by omega)
    obtain ⟨p1, p2⟩ := run_pos hn hok
    obtain ⟨e0, b0, b1⟩ := h k (by omega)
    have er : runC s M' (k + 1) = lateC (runC s M (k + 1)) d := by
      rw [runC_succ i1, runC_succ hok]
      simp [lateC, e0]
    refine ⟨ho', by simp [er], fun hN => ?_⟩
    obtain ⟨e1, c0, c1⟩ := h (k + 1) hN
    rw [er, e1]
    exact late_ready p1 (by omega) (by omega) c0 c1 d0

/-- What Replay says of later moments. -/
theorem late_rep (d0 : 0 ≤ d) (h : ∀ i, i < N → M' i = M i + d ∧ 0 ≤ M i ∧ M i ≤ 38399 - d) :
    ∃ (c : Crs) (n e : Int), repR s M N = (c, n, e) ∧ repR s M' N = (if e = 0 ∧ 0 < N then lateC c d else c, n, e) ∧ (e = 0 ∧ 0 < N → 0 ≤ c.la ∧ c.la ≤ 38399 - d) := by
  rcases repR_cases s M N with ⟨h1, h2⟩ | ⟨h1, h2, h3⟩ | ⟨h1, i, h2, h3, h4, h5⟩
  · refine ⟨_, _, _, h2, ?_, fun h => by omega⟩
    rw [if_neg (by omega)]
    simp [repR, h1]
  · obtain ⟨o1, o2, _⟩ := late_step h1 d0 h (Nat.le_refl _) h2
    refine ⟨_, _, _, h3, ?_, fun hN => ?_⟩
    · rw [repR_ok h1 o1, o2]
      by_cases e : N = 0
      · subst e
        simp [runC]
      · rw [if_neg e, if_pos ⟨rfl, by omega⟩]
    · obtain ⟨k, rfl⟩ : ∃ k, N = k + 1 := ⟨N - 1, by omega⟩
      obtain ⟨_, p2⟩ := run_pos (sqB_parts h1).1.1 (okTo_le h2 (Nat.le_succ k))
      obtain ⟨_, b0, b1⟩ := h k (by omega)
      omega
  · obtain ⟨o1, o2, o3⟩ := late_step h1 d0 h (Nat.le_of_lt h2) h3
    have e := o3 h2
    refine ⟨_, _, _, h5, ?_, fun h => absurd h.1 h4⟩
    rw [repR_at h1 h2 o1 (by rw [e]; exact h4), e, if_neg fun h => h4 h.1]
end

end Go.Proofs.Ytmplcceoepkppaa
