/-
  The plain law of sequences: the next course, step by step; what Replay returns. No program in sight; no conditions but those in each statement.
-/
import Derived.Test.YtmplcceoepkppaaLawA
namespace Go.Proofs.Ytmplcceoepkppaa

theorem next_last {s : Sq} {nx rd la m : Int} {ov : Bool} (h0 : 1 ≤ (s.n : Int)) (h : nx + 1 = s.n) : nextC s ⟨nx, rd, la, ov⟩ m = ⟨0, rd + 1, m, rd + 1 == s.r⟩ := by
  have e : taken s ⟨nx, rd, la, ov⟩ + 1 = (rd + 1) * s.n := by
    simp only [taken]
    rw [Int.add_mul, Int.one_mul]
    omega
  have hn : (s.n : Int) ≠ 0 := by omega
  simp only [nextC, e, Int.mul_ediv_cancel _ hn, Int.mul_emod_left]
theorem next_more {s : Sq} {nx rd la m : Int} {ov : Bool} (h0 : 0 ≤ nx) (h : nx + 1 < s.n) (hr : rd ≠ s.r) : nextC s ⟨nx, rd, la, ov⟩ m = ⟨nx + 1, rd, m, false⟩ := by
  have e : taken s ⟨nx, rd, la, ov⟩ + 1 = (nx + 1) + rd * s.n := by
    simp only [taken]
    omega
  have hn : (s.n : Int) ≠ 0 := by omega
  have e1 : ((nx + 1) + rd * s.n) / s.n = rd := by
    rw [Int.add_mul_ediv_right _ _ hn, Int.ediv_eq_zero_of_lt (by omega) h]
    omega
  have e2 : ((nx + 1) + rd * s.n) % s.n = nx + 1 := by
    rw [Int.add_mul_emod_self_right, Int.emod_eq_of_lt (by omega) h]
  simp only [nextC, e, e1, e2]
  simp [hr]

/-- What Replay returns from step k on, f moments being left. -/
def repFrom (s : Sq) (M : Nat → Int) : Nat → Nat → Crs → Crs × Int × Int
  | 0, k, c => (c, k, 0)
  | f + 1, k, c => if readyE s c (M k) = 0 then repFrom s M f (k + 1) (nextC s c (M k)) else (zeroC, k, readyE s c (M k))
def repR (s : Sq) (M : Nat → Int) (N : Nat) : Crs × Int × Int := if sqB s then repFrom s M N 0 zeroC else (zeroC, 0, 1)

/-- The course behind k steps. -/
def runC (s : Sq) (M : Nat → Int) : Nat → Crs
  | 0 => zeroC
  | k + 1 => nextC s (runC s M k) (M k)
/-- The first k steps can be taken. -/
def okTo (s : Sq) (M : Nat → Int) (k : Nat) : Prop := ∀ i, i < k → readyE s (runC s M i) (M i) = 0

theorem repFrom_run (s : Sq) (M : Nat → Int) : ∀ (f k : Nat), okTo s M k →
    (okTo s M (k + f) ∧ repFrom s M f k (runC s M k) = (runC s M (k + f), ((k + f : Nat) : Int), 0)) ∨
    (∃ i, k ≤ i ∧ i < k + f ∧ okTo s M i ∧ ¬ readyE s (runC s M i) (M i) = 0 ∧ repFrom s M f k (runC s M k) = (zeroC, (i : Int), readyE s (runC s M i) (M i)))
  | 0, k, h => .inl ⟨by simpa using h, by simp [repFrom]⟩
  | f + 1, k, h => by
    by_cases h0 : readyE s (runC s M k) (M k) = 0
    · have hk : okTo s M (k + 1) := fun i hi => by
        by_cases e : i = k
        · rw [e]; exact h0
        · exact h i (by omega)
      have e : repFrom s M (f + 1) k (runC s M k) = repFrom s M f (k + 1) (runC s M (k + 1)) := by simp [repFrom, h0, runC]
      rw [e]
      rcases repFrom_run s M f (k + 1) hk with ⟨h1, h2⟩ | ⟨i, h1, h2, h3, h4, h5⟩
      · have ek : k + 1 + f = k + (f + 1) := by omega
        rw [ek] at h1 h2
        exact .inl ⟨h1, h2⟩
      · exact .inr ⟨i, by omega, by omega, h3, h4, h5⟩
    · exact .inr ⟨k, Nat.le_refl _, by omega, h, h0, by simp [repFrom, h0]⟩

/-- Replay accepts all N moments, or refuses one, or the sequence is not valid. -/
theorem repR_cases (s : Sq) (M : Nat → Int) (N : Nat) :
    (sqB s = false ∧ repR s M N = (zeroC, 0, 1)) ∨
    (sqB s = true ∧ okTo s M N ∧ repR s M N = (runC s M N, (N : Int), 0)) ∨
    (sqB s = true ∧ ∃ i, i < N ∧ okTo s M i ∧ ¬ readyE s (runC s M i) (M i) = 0 ∧ repR s M N = (zeroC, (i : Int), readyE s (runC s M i) (M i))) := by
  cases hq : sqB s with
  | false => exact .inl ⟨rfl, by simp [repR, hq]⟩
  | true =>
    have e : repR s M N = repFrom s M N 0 (runC s M 0) := by simp [repR, hq, runC]
    rcases repFrom_run s M N 0 (fun i hi => by omega) with ⟨h1, h2⟩ | ⟨i, _, h2, h3, h4, h5⟩
    · simp only [Nat.zero_add] at h1 h2
      exact .inr (.inl ⟨rfl, h1, e.trans h2⟩)
    · exact .inr (.inr ⟨rfl, i, by omega, h3, h4, e.trans h5⟩)

end Go.Proofs.Ytmplcceoepkppaa
