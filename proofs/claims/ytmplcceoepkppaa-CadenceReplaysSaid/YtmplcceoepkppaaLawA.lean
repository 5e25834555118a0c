/-
  The plain law of sequences: what a sequence, a course, a window are, when they are valid. No program in sight; no conditions but those in each statement.
-/
namespace Go.Proofs.Ytmplcceoepkppaa

/-- n is in [lo, hi]. -/
def inB (lo n hi : Int) : Bool := decide (lo ≤ n) && decide (n ≤ hi)

theorem inB_iff {lo n hi : Int} : inB lo n hi = true ↔ lo ≤ n ∧ n ≤ hi := by simp [inB]

/-- A sequence: how many steps, what they hold, how often. -/
structure Sq where
  n : Nat
  F : Nat → Int
  L : Nat → Int
  M : Nat → Int
  r : Int

def stepB (s : Sq) (i : Nat) : Bool := inB 0 (s.F i) 7 && inB 0 (s.L i) (s.M i) && decide (s.M i ≤ 38399)
/-- The first k steps are valid. -/
def stepsB (s : Sq) : Nat → Bool
  | 0 => true
  | k + 1 => stepsB s k && stepB s k
def sqB (s : Sq) : Bool := inB 1 s.n 40 && inB 1 s.r 100 && stepsB s s.n

theorem stepsB_le {s : Sq} {k n : Nat} (h : stepsB s n = true) (hk : k ≤ n) : stepsB s k = true := by
  induction n with
  | zero => have : k = 0 := by omega
            rw [this]; exact h
  | succ m ih =>
    simp only [stepsB, Bool.and_eq_true] at h
    by_cases e : k = m + 1
    · rw [e]; simp [stepsB, h]
    · exact ih h.1 (by omega)
theorem stepsB_at {s : Sq} {k n : Nat} (h : stepsB s n = true) (hk : k < n) : stepB s k = true := by
  have := stepsB_le h (show k + 1 ≤ n from hk)
  simp only [stepsB, Bool.and_eq_true] at this
  exact this.2
theorem sqB_bad {s : Sq} {k : Nat} (hk : k < s.n) (h : stepB s k = false) : sqB s = false := by
  cases e : sqB s with
  | false => rfl
  | true =>
    simp only [sqB, Bool.and_eq_true] at e
    rw [stepsB_at e.2 hk] at h
    cases h
theorem sqB_parts {s : Sq} (h : sqB s = true) : (1 ≤ (s.n : Int) ∧ (s.n : Int) ≤ 40) ∧ (1 ≤ s.r ∧ s.r ≤ 100) ∧ stepsB s s.n = true := by
  simp only [sqB, inB, Bool.and_eq_true, decide_eq_true_eq] at h
  exact ⟨h.1.1, h.1.2, h.2⟩
theorem step_parts {s : Sq} (h : sqB s = true) {k : Nat} (hk : k < s.n) : 0 ≤ s.L k ∧ s.L k ≤ s.M k ∧ s.M k ≤ 38399 := by
  have := stepsB_at (sqB_parts h).2.2 hk
  simp only [stepB, inB, Bool.and_eq_true, decide_eq_true_eq] at this
  exact ⟨this.1.2.1, this.1.2.2, this.2⟩

/-- A course. -/
structure Crs where
  nx : Int
  rd : Int
  la : Int
  ov : Bool
def eqC (a b c : Int) (d : Bool) (a' b' c' : Int) (d' : Bool) : Bool := a == a' && b == b' && c == c' && d == d'
def zeroB (c : Crs) : Bool := eqC c.nx c.rd c.la c.ov 0 0 0 false
/-- A course that is not the zero course is valid. -/
def liveB (s : Sq) (c : Crs) : Bool :=
  if c.ov then decide (c.nx = 0) && decide (c.rd = s.r) && inB 0 c.la 38399
  else inB 0 c.nx (s.n - 1) && inB 0 c.rd (s.r - 1) && inB 0 c.la 38399 && decide (0 < c.nx + c.rd)
def courseB (s : Sq) (c : Crs) : Bool := sqB s && (zeroB c || liveB s c)

/-- The window of a valid course that is not over. -/
def fromOf (s : Sq) (c : Crs) : Int := if c.nx + c.rd = 0 then 0 else c.la + s.L c.nx.toNat
def untilOf (s : Sq) (c : Crs) : Int := if c.nx + c.rd = 0 then 38399 else min (c.la + s.M c.nx.toNat) 38399
/-- What Ready returns. -/
def readyE (s : Sq) (c : Crs) (m : Int) : Int :=
  if courseB s c && inB 0 m 38399 then (if c.ov then 11 else if fromOf s c ≤ m then (if m ≤ untilOf s c then 0 else 17) else 16) else 1
def zeroC : Crs := ⟨0, 0, 0, false⟩
def taken (s : Sq) (c : Crs) : Int := c.rd * s.n + c.nx
/-- The course behind a step. -/
def nextC (s : Sq) (c : Crs) (m : Int) : Crs := ⟨(taken s c + 1) % s.n, (taken s c + 1) / s.n, m, (taken s c + 1) / s.n == s.r⟩
def advC (s : Sq) (c : Crs) (m : Int) : Crs := if readyE s c m = 0 then nextC s c m else zeroC

theorem eqC_iff {a b c a' b' c' : Int} {d d' : Bool} : eqC a b c d a' b' c' d' = true ↔ a = a' ∧ b = b' ∧ c = c' ∧ d = d' := by
  simp [eqC, and_assoc]

/-- What is known of a valid course that is not over. -/
theorem course_open {s : Sq} {c : Crs} (h : courseB s c = true) (ho : c.ov = false) : 0 ≤ c.nx ∧ c.nx ≤ s.n - 1 ∧ 0 ≤ c.rd ∧ c.rd ≤ s.r - 1 ∧ 0 ≤ c.la ∧ c.la ≤ 38399 := by
  simp only [courseB, Bool.and_eq_true, Bool.or_eq_true] at h
  obtain ⟨hq, hz | hl⟩ := h
  · obtain ⟨h1, h2, _⟩ := sqB_parts hq
    obtain ⟨e1, e2, e3, _⟩ := eqC_iff.1 hz
    omega
  · simp only [liveB, ho, Bool.false_eq_true, if_false, inB, Bool.and_eq_true, decide_eq_true_eq] at hl
    omega
theorem ready_no {s : Sq} {c : Crs} {m : Int} (h : (courseB s c && inB 0 m 38399) = false) : readyE s c m = 1 := by simp [readyE, h]
theorem ready_over {s : Sq} {c : Crs} {m : Int} (h : courseB s c = true) (hm : inB 0 m 38399 = true) (ho : c.ov = true) : readyE s c m = 11 := by simp [readyE, h, hm, ho]
theorem ready_zero {s : Sq} {c : Crs} {m : Int} (h : courseB s c = true) (hm : inB 0 m 38399 = true) (ho : c.ov = false) (hz : c.nx + c.rd = 0) : readyE s c m = 0 := by
  have := inB_iff.1 hm
  simp [readyE, h, hm, ho, fromOf, untilOf, hz, this]
theorem ready_step {s : Sq} {k : Nat} {rd la m : Int} (h : courseB s ⟨k, rd, la, false⟩ = true) (hm : inB 0 m 38399 = true) (hz : ¬ (k : Int) + rd = 0) :
    readyE s ⟨k, rd, la, false⟩ m = if la + s.L k ≤ m then (if m ≤ la + s.M k then 0 else 17) else 16 := by
  have h1 := inB_iff.1 hm
  have h2 : (m ≤ min (la + s.M k) 38399) = (m ≤ la + s.M k) := by
    apply propext
    constructor <;> intro h <;> omega
  simp [readyE, h, hm, fromOf, untilOf, hz, h2]
theorem ready_ok {s : Sq} {c : Crs} {m : Int} (h : readyE s c m = 0) : courseB s c = true ∧ inB 0 m 38399 = true ∧ c.ov = false ∧ fromOf s c ≤ m ∧ m ≤ untilOf s c := by
  simp only [readyE] at h
  split at h
  · rename_i h1
    simp only [Bool.and_eq_true] at h1
    split at h
    · omega
    · rename_i h2
      split at h
      · split at h
        · exact ⟨h1.1, h1.2, by simpa using h2, by assumption, by assumption⟩
        · omega
      · omega
  · omega
theorem mul_bounds {a b x y : Int} (h0 : 0 ≤ a) (h1 : a ≤ x) (h2 : 0 ≤ b) (h3 : b ≤ y) : 0 ≤ a * b ∧ a * b ≤ x * y :=
  ⟨Int.mul_nonneg h0 h2, Int.mul_le_mul h1 h3 h2 (by omega)⟩
theorem course_valid {s : Sq} {c : Crs} (h : courseB s c = true) : sqB s = true := by
  simp only [courseB, Bool.and_eq_true] at h
  exact h.1

end Go.Proofs.Ytmplcceoepkppaa
