/-
  The leaf functions of the packages cadence and observatoryref24: what each call returns. No conditions but those in each statement.
-/
import Derived.Test.YtmplcceoepkppaaRows
import Derived.Test.YtmplcceoepkppaaKit
import Derived.Test.YtmplcceoepkppaaSt
import Derived.Test.YtmplcceoepkppaaLawA
namespace Go.Proofs.Ytmplcceoepkppaa
open Go.RowKit

set_option maxHeartbeats 400000 in
theorem within_any (n lo hi : Int) (w : World) :
    Calls Try.prog 26 #[.int .i64 n, .int .i64 lo, .int .i64 hi] w fun e w' => e = .returned (.bool (inB lo n hi)) ∧ w = w' := by
  by_cases h1 : lo ≤ n
  · have hr : inB lo n hi = decide (n ≤ hi) := by simp [inB, h1]
    have Hr := Lib.hid hr; clear hr
    go_enter Try.func26, Try.ntmps26
    go_wp2
    all_goals
      go_ret
      exact ⟨by rw [Hr.out]; simp [*], rfl⟩
  · have hr : inB lo n hi = false := by simp [inB, h1]
    have Hr := Lib.hid hr; clear hr
    go_enter Try.func26, Try.ntmps26
    go_wp2
    all_goals
      go_ret
      exact ⟨by rw [Hr.out]; rfl, rfl⟩

/-- The three cells of a step at an address. -/
def StepAt (w : World) (p : Addr) (f l m : Int) : Prop :=
  p.block < w.heap.size ∧ w.cell? p = some (.int .i64 f) ∧ w.cell? ⟨p.block, p.off + 1, none⟩ = some (.int .i64 l) ∧ w.cell? ⟨p.block, p.off + 2, none⟩ = some (.int .i64 m)
theorem StepAt.later {w w' : World} {p : Addr} {f l m : Int} (h : StepAt w p f l m) (hb : Below w.heap.size w w') : StepAt w' p f l m := by
  obtain ⟨h0, h1, h2, h3⟩ := h
  have := hb.size
  exact ⟨by omega, by rw [hb.cell h0]; exact h1, by rw [hb.cell (p := ⟨p.block, p.off + 1, none⟩) h0]; exact h2, by rw [hb.cell (p := ⟨p.block, p.off + 2, none⟩) h0]; exact h3⟩

/-- Where the steps of a sequence lie. -/
def StepsAt (w : World) (A : Option Addr) (s : Sq) : Prop :=
  ∀ i, i < s.n → ∃ ad, A = some ad ∧ StepAt w (ad.add (i * 3)) (s.F i) (s.L i) (s.M i)
theorem StepsAt.later {w w' : World} {A : Option Addr} {s : Sq} (h : StepsAt w A s) (hb : Below w.heap.size w w') : StepsAt w' A s := by
  intro i hi
  obtain ⟨ad, rfl, h1⟩ := h i hi
  exact ⟨ad, rfl, h1.later hb⟩

def ValidRel (s : Sq) (w0 : World) (v : Value) (wr : World) : Prop :=
  ∃ k : Nat, k ≤ s.n ∧ v = .int .i64 k ∧ stepsB s k = true ∧ Below w0.heap.size w0 wr

set_option maxHeartbeats 1000000 in
theorem valid_any (A : Option Addr) (c : Nat) (s : Sq) (w : World) (hs : StepsAt w A s) (hn : s.n ≤ maxLen) :
    Calls Try.prog 17 #[.agg #[.slice A s.n c, .int .i64 s.r]] w (Ret (.bool (sqB s)) w) := by
  unfold maxLen at hn
  cases h1 : inB 1 s.n 40 with
  | false =>
    have hq : sqB s = false := by simp [sqB, h1]
    go_enter Try.func17, Try.ntmps17
    go_wp2_with (go_at_call 26; refine (within_any _ _ _ _).mono ?_; rintro e' w' ⟨rfl, rfl⟩)
    go_ret
    exact ⟨by rw [hq]; rfl, by go_grown⟩
  | true =>
    cases h2 : inB 1 s.r 100 with
    | false =>
      have hq : sqB s = false := by simp [sqB, h2]
      go_enter Try.func17, Try.ntmps17
      go_wp2_with (go_at_call 26; refine (within_any _ _ _ _).mono ?_; rintro e' w' ⟨rfl, rfl⟩)
      go_ret
      exact ⟨by rw [hq]; rfl, by go_grown⟩
    | true =>
      have hq : sqB s = stepsB s s.n := by simp [sqB, h1, h2]
      have Hq := Lib.hid hq; clear hq
      have hbig : (s.n : Int) ≤ 40 := by simp [inB] at h1; omega
      go_enter Try.func17, Try.ntmps17
      go_wp2_with (go_at_call 26; refine (within_any _ _ _ _).mono ?_; rintro e' w' ⟨rfl, rfl⟩)
      generalize hX : World.alloc _ _ = X
      have B : Below w.heap.size w X := by rw [← hX]; go_grown
      clear hX
      go_loopw [19] (ValidRel s X) (fun v _ => s.n - (intOf v).toNat)
      case atStart => exact ⟨0, by omega, rfl, rfl, Below.refl _ _⟩
      case round =>
        obtain ⟨k, hk, rfl, hsk, hb⟩ := hrel
        by_cases hlt : k < s.n
        · obtain ⟨ad, rfl, hblt, c0, c1, c2⟩ := (hs.later (below_step B (Nat.le_refl _) hb)) k hlt
          have hbw : Below w.heap.size w wr := below_step B (Nat.le_refl _) hb
          have hbad : stepB s k = false → sqB s = false := sqB_bad hlt
          have hgood : stepB s k = true → stepsB s (k + 1) = true := fun h => by simp [stepsB, hsk, h]
          have hb1 := Lib.hid hbad
          have hg1 := Lib.hid hgood
          clear hbad hgood hs
          cases t1 : inB 0 (s.F k) 7 with
          | false =>
            have hq := hb1.out (by simp [stepB, t1])
            go_wp2_with (go_at_call 26; refine (within_any _ _ _ _).mono ?_; rintro e' w' ⟨rfl, rfl⟩)
            go_ret
            exact ⟨by rw [hq]; rfl, hbw.alloc hbw.size _⟩
          | true =>
            cases t2 : inB 0 (s.L k) (s.M k) with
            | false =>
              have hq := hb1.out (by simp [stepB, t2])
              go_wp2_with (go_at_call 26; refine (within_any _ _ _ _).mono ?_; rintro e' w' ⟨rfl, rfl⟩)
              go_ret
              exact ⟨by rw [hq]; rfl, hbw.alloc hbw.size _⟩
            | true =>
              by_cases t3 : s.M k ≤ 38399
              · have hq := hg1.out (by simp [stepB, t1, t2, t3])
                have hq1 := Lib.hid hq
                clear hq
                go_wp2_with (go_at_call 26; refine (within_any _ _ _ _).mono ?_; rintro e' w' ⟨rfl, rfl⟩)
                exact ⟨⟨k + 1, by omega, by go_num, hq1.out, hb.alloc hb.size _⟩, by simp [intOf]; omega⟩
              · have hq := hb1.out (by simp [stepB, t3])
                go_wp2_with (go_at_call 26; refine (within_any _ _ _ _).mono ?_; rintro e' w' ⟨rfl, rfl⟩)
                go_ret
                exact ⟨by rw [hq]; rfl, hbw.alloc hbw.size _⟩
        · obtain rfl : k = s.n := by omega
          go_wp2
          go_ret
          exact ⟨by rw [Hq.out, hsk]; rfl, below_step B (Nat.le_refl _) hb⟩

end Go.Proofs.Ytmplcceoepkppaa
