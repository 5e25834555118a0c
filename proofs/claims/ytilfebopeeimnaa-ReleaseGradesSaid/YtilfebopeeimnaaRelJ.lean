/-
  FewScript: what the call returns. No conditions but those in each statement.
-/
import Derived.Test.YtilfebopeeimnaaRelA
namespace Go.Proofs.Ytilfebopeeimnaa
open Go.RowKit

def fewB (n1 n2 n3 n4 n5 : Nat) : Bool := decide (n1 ≤ 8) && decide (n2 ≤ 8) && decide (n3 ≤ 8) && decide (n4 ≤ 12) && decide (n5 ≤ 8)
set_option maxHeartbeats 2000000 in
theorem fewscript_any (x y : Value) (A1 A2 A3 A4 A5 : Option Addr) (n1 n2 n3 n4 n5 c1 c2 c3 c4 c5 : Nat) (w : World) :
    Calls Try.prog 8 #[.agg #[x, y, .slice A1 n1 c1, .slice A2 n2 c2, .slice A3 n3 c3, .slice A4 n4 c4, .slice A5 n5 c5]] w (Ret (.bool (fewB n1 n2 n3 n4 n5)) w) := by
  by_cases a1 : (n1 : Int) ≤ 8
  rotate_left
  · have a1d : decide ((n1 : Int) ≤ 8) = false := by simpa using a1
    have Hq := Lib.hid (show fewB n1 n2 n3 n4 n5 = false from by
      have : ¬ n1 ≤ 8 := by omega
      simp [fewB, this])
    go_enter Try.func8, Try.ntmps8
    go_wp2
    go_ret
    exact ⟨by rw [Hq.out]; rfl, by go_grown⟩
  by_cases a2 : (n2 : Int) ≤ 8
  rotate_left
  · have a2d : decide ((n2 : Int) ≤ 8) = false := by simpa using a2
    have Hq := Lib.hid (show fewB n1 n2 n3 n4 n5 = false from by
      have : ¬ n2 ≤ 8 := by omega
      simp [fewB, this])
    go_enter Try.func8, Try.ntmps8
    go_wp2
    go_ret
    exact ⟨by rw [Hq.out]; rfl, by go_grown⟩
  by_cases a3 : (n3 : Int) ≤ 8
  rotate_left
  · have a3d : decide ((n3 : Int) ≤ 8) = false := by simpa using a3
    have Hq := Lib.hid (show fewB n1 n2 n3 n4 n5 = false from by
      have : ¬ n3 ≤ 8 := by omega
      simp [fewB, this])
    go_enter Try.func8, Try.ntmps8
    go_wp2
    go_ret
    exact ⟨by rw [Hq.out]; rfl, by go_grown⟩
  by_cases a4 : (n4 : Int) ≤ 12
  rotate_left
  · have a4d : decide ((n4 : Int) ≤ 12) = false := by simpa using a4
    have Hq := Lib.hid (show fewB n1 n2 n3 n4 n5 = false from by
      have : ¬ n4 ≤ 12 := by omega
      simp [fewB, this])
    go_enter Try.func8, Try.ntmps8
    go_wp2
    go_ret
    exact ⟨by rw [Hq.out]; rfl, by go_grown⟩
  have Hq := Lib.hid (show fewB n1 n2 n3 n4 n5 = decide ((n5 : Int) ≤ 8) from by
    have b1 : n1 ≤ 8 := by omega
    have b2 : n2 ≤ 8 := by omega
    have b3 : n3 ≤ 8 := by omega
    have b4 : n4 ≤ 12 := by omega
    have e : decide (n5 ≤ 8) = decide ((n5 : Int) ≤ 8) := by
      rw [Bool.eq_iff_iff]
      simp only [decide_eq_true_eq]
      omega
    simp only [fewB, b1, b2, b3, b4, decide_true, Bool.true_and, e])
  go_enter Try.func8, Try.ntmps8
  go_wp2
  go_ret
  exact ⟨by rw [Hq.out]; rfl, by go_grown⟩

end Go.Proofs.Ytilfebopeeimnaa
