/-
  Equality of two arrays of four numbers, and of four bools, as the model runs it.
-/
import Derived.Test.YteghionkljbggaaDetA
namespace Go.Proofs.Yteghionkljbggaa
open Go.RowKit

def eq4 (a b c d a' b' c' d' : Int) : Bool := a == a' && b == b' && c == c' && d == d'

theorem eq25g (n : Nat) (a b c d a' b' c' d' : Int) (w : World) :
    (Op.equalIn (n + 2) 25 (.agg #[.int .i64 a, .int .i64 b, .int .i64 c, .int .i64 d]) (.agg #[.int .i64 a', .int .i64 b', .int .i64 c', .int .i64 d'])).run Try.prog w = .ok (eq4 a b c d a' b' c' d') w := by
  rw [Op.equalIn]
  simp [run_underlying Try.underlying25, Try.sizeOf3, go_sem, List.range', List.forIn_cons, eq4]
  by_cases h1 : a = a' <;> by_cases h2 : b = b' <;> by_cases h3 : c = c' <;> by_cases h4 : d = d' <;> simp [*]

@[go_sem] theorem eq25 (a b c d a' b' c' d' : Int) (w : World) :
    (Op.equalIn 10000 25 (.agg #[.int .i64 a, .int .i64 b, .int .i64 c, .int .i64 d]) (.agg #[.int .i64 a', .int .i64 b', .int .i64 c', .int .i64 d'])).run Try.prog w = .ok (eq4 a b c d a' b' c' d') w :=
  eq25g 9998 a b c d a' b' c' d' w

def eqB4 (a b c d a' b' c' d' : Bool) : Bool := a == a' && b == b' && c == c' && d == d'

theorem eq27g (n : Nat) (a b c d a' b' c' d' : Bool) (w : World) :
    (Op.equalIn (n + 2) 27 (.agg #[.bool a, .bool b, .bool c, .bool d]) (.agg #[.bool a', .bool b', .bool c', .bool d'])).run Try.prog w = .ok (eqB4 a b c d a' b' c' d') w := by
  rw [Op.equalIn]
  simp [run_underlying Try.underlying27, Try.sizeOf4, go_sem, List.range', List.forIn_cons, eqB4]
  by_cases h1 : a = a' <;> by_cases h2 : b = b' <;> by_cases h3 : c = c' <;> by_cases h4 : d = d' <;> simp [*]

@[go_sem] theorem eq27 (a b c d a' b' c' d' : Bool) (w : World) :
    (Op.equalIn 10000 27 (.agg #[.bool a, .bool b, .bool c, .bool d]) (.agg #[.bool a', .bool b', .bool c', .bool d'])).run Try.prog w = .ok (eqB4 a b c d a' b' c' d') w :=
  eq27g 9998 a b c d a' b' c' d' w

theorem clip_eq (hi a : Int) (h : 0 ≤ hi) : (a == clip hi a) = inB 0 a hi := by
  rw [Bool.eq_iff_iff]
  simp [inB, clip]
  omega

theorem eq4_clip (hi a b c d : Int) (h : 0 ≤ hi) : eq4 a b c d (clip hi a) (clip hi b) (clip hi c) (clip hi d) = allB hi a b c d := by
  simp only [eq4, allB, clip_eq _ _ h]

end Go.Proofs.Yteghionkljbggaa
