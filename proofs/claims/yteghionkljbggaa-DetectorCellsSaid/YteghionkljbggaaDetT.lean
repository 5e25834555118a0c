/-
  The equality of four numbers, of four bools, with themselves, as rules for the walk.
-/
import Derived.Test.YteghionkljbggaaDetE
namespace Go.Proofs.Yteghionkljbggaa
open Go.RowKit
@[go_sem] theorem eq4_same (a b c d : Int) : eq4 a b c d a b c d = true := by simp [eq4]
@[go_sem] theorem eqB4_same (a b c d : Bool) : eqB4 a b c d a b c d = true := by simp [eqB4]
end Go.Proofs.Yteghionkljbggaa
