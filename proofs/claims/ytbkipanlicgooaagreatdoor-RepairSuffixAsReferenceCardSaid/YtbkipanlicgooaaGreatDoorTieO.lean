/-
  The listed variables are what the program's text makes of them: a part of the tie. No conditions.
-/
import Derived.Test.YtbkipanlicgooaaGreatDoorTieL
namespace Go.Proofs.YtbkipanlicgooaaGreatDoor
open Go
theorem tw8 (os tape) : (DataW.laidRun Tryz.prog (varsWorld Tryz.prog 400 (varsId Tryz.prog) os tape).memory 8 (laid9.map (·.1))).map (·.1) = some laid9 := by kernel_rfl
end Go.Proofs.YtbkipanlicgooaaGreatDoor
