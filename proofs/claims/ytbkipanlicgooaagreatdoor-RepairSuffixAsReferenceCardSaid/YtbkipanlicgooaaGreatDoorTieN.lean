/-
  The listed variables are what the program's text makes of them: a part of the tie. No conditions.
-/
import Derived.Test.YtbkipanlicgooaaGreatDoorTieL
namespace Go.Proofs.YtbkipanlicgooaaGreatDoor
open Go
theorem tw6 : varsNamedLaterB Tryz.prog (varsId Tryz.prog) laid9 = true := by kernel_rfl
end Go.Proofs.YtbkipanlicgooaaGreatDoor
