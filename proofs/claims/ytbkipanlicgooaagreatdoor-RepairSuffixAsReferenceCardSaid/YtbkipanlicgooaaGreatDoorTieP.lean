/-
  The listed variables are what the program's text makes of them: a part of the tie. No conditions.
-/
import Derived.Test.YtbkipanlicgooaaGreatDoorTieL
namespace Go.Proofs.YtbkipanlicgooaaGreatDoor
open Go
theorem tw9 (os tape) : (DataW.laidRun Tryz.prog (varsWorld Tryz.prog 400 (varsId Tryz.prog) os tape).memory 8 (laid9.map (·.1))).map (fun x => decide x.2.Nodup && laidRowsB Tryz.prog (varsWorld Tryz.prog 400 (varsId Tryz.prog) os tape).memory x.2) = some true := by kernel_rfl
end Go.Proofs.YtbkipanlicgooaaGreatDoor
