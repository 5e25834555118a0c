/-
  The listed variables are what the program's text makes of them: a part of the tie. No conditions.
-/
import Derived.Test.YtbkipanlicgooaaGreatDoorTieL
namespace Go.Proofs.YtbkipanlicgooaaGreatDoor
open Go
theorem tw5 : laid9.map (fun x => Tryz.prog.kindOfLater x.1) = ([.sentinel, .sentinel, .data, .data, .data, .data, .data, .data, .data] : List LaidKind).map some := by kernel_rfl
end Go.Proofs.YtbkipanlicgooaaGreatDoor
