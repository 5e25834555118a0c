/-
  A part of the run of the laws' head, looked at by the kernel. No conditions.
-/
import Derived.Test.YtbkipanlicgooaaGreatDoorM1
namespace Go.Proofs.YtbkipanlicgooaaGreatDoor
open Q
theorem top2 : endPart (gl (lvM 36 kM)) 6 (.b true) 24374 mid = true := by kernel_rfl
end Go.Proofs.YtbkipanlicgooaaGreatDoor
