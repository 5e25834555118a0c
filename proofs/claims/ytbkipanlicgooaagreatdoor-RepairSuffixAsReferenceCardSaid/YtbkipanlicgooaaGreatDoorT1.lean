/-
  A part of the run of the laws' head, looked at by the kernel. No conditions.
-/
import Derived.Test.YtbkipanlicgooaaGreatDoorM1
namespace Go.Proofs.YtbkipanlicgooaaGreatDoor
open Q
theorem top1 : startPart (gl (lvM 36 kM)) H0 6 [] 24712 [0, 1, 2, 4, 5, 6, 7, 8, 9, 10, 33, 37, 41, 48] 12 [0, 1, 2, 3, 7, 8, 10, 11, 12, 13, 14, 31, 32, 36, 37, 38, 39, 754, 789, 829] 14 = some mid := by kernel_rfl
end Go.Proofs.YtbkipanlicgooaaGreatDoor
