/-
  A part of the run of the laws' head, looked at by the kernel. No conditions.
-/
import Derived.Test.YtbkipanlicgooaaGreatDoorM1
namespace Go.Proofs.YtbkipanlicgooaaGreatDoor
theorem kc20 : okCalls (gl (lvM 20 kM)) H0 (colM 20 kM) = true := by kernel_rfl
end Go.Proofs.YtbkipanlicgooaaGreatDoor
namespace Go.Proofs.YtbkipanlicgooaaGreatDoor
theorem kc21 : okCalls (gl (lvM 21 kM)) H0 (colM 21 kM) = true := by kernel_rfl
end Go.Proofs.YtbkipanlicgooaaGreatDoor
namespace Go.Proofs.YtbkipanlicgooaaGreatDoor
theorem kc22 : okCalls (gl (lvM 22 kM)) H0 (colM 22 kM) = true := by kernel_rfl
end Go.Proofs.YtbkipanlicgooaaGreatDoor
namespace Go.Proofs.YtbkipanlicgooaaGreatDoor
theorem kc23 : okCalls (gl (lvM 23 kM)) H0 (colM 23 kM) = true := by kernel_rfl
end Go.Proofs.YtbkipanlicgooaaGreatDoor
