/-
  A part of the run of the laws' head, looked at by the kernel. No conditions.
-/
import Derived.Test.YtbkipanlicgooaaGreatDoorM1
namespace Go.Proofs.YtbkipanlicgooaaGreatDoor
theorem kc0 : okCalls (gl (lvM 0 kM)) H0 (colM 0 kM) = true := by kernel_rfl
end Go.Proofs.YtbkipanlicgooaaGreatDoor
namespace Go.Proofs.YtbkipanlicgooaaGreatDoor
theorem kc1 : okCalls (gl (lvM 1 kM)) H0 (colM 1 kM) = true := by kernel_rfl
end Go.Proofs.YtbkipanlicgooaaGreatDoor
namespace Go.Proofs.YtbkipanlicgooaaGreatDoor
theorem kc2 : okCalls (gl (lvM 2 kM)) H0 (colM 2 kM) = true := by kernel_rfl
end Go.Proofs.YtbkipanlicgooaaGreatDoor
namespace Go.Proofs.YtbkipanlicgooaaGreatDoor
theorem kc3 : okCalls (gl (lvM 3 kM)) H0 (colM 3 kM) = true := by kernel_rfl
end Go.Proofs.YtbkipanlicgooaaGreatDoor
