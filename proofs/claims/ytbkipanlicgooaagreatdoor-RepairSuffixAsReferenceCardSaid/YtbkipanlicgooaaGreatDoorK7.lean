/-
  A part of the run of the laws' head, looked at by the kernel. No conditions.
-/
import Derived.Test.YtbkipanlicgooaaGreatDoorM1
namespace Go.Proofs.YtbkipanlicgooaaGreatDoor
theorem kc28 : okCalls (gl (lvM 28 kM)) H0 (colM 28 kM) = true := by kernel_rfl
end Go.Proofs.YtbkipanlicgooaaGreatDoor
namespace Go.Proofs.YtbkipanlicgooaaGreatDoor
theorem kc29 : okCalls (gl (lvM 29 kM)) H0 (colM 29 kM) = true := by kernel_rfl
end Go.Proofs.YtbkipanlicgooaaGreatDoor
namespace Go.Proofs.YtbkipanlicgooaaGreatDoor
theorem kc30 : okCalls (gl (lvM 30 kM)) H0 (colM 30 kM) = true := by kernel_rfl
end Go.Proofs.YtbkipanlicgooaaGreatDoor
namespace Go.Proofs.YtbkipanlicgooaaGreatDoor
theorem kc31 : okCalls (gl (lvM 31 kM)) H0 (colM 31 kM) = true := by kernel_rfl
end Go.Proofs.YtbkipanlicgooaaGreatDoor
