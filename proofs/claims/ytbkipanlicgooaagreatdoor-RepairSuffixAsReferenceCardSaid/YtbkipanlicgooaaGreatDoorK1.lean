/-
  A part of the run of the laws' head, looked at by the kernel. No conditions.
-/
import Derived.Test.YtbkipanlicgooaaGreatDoorM1
namespace Go.Proofs.YtbkipanlicgooaaGreatDoor
theorem kc4 : okCalls (gl (lvM 4 kM)) H0 (colM 4 kM) = true := by kernel_rfl
end Go.Proofs.YtbkipanlicgooaaGreatDoor
namespace Go.Proofs.YtbkipanlicgooaaGreatDoor
theorem kc5 : okCalls (gl (lvM 5 kM)) H0 (colM 5 kM) = true := by kernel_rfl
end Go.Proofs.YtbkipanlicgooaaGreatDoor
namespace Go.Proofs.YtbkipanlicgooaaGreatDoor
theorem kc6 : okCalls (gl (lvM 6 kM)) H0 (colM 6 kM) = true := by kernel_rfl
end Go.Proofs.YtbkipanlicgooaaGreatDoor
namespace Go.Proofs.YtbkipanlicgooaaGreatDoor
theorem kc7 : okCalls (gl (lvM 7 kM)) H0 (colM 7 kM) = true := by kernel_rfl
end Go.Proofs.YtbkipanlicgooaaGreatDoor
