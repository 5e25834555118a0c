/-
  A part of the run of the laws' head, looked at by the kernel. No conditions.
-/
import Derived.Test.YtbkipanlicgooaaGreatDoorM1
namespace Go.Proofs.YtbkipanlicgooaaGreatDoor
theorem kc12 : okCalls (gl (lvM 12 kM)) H0 (colM 12 kM) = true := by kernel_rfl
end Go.Proofs.YtbkipanlicgooaaGreatDoor
namespace Go.Proofs.YtbkipanlicgooaaGreatDoor
theorem kc13 : okCalls (gl (lvM 13 kM)) H0 (colM 13 kM) = true := by kernel_rfl
end Go.Proofs.YtbkipanlicgooaaGreatDoor
namespace Go.Proofs.YtbkipanlicgooaaGreatDoor
theorem kc14 : okCalls (gl (lvM 14 kM)) H0 (colM 14 kM) = true := by kernel_rfl
end Go.Proofs.YtbkipanlicgooaaGreatDoor
namespace Go.Proofs.YtbkipanlicgooaaGreatDoor
theorem kc15 : okCalls (gl (lvM 15 kM)) H0 (colM 15 kM) = true := by kernel_rfl
end Go.Proofs.YtbkipanlicgooaaGreatDoor
