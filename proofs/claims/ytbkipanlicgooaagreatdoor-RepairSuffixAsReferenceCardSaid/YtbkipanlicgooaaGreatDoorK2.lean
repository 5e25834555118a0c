/-
  A part of the run of the laws' head, looked at by the kernel. No conditions.
-/
import Derived.Test.YtbkipanlicgooaaGreatDoorM1
namespace Go.Proofs.YtbkipanlicgooaaGreatDoor
theorem kc8 : okCalls (gl (lvM 8 kM)) H0 (colM 8 kM) = true := by kernel_rfl
end Go.Proofs.YtbkipanlicgooaaGreatDoor
namespace Go.Proofs.YtbkipanlicgooaaGreatDoor
theorem kc9 : okCalls (gl (lvM 9 kM)) H0 (colM 9 kM) = true := by kernel_rfl
end Go.Proofs.YtbkipanlicgooaaGreatDoor
namespace Go.Proofs.YtbkipanlicgooaaGreatDoor
theorem kc10 : okCalls (gl (lvM 10 kM)) H0 (colM 10 kM) = true := by kernel_rfl
end Go.Proofs.YtbkipanlicgooaaGreatDoor
namespace Go.Proofs.YtbkipanlicgooaaGreatDoor
theorem kc11 : okCalls (gl (lvM 11 kM)) H0 (colM 11 kM) = true := by kernel_rfl
end Go.Proofs.YtbkipanlicgooaaGreatDoor
