/-
  A part of the run of the laws' head, looked at by the kernel. No conditions.
-/
import Derived.Test.YtbkipanlicgooaaGreatDoorM1
namespace Go.Proofs.YtbkipanlicgooaaGreatDoor
theorem kc32 : okCalls (gl (lvM 32 kM)) H0 (colM 32 kM) = true := by kernel_rfl
end Go.Proofs.YtbkipanlicgooaaGreatDoor
namespace Go.Proofs.YtbkipanlicgooaaGreatDoor
theorem kc33 : okCalls (gl (lvM 33 kM)) H0 (colM 33 kM) = true := by kernel_rfl
end Go.Proofs.YtbkipanlicgooaaGreatDoor
namespace Go.Proofs.YtbkipanlicgooaaGreatDoor
theorem kc34 : okCalls (gl (lvM 34 kM)) H0 (colM 34 kM) = true := by kernel_rfl
end Go.Proofs.YtbkipanlicgooaaGreatDoor
namespace Go.Proofs.YtbkipanlicgooaaGreatDoor
theorem kc35 : okCalls (gl (lvM 35 kM)) H0 (colM 35 kM) = true := by kernel_rfl
end Go.Proofs.YtbkipanlicgooaaGreatDoor
