/-
  A part of the run of the laws' head, looked at by the kernel. No conditions.
-/
import Derived.Test.YtbkipanlicgooaaGreatDoorM1
namespace Go.Proofs.YtbkipanlicgooaaGreatDoor
theorem kc16 : okCalls (gl (lvM 16 kM)) H0 (colM 16 kM) = true := by kernel_rfl
end Go.Proofs.YtbkipanlicgooaaGreatDoor
namespace Go.Proofs.YtbkipanlicgooaaGreatDoor
theorem kc17 : okCalls (gl (lvM 17 kM)) H0 (colM 17 kM) = true := by kernel_rfl
end Go.Proofs.YtbkipanlicgooaaGreatDoor
namespace Go.Proofs.YtbkipanlicgooaaGreatDoor
theorem kc18 : okCalls (gl (lvM 18 kM)) H0 (colM 18 kM) = true := by kernel_rfl
end Go.Proofs.YtbkipanlicgooaaGreatDoor
namespace Go.Proofs.YtbkipanlicgooaaGreatDoor
theorem kc19 : okCalls (gl (lvM 19 kM)) H0 (colM 19 kM) = true := by kernel_rfl
end Go.Proofs.YtbkipanlicgooaaGreatDoor
