/-
  A part of the run of the laws' head, looked at by the kernel. No conditions.
-/
import Derived.Test.YtbkipanlicgooaaGreatDoorM1
namespace Go.Proofs.YtbkipanlicgooaaGreatDoor
theorem kc24 : okCalls (gl (lvM 24 kM)) H0 (colM 24 kM) = true := by kernel_rfl
end Go.Proofs.YtbkipanlicgooaaGreatDoor
namespace Go.Proofs.YtbkipanlicgooaaGreatDoor
theorem kc25 : okCalls (gl (lvM 25 kM)) H0 (colM 25 kM) = true := by kernel_rfl
end Go.Proofs.YtbkipanlicgooaaGreatDoor
namespace Go.Proofs.YtbkipanlicgooaaGreatDoor
theorem kc26 : okCalls (gl (lvM 26 kM)) H0 (colM 26 kM) = true := by kernel_rfl
end Go.Proofs.YtbkipanlicgooaaGreatDoor
namespace Go.Proofs.YtbkipanlicgooaaGreatDoor
theorem kc27 : okCalls (gl (lvM 27 kM)) H0 (colM 27 kM) = true := by kernel_rfl
end Go.Proofs.YtbkipanlicgooaaGreatDoor
