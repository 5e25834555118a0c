/-
  A part of the run of the laws' head, looked at by the kernel. No conditions.
-/
import Derived.Test.YtbkipanlicgooaaGreatDoorE3
import Derived.Test.YtbkipanlicgooaaGreatDoorTab
namespace Go.Proofs.YtbkipanlicgooaaGreatDoor
open Q
theorem tT_ok : tT.ck (tyEq Tryz.prog) 1 0 = true := by kernel_rfl
end Go.Proofs.YtbkipanlicgooaaGreatDoor
