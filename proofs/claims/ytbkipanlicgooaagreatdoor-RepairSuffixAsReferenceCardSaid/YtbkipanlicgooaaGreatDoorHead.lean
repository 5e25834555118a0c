/-
  A part of the run of the laws' head, looked at by the kernel. No conditions.
-/
import Derived.Test.YtbkipanlicgooaaGreatDoorFn
import Derived.Test.YtbkipanlicgooaaGreatDoorTy
import Derived.Test.YtbkipanlicgooaaGreatDoorKs
import Derived.Calls
import Derived.Below
import Derived.Test.YtbkipanlicgooaaGreatDoorT1
import Derived.Test.YtbkipanlicgooaaGreatDoorT2
namespace Go.Proofs.YtbkipanlicgooaaGreatDoor
open Q
theorem g0_ok : GOk Tryz.prog (gl .nil) (okG (gl .nil)) H0 := ⟨⟨tys_ok tT_ok, lies_one (k := Tryz.prog.depth - 1) (by kernel_rfl)⟩, fns_ok tF_ok tF_all, fun _ _ _ _ _ _ h => by simp [gl, Tr.get] at h, by kernel_rfl⟩
theorem gN_ok : GOk Tryz.prog (gl (lvM 36 kM)) (okG (gl (lvM 36 kM))) H0 := parts_ok g0_ok 36 kcs
end Go.Proofs.YtbkipanlicgooaaGreatDoor
namespace Go.Proofs.YtbkipanlicgooaaGreatDoor
open Q
open Go.RowKit
/-- The head returns true; what was there is as it was. -/
theorem head_calls {w : World} (hglb : Glb Tryz.prog (okG (gl (lvM 36 kM))) 11 H0 w) : Calls Tryz.prog 6 #[] w (fun e w' => e = .returned (.bool true) ∧ Below w.heap.size w w') := fun cs => by
  obtain ⟨y, w', fr, h1, h2, h3, h4, h5, h6⟩ := parts_end gN_ok (.start top1) top2 (xs := #[]) hglb (by simp [Reps.nil]) cs
  simp only [Rep] at h6
  subst h6
  exact ⟨_, w', fr, ⟨rfl, h4.os, h4.tape, h4.output, h4.size, h5⟩, h1, h2, h3⟩
end Go.Proofs.YtbkipanlicgooaaGreatDoor
