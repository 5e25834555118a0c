/-
  The facts that the row of function 5 asks of the program, one by one. No conditions.
-/
import Derived.Test.YtbkipanlicgooaaGreatDoorCloO
import Derived.Test.YtbkipanlicgooaaGreatDoorFac
import Derived.Test.YtbkipanlicgooaaGreatDoorLout
import Derived.Test.YtbkipanlicgooaaGreatDoorRows
import Derived.JoinedOf
namespace Go.Proofs.YtbkipanlicgooaaGreatDoor
open YtbkipanlicgooaaGreatDoor
theorem k_5_inPlace : (Rows.repairOverRow.inPlace == Tryz.prog.inPlace 5) = true := by
  rw [inPlace_of clo5]
  kernel_rfl
theorem k_5_unf : Tryz.prog.unfollowed 5 = true := by
  rw [unfollowed_of clo5]
  kernel_rfl
theorem k_5_unfollowed : (Rows.repairOverRow.unfollowed == Tryz.prog.unfollowed 5) = true := by
  rw [k_5_unf]
  kernel_rfl
theorem k_5_recurses : (Rows.repairOverRow.recurses == Tryz.prog.recurses 5) = true := by
  rw [recurses_of k_5_unf]
  kernel_rfl
theorem k_5_named : (Rows.repairOverRow.named == Tryz.prog.varsNamed 5) = true := by
  rw [varsNamed_of clo5]
  kernel_rfl
theorem k_5_wf : Rows.repairOverRow.wf (OpenSpec.ofChange Rows.repairOverSpec) = true := by kernel_rfl
theorem k_5_rec : Tryz.f5.params.all (Tryz.prog.readableRec ·) = true := by kernel_rfl
theorem k_5_tie : namedTie Tryz.prog Rows.repairOverRow.named Rows.repairOverSpec.vars = true := by kernel_rfl
theorem k_5_s1 : (Rows.repairOverRow.stops == []) = true := by kernel_rfl
theorem k_5_s2 : (Tryz.prog.stops == []) = true := by kernel_rfl
theorem k_5_s3 : (Rows.repairOverRow.knobs == []) = true := by kernel_rfl
theorem k_5_s4 : (Tryz.prog.stopKnobs == []) = true := by kernel_rfl
theorem k_5_maps : (Rows.repairOverRow.maps == (Tryz.f5.params.toList ++ Rows.repairOverSpec.plain.varTypes Tryz.prog).any (Tryz.prog.mapsRec ·)) = true := by kernel_rfl
theorem k_5_ifaces : (Rows.repairOverRow.ifaces == (Tryz.f5.params.toList ++ Rows.repairOverSpec.plain.varTypes Tryz.prog).any (Tryz.prog.ifacesRec ·)) = true := by kernel_rfl
theorem k_5_mapsOut : (Rows.repairOverRow.mapsOut == Tryz.prog.mapsAmong Tryz.f5.resultTypes.toList) = true := by kernel_rfl
theorem k_5_loops : (Rows.repairOverRow.loops == (Tryz.f5.params.toList ++ Rows.repairOverSpec.plain.varTypes Tryz.prog).any (Tryz.prog.loopsFrom ·)) = true := by kernel_rfl
theorem k_5_wide : (Rows.repairOverRow.wideKeys == (Tryz.f5.params.toList ++ Rows.repairOverSpec.plain.varTypes Tryz.prog ++ Tryz.f5.resultTypes.toList).any (Tryz.prog.wideKeysFrom ·)) = true := by kernel_rfl
theorem k_5_vars : Rows.repairOverSpec.vars.all (Tryz.prog.varReadable ·) = true := by kernel_rfl
theorem k_5_res : Tryz.f5.resultTypes.all (fun t => Tryz.prog.readableRec t && decide (t < Tryz.prog.types.size)) = true := by kernel_rfl
theorem k_5_ifo : (Rows.repairOverRow.ifacesOut == Tryz.f5.resultTypes.toList.any (Tryz.prog.ifacesRec ·)) = true := by kernel_rfl
theorem k_5_loo : (Rows.repairOverRow.loopsOut == Tryz.f5.resultTypes.toList.any (Tryz.prog.loopsFrom ·)) = true := by kernel_rfl
theorem k_5_pk : (Rows.repairOverRow.plainKeys == Tryz.prog.plainKeys) = true := by kernel_rfl
theorem k_5_st : Rows.repairOverRow.shortTexts.isNone = true := by kernel_rfl
theorem k_5_li : (Rows.repairOverRow.lifted == Tryz.prog.liftsFinal) = true := by kernel_rfl
theorem k_5_mk : (Tryz.prog.make == some Rows.repairOverRow.make) = true := by kernel_rfl
theorem k_5_ki : (Rows.repairOverRow.kinds == (if Rows.repairOverRow.domain.isEmpty then [] else Tryz.f5.params.toList.map fun t => match Tryz.prog.underlying t with | some (.int k) => some k | _ => none)) = true := by kernel_rfl
theorem k_5_pi : (Rows.repairOverRow.pinned == Rows.repairOverRow.pinnedBy) = true := by kernel_rfl
theorem k_5_ve : (Rows.repairOverRow.veiled == (Tryz.f5.params.toList ++ Rows.repairOverSpec.plain.varTypes Tryz.prog ++ Tryz.f5.resultTypes.toList).any (Tryz.prog.veiledRec ·)) = true := by kernel_rfl
theorem k_5_fi : Rows.repairOverRow.veiledFits Tryz.prog Tryz.f5.params.toList (Tryz.f5.params.toList ++ Rows.repairOverSpec.plain.varTypes Tryz.prog ++ Tryz.f5.resultTypes.toList) = true := by kernel_rfl
theorem k_5_fn : Tryz.prog.funcNamed Rows.repairOverRow.func = some 5 := by kernel_rfl
end Go.Proofs.YtbkipanlicgooaaGreatDoor
