/-
  The facts that the row of function 3 asks of the program, one by one. No conditions.
-/
import Derived.Test.YtbkipanlicgooaaGreatDoorCloR
import Derived.Test.YtbkipanlicgooaaGreatDoorFac
import Derived.Test.YtbkipanlicgooaaGreatDoorLout
import Derived.Test.YtbkipanlicgooaaGreatDoorRows
import Derived.JoinedOf
namespace Go.Proofs.YtbkipanlicgooaaGreatDoor
open YtbkipanlicgooaaGreatDoor
theorem k_3_inPlace : (Rows.repairSuffixAsReferenceRow.inPlace == Tryz.prog.inPlace 3) = true := by
  rw [inPlace_of clo3]
  kernel_rfl
theorem k_3_unf : Tryz.prog.unfollowed 3 = true := by
  rw [unfollowed_of clo3]
  kernel_rfl
theorem k_3_unfollowed : (Rows.repairSuffixAsReferenceRow.unfollowed == Tryz.prog.unfollowed 3) = true := by
  rw [k_3_unf]
  kernel_rfl
theorem k_3_recurses : (Rows.repairSuffixAsReferenceRow.recurses == Tryz.prog.recurses 3) = true := by
  rw [recurses_of k_3_unf]
  kernel_rfl
theorem k_3_named : (Rows.repairSuffixAsReferenceRow.named == Tryz.prog.varsNamed 3) = true := by
  rw [varsNamed_of clo3]
  kernel_rfl
theorem k_3_wf : Rows.repairSuffixAsReferenceRow.wf (OpenSpec.ofChange Rows.repairSuffixAsReferenceSpec) = true := by kernel_rfl
theorem k_3_rec : Tryz.f3.params.all (Tryz.prog.readableRec ·) = true := by kernel_rfl
theorem k_3_tie : namedTie Tryz.prog Rows.repairSuffixAsReferenceRow.named Rows.repairSuffixAsReferenceSpec.vars = true := by kernel_rfl
theorem k_3_s1 : (Rows.repairSuffixAsReferenceRow.stops == []) = true := by kernel_rfl
theorem k_3_s2 : (Tryz.prog.stops == []) = true := by kernel_rfl
theorem k_3_s3 : (Rows.repairSuffixAsReferenceRow.knobs == []) = true := by kernel_rfl
theorem k_3_s4 : (Tryz.prog.stopKnobs == []) = true := by kernel_rfl
theorem k_3_maps : (Rows.repairSuffixAsReferenceRow.maps == (Tryz.f3.params.toList ++ Rows.repairSuffixAsReferenceSpec.plain.varTypes Tryz.prog).any (Tryz.prog.mapsRec ·)) = true := by kernel_rfl
theorem k_3_ifaces : (Rows.repairSuffixAsReferenceRow.ifaces == (Tryz.f3.params.toList ++ Rows.repairSuffixAsReferenceSpec.plain.varTypes Tryz.prog).any (Tryz.prog.ifacesRec ·)) = true := by kernel_rfl
theorem k_3_mapsOut : (Rows.repairSuffixAsReferenceRow.mapsOut == Tryz.prog.mapsAmong Tryz.f3.resultTypes.toList) = true := by kernel_rfl
theorem k_3_loops : (Rows.repairSuffixAsReferenceRow.loops == (Tryz.f3.params.toList ++ Rows.repairSuffixAsReferenceSpec.plain.varTypes Tryz.prog).any (Tryz.prog.loopsFrom ·)) = true := by kernel_rfl
theorem k_3_wide : (Rows.repairSuffixAsReferenceRow.wideKeys == (Tryz.f3.params.toList ++ Rows.repairSuffixAsReferenceSpec.plain.varTypes Tryz.prog ++ Tryz.f3.resultTypes.toList).any (Tryz.prog.wideKeysFrom ·)) = true := by kernel_rfl
theorem k_3_vars : Rows.repairSuffixAsReferenceSpec.vars.all (Tryz.prog.varReadable ·) = true := by kernel_rfl
theorem k_3_res : Tryz.f3.resultTypes.all (fun t => Tryz.prog.readableRec t && decide (t < Tryz.prog.types.size)) = true := by kernel_rfl
theorem k_3_ifo : (Rows.repairSuffixAsReferenceRow.ifacesOut == Tryz.f3.resultTypes.toList.any (Tryz.prog.ifacesRec ·)) = true := by kernel_rfl
theorem k_3_loo : (Rows.repairSuffixAsReferenceRow.loopsOut == Tryz.f3.resultTypes.toList.any (Tryz.prog.loopsFrom ·)) = true := by kernel_rfl
theorem k_3_pk : (Rows.repairSuffixAsReferenceRow.plainKeys == Tryz.prog.plainKeys) = true := by kernel_rfl
theorem k_3_st : Rows.repairSuffixAsReferenceRow.shortTexts.isNone = true := by kernel_rfl
theorem k_3_li : (Rows.repairSuffixAsReferenceRow.lifted == Tryz.prog.liftsFinal) = true := by kernel_rfl
theorem k_3_mk : (Tryz.prog.make == some Rows.repairSuffixAsReferenceRow.make) = true := by kernel_rfl
theorem k_3_ki : (Rows.repairSuffixAsReferenceRow.kinds == (if Rows.repairSuffixAsReferenceRow.domain.isEmpty then [] else Tryz.f3.params.toList.map fun t => match Tryz.prog.underlying t with | some (.int k) => some k | _ => none)) = true := by kernel_rfl
theorem k_3_pi : (Rows.repairSuffixAsReferenceRow.pinned == Rows.repairSuffixAsReferenceRow.pinnedBy) = true := by kernel_rfl
theorem k_3_ve : (Rows.repairSuffixAsReferenceRow.veiled == (Tryz.f3.params.toList ++ Rows.repairSuffixAsReferenceSpec.plain.varTypes Tryz.prog ++ Tryz.f3.resultTypes.toList).any (Tryz.prog.veiledRec ·)) = true := by kernel_rfl
theorem k_3_fi : Rows.repairSuffixAsReferenceRow.veiledFits Tryz.prog Tryz.f3.params.toList (Tryz.f3.params.toList ++ Rows.repairSuffixAsReferenceSpec.plain.varTypes Tryz.prog ++ Tryz.f3.resultTypes.toList) = true := by kernel_rfl
theorem k_3_fn : Tryz.prog.funcNamed Rows.repairSuffixAsReferenceRow.func = some 3 := by kernel_rfl
end Go.Proofs.YtbkipanlicgooaaGreatDoor
