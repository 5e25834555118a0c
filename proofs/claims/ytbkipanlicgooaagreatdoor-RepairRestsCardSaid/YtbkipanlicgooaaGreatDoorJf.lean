/-
  The facts that the row of function 4 asks of the program, one by one. No conditions.
-/
import Derived.Test.YtbkipanlicgooaaGreatDoorClo
import Derived.Test.YtbkipanlicgooaaGreatDoorFac
import Derived.Test.YtbkipanlicgooaaGreatDoorLout
import Derived.Test.YtbkipanlicgooaaGreatDoorRows
import Derived.JoinedOf
namespace Go.Proofs.YtbkipanlicgooaaGreatDoor
open YtbkipanlicgooaaGreatDoor
theorem k_4_inPlace : (Rows.repairRestsRow.inPlace == Tryz.prog.inPlace 4) = true := by
  rw [inPlace_of clo4]
  kernel_rfl
theorem k_4_unf : Tryz.prog.unfollowed 4 = true := by
  rw [unfollowed_of clo4]
  kernel_rfl
theorem k_4_unfollowed : (Rows.repairRestsRow.unfollowed == Tryz.prog.unfollowed 4) = true := by
  rw [k_4_unf]
  kernel_rfl
theorem k_4_recurses : (Rows.repairRestsRow.recurses == Tryz.prog.recurses 4) = true := by
  rw [recurses_of k_4_unf]
  kernel_rfl
theorem k_4_named : (Rows.repairRestsRow.named == Tryz.prog.varsNamed 4) = true := by
  rw [varsNamed_of clo4]
  kernel_rfl
theorem k_4_wf : Rows.repairRestsRow.wf (OpenSpec.ofChange Rows.repairRestsSpec) = true := by kernel_rfl
theorem k_4_rec : Tryz.f4.params.all (Tryz.prog.readableRec ·) = true := by kernel_rfl
theorem k_4_tie : namedTie Tryz.prog Rows.repairRestsRow.named Rows.repairRestsSpec.vars = true := by kernel_rfl
theorem k_4_s1 : (Rows.repairRestsRow.stops == []) = true := by kernel_rfl
theorem k_4_s2 : (Tryz.prog.stops == []) = true := by kernel_rfl
theorem k_4_s3 : (Rows.repairRestsRow.knobs == []) = true := by kernel_rfl
theorem k_4_s4 : (Tryz.prog.stopKnobs == []) = true := by kernel_rfl
theorem k_4_maps : (Rows.repairRestsRow.maps == (Tryz.f4.params.toList ++ Rows.repairRestsSpec.plain.varTypes Tryz.prog).any (Tryz.prog.mapsRec ·)) = true := by kernel_rfl
theorem k_4_ifaces : (Rows.repairRestsRow.ifaces == (Tryz.f4.params.toList ++ Rows.repairRestsSpec.plain.varTypes Tryz.prog).any (Tryz.prog.ifacesRec ·)) = true := by kernel_rfl
theorem k_4_mapsOut : (Rows.repairRestsRow.mapsOut == Tryz.prog.mapsAmong Tryz.f4.resultTypes.toList) = true := by kernel_rfl
theorem k_4_loops : (Rows.repairRestsRow.loops == (Tryz.f4.params.toList ++ Rows.repairRestsSpec.plain.varTypes Tryz.prog).any (Tryz.prog.loopsFrom ·)) = true := by kernel_rfl
theorem k_4_wide : (Rows.repairRestsRow.wideKeys == (Tryz.f4.params.toList ++ Rows.repairRestsSpec.plain.varTypes Tryz.prog ++ Tryz.f4.resultTypes.toList).any (Tryz.prog.wideKeysFrom ·)) = true := by kernel_rfl
theorem k_4_vars : Rows.repairRestsSpec.vars.all (Tryz.prog.varReadable ·) = true := by kernel_rfl
theorem k_4_res : Tryz.f4.resultTypes.all (fun t => Tryz.prog.readableRec t && decide (t < Tryz.prog.types.size)) = true := by kernel_rfl
theorem k_4_ifo : (Rows.repairRestsRow.ifacesOut == Tryz.f4.resultTypes.toList.any (Tryz.prog.ifacesRec ·)) = true := by kernel_rfl
theorem k_4_loo : (Rows.repairRestsRow.loopsOut == Tryz.f4.resultTypes.toList.any (Tryz.prog.loopsFrom ·)) = true := by kernel_rfl
theorem k_4_pk : (Rows.repairRestsRow.plainKeys == Tryz.prog.plainKeys) = true := by kernel_rfl
theorem k_4_st : Rows.repairRestsRow.shortTexts.isNone = true := by kernel_rfl
theorem k_4_li : (Rows.repairRestsRow.lifted == Tryz.prog.liftsFinal) = true := by kernel_rfl
theorem k_4_mk : (Tryz.prog.make == some Rows.repairRestsRow.make) = true := by kernel_rfl
theorem k_4_ki : (Rows.repairRestsRow.kinds == (if Rows.repairRestsRow.domain.isEmpty then [] else Tryz.f4.params.toList.map fun t => match Tryz.prog.underlying t with | some (.int k) => some k | _ => none)) = true := by kernel_rfl
theorem k_4_pi : (Rows.repairRestsRow.pinned == Rows.repairRestsRow.pinnedBy) = true := by kernel_rfl
theorem k_4_ve : (Rows.repairRestsRow.veiled == (Tryz.f4.params.toList ++ Rows.repairRestsSpec.plain.varTypes Tryz.prog ++ Tryz.f4.resultTypes.toList).any (Tryz.prog.veiledRec ·)) = true := by kernel_rfl
theorem k_4_fi : Rows.repairRestsRow.veiledFits Tryz.prog Tryz.f4.params.toList (Tryz.f4.params.toList ++ Rows.repairRestsSpec.plain.varTypes Tryz.prog ++ Tryz.f4.resultTypes.toList) = true := by kernel_rfl
theorem k_4_fn : Tryz.prog.funcNamed Rows.repairRestsRow.func = some 4 := by kernel_rfl
end Go.Proofs.YtbkipanlicgooaaGreatDoor
