/-
  Facts of the program that every row asks for. No conditions.
-/
import Derived.Test.YtbkipanlicgooaaGreatDoorProg
import Derived.KernelRfl
import Derived.JoinedOf
import Derived.Test.YtbkipanlicgooaaGreatDoorCards
import Derived.SevenTiedAt
import GoSem.ClaimGoes
namespace Go.Proofs.YtbkipanlicgooaaGreatDoor
theorem and_t {a b : Bool} (h1 : a = true) (h2 : b = true) : (a && b) = true := by rw [h1, h2]; rfl
theorem f_mapsRowed : mapsRowed Tryz.prog = true := by kernel_rfl
theorem f_heard : Tryz.prog.stopsHeard = true := by kernel_rfl
theorem f_mayEnter : Tryz.prog.mayEnter = true := by kernel_rfl
end Go.Proofs.YtbkipanlicgooaaGreatDoor
namespace Go.Proofs.YtbkipanlicgooaaGreatDoor
open YtbkipanlicgooaaGreatDoor
theorem f_main : Tryz.pinned.checked.prog.mainIs = some (true, ("1af072d20b9693068d8095a7d09e503804c1f652f8c42e2285a9f11bf2f6cd12" : String).toList) := by kernel_rfl
theorem f_looks : true = Tryz.pinned.checked.prog.looks [] := by kernel_rfl
theorem f_ws28 : Tryz.pinned.checked.prog.wantsStandIn 28 = false := by kernel_rfl
theorem f_ws33 : Tryz.pinned.checked.prog.wantsStandIn 33 = false := by kernel_rfl
theorem f_ws3 : Tryz.pinned.checked.prog.wantsStandIn 3 = false := by kernel_rfl
theorem f_wf3 : Rows.repairSuffixAsReferenceRow.wfByText (OpenSpec.ofChange Rows.repairSuffixAsReferenceSpec) = true := by kernel_rfl
theorem goes_none {P : Program} (h : P.funcs.any Func.goes = false) (f : FuncId) : P.goes f = false := by
  unfold Program.goes
  rw [h, Bool.and_false, Bool.or_false, List.any_eq_false]
  intro g _
  cases hg : P.funcs[g]? with
  | none => simp
  | some fn =>
    have hm : fn ∈ P.funcs := Array.mem_of_getElem? hg
    have := Array.any_eq_false'.1 h fn hm
    simpa using this
theorem goesBy_none {P : Program} {c : OpenClaim} (h : P.funcs.any Func.goes = false) (hs : c.start = .entering) : false = c.goesBy P := by
  unfold OpenClaim.goesBy Program.goesAt Program.goesFrom
  rw [hs]
  cases P.funcNamed c.func with
  | none => rfl
  | some f => simp [goes_none h f]
theorem f_goes : Tryz.pinned.checked.prog.funcs.any Func.goes = false := by kernel_rfl
theorem f_inst3 : Tryz.f3.isInstance Tryz.pinned.checked.prog Rows.repairSuffixAsReferenceRow.origin Rows.repairSuffixAsReferenceRow.targs := of_decide_eq_true (by kernel_rfl)
theorem f_wrap3 : Tryz.f3.isWrapper Tryz.pinned.checked.prog Rows.repairSuffixAsReferenceRow.wrapper Rows.repairSuffixAsReferenceRow.mainSum := by unfold Func.isWrapper; rw [if_neg (of_decide_eq_false (by kernel_rfl))]; exact ⟨rfl, rfl⟩
end Go.Proofs.YtbkipanlicgooaaGreatDoor
