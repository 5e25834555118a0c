/-
  The program's types are laid out as they must be: looked at in three parts. No conditions but those in each statement.
-/
import Derived.Test.YtbkipanlicgooaaGreatDoorProg
import Derived.KernelRfl
import GoSem.ClaimDataLaid
namespace Go.Proofs.YtbkipanlicgooaaGreatDoor
theorem lo_a : (List.range' 0 450).all (rowFine Tryz.prog) = true := by kernel_rfl
theorem lo_b : (List.range' 450 200).all (rowFine Tryz.prog) = true := by kernel_rfl
theorem lo_c : (List.range' 650 147).all (rowFine Tryz.prog) = true := by kernel_rfl
theorem lo_n : (List.range Tryz.prog.types.size).length ≤ 797 := by
  rw [List.length_range]
  exact of_decide_eq_true (p := Tryz.prog.types.size ≤ 797) (by kernel_rfl)
theorem lo_g : Tryz.prog.globals.all (fun g => decide (g.type < Tryz.prog.types.size)) = true := by kernel_rfl
theorem lo_f : Tryz.prog.funcs.all (fun f => f.params.all fun t => decide (t < Tryz.prog.types.size)) = true := by kernel_rfl
theorem laidOut : laidOutB Tryz.prog = true := by
  unfold laidOutB
  rw [lo_g, lo_f, Bool.and_true, Bool.and_true, List.all_eq_true]
  intro t ht
  have hn := lo_n
  rw [List.length_range] at hn
  have ht := List.mem_range.1 ht
  rcases Nat.lt_or_ge t 450 with h | h
  · exact List.all_eq_true.1 lo_a t (List.mem_range'_1.2 ⟨by omega, by omega⟩)
  · rcases Nat.lt_or_ge t 650 with h' | h'
    · exact List.all_eq_true.1 lo_b t (List.mem_range'_1.2 ⟨by omega, by omega⟩)
    · exact List.all_eq_true.1 lo_c t (List.mem_range'_1.2 ⟨by omega, by omega⟩)
end Go.Proofs.YtbkipanlicgooaaGreatDoor
