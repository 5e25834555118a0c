/-
  Classes of calibrations as keys of a map. No conditions but those in each statement.
-/
import Derived.Test.YtilfebopeeimnaaRelE
namespace Go.Proofs.Ytilfebopeeimnaa
open Go.RowKit Go.Maps

theorem keyed77 : Keyed Try.prog 77 := Keyed.of_law (deep_law_laid laidOut (m := Try.prog.types.size + 1) (of_decide_eq_true (by kernel_rfl)) (of_decide_eq_true (by kernel_rfl)) (by kernel_rfl) (by kernel_rfl))
theorem keyType77 : Try.prog.keyType 77 = true := by kernel_rfl
theorem cells77 : Try.prog.cellsOf 77 = 3 := by kernel_rfl
theorem class3 {a b c : Int} (ha : (Lit.int .i64 a).wf = true) (hb : (Lit.int .i64 b).wf = true) (hc : (Lit.int .i64 c).wf = true) :
    ∃ kl, keyOf Try.prog 77 (.agg #[.int .i64 a, .int .i64 b, .int .i64 c]) = some kl := by
  obtain ⟨s, hs⟩ : ∃ s, Try.prog.types.size = s + 1 := ⟨Try.prog.types.size - 1, by
    have : 0 < Try.prog.types.size := of_decide_eq_true (by kernel_rfl)
    omega⟩
  unfold keyOf
  rw [Try.underlying77, hs]
  have hf : Value.formed Try.prog 77 (.agg #[.int .i64 a, .int .i64 b, .int .i64 c]) = true := by
    simp [Value.formed, Try.underlying77, cells77]
  have e : (Value.agg #[.int .i64 a, .int .i64 b, .int .i64 c]).cells.toList = [.int .i64 a, .int .i64 b, .int .i64 c] := rfl
  have one : ∀ (d : Nat) (x : Int), (Lit.int .i64 x).wf = true → Try.prog.keyLits (d + 1) 3 [.int .i64 x] = some [.int .i64 x] := by
    intro d x hx
    unfold Program.keyLits
    rw [Try.underlying3]
    simp [hx]
  have three : Try.prog.keyLits (s + 1 + 1) 77 [.int .i64 a, .int .i64 b, .int .i64 c] = some [.int .i64 a, .int .i64 b, .int .i64 c] := by
    unfold Program.keyLits
    rw [Try.underlying77]
    simp [cells77, cells3, one, ha, hb, hc]
  simp only [keyType77, hf, Bool.true_and, if_true, e, three]
  exact ⟨_, rfl⟩
theorem wf_cls {k t f : Int} (h : clsB k t f = true) : (Lit.int .i64 k).wf = true ∧ (Lit.int .i64 t).wf = true ∧ (Lit.int .i64 f).wf = true := by
  have hk : k = 1 ∨ k = 2 ∨ k = 3 := by
    simp only [clsB, Bool.and_eq_true] at h
    by_cases e1 : k = 1
    · exact .inl e1
    · by_cases e2 : k = 2 ∨ k = 3
      · exact .inr e2
      · simp [e1, e2] at h
  have ht : 0 ≤ t ∧ t ≤ 5 := by
    simp only [clsB, inR, Bool.and_eq_true, decide_eq_true_eq] at h
    exact h.1
  have hf : -1 ≤ f ∧ f ≤ 7 := by
    rcases hk with rfl | rfl | rfl <;> simp [clsB, inR] at h <;> omega
  have wf : ∀ a : Int, -10 ≤ a → a ≤ 10 → (Lit.int .i64 a).wf = true := fun a h0 h1 => by
    simp only [Lit.wf, Bool.and_eq_true, decide_eq_true_eq]
    constructor
    · show (-9223372036854775808 : Int) ≤ a
      omega
    · show a ≤ 9223372036854775807
      omega
  exact ⟨wf k (by omega) (by omega), wf t (by omega) (by omega), wf f (by omega) (by omega)⟩
end Go.Proofs.Ytilfebopeeimnaa
