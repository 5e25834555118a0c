/-
  Places as keys of a map that the call makes. No conditions but those in each statement.
-/
import Derived.Test.YtilfebopeeimnaaRelD
import Derived.Maps.Own
import Derived.Maps.OwnOps
import Derived.DeepKeys4
import Derived.MapViews
import Derived.Maps.Views
namespace Go.Proofs.Ytilfebopeeimnaa
open Go.RowKit Go.Maps

theorem laidOut : laidOutB Try.prog = true := by kernel_rfl
theorem keyed63 : Keyed Try.prog 63 := Keyed.of_law (deep_law_laid laidOut (m := Try.prog.types.size + 1) (of_decide_eq_true (by kernel_rfl)) (of_decide_eq_true (by kernel_rfl)) (by kernel_rfl) (by kernel_rfl))
theorem keyType63 : Try.prog.keyType 63 = true := by kernel_rfl
theorem cells63 : Try.prog.cellsOf 63 = 3 := by kernel_rfl
theorem cells3 : Try.prog.cellsOf 3 = 1 := by kernel_rfl
theorem key3 {a b c : Int} (ha : (Lit.int .i64 a).wf = true) (hb : (Lit.int .i64 b).wf = true) (hc : (Lit.int .i64 c).wf = true) :
    ∃ kl, keyOf Try.prog 63 (.agg #[.int .i64 a, .int .i64 b, .int .i64 c]) = some kl := by
  obtain ⟨s, hs⟩ : ∃ s, Try.prog.types.size = s + 1 := ⟨Try.prog.types.size - 1, by
    have : 0 < Try.prog.types.size := of_decide_eq_true (by kernel_rfl)
    omega⟩
  unfold keyOf
  rw [Try.underlying63, hs]
  have hf : Value.formed Try.prog 63 (.agg #[.int .i64 a, .int .i64 b, .int .i64 c]) = true := by
    simp [Value.formed, Try.underlying63, cells63]
  have e : (Value.agg #[.int .i64 a, .int .i64 b, .int .i64 c]).cells.toList = [.int .i64 a, .int .i64 b, .int .i64 c] := rfl
  have one : ∀ (d : Nat) (x : Int), (Lit.int .i64 x).wf = true → Try.prog.keyLits (d + 1) 3 [.int .i64 x] = some [.int .i64 x] := by
    intro d x hx
    unfold Program.keyLits
    rw [Try.underlying3]
    simp [hx]
  have three : Try.prog.keyLits (s + 1 + 1) 63 [.int .i64 a, .int .i64 b, .int .i64 c] = some [.int .i64 a, .int .i64 b, .int .i64 c] := by
    unfold Program.keyLits
    rw [Try.underlying63]
    simp [cells63, cells3, List.range, List.range.loop, one, ha, hb, hc]
  simp only [keyType63, hf, Bool.true_and, if_true, e, three]
  exact ⟨_, rfl⟩

theorem wf_small {a : Int} (h0 : 0 ≤ a) (h1 : a < 1000) : (Lit.int .i64 a).wf = true := by
  simp only [Lit.wf, Bool.and_eq_true, decide_eq_true_eq]
  constructor
  · show (-9223372036854775808 : Int) ≤ a
    omega
  · show a ≤ 9223372036854775807
    omega
/-- What places read as, as keys. -/
theorem keys_of : ∃ K : Tal → Lit, (∀ x, exB x = true → keyOf Try.prog 63 (plV x) = some (K x)) ∧ (∀ x y, exB x = true → exB y = true → K x = K y → x.pl = y.pl) ∧ (∀ x y : Tal, x.pl = y.pl → K x = K y) := by
  have h1 : ∀ x, exB x = true → keyOf Try.prog 63 (plV x) = some ((keyOf Try.prog 63 (plV x)).getD (.bool false)) := fun x h => by
    obtain ⟨a1, a2, a3, a4, a5, a6⟩ := exB_bounds h
    obtain ⟨kl, hk⟩ := key3 (wf_small a1 (by omega)) (wf_small a3 (by omega)) (wf_small a5 (by omega))
    have hk' : keyOf Try.prog 63 (plV x) = some kl := hk
    rw [hk']
    rfl
  refine ⟨fun x => (keyOf Try.prog 63 (plV x)).getD (.bool false), h1, fun x y hx hy h => ?_, fun x y h => ?_⟩
  · have k1 := h1 x hx
    have k2 := h1 y hy
    dsimp only at h
    rw [h] at k1
    have e := keyed63.inj k1 k2
    simp only [plV, Value.agg.injEq] at e
    simp at e
    simp only [Tal.pl, Prod.mk.injEq]
    exact e
  · simp only [Tal.pl, Prod.mk.injEq] at h
    simp only [plV, h]

/-- The map's block reads as D: places to bools. -/
def Places (w : World) (b n : Nat) (D : DataW Unit) : Prop := w.ownsMap Try.prog 63 (plainElem Try.prog 4) b n D
theorem Places.later {w w' : World} {b n : Nat} {D : DataW Unit} (h : Places w b n D) (hb : Below w.heap.size w w') : Places w' b n D := by
  have hlt := World.ownsMap.lt h
  obtain ⟨es, clock, h1, F, hs, hD⟩ := h
  exact ⟨es, clock, (hb.block b hlt).trans h1, F, hs, hD⟩
theorem plainElem_bool_inv {v : Value} {z : DataW Unit × List MemPlace} (h : plainElem Try.prog 4 v = some z) : ∃ x, v = .bool x ∧ z = (.lit (.bool x), []) := by
  unfold plainElem at h
  rw [Try.underlying4] at h
  cases v <;> simp at h
  exact ⟨_, rfl, h.symm⟩
theorem zero4 (w : World) : (zeroValue 4).run Try.prog w = .ok (.bool false) w := by kernel_rfl
/-- The look-up of a place. -/
theorem Places.look {w : World} {b n : Nat} {D : DataW Unit} (h : Places w b n D) {key : Value} {kl : Lit} (hkey : keyOf Try.prog 63 key = some kl) :
    ∃ x, (Instr.lookup 62 (.map (some b)) key false).run Try.prog w = .ok (.bool x) w ∧ D.atKey kl (.lit (.bool false)) = .lit (.bool x) := by
  obtain ⟨v, ps, hrun, hv⟩ := World.ownsMap.lookup h keyed63 Try.underlying62 (zero4 w) (plainElem_bool Try.underlying4 false) hkey
  obtain ⟨x, rfl, hz⟩ := plainElem_bool_inv hv
  simp only [Prod.mk.injEq] at hz
  exact ⟨x, hrun, hz.1⟩

/-- The map behind the first k places. -/
def DofK (K : Tal → Lit) (l : Nat → Tal) : Nat → DataW Unit
  | 0 => .map []
  | k + 1 => (DofK K l k).put (K (l k)) (.lit (.bool true))
theorem isMap_of (K : Tal → Lit) (l : Nat → Tal) : ∀ k, IsMap (DofK K l k)
  | 0 => isMap_empty
  | k + 1 => (isMap_of K l k).put _ _
theorem hasP_succ {l : Nat → Tal} {k : Nat} {x : Tal} : hasP l (k + 1) x = (hasP l k x || decide ((l k).pl = x.pl)) := by
  simp [hasP, List.range_succ]
/-- What the map says of a place. -/
theorem atKey_of {K : Tal → Lit} {l : Nat → Tal} (h1 : ∀ x, exB x = true → keyOf Try.prog 63 (plV x) = some (K x)) (h2 : ∀ x y, exB x = true → exB y = true → K x = K y → x.pl = y.pl) (h3 : ∀ x y : Tal, x.pl = y.pl → K x = K y)
    {x : Tal} (hx : exB x = true) : ∀ {k : Nat}, (∀ i, i < k → exB (l i) = true) → (DofK K l k).atKey (K x) (.lit (.bool false)) = .lit (.bool (hasP l k x))
  | 0, _ => rfl
  | k + 1, h => by
    have ih := atKey_of h1 h2 h3 hx (k := k) fun i hi => h i (by omega)
    rw [hasP_succ]
    unfold DofK
    by_cases e : (l k).pl = x.pl
    · rw [h3 _ _ e, atKey_put_same (isMap_of K l k) (keyed63.key (h1 x hx))]
      simp [e]
    · have hne : K x ≠ K (l k) := fun hk => e (h2 _ _ (h k (by omega)) hx hk.symm)
      rw [atKey_put_other hne, ih]
      simp [e]
end Go.Proofs.Ytilfebopeeimnaa
