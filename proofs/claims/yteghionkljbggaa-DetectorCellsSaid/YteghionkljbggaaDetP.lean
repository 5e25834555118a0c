/-
  Plain facts on detectors: what the functions' answers come to, cell by cell. No program in sight but for the answers' values.
-/
import Derived.Test.YteghionkljbggaaDetH
namespace Go.Proofs.Yteghionkljbggaa
open Go.RowKit

theorem ok_parts {g b k f e l0 l1 l2 l3 h0 h1 h2 h3 off : Int} (h : expoOk g b k f e l0 l1 l2 l3 h0 h1 h2 h3 off = true) :
    validB g b k f e = true ∧ allB 1000000 l0 l1 l2 l3 = true ∧ allB 1000000 h0 h1 h2 h3 = true ∧ inB (-50) off 50 = true := by
  simp only [expoOk, Bool.and_eq_true] at h
  exact ⟨h.1.1.1, h.1.1.2, h.1.2, h.2⟩

theorem expo_no {g b k f e l0 l1 l2 l3 h0 h1 h2 h3 off : Int} {m0 m1 m2 m3 : Bool} (h : expoOk g b k f e l0 l1 l2 l3 h0 h1 h2 h3 off = false) :
    expoR g b k f e l0 l1 l2 l3 h0 h1 h2 h3 off m0 m1 m2 m3 = .tuple #[.agg #[.int .i64 0, .int .i64 0, .int .i64 0, .int .i64 0], .int .i64 1] := by
  simp [expoR, h]
theorem expo_yes {g b k f e l0 l1 l2 l3 h0 h1 h2 h3 off a0 a1 a2 a3 : Int} {m0 m1 m2 m3 : Bool} (h : expoOk g b k f e l0 l1 l2 l3 h0 h1 h2 h3 off = true)
    (e0 : expoC g b k f off l0 h0 m0 = a0) (e1 : expoC g b k f off l1 h1 m1 = a1) (e2 : expoC g b k f off l2 h2 m2 = a2) (e3 : expoC g b k f off l3 h3 m3 = a3) :
    expoR g b k f e l0 l1 l2 l3 h0 h1 h2 h3 off m0 m1 m2 m3 = .tuple #[.agg #[.int .i64 a0, .int .i64 a1, .int .i64 a2, .int .i64 a3], .int .i64 0] := by
  subst e0 e1 e2 e3
  simp [expoR, h]
theorem ghost_yes {g b k f e p q r s : Int} (h : rawB g b k f e p q r s = true) :
    ghostR g b k f e p q r s = .tuple #[.agg #[.int .i64 (ghostC f e p), .int .i64 (ghostC f e q), .int .i64 (ghostC f e r), .int .i64 (ghostC f e s)], .int .i64 0] := by
  simp [ghostR, h]
theorem reduce_yes {g b k f e p q r s : Int} {m0 m1 m2 m3 : Bool} (h : rawB g b k f e p q r s = true) :
    reduceR g b k f e p q r s m0 m1 m2 m3 = .tuple #[.agg #[.int .i64 (redC g b k p (okC f p m0)), .int .i64 (redC g b k q (okC f q m1)), .int .i64 (redC g b k r (okC f r m2)), .int .i64 (redC g b k s (okC f s m3))], .agg #[.bool (okC f p m0), .bool (okC f q m1), .bool (okC f r m2), .bool (okC f s m3)], .int .i64 0] := by
  simp [reduceR, h]

/-- What is known of one cell behind Expose, Ghost and Reduce. -/
structure ResFacts (f r x y : Int) (m v : Bool) : Prop where
  r0 : 0 ≤ r
  rf : r ≤ f
  hm : m = true → r = 0 ∧ v = false
  x0 : 0 ≤ x
  x1 : x ≤ 1000000
  y0 : 0 ≤ y
  y1 : y ≤ 1000 * f
  hv : v = false → y = 0

theorem red_le {g b k f r : Int} {v : Bool} (hg : 1 ≤ g) (hb : 0 ≤ b) (hk : 0 ≤ k) (hr : r ≤ f) (hf : 0 ≤ f) : 0 ≤ redC g b k r v ∧ redC g b k r v ≤ 1000 * f := by
  unfold redC
  split
  · have h0 : 0 ≤ max 0 (r - b - k) * 1000 := by omega
    refine ⟨Int.ediv_nonneg h0 (by omega), ?_⟩
    have h1 : max 0 (r - b - k) * 1000 / g ≤ max 0 (r - b - k) * 1000 := Int.ediv_le_self _ h0
    omega
  · omega

theorem ghost_le {f e r : Int} (hf0 : 0 ≤ f) (hf : f ≤ 65535) (he0 : 0 ≤ e) (he : e ≤ 1000) : 0 ≤ ghostC f e r ∧ ghostC f e r ≤ 1000000 := by
  have hm1 : 0 ≤ f * e := Int.mul_nonneg hf0 he0
  have hm2 : f * e ≤ 65535 * 1000 := Int.mul_le_mul hf he (by omega) (by omega)
  unfold ghostC
  split <;> omega

theorem res_cell {g b k f e : Int} (l h : Int) (m : Bool) (off : Int) (hv : validB g b k f e = true) :
    ∃ a, expoC g b k f off l h m = a ∧ ResFacts f a (ghostC f e a) (redC g b k a (okC f a m)) m (okC f a m) := by
  obtain ⟨⟨g1, g2⟩, ⟨b1, b2⟩, ⟨k1, k2⟩, ⟨f1, f2⟩, ⟨e1, e2⟩⟩ := valid_bounds hv
  refine ⟨_, rfl, ?_⟩
  have h0 : 0 ≤ expoC g b k f off l h m := by simp only [expoC, clip]; omega
  have h1 : expoC g b k f off l h m ≤ f := by simp only [expoC, clip]; omega
  have h2 : m = true → expoC g b k f off l h m = 0 := fun e => by subst e; simp only [expoC, clip, expo]; simp; omega
  generalize expoC g b k f off l h m = a at *
  have hx := ghost_le (r := a) (by omega) f2 e1 e2
  have hy := red_le (v := okC f a m) g1 b1 k1 h1 (by omega)
  exact ⟨h0, h1, fun e => ⟨h2 e, by simp [okC, e]⟩, hx.1, hx.2, hy.1, hy.2, fun e => by simp [redC, e]⟩

theorem four_facts {f a0 a1 a2 a3 x0 x1 x2 x3 y0 y1 y2 y3 : Int} {m0 m1 m2 m3 v0 v1 v2 v3 : Bool} (F0 : ResFacts f a0 x0 y0 m0 v0) (F1 : ResFacts f a1 x1 y1 m1 v1) (F2 : ResFacts f a2 x2 y2 m2 v2) (F3 : ResFacts f a3 x3 y3 m3 v3) (i : Nat) (hi : i < 4) :
    ResFacts f (fourG a0 a1 a2 a3 i) (fourG x0 x1 x2 x3 i) (fourG y0 y1 y2 y3 i) (fourBG m0 m1 m2 m3 i) (fourBG v0 v1 v2 v3 i) := by
  have h4 : i = 0 ∨ i = 1 ∨ i = 2 ∨ i = 3 := by omega
  rcases h4 with rfl | rfl | rfl | rfl
  · exact F0
  · exact F1
  · exact F2
  · exact F3

/-- A loop of four rounds that leaves what was there as it was. -/
def LoopAt (X : World) (v : Value) (wr : World) : Prop := ∃ n : Nat, n ≤ 4 ∧ v = .int .i64 n ∧ Below X.heap.size X wr

/-- A cell out of the rules on a block of four numbers, of four bools. -/
theorem cellG {w : World} {x : Nat} {a b c d : Int} (hx : ∀ i, w.cell? ⟨x, i, none⟩ = (#[.int .i64 a, .int .i64 b, .int .i64 c, .int .i64 d] : Array Value)[i]?) {i : Nat} (hi4 : i < 4) :
    w.cell? ⟨x, i, none⟩ = some (.int .i64 (fourG a b c d i)) := by
  have : i = 0 ∨ i = 1 ∨ i = 2 ∨ i = 3 := by omega
  rcases this with rfl | rfl | rfl | rfl <;> simp [hx, fourG]
theorem cellBG {w : World} {x : Nat} {a b c d : Bool} (hx : ∀ i, w.cell? ⟨x, i, none⟩ = (#[.bool a, .bool b, .bool c, .bool d] : Array Value)[i]?) {i : Nat} (hi4 : i < 4) :
    w.cell? ⟨x, i, none⟩ = some (.bool (fourBG a b c d i)) := by
  have : i = 0 ∨ i = 1 ∨ i = 2 ∨ i = 3 := by omega
  rcases this with rfl | rfl | rfl | rfl <;> simp [hx, fourBG]

end Go.Proofs.Yteghionkljbggaa
