/-
  DetectorCells: for every detector, two lights, two ghosts, offset, two masks and index the law returns true. No conditions.
-/
import Derived.Test.YteghionkljbggaaDetM0
import Derived.Test.YteghionkljbggaaDetM1
import Derived.Test.YteghionkljbggaaDetM2
import Derived.Test.YteghionkljbggaaDetM3
namespace Go.Proofs.Yteghionkljbggaa
open Go.ChangeShapes Go.WideShapes Go.ChangeAt Go.RowKit

theorem open5 {H : Type} {enc : TypeId × Value → H} {w : World} {r : Reach} {base b0 : Nat} {spare : Nat → Bool} {held : Bool} {v : Value} {d : DataW H} {p : List MemPlace}
    (hv : Value.okWide Try.prog w r b0 5 v) (h : DataW.Trod enc Try.prog w base spare held 5 v d p) : ∃ a : Int, 0 ≤ a ∧ a ≤ 255 ∧ v = .int .u8 a := by
  obtain ⟨a, rfl, _, _, hw⟩ := open_int Try.underlying5 hv h
  simp only [Lit.wf, Bool.and_eq_true, decide_eq_true_eq] at hw
  exact ⟨a, hw.1, hw.2, rfl⟩

theorem mix_shape (g b k f e l0 l1 l2 l3 h0 h1 h2 h3 off : Int) (m0 m1 m2 m3 : Bool) :
    ∃ c0 c1 c2 c3 j : Int, expoR g b k f e l0 l1 l2 l3 h0 h1 h2 h3 off m0 m1 m2 m3 = .tuple #[.agg #[.int .i64 c0, .int .i64 c1, .int .i64 c2, .int .i64 c3], .int .i64 j] := by
  unfold expoR
  split <;> exact ⟨_, _, _, _, _, rfl⟩

theorem cells_at0 (g b k f e off l0 l1 l2 l3 h0 h1 h2 h3 p0 p1 p2 p3 q0 q1 q2 q3 raw : Int) (m0 m1 m2 m3 n0 n1 n2 n3 : Bool) (w : World) (hk : raw % 4 = 0) (hr0 : 0 ≤ raw) (hr1 : raw ≤ 255) :
    Calls Try.prog 6 #[.agg #[.int .i64 g, .int .i64 b, .int .i64 k, .int .i64 f, .int .i64 e], .agg #[.int .i64 l0, .int .i64 l1, .int .i64 l2, .int .i64 l3], .agg #[.int .i64 h0, .int .i64 h1, .int .i64 h2, .int .i64 h3], .agg #[.int .i64 p0, .int .i64 p1, .int .i64 p2, .int .i64 p3], .agg #[.int .i64 q0, .int .i64 q1, .int .i64 q2, .int .i64 q3], .int .i64 off, .agg #[.bool m0, .bool m1, .bool m2, .bool m3], .agg #[.bool n0, .bool n1, .bool n2, .bool n3], .int .u8 raw] w (Ret (.bool true) w) := by
  cases ok1 : expoOk g b k f e l0 l1 l2 l3 h0 h1 h2 h3 off with
  | false =>
    obtain ⟨b0, b1, b2, b3, j2, e2⟩ := mix_shape g b k f e p0 p1 p2 p3 q0 q1 q2 q3 off n0 n1 n2 n3
    obtain ⟨c0, c1, c2, c3, j3, e3⟩ := mix_shape g b k f e p0 l1 l2 l3 q0 h1 h2 h3 off n0 m1 m2 m3
    exact cells_no0 g b k f e off l0 l1 l2 l3 h0 h1 h2 h3 p0 p1 p2 p3 q0 q1 q2 q3 raw m0 m1 m2 m3 n0 n1 n2 n3 w hk hr0 hr1 0 0 0 0 b0 b1 b2 b3 c0 c1 c2 c3 1 j2 j3
      (Lib.hid fun W => expo_no ok1 ▸ expose_any g b k f e l0 l1 l2 l3 h0 h1 h2 h3 off m0 m1 m2 m3 W) (Lib.hid fun W => e2 ▸ expose_any g b k f e p0 p1 p2 p3 q0 q1 q2 q3 off n0 n1 n2 n3 W) (Lib.hid fun W => e3 ▸ expose_any g b k f e p0 l1 l2 l3 q0 h1 h2 h3 off n0 m1 m2 m3 W) (.inl rfl)
  | true =>
    cases ok2 : expoOk g b k f e p0 p1 p2 p3 q0 q1 q2 q3 off with
    | false =>
      obtain ⟨c0, c1, c2, c3, j3, e3⟩ := mix_shape g b k f e p0 l1 l2 l3 q0 h1 h2 h3 off n0 m1 m2 m3
      exact cells_no0 g b k f e off l0 l1 l2 l3 h0 h1 h2 h3 p0 p1 p2 p3 q0 q1 q2 q3 raw m0 m1 m2 m3 n0 n1 n2 n3 w hk hr0 hr1 (expoC g b k f off l0 h0 m0) (expoC g b k f off l1 h1 m1) (expoC g b k f off l2 h2 m2) (expoC g b k f off l3 h3 m3) 0 0 0 0 c0 c1 c2 c3 0 1 j3
        (Lib.hid fun W => expo_yes ok1 rfl rfl rfl rfl ▸ expose_any g b k f e l0 l1 l2 l3 h0 h1 h2 h3 off m0 m1 m2 m3 W) (Lib.hid fun W => expo_no ok2 ▸ expose_any g b k f e p0 p1 p2 p3 q0 q1 q2 q3 off n0 n1 n2 n3 W) (Lib.hid fun W => e3 ▸ expose_any g b k f e p0 l1 l2 l3 q0 h1 h2 h3 off n0 m1 m2 m3 W) (.inr ⟨rfl, rfl⟩)
    | true =>
      have hv := (ok_parts ok1).1
      have ok3 : expoOk g b k f e p0 l1 l2 l3 q0 h1 h2 h3 off = true := by
        simp only [expoOk, allB, Bool.and_eq_true] at ok1 ok2 ⊢
        simp only [ok1, ok2, and_self]
      exact cells_yes0 g b k f e off l0 l1 l2 l3 h0 h1 h2 h3 p0 p1 p2 p3 q0 q1 q2 q3 raw m0 m1 m2 m3 n0 n1 n2 n3 w hk hr0 hr1 (expoC g b k f off l0 h0 m0) (expoC g b k f off l1 h1 m1) (expoC g b k f off l2 h2 m2) (expoC g b k f off l3 h3 m3)
        (expoC g b k f off p0 q0 n0) (expoC g b k f off p1 q1 n1) (expoC g b k f off p2 q2 n2) (expoC g b k f off p3 q3 n3)
        (ghostC f e (expoC g b k f off l0 h0 m0)) (ghostC f e (expoC g b k f off l1 h1 m1)) (ghostC f e (expoC g b k f off l2 h2 m2)) (ghostC f e (expoC g b k f off l3 h3 m3))
        (ghostC f e (expoC g b k f off p0 q0 n0)) (ghostC f e (expoC g b k f off p1 q1 n1)) (ghostC f e (expoC g b k f off p2 q2 n2)) (ghostC f e (expoC g b k f off p3 q3 n3))
        (redC g b k (expoC g b k f off l0 h0 m0) (okC f (expoC g b k f off l0 h0 m0) m0)) (redC g b k (expoC g b k f off l1 h1 m1) (okC f (expoC g b k f off l1 h1 m1) m1)) (redC g b k (expoC g b k f off l2 h2 m2) (okC f (expoC g b k f off l2 h2 m2) m2)) (redC g b k (expoC g b k f off l3 h3 m3) (okC f (expoC g b k f off l3 h3 m3) m3))
        (redC g b k (expoC g b k f off p0 q0 n0) (okC f (expoC g b k f off p0 q0 n0) n0)) (redC g b k (expoC g b k f off p1 q1 n1) (okC f (expoC g b k f off p1 q1 n1) n1)) (redC g b k (expoC g b k f off p2 q2 n2) (okC f (expoC g b k f off p2 q2 n2) n2)) (redC g b k (expoC g b k f off p3 q3 n3) (okC f (expoC g b k f off p3 q3 n3) n3))
        (okC f (expoC g b k f off l0 h0 m0) m0) (okC f (expoC g b k f off l1 h1 m1) m1) (okC f (expoC g b k f off l2 h2 m2) m2) (okC f (expoC g b k f off l3 h3 m3) m3)
        (okC f (expoC g b k f off p0 q0 n0) n0) (okC f (expoC g b k f off p1 q1 n1) n1) (okC f (expoC g b k f off p2 q2 n2) n2) (okC f (expoC g b k f off p3 q3 n3) n3)
        (Lib.hid fun W => expo_yes ok1 rfl rfl rfl rfl ▸ expose_any g b k f e l0 l1 l2 l3 h0 h1 h2 h3 off m0 m1 m2 m3 W) (Lib.hid fun W => expo_yes ok2 rfl rfl rfl rfl ▸ expose_any g b k f e p0 p1 p2 p3 q0 q1 q2 q3 off n0 n1 n2 n3 W) (Lib.hid fun W => expo_yes ok3 rfl rfl rfl rfl ▸ expose_any g b k f e p0 l1 l2 l3 q0 h1 h2 h3 off n0 m1 m2 m3 W)
        (Lib.hid fun W => ghost_yes (raw_of hv) ▸ ghost_any g b k f e (expoC g b k f off l0 h0 m0) (expoC g b k f off l1 h1 m1) (expoC g b k f off l2 h2 m2) (expoC g b k f off l3 h3 m3) W)
        (Lib.hid fun W => ghost_yes (raw_of hv) ▸ ghost_any g b k f e (expoC g b k f off p0 q0 n0) (expoC g b k f off p1 q1 n1) (expoC g b k f off p2 q2 n2) (expoC g b k f off p3 q3 n3) W)
        (Lib.hid fun W => ghost_yes (raw_of hv) ▸ ghost_any g b k f e (expoC g b k f off p0 q0 n0) (expoC g b k f off l1 h1 m1) (expoC g b k f off l2 h2 m2) (expoC g b k f off l3 h3 m3) W)
        (Lib.hid fun W => reduce_yes (raw_of hv) ▸ reduce_any g b k f e (expoC g b k f off l0 h0 m0) (expoC g b k f off l1 h1 m1) (expoC g b k f off l2 h2 m2) (expoC g b k f off l3 h3 m3) m0 m1 m2 m3 W)
        (Lib.hid fun W => reduce_yes (raw_of hv) ▸ reduce_any g b k f e (expoC g b k f off p0 q0 n0) (expoC g b k f off p1 q1 n1) (expoC g b k f off p2 q2 n2) (expoC g b k f off p3 q3 n3) n0 n1 n2 n3 W)
        (Lib.hid fun W => reduce_yes (raw_of hv) ▸ reduce_any g b k f e (expoC g b k f off p0 q0 n0) (expoC g b k f off l1 h1 m1) (expoC g b k f off l2 h2 m2) (expoC g b k f off l3 h3 m3) n0 m1 m2 m3 W)

theorem cells_at1 (g b k f e off l0 l1 l2 l3 h0 h1 h2 h3 p0 p1 p2 p3 q0 q1 q2 q3 raw : Int) (m0 m1 m2 m3 n0 n1 n2 n3 : Bool) (w : World) (hk : raw % 4 = 1) (hr0 : 0 ≤ raw) (hr1 : raw ≤ 255) :
    Calls Try.prog 6 #[.agg #[.int .i64 g, .int .i64 b, .int .i64 k, .int .i64 f, .int .i64 e], .agg #[.int .i64 l0, .int .i64 l1, .int .i64 l2, .int .i64 l3], .agg #[.int .i64 h0, .int .i64 h1, .int .i64 h2, .int .i64 h3], .agg #[.int .i64 p0, .int .i64 p1, .int .i64 p2, .int .i64 p3], .agg #[.int .i64 q0, .int .i64 q1, .int .i64 q2, .int .i64 q3], .int .i64 off, .agg #[.bool m0, .bool m1, .bool m2, .bool m3], .agg #[.bool n0, .bool n1, .bool n2, .bool n3], .int .u8 raw] w (Ret (.bool true) w) := by
  cases ok1 : expoOk g b k f e l0 l1 l2 l3 h0 h1 h2 h3 off with
  | false =>
    obtain ⟨b0, b1, b2, b3, j2, e2⟩ := mix_shape g b k f e p0 p1 p2 p3 q0 q1 q2 q3 off n0 n1 n2 n3
    obtain ⟨c0, c1, c2, c3, j3, e3⟩ := mix_shape g b k f e l0 p1 l2 l3 h0 q1 h2 h3 off m0 n1 m2 m3
    exact cells_no1 g b k f e off l0 l1 l2 l3 h0 h1 h2 h3 p0 p1 p2 p3 q0 q1 q2 q3 raw m0 m1 m2 m3 n0 n1 n2 n3 w hk hr0 hr1 0 0 0 0 b0 b1 b2 b3 c0 c1 c2 c3 1 j2 j3
      (Lib.hid fun W => expo_no ok1 ▸ expose_any g b k f e l0 l1 l2 l3 h0 h1 h2 h3 off m0 m1 m2 m3 W) (Lib.hid fun W => e2 ▸ expose_any g b k f e p0 p1 p2 p3 q0 q1 q2 q3 off n0 n1 n2 n3 W) (Lib.hid fun W => e3 ▸ expose_any g b k f e l0 p1 l2 l3 h0 q1 h2 h3 off m0 n1 m2 m3 W) (.inl rfl)
  | true =>
    cases ok2 : expoOk g b k f e p0 p1 p2 p3 q0 q1 q2 q3 off with
    | false =>
      obtain ⟨c0, c1, c2, c3, j3, e3⟩ := mix_shape g b k f e l0 p1 l2 l3 h0 q1 h2 h3 off m0 n1 m2 m3
      exact cells_no1 g b k f e off l0 l1 l2 l3 h0 h1 h2 h3 p0 p1 p2 p3 q0 q1 q2 q3 raw m0 m1 m2 m3 n0 n1 n2 n3 w hk hr0 hr1 (expoC g b k f off l0 h0 m0) (expoC g b k f off l1 h1 m1) (expoC g b k f off l2 h2 m2) (expoC g b k f off l3 h3 m3) 0 0 0 0 c0 c1 c2 c3 0 1 j3
        (Lib.hid fun W => expo_yes ok1 rfl rfl rfl rfl ▸ expose_any g b k f e l0 l1 l2 l3 h0 h1 h2 h3 off m0 m1 m2 m3 W) (Lib.hid fun W => expo_no ok2 ▸ expose_any g b k f e p0 p1 p2 p3 q0 q1 q2 q3 off n0 n1 n2 n3 W) (Lib.hid fun W => e3 ▸ expose_any g b k f e l0 p1 l2 l3 h0 q1 h2 h3 off m0 n1 m2 m3 W) (.inr ⟨rfl, rfl⟩)
    | true =>
      have hv := (ok_parts ok1).1
      have ok3 : expoOk g b k f e l0 p1 l2 l3 h0 q1 h2 h3 off = true := by
        simp only [expoOk, allB, Bool.and_eq_true] at ok1 ok2 ⊢
        simp only [ok1, ok2, and_self]
      exact cells_yes1 g b k f e off l0 l1 l2 l3 h0 h1 h2 h3 p0 p1 p2 p3 q0 q1 q2 q3 raw m0 m1 m2 m3 n0 n1 n2 n3 w hk hr0 hr1 (expoC g b k f off l0 h0 m0) (expoC g b k f off l1 h1 m1) (expoC g b k f off l2 h2 m2) (expoC g b k f off l3 h3 m3)
        (expoC g b k f off p0 q0 n0) (expoC g b k f off p1 q1 n1) (expoC g b k f off p2 q2 n2) (expoC g b k f off p3 q3 n3)
        (ghostC f e (expoC g b k f off l0 h0 m0)) (ghostC f e (expoC g b k f off l1 h1 m1)) (ghostC f e (expoC g b k f off l2 h2 m2)) (ghostC f e (expoC g b k f off l3 h3 m3))
        (ghostC f e (expoC g b k f off p0 q0 n0)) (ghostC f e (expoC g b k f off p1 q1 n1)) (ghostC f e (expoC g b k f off p2 q2 n2)) (ghostC f e (expoC g b k f off p3 q3 n3))
        (redC g b k (expoC g b k f off l0 h0 m0) (okC f (expoC g b k f off l0 h0 m0) m0)) (redC g b k (expoC g b k f off l1 h1 m1) (okC f (expoC g b k f off l1 h1 m1) m1)) (redC g b k (expoC g b k f off l2 h2 m2) (okC f (expoC g b k f off l2 h2 m2) m2)) (redC g b k (expoC g b k f off l3 h3 m3) (okC f (expoC g b k f off l3 h3 m3) m3))
        (redC g b k (expoC g b k f off p0 q0 n0) (okC f (expoC g b k f off p0 q0 n0) n0)) (redC g b k (expoC g b k f off p1 q1 n1) (okC f (expoC g b k f off p1 q1 n1) n1)) (redC g b k (expoC g b k f off p2 q2 n2) (okC f (expoC g b k f off p2 q2 n2) n2)) (redC g b k (expoC g b k f off p3 q3 n3) (okC f (expoC g b k f off p3 q3 n3) n3))
        (okC f (expoC g b k f off l0 h0 m0) m0) (okC f (expoC g b k f off l1 h1 m1) m1) (okC f (expoC g b k f off l2 h2 m2) m2) (okC f (expoC g b k f off l3 h3 m3) m3)
        (okC f (expoC g b k f off p0 q0 n0) n0) (okC f (expoC g b k f off p1 q1 n1) n1) (okC f (expoC g b k f off p2 q2 n2) n2) (okC f (expoC g b k f off p3 q3 n3) n3)
        (Lib.hid fun W => expo_yes ok1 rfl rfl rfl rfl ▸ expose_any g b k f e l0 l1 l2 l3 h0 h1 h2 h3 off m0 m1 m2 m3 W) (Lib.hid fun W => expo_yes ok2 rfl rfl rfl rfl ▸ expose_any g b k f e p0 p1 p2 p3 q0 q1 q2 q3 off n0 n1 n2 n3 W) (Lib.hid fun W => expo_yes ok3 rfl rfl rfl rfl ▸ expose_any g b k f e l0 p1 l2 l3 h0 q1 h2 h3 off m0 n1 m2 m3 W)
        (Lib.hid fun W => ghost_yes (raw_of hv) ▸ ghost_any g b k f e (expoC g b k f off l0 h0 m0) (expoC g b k f off l1 h1 m1) (expoC g b k f off l2 h2 m2) (expoC g b k f off l3 h3 m3) W)
        (Lib.hid fun W => ghost_yes (raw_of hv) ▸ ghost_any g b k f e (expoC g b k f off p0 q0 n0) (expoC g b k f off p1 q1 n1) (expoC g b k f off p2 q2 n2) (expoC g b k f off p3 q3 n3) W)
        (Lib.hid fun W => ghost_yes (raw_of hv) ▸ ghost_any g b k f e (expoC g b k f off l0 h0 m0) (expoC g b k f off p1 q1 n1) (expoC g b k f off l2 h2 m2) (expoC g b k f off l3 h3 m3) W)
        (Lib.hid fun W => reduce_yes (raw_of hv) ▸ reduce_any g b k f e (expoC g b k f off l0 h0 m0) (expoC g b k f off l1 h1 m1) (expoC g b k f off l2 h2 m2) (expoC g b k f off l3 h3 m3) m0 m1 m2 m3 W)
        (Lib.hid fun W => reduce_yes (raw_of hv) ▸ reduce_any g b k f e (expoC g b k f off p0 q0 n0) (expoC g b k f off p1 q1 n1) (expoC g b k f off p2 q2 n2) (expoC g b k f off p3 q3 n3) n0 n1 n2 n3 W)
        (Lib.hid fun W => reduce_yes (raw_of hv) ▸ reduce_any g b k f e (expoC g b k f off l0 h0 m0) (expoC g b k f off p1 q1 n1) (expoC g b k f off l2 h2 m2) (expoC g b k f off l3 h3 m3) m0 n1 m2 m3 W)

theorem cells_at2 (g b k f e off l0 l1 l2 l3 h0 h1 h2 h3 p0 p1 p2 p3 q0 q1 q2 q3 raw : Int) (m0 m1 m2 m3 n0 n1 n2 n3 : Bool) (w : World) (hk : raw % 4 = 2) (hr0 : 0 ≤ raw) (hr1 : raw ≤ 255) :
    Calls Try.prog 6 #[.agg #[.int .i64 g, .int .i64 b, .int .i64 k, .int .i64 f, .int .i64 e], .agg #[.int .i64 l0, .int .i64 l1, .int .i64 l2, .int .i64 l3], .agg #[.int .i64 h0, .int .i64 h1, .int .i64 h2, .int .i64 h3], .agg #[.int .i64 p0, .int .i64 p1, .int .i64 p2, .int .i64 p3], .agg #[.int .i64 q0, .int .i64 q1, .int .i64 q2, .int .i64 q3], .int .i64 off, .agg #[.bool m0, .bool m1, .bool m2, .bool m3], .agg #[.bool n0, .bool n1, .bool n2, .bool n3], .int .u8 raw] w (Ret (.bool true) w) := by
  cases ok1 : expoOk g b k f e l0 l1 l2 l3 h0 h1 h2 h3 off with
  | false =>
    obtain ⟨b0, b1, b2, b3, j2, e2⟩ := mix_shape g b k f e p0 p1 p2 p3 q0 q1 q2 q3 off n0 n1 n2 n3
    obtain ⟨c0, c1, c2, c3, j3, e3⟩ := mix_shape g b k f e l0 l1 p2 l3 h0 h1 q2 h3 off m0 m1 n2 m3
    exact cells_no2 g b k f e off l0 l1 l2 l3 h0 h1 h2 h3 p0 p1 p2 p3 q0 q1 q2 q3 raw m0 m1 m2 m3 n0 n1 n2 n3 w hk hr0 hr1 0 0 0 0 b0 b1 b2 b3 c0 c1 c2 c3 1 j2 j3
      (Lib.hid fun W => expo_no ok1 ▸ expose_any g b k f e l0 l1 l2 l3 h0 h1 h2 h3 off m0 m1 m2 m3 W) (Lib.hid fun W => e2 ▸ expose_any g b k f e p0 p1 p2 p3 q0 q1 q2 q3 off n0 n1 n2 n3 W) (Lib.hid fun W => e3 ▸ expose_any g b k f e l0 l1 p2 l3 h0 h1 q2 h3 off m0 m1 n2 m3 W) (.inl rfl)
  | true =>
    cases ok2 : expoOk g b k f e p0 p1 p2 p3 q0 q1 q2 q3 off with
    | false =>
      obtain ⟨c0, c1, c2, c3, j3, e3⟩ := mix_shape g b k f e l0 l1 p2 l3 h0 h1 q2 h3 off m0 m1 n2 m3
      exact cells_no2 g b k f e off l0 l1 l2 l3 h0 h1 h2 h3 p0 p1 p2 p3 q0 q1 q2 q3 raw m0 m1 m2 m3 n0 n1 n2 n3 w hk hr0 hr1 (expoC g b k f off l0 h0 m0) (expoC g b k f off l1 h1 m1) (expoC g b k f off l2 h2 m2) (expoC g b k f off l3 h3 m3) 0 0 0 0 c0 c1 c2 c3 0 1 j3
        (Lib.hid fun W => expo_yes ok1 rfl rfl rfl rfl ▸ expose_any g b k f e l0 l1 l2 l3 h0 h1 h2 h3 off m0 m1 m2 m3 W) (Lib.hid fun W => expo_no ok2 ▸ expose_any g b k f e p0 p1 p2 p3 q0 q1 q2 q3 off n0 n1 n2 n3 W) (Lib.hid fun W => e3 ▸ expose_any g b k f e l0 l1 p2 l3 h0 h1 q2 h3 off m0 m1 n2 m3 W) (.inr ⟨rfl, rfl⟩)
    | true =>
      have hv := (ok_parts ok1).1
      have ok3 : expoOk g b k f e l0 l1 p2 l3 h0 h1 q2 h3 off = true := by
        simp only [expoOk, allB, Bool.and_eq_true] at ok1 ok2 ⊢
        simp only [ok1, ok2, and_self]
      exact cells_yes2 g b k f e off l0 l1 l2 l3 h0 h1 h2 h3 p0 p1 p2 p3 q0 q1 q2 q3 raw m0 m1 m2 m3 n0 n1 n2 n3 w hk hr0 hr1 (expoC g b k f off l0 h0 m0) (expoC g b k f off l1 h1 m1) (expoC g b k f off l2 h2 m2) (expoC g b k f off l3 h3 m3)
        (expoC g b k f off p0 q0 n0) (expoC g b k f off p1 q1 n1) (expoC g b k f off p2 q2 n2) (expoC g b k f off p3 q3 n3)
        (ghostC f e (expoC g b k f off l0 h0 m0)) (ghostC f e (expoC g b k f off l1 h1 m1)) (ghostC f e (expoC g b k f off l2 h2 m2)) (ghostC f e (expoC g b k f off l3 h3 m3))
        (ghostC f e (expoC g b k f off p0 q0 n0)) (ghostC f e (expoC g b k f off p1 q1 n1)) (ghostC f e (expoC g b k f off p2 q2 n2)) (ghostC f e (expoC g b k f off p3 q3 n3))
        (redC g b k (expoC g b k f off l0 h0 m0) (okC f (expoC g b k f off l0 h0 m0) m0)) (redC g b k (expoC g b k f off l1 h1 m1) (okC f (expoC g b k f off l1 h1 m1) m1)) (redC g b k (expoC g b k f off l2 h2 m2) (okC f (expoC g b k f off l2 h2 m2) m2)) (redC g b k (expoC g b k f off l3 h3 m3) (okC f (expoC g b k f off l3 h3 m3) m3))
        (redC g b k (expoC g b k f off p0 q0 n0) (okC f (expoC g b k f off p0 q0 n0) n0)) (redC g b k (expoC g b k f off p1 q1 n1) (okC f (expoC g b k f off p1 q1 n1) n1)) (redC g b k (expoC g b k f off p2 q2 n2) (okC f (expoC g b k f off p2 q2 n2) n2)) (redC g b k (expoC g b k f off p3 q3 n3) (okC f (expoC g b k f off p3 q3 n3) n3))
        (okC f (expoC g b k f off l0 h0 m0) m0) (okC f (expoC g b k f off l1 h1 m1) m1) (okC f (expoC g b k f off l2 h2 m2) m2) (okC f (expoC g b k f off l3 h3 m3) m3)
        (okC f (expoC g b k f off p0 q0 n0) n0) (okC f (expoC g b k f off p1 q1 n1) n1) (okC f (expoC g b k f off p2 q2 n2) n2) (okC f (expoC g b k f off p3 q3 n3) n3)
        (Lib.hid fun W => expo_yes ok1 rfl rfl rfl rfl ▸ expose_any g b k f e l0 l1 l2 l3 h0 h1 h2 h3 off m0 m1 m2 m3 W) (Lib.hid fun W => expo_yes ok2 rfl rfl rfl rfl ▸ expose_any g b k f e p0 p1 p2 p3 q0 q1 q2 q3 off n0 n1 n2 n3 W) (Lib.hid fun W => expo_yes ok3 rfl rfl rfl rfl ▸ expose_any g b k f e l0 l1 p2 l3 h0 h1 q2 h3 off m0 m1 n2 m3 W)
        (Lib.hid fun W => ghost_yes (raw_of hv) ▸ ghost_any g b k f e (expoC g b k f off l0 h0 m0) (expoC g b k f off l1 h1 m1) (expoC g b k f off l2 h2 m2) (expoC g b k f off l3 h3 m3) W)
        (Lib.hid fun W => ghost_yes (raw_of hv) ▸ ghost_any g b k f e (expoC g b k f off p0 q0 n0) (expoC g b k f off p1 q1 n1) (expoC g b k f off p2 q2 n2) (expoC g b k f off p3 q3 n3) W)
        (Lib.hid fun W => ghost_yes (raw_of hv) ▸ ghost_any g b k f e (expoC g b k f off l0 h0 m0) (expoC g b k f off l1 h1 m1) (expoC g b k f off p2 q2 n2) (expoC g b k f off l3 h3 m3) W)
        (Lib.hid fun W => reduce_yes (raw_of hv) ▸ reduce_any g b k f e (expoC g b k f off l0 h0 m0) (expoC g b k f off l1 h1 m1) (expoC g b k f off l2 h2 m2) (expoC g b k f off l3 h3 m3) m0 m1 m2 m3 W)
        (Lib.hid fun W => reduce_yes (raw_of hv) ▸ reduce_any g b k f e (expoC g b k f off p0 q0 n0) (expoC g b k f off p1 q1 n1) (expoC g b k f off p2 q2 n2) (expoC g b k f off p3 q3 n3) n0 n1 n2 n3 W)
        (Lib.hid fun W => reduce_yes (raw_of hv) ▸ reduce_any g b k f e (expoC g b k f off l0 h0 m0) (expoC g b k f off l1 h1 m1) (expoC g b k f off p2 q2 n2) (expoC g b k f off l3 h3 m3) m0 m1 n2 m3 W)

theorem cells_at3 (g b k f e off l0 l1 l2 l3 h0 h1 h2 h3 p0 p1 p2 p3 q0 q1 q2 q3 raw : Int) (m0 m1 m2 m3 n0 n1 n2 n3 : Bool) (w : World) (hk : raw % 4 = 3) (hr0 : 0 ≤ raw) (hr1 : raw ≤ 255) :
    Calls Try.prog 6 #[.agg #[.int .i64 g, .int .i64 b, .int .i64 k, .int .i64 f, .int .i64 e], .agg #[.int .i64 l0, .int .i64 l1, .int .i64 l2, .int .i64 l3], .agg #[.int .i64 h0, .int .i64 h1, .int .i64 h2, .int .i64 h3], .agg #[.int .i64 p0, .int .i64 p1, .int .i64 p2, .int .i64 p3], .agg #[.int .i64 q0, .int .i64 q1, .int .i64 q2, .int .i64 q3], .int .i64 off, .agg #[.bool m0, .bool m1, .bool m2, .bool m3], .agg #[.bool n0, .bool n1, .bool n2, .bool n3], .int .u8 raw] w (Ret (.bool true) w) := by
  cases ok1 : expoOk g b k f e l0 l1 l2 l3 h0 h1 h2 h3 off with
  | false =>
    obtain ⟨b0, b1, b2, b3, j2, e2⟩ := mix_shape g b k f e p0 p1 p2 p3 q0 q1 q2 q3 off n0 n1 n2 n3
    obtain ⟨c0, c1, c2, c3, j3, e3⟩ := mix_shape g b k f e l0 l1 l2 p3 h0 h1 h2 q3 off m0 m1 m2 n3
    exact cells_no3 g b k f e off l0 l1 l2 l3 h0 h1 h2 h3 p0 p1 p2 p3 q0 q1 q2 q3 raw m0 m1 m2 m3 n0 n1 n2 n3 w hk hr0 hr1 0 0 0 0 b0 b1 b2 b3 c0 c1 c2 c3 1 j2 j3
      (Lib.hid fun W => expo_no ok1 ▸ expose_any g b k f e l0 l1 l2 l3 h0 h1 h2 h3 off m0 m1 m2 m3 W) (Lib.hid fun W => e2 ▸ expose_any g b k f e p0 p1 p2 p3 q0 q1 q2 q3 off n0 n1 n2 n3 W) (Lib.hid fun W => e3 ▸ expose_any g b k f e l0 l1 l2 p3 h0 h1 h2 q3 off m0 m1 m2 n3 W) (.inl rfl)
  | true =>
    cases ok2 : expoOk g b k f e p0 p1 p2 p3 q0 q1 q2 q3 off with
    | false =>
      obtain ⟨c0, c1, c2, c3, j3, e3⟩ := mix_shape g b k f e l0 l1 l2 p3 h0 h1 h2 q3 off m0 m1 m2 n3
      exact cells_no3 g b k f e off l0 l1 l2 l3 h0 h1 h2 h3 p0 p1 p2 p3 q0 q1 q2 q3 raw m0 m1 m2 m3 n0 n1 n2 n3 w hk hr0 hr1 (expoC g b k f off l0 h0 m0) (expoC g b k f off l1 h1 m1) (expoC g b k f off l2 h2 m2) (expoC g b k f off l3 h3 m3) 0 0 0 0 c0 c1 c2 c3 0 1 j3
        (Lib.hid fun W => expo_yes ok1 rfl rfl rfl rfl ▸ expose_any g b k f e l0 l1 l2 l3 h0 h1 h2 h3 off m0 m1 m2 m3 W) (Lib.hid fun W => expo_no ok2 ▸ expose_any g b k f e p0 p1 p2 p3 q0 q1 q2 q3 off n0 n1 n2 n3 W) (Lib.hid fun W => e3 ▸ expose_any g b k f e l0 l1 l2 p3 h0 h1 h2 q3 off m0 m1 m2 n3 W) (.inr ⟨rfl, rfl⟩)
    | true =>
      have hv := (ok_parts ok1).1
      have ok3 : expoOk g b k f e l0 l1 l2 p3 h0 h1 h2 q3 off = true := by
        simp only [expoOk, allB, Bool.and_eq_true] at ok1 ok2 ⊢
        simp only [ok1, ok2, and_self]
      exact cells_yes3 g b k f e off l0 l1 l2 l3 h0 h1 h2 h3 p0 p1 p2 p3 q0 q1 q2 q3 raw m0 m1 m2 m3 n0 n1 n2 n3 w hk hr0 hr1 (expoC g b k f off l0 h0 m0) (expoC g b k f off l1 h1 m1) (expoC g b k f off l2 h2 m2) (expoC g b k f off l3 h3 m3)
        (expoC g b k f off p0 q0 n0) (expoC g b k f off p1 q1 n1) (expoC g b k f off p2 q2 n2) (expoC g b k f off p3 q3 n3)
        (ghostC f e (expoC g b k f off l0 h0 m0)) (ghostC f e (expoC g b k f off l1 h1 m1)) (ghostC f e (expoC g b k f off l2 h2 m2)) (ghostC f e (expoC g b k f off l3 h3 m3))
        (ghostC f e (expoC g b k f off p0 q0 n0)) (ghostC f e (expoC g b k f off p1 q1 n1)) (ghostC f e (expoC g b k f off p2 q2 n2)) (ghostC f e (expoC g b k f off p3 q3 n3))
        (redC g b k (expoC g b k f off l0 h0 m0) (okC f (expoC g b k f off l0 h0 m0) m0)) (redC g b k (expoC g b k f off l1 h1 m1) (okC f (expoC g b k f off l1 h1 m1) m1)) (redC g b k (expoC g b k f off l2 h2 m2) (okC f (expoC g b k f off l2 h2 m2) m2)) (redC g b k (expoC g b k f off l3 h3 m3) (okC f (expoC g b k f off l3 h3 m3) m3))
        (redC g b k (expoC g b k f off p0 q0 n0) (okC f (expoC g b k f off p0 q0 n0) n0)) (redC g b k (expoC g b k f off p1 q1 n1) (okC f (expoC g b k f off p1 q1 n1) n1)) (redC g b k (expoC g b k f off p2 q2 n2) (okC f (expoC g b k f off p2 q2 n2) n2)) (redC g b k (expoC g b k f off p3 q3 n3) (okC f (expoC g b k f off p3 q3 n3) n3))
        (okC f (expoC g b k f off l0 h0 m0) m0) (okC f (expoC g b k f off l1 h1 m1) m1) (okC f (expoC g b k f off l2 h2 m2) m2) (okC f (expoC g b k f off l3 h3 m3) m3)
        (okC f (expoC g b k f off p0 q0 n0) n0) (okC f (expoC g b k f off p1 q1 n1) n1) (okC f (expoC g b k f off p2 q2 n2) n2) (okC f (expoC g b k f off p3 q3 n3) n3)
        (Lib.hid fun W => expo_yes ok1 rfl rfl rfl rfl ▸ expose_any g b k f e l0 l1 l2 l3 h0 h1 h2 h3 off m0 m1 m2 m3 W) (Lib.hid fun W => expo_yes ok2 rfl rfl rfl rfl ▸ expose_any g b k f e p0 p1 p2 p3 q0 q1 q2 q3 off n0 n1 n2 n3 W) (Lib.hid fun W => expo_yes ok3 rfl rfl rfl rfl ▸ expose_any g b k f e l0 l1 l2 p3 h0 h1 h2 q3 off m0 m1 m2 n3 W)
        (Lib.hid fun W => ghost_yes (raw_of hv) ▸ ghost_any g b k f e (expoC g b k f off l0 h0 m0) (expoC g b k f off l1 h1 m1) (expoC g b k f off l2 h2 m2) (expoC g b k f off l3 h3 m3) W)
        (Lib.hid fun W => ghost_yes (raw_of hv) ▸ ghost_any g b k f e (expoC g b k f off p0 q0 n0) (expoC g b k f off p1 q1 n1) (expoC g b k f off p2 q2 n2) (expoC g b k f off p3 q3 n3) W)
        (Lib.hid fun W => ghost_yes (raw_of hv) ▸ ghost_any g b k f e (expoC g b k f off l0 h0 m0) (expoC g b k f off l1 h1 m1) (expoC g b k f off l2 h2 m2) (expoC g b k f off p3 q3 n3) W)
        (Lib.hid fun W => reduce_yes (raw_of hv) ▸ reduce_any g b k f e (expoC g b k f off l0 h0 m0) (expoC g b k f off l1 h1 m1) (expoC g b k f off l2 h2 m2) (expoC g b k f off l3 h3 m3) m0 m1 m2 m3 W)
        (Lib.hid fun W => reduce_yes (raw_of hv) ▸ reduce_any g b k f e (expoC g b k f off p0 q0 n0) (expoC g b k f off p1 q1 n1) (expoC g b k f off p2 q2 n2) (expoC g b k f off p3 q3 n3) n0 n1 n2 n3 W)
        (Lib.hid fun W => reduce_yes (raw_of hv) ▸ reduce_any g b k f e (expoC g b k f off l0 h0 m0) (expoC g b k f off l1 h1 m1) (expoC g b k f off l2 h2 m2) (expoC g b k f off p3 q3 n3) m0 m1 m2 n3 W)

theorem cells_walk (g b k f e l0 l1 l2 l3 h0 h1 h2 h3 p0 p1 p2 p3 q0 q1 q2 q3 off : Int) (m0 m1 m2 m3 n0 n1 n2 n3 : Bool) (raw : Int) (hr0 : 0 ≤ raw) (hr1 : raw ≤ 255) (w : World) :
    Calls Try.prog 6 #[.agg #[.int .i64 g, .int .i64 b, .int .i64 k, .int .i64 f, .int .i64 e], .agg #[.int .i64 l0, .int .i64 l1, .int .i64 l2, .int .i64 l3], .agg #[.int .i64 h0, .int .i64 h1, .int .i64 h2, .int .i64 h3], .agg #[.int .i64 p0, .int .i64 p1, .int .i64 p2, .int .i64 p3], .agg #[.int .i64 q0, .int .i64 q1, .int .i64 q2, .int .i64 q3], .int .i64 off, .agg #[.bool m0, .bool m1, .bool m2, .bool m3], .agg #[.bool n0, .bool n1, .bool n2, .bool n3], .int .u8 raw] w (Ret (.bool true) w) := by
  have h4 : raw % 4 = 0 ∨ raw % 4 = 1 ∨ raw % 4 = 2 ∨ raw % 4 = 3 := by omega
  rcases h4 with hk | hk | hk | hk
  · exact cells_at0 g b k f e off l0 l1 l2 l3 h0 h1 h2 h3 p0 p1 p2 p3 q0 q1 q2 q3 raw m0 m1 m2 m3 n0 n1 n2 n3 w hk hr0 hr1
  · exact cells_at1 g b k f e off l0 l1 l2 l3 h0 h1 h2 h3 p0 p1 p2 p3 q0 q1 q2 q3 raw m0 m1 m2 m3 n0 n1 n2 n3 w hk hr0 hr1
  · exact cells_at2 g b k f e off l0 l1 l2 l3 h0 h1 h2 h3 p0 p1 p2 p3 q0 q1 q2 q3 raw m0 m1 m2 m3 n0 n1 n2 n3 w hk hr0 hr1
  · exact cells_at3 g b k f e off l0 l1 l2 l3 h0 h1 h2 h3 p0 p1 p2 p3 q0 q1 q2 q3 raw m0 m1 m2 m3 n0 n1 n2 n3 w hk hr0 hr1

set_option maxRecDepth 100000 in
theorem detectorCells_lifted (os : Os) (started : os.Started) (H : Type) (enc : TypeId × Value → H) :
    ReturnsInHanded {} Try.checked os 6 .any (Rows.detectorCellsSpec.pre6 enc Try.prog Try.f6 Rows.detectorCellsRow.domain false) (Rows.detectorCellsSpec.post enc Try.prog Try.f6 false true false false) := by
  refine returnsInHanded_of_change (C := Try.checked) own started (by kernel_rfl) Try.func6
    (ChangeSpec.witness6 (enc := enc) (C := Try.checked) false ⟨#[], #[.agg #[.int .i64 0, .int .i64 0, .int .i64 0, .int .i64 0, .int .i64 0], .agg #[.int .i64 0, .int .i64 0, .int .i64 0, .int .i64 0], .agg #[.int .i64 0, .int .i64 0, .int .i64 0, .int .i64 0], .agg #[.int .i64 0, .int .i64 0, .int .i64 0, .int .i64 0], .agg #[.int .i64 0, .int .i64 0, .int .i64 0, .int .i64 0], .int .i64 0, .agg #[.bool false, .bool false, .bool false, .bool false], .agg #[.bool false, .bool false, .bool false, .bool false], .int .u8 0], []⟩ 8 (by kernel_rfl) (by kernel_rfl) (by kernel_rfl) (by kernel_rfl)) ?_
  intro W base args ds gs before hval0 hW _ _
  have hval : ∀ (j : Nat) t v, Try.f6.params[j]? = some t → args[j]? = some v → Value.okWide Try.prog W .any base t v := hval0
  have hW' := hW
  obtain ⟨p, q, hA0, hV, _, _, _⟩ := hW
  have hA : DataW.TrodAll enc Try.prog W 0 (fun _ => true) true Try.f6.params.toList args.toList ds p := hA0
  rw [Try.params6] at hA hval
  obtain ⟨v0, vs0, d0, ds0, p0, q0, hargs, rfl, _, h0, r0⟩ := trodAll_cons hA
  obtain ⟨v1, vs1, d1, ds1, p1, q1, rfl, rfl, rfl, h1, r1⟩ := trodAll_cons r0
  obtain ⟨v2, vs2, d2, ds2, p2, q2, rfl, rfl, rfl, h2, r2⟩ := trodAll_cons r1
  obtain ⟨v3, vs3, d3, ds3, p3, q3, rfl, rfl, rfl, h3, r3⟩ := trodAll_cons r2
  obtain ⟨v4, vs4, d4, ds4, p4, q4, rfl, rfl, rfl, h4, r4⟩ := trodAll_cons r3
  obtain ⟨v5, vs5, d5, ds5, p5, q5, rfl, rfl, rfl, h5, r5⟩ := trodAll_cons r4
  obtain ⟨v6, vs6, d6, ds6, p6, q6, rfl, rfl, rfl, h6, r6⟩ := trodAll_cons r5
  obtain ⟨v7, vs7, d7, ds7, p7, q7, rfl, rfl, rfl, h7, r7⟩ := trodAll_cons r6
  obtain ⟨v8, vs8, d8, ds8, p8, q8, rfl, rfl, rfl, h8, r8⟩ := trodAll_cons r7
  obtain ⟨rfl, rfl, rfl⟩ := trodAll_nil r8
  obtain rfl : args = #[v0, v1, v2, v3, v4, v5, v6, v7, v8] := by cases args; simp_all
  obtain ⟨rfl, rfl⟩ := trodVars_none hV
  obtain ⟨g, b, k, f, e, rfl⟩ := open23 (hval 0 23 v0 rfl rfl) h0
  obtain ⟨l0, l1, l2, l3, rfl⟩ := open25 (hval 1 25 v1 rfl rfl) h1
  obtain ⟨x0, x1, x2, x3, rfl⟩ := open25 (hval 2 25 v2 rfl rfl) h2
  obtain ⟨y0, y1, y2, y3, rfl⟩ := open25 (hval 3 25 v3 rfl rfl) h3
  obtain ⟨z0, z1, z2, z3, rfl⟩ := open25 (hval 4 25 v4 rfl rfl) h4
  obtain ⟨off, rfl⟩ := open3 (hval 5 3 v5 rfl rfl) h5
  obtain ⟨m0, m1, m2, m3, rfl⟩ := open27 (hval 6 27 v6 rfl rfl) h6
  obtain ⟨n0, n1, n2, n3, rfl⟩ := open27 (hval 7 27 v7 rfl rfl) h7
  obtain ⟨raw, bnd1, bnd2, rfl⟩ := open5 (hval 8 5 v8 rfl rfl) h8
  exact law_post (f := 6) laidOut (by kernel_rfl) rfl Try.underlying4 rfl hW' rfl (cells_walk g b k f e l0 l1 l2 l3 x0 x1 x2 x3 y0 y1 y2 y3 z0 z1 z2 z3 off m0 m1 m2 m3 n0 n1 n2 n3 raw bnd1 bnd2 W)

/-- The statement. -/
theorem detectorCells_holds : Rows.DetectorCellsSaid :=
  OpenClaim.holds_of_wide 6 Try.f6 rfl rfl rfl rfl rfl rfl rfl ⟨rfl, rfl, rfl, rfl, rfl⟩ rfl rfl rfl rfl rfl (by kernel_rfl) Try.func6 (by kernel_rfl)
    (of_decide_eq_true (by kernel_rfl)) (by unfold Func.isWrapper; rw [if_neg (of_decide_eq_false (by kernel_rfl))]; exact ⟨rfl, rfl⟩)
    (fun os started H enc _ => detectorCells_lifted os started H enc)

#print axioms detectorCells_holds

end Go.Proofs.Yteghionkljbggaa
