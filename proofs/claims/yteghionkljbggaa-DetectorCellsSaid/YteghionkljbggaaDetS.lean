/-
  Plain facts: raw counts behind an exposure are good; the shapes of the functions' answers.
-/
import Derived.Test.YteghionkljbggaaDetP
namespace Go.Proofs.Yteghionkljbggaa
open Go.RowKit

theorem expo_shape (g b k f e l0 l1 l2 l3 h0 h1 h2 h3 off : Int) (m0 m1 m2 m3 : Bool) :
    ∃ a0 a1 a2 a3 r : Int, expoR g b k f e l0 l1 l2 l3 h0 h1 h2 h3 off m0 m1 m2 m3 = .tuple #[.agg #[.int .i64 a0, .int .i64 a1, .int .i64 a2, .int .i64 a3], .int .i64 r] := by
  unfold expoR
  split
  · exact ⟨_, _, _, _, _, rfl⟩
  · exact ⟨_, _, _, _, _, rfl⟩

theorem expoC_range {g b k f e : Int} (off l h : Int) (m : Bool) (hv : validB g b k f e = true) : inB 0 (expoC g b k f off l h m) f = true := by
  have := (valid_bounds hv).2.2.2.1
  have h0 : 0 ≤ expoC g b k f off l h m := by simp only [expoC, clip]; omega
  have h1 : expoC g b k f off l h m ≤ f := by simp only [expoC, clip]; omega
  simp [inB, h0, h1]

theorem raw_of {g b k f e off l h l' h' l2 h2 l3 h3 : Int} {m m' m2 m3 : Bool} (hv : validB g b k f e = true) :
    rawB g b k f e (expoC g b k f off l h m) (expoC g b k f off l' h' m') (expoC g b k f off l2 h2 m2) (expoC g b k f off l3 h3 m3) = true := by
  simp only [rawB, allB, expoC_range _ _ _ _ hv, hv, Bool.and_self]

end Go.Proofs.Yteghionkljbggaa
