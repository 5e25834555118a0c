/-
  DetectorMatchesReference: for every detector, light, ghost, raw counts, offset and bad cells the law returns true. No conditions.
-/
import Derived.Test.YteghionkljbggaaDetH
import Derived.Test.YteghionkljbggaaDetI
import Derived.Test.YteghionkljbggaaLaw
namespace Go.Proofs.Yteghionkljbggaa
open Go.ChangeShapes Go.WideShapes Go.ChangeAt Go.RowKit

@[go_sem] theorem eq4_self (a b c d : Int) : eq4 a b c d a b c d = true := by simp [eq4]
@[go_sem] theorem eqB4_self (a b c d : Bool) : eqB4 a b c d a b c d = true := by simp [eqB4]

theorem expo_shape (g b k f e l0 l1 l2 l3 h0 h1 h2 h3 off : Int) (m0 m1 m2 m3 : Bool) :
    ∃ a0 a1 a2 a3 r : Int, expoR g b k f e l0 l1 l2 l3 h0 h1 h2 h3 off m0 m1 m2 m3 = .tuple #[.agg #[.int .i64 a0, .int .i64 a1, .int .i64 a2, .int .i64 a3], .int .i64 r] := by
  unfold expoR
  split
  · exact ⟨_, _, _, _, _, rfl⟩
  · exact ⟨_, _, _, _, _, rfl⟩
theorem ghost_shape (g b k f e p q r s : Int) :
    ∃ a0 a1 a2 a3 x : Int, ghostR g b k f e p q r s = .tuple #[.agg #[.int .i64 a0, .int .i64 a1, .int .i64 a2, .int .i64 a3], .int .i64 x] := by
  unfold ghostR
  split
  · exact ⟨_, _, _, _, _, rfl⟩
  · exact ⟨_, _, _, _, _, rfl⟩
theorem reduce_shape (g b k f e p q r s : Int) (m0 m1 m2 m3 : Bool) :
    ∃ (a0 a1 a2 a3 : Int) (v0 v1 v2 v3 : Bool) (x : Int), reduceR g b k f e p q r s m0 m1 m2 m3 = .tuple #[.agg #[.int .i64 a0, .int .i64 a1, .int .i64 a2, .int .i64 a3], .agg #[.bool v0, .bool v1, .bool v2, .bool v3], .int .i64 x] := by
  unfold reduceR
  split
  · exact ⟨_, _, _, _, _, _, _, _, _, rfl⟩
  · exact ⟨_, _, _, _, _, _, _, _, _, rfl⟩

set_option maxRecDepth 100000 in
set_option maxHeartbeats 8000000 in
theorem matches_walk (g b k f e l0 l1 l2 l3 h0 h1 h2 h3 p q r s off : Int) (m0 m1 m2 m3 : Bool) (w : World) :
    Calls Try.prog 3 #[.agg #[.int .i64 g, .int .i64 b, .int .i64 k, .int .i64 f, .int .i64 e], .agg #[.int .i64 l0, .int .i64 l1, .int .i64 l2, .int .i64 l3], .agg #[.int .i64 h0, .int .i64 h1, .int .i64 h2, .int .i64 h3],
      .agg #[.int .i64 p, .int .i64 q, .int .i64 r, .int .i64 s], .int .i64 off, .agg #[.bool m0, .bool m1, .bool m2, .bool m3]] w (Ret (.bool true) w) := by
  obtain ⟨a0, a1, a2, a3, ra, ha⟩ := expo_shape g b k f e l0 l1 l2 l3 h0 h1 h2 h3 off m0 m1 m2 m3
  obtain ⟨x0, x1, x2, x3, rx, hx⟩ := ghost_shape g b k f e p q r s
  obtain ⟨y0, y1, y2, y3, v0, v1, v2, v3, ry, hy⟩ := reduce_shape g b k f e p q r s m0 m1 m2 m3
  have C1 := Lib.hid (fun W => ha ▸ expose_any g b k f e l0 l1 l2 l3 h0 h1 h2 h3 off m0 m1 m2 m3 W)
  have C2 := Lib.hid (fun W => ha ▸ expose11_any g b k f e l0 l1 l2 l3 h0 h1 h2 h3 off m0 m1 m2 m3 W)
  have C3 := Lib.hid (fun W => hx ▸ ghost_any g b k f e p q r s W)
  have C4 := Lib.hid (fun W => hx ▸ ghost13_any g b k f e p q r s W)
  have C5 := Lib.hid (fun W => hy ▸ reduce_any g b k f e p q r s m0 m1 m2 m3 W)
  have C6 := Lib.hid (fun W => hy ▸ reduce15_any g b k f e p q r s m0 m1 m2 m3 W)
  clear ha hx hy
  go_enter Try.func3, Try.ntmps3
  have B := St.start w
  have R := B.rules
  go_wp2_with fail
  generalize hX : World.alloc _ _ = X
  replace B := St.cast hX (((((B.alloc _ _).alloc _ _).alloc _ _).alloc _ _).alloc _ _)
  try simp only [World.size_alloc] at B
  clear hX
  refine (head_any _).mono ?_
  rintro e' w1 ⟨rfl, h⟩
  replace B := B.later h
  replace R := B.rules
  simp only [Rules] at R
  clear h
  go_wp2_with fail
  refine (C1.out _).mono ?_
  rintro e' w2 ⟨rfl, h⟩
  replace B := B.later h
  replace R := B.rules
  simp only [Rules] at R
  clear h
  go_wp2_with fail
  generalize hX : World.alloc _ _ = X
  replace B := St.cast hX (B.alloc _ _)
  clear hX
  refine (C2.out _).mono ?_
  rintro e' w3 ⟨rfl, h⟩
  replace B := B.later h
  replace R := B.rules
  simp only [Rules] at R
  clear h
  go_wp2_with fail
  generalize hX : World.alloc _ _ = X
  replace B := St.cast hX (B.alloc _ _)
  clear hX
  refine (C3.out _).mono ?_
  rintro e' w4 ⟨rfl, h⟩
  replace B := B.later h
  replace R := B.rules
  simp only [Rules] at R
  clear h
  go_wp2_with fail
  generalize hX : World.alloc _ _ = X
  replace B := St.cast hX (B.alloc _ _)
  clear hX
  refine (C4.out _).mono ?_
  rintro e' w5 ⟨rfl, h⟩
  replace B := B.later h
  replace R := B.rules
  simp only [Rules] at R
  clear h
  go_wp2_with fail
  generalize hX : World.alloc _ _ = X
  replace B := St.cast hX (B.alloc _ _)
  clear hX
  refine (C5.out _).mono ?_
  rintro e' w6 ⟨rfl, h⟩
  replace B := B.later h
  replace R := B.rules
  simp only [Rules] at R
  clear h
  go_wp2_with fail
  generalize hX : World.alloc _ _ = X
  replace B := St.cast hX ((B.alloc _ _).alloc _ _)
  try simp only [World.size_alloc] at B
  clear hX
  refine (C6.out _).mono ?_
  rintro e' w7 ⟨rfl, h⟩
  replace B := B.later h
  replace R := B.rules
  simp only [Rules] at R
  clear h
  go_wp2_with fail
  generalize hX : World.alloc _ _ = X
  replace B := St.cast hX ((B.alloc _ _).alloc _ _)
  try simp only [World.size_alloc] at B
  clear hX
  replace R := B.rules
  simp only [Rules] at R
  refine wp_region_later (by kernel_rfl) (by kernel_rfl) ?_
  repeat (go_big_quiet_step ((first | (go_at_call 16; exact Later.call (valid_ret _ _ _ _ _ _)) | (go_at_call 17; exact Later.call (valid17_ret _ _ _ _ _ _)))))
  refine wpQuiet_nil ?_
  rintro _ ⟨⟨wq, hq⟩, rfl⟩
  replace B := B.later hq
  clear R
  go_wp2
  go_ret
  exact ⟨rfl, B.below⟩

set_option maxRecDepth 100000 in
theorem detectorMatchesReference_lifted (os : Os) (started : os.Started) (H : Type) (enc : TypeId × Value → H) :
    ReturnsInHanded {} Try.checked os 3 .any (Rows.detectorMatchesReferenceSpec.pre6 enc Try.prog Try.f3 Rows.detectorMatchesReferenceRow.domain false) (Rows.detectorMatchesReferenceSpec.post enc Try.prog Try.f3 false true false false) := by
  refine returnsInHanded_of_change (C := Try.checked) own started (by kernel_rfl) Try.func3
    (ChangeSpec.witness6 (enc := enc) (C := Try.checked) false ⟨#[], #[.agg #[.int .i64 0, .int .i64 0, .int .i64 0, .int .i64 0, .int .i64 0], .agg #[.int .i64 0, .int .i64 0, .int .i64 0, .int .i64 0], .agg #[.int .i64 0, .int .i64 0, .int .i64 0, .int .i64 0], .agg #[.int .i64 0, .int .i64 0, .int .i64 0, .int .i64 0], .int .i64 0, .agg #[.bool false, .bool false, .bool false, .bool false]], []⟩ 8 (by kernel_rfl) (by kernel_rfl) (by kernel_rfl) (by kernel_rfl)) ?_
  intro W base args ds gs before hval0 hW _ _
  have hval : ∀ (j : Nat) t v, Try.f3.params[j]? = some t → args[j]? = some v → Value.okWide Try.prog W .any base t v := hval0
  have hW' := hW
  obtain ⟨p, q, hA0, hV, _, _, _⟩ := hW
  have hA : DataW.TrodAll enc Try.prog W 0 (fun _ => true) true Try.f3.params.toList args.toList ds p := hA0
  rw [Try.params3] at hA hval
  obtain ⟨v0, vs0, d0, ds0, p0, q0, hargs, rfl, _, h0, r0⟩ := trodAll_cons hA
  obtain ⟨v1, vs1, d1, ds1, p1, q1, rfl, rfl, rfl, h1, r1⟩ := trodAll_cons r0
  obtain ⟨v2, vs2, d2, ds2, p2, q2, rfl, rfl, rfl, h2, r2⟩ := trodAll_cons r1
  obtain ⟨v3, vs3, d3, ds3, p3, q3, rfl, rfl, rfl, h3, r3⟩ := trodAll_cons r2
  obtain ⟨v4, vs4, d4, ds4, p4, q4, rfl, rfl, rfl, h4, r4⟩ := trodAll_cons r3
  obtain ⟨v5, vs5, d5, ds5, p5, q5, rfl, rfl, rfl, h5, r5⟩ := trodAll_cons r4
  obtain ⟨rfl, rfl, rfl⟩ := trodAll_nil r5
  obtain rfl : args = #[v0, v1, v2, v3, v4, v5] := by cases args; simp_all
  obtain ⟨rfl, rfl⟩ := trodVars_none hV
  obtain ⟨g, b, k, f, e, rfl⟩ := open23 (hval 0 23 v0 rfl rfl) h0
  obtain ⟨l0, l1, l2, l3, rfl⟩ := open25 (hval 1 25 v1 rfl rfl) h1
  obtain ⟨g0, g1, g2, g3, rfl⟩ := open25 (hval 2 25 v2 rfl rfl) h2
  obtain ⟨x0, x1, x2, x3, rfl⟩ := open25 (hval 3 25 v3 rfl rfl) h3
  obtain ⟨off, rfl⟩ := open3 (hval 4 3 v4 rfl rfl) h4
  obtain ⟨m0, m1, m2, m3, rfl⟩ := open27 (hval 5 27 v5 rfl rfl) h5
  exact law_post (f := 3) laidOut (by kernel_rfl) rfl Try.underlying4 rfl hW' rfl (matches_walk g b k f e l0 l1 l2 l3 g0 g1 g2 g3 x0 x1 x2 x3 off m0 m1 m2 m3 W)

/-- The statement. -/
theorem detectorMatchesReference_holds : Rows.DetectorMatchesReferenceSaid :=
  OpenClaim.holds_of_wide 3 Try.f3 rfl rfl rfl rfl rfl rfl rfl ⟨rfl, rfl, rfl, rfl, rfl⟩ rfl rfl rfl rfl rfl (by kernel_rfl) Try.func3 (by kernel_rfl)
    (of_decide_eq_true (by kernel_rfl)) (by unfold Func.isWrapper; rw [if_neg (of_decide_eq_false (by kernel_rfl))]; exact ⟨rfl, rfl⟩)
    (fun os started H enc _ => detectorMatchesReference_lifted os started H enc)

#print axioms detectorMatchesReference_holds

end Go.Proofs.Yteghionkljbggaa
