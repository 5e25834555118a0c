/-
  DetectorResults: for every detector, light, ghost, offset and bad cells the law returns true. No conditions.
-/
import Derived.Test.YteghionkljbggaaDetI
import Derived.Test.YteghionkljbggaaDetP
import Derived.Test.YteghionkljbggaaLaw
namespace Go.Proofs.Yteghionkljbggaa
open Go.ChangeShapes Go.WideShapes Go.ChangeAt Go.RowKit

set_option maxRecDepth 100000 in
set_option maxHeartbeats 8000000 in
theorem results_no (g b k f e l0 l1 l2 l3 h0 h1 h2 h3 off : Int) (m0 m1 m2 m3 : Bool) (hno : expoOk g b k f e l0 l1 l2 l3 h0 h1 h2 h3 off = false) (w : World) :
    Calls Try.prog 4 #[.agg #[.int .i64 g, .int .i64 b, .int .i64 k, .int .i64 f, .int .i64 e], .agg #[.int .i64 l0, .int .i64 l1, .int .i64 l2, .int .i64 l3], .agg #[.int .i64 h0, .int .i64 h1, .int .i64 h2, .int .i64 h3],
      .int .i64 off, .agg #[.bool m0, .bool m1, .bool m2, .bool m3]] w (Ret (.bool true) w) := by
  have C1 := Lib.hid (fun W => expo_no hno ▸ expose_any g b k f e l0 l1 l2 l3 h0 h1 h2 h3 off m0 m1 m2 m3 W)
  clear hno
  go_enter Try.func4, Try.ntmps4
  have B := St.start w
  have R := B.rules
  go_wp2_with fail
  generalize hX : World.alloc _ _ = X
  replace B := St.cast hX ((((B.alloc _ _).alloc _ _).alloc _ _).alloc _ _)
  try simp only [World.size_alloc] at B
  clear hX
  refine (head_any _).mono ?_
  rintro e' w1 ⟨rfl, h⟩
  replace B := B.later h
  replace R := B.rules
  simp only [Rules] at R
  clear h
  go_wp2_with fail
  refine (C1.out _).mono ?_
  rintro e' w2 ⟨rfl, h⟩
  replace B := B.later h
  replace R := B.rules
  simp only [Rules] at R
  clear h
  go_wp2
  go_ret
  exact ⟨rfl, (B.alloc _ _).below⟩

set_option maxRecDepth 100000 in
set_option maxHeartbeats 8000000 in
theorem results_yes (g b k f e l0 l1 l2 l3 h0 h1 h2 h3 off : Int) (m0 m1 m2 m3 : Bool) (hok : expoOk g b k f e l0 l1 l2 l3 h0 h1 h2 h3 off = true) (w : World) :
    Calls Try.prog 4 #[.agg #[.int .i64 g, .int .i64 b, .int .i64 k, .int .i64 f, .int .i64 e], .agg #[.int .i64 l0, .int .i64 l1, .int .i64 l2, .int .i64 l3], .agg #[.int .i64 h0, .int .i64 h1, .int .i64 h2, .int .i64 h3],
      .int .i64 off, .agg #[.bool m0, .bool m1, .bool m2, .bool m3]] w (Ret (.bool true) w) := by
  obtain ⟨hv, hl, hh, ho⟩ := ok_parts hok
  obtain ⟨hf1, hf2⟩ := (valid_bounds hv).2.2.2.1
  obtain ⟨a0, ha0, F0⟩ := res_cell l0 h0 m0 off hv
  obtain ⟨a1, ha1, F1⟩ := res_cell l1 h1 m1 off hv
  obtain ⟨a2, ha2, F2⟩ := res_cell l2 h2 m2 off hv
  obtain ⟨a3, ha3, F3⟩ := res_cell l3 h3 m3 off hv
  have hraw : rawB g b k f e a0 a1 a2 a3 = true := by simp [rawB, hv, allB, inB, F0.r0, F0.rf, F1.r0, F1.rf, F2.r0, F2.rf, F3.r0, F3.rf]
  have hx : allB 1000000 (ghostC f e a0) (ghostC f e a1) (ghostC f e a2) (ghostC f e a3) = true := by simp [allB, inB, F0.x0, F0.x1, F1.x0, F1.x1, F2.x0, F2.x1, F3.x0, F3.x1]
  have hok2 : expoOk g b k f e (ghostC f e a0) (ghostC f e a1) (ghostC f e a2) (ghostC f e a3) (ghostC f e a0) (ghostC f e a1) (ghostC f e a2) (ghostC f e a3) 0 = true := by simp [expoOk, hv, hx, inB]
  have C1 := Lib.hid (fun W => (expo_yes (m0 := m0) (m1 := m1) (m2 := m2) (m3 := m3) hok ha0 ha1 ha2 ha3) ▸ expose_any g b k f e l0 l1 l2 l3 h0 h1 h2 h3 off m0 m1 m2 m3 W)
  have C2 := Lib.hid (fun W => ghost_yes hraw ▸ ghost_any g b k f e a0 a1 a2 a3 W)
  have C3 := Lib.hid (fun W => reduce_yes (m0 := m0) (m1 := m1) (m2 := m2) (m3 := m3) hraw ▸ reduce_any g b k f e a0 a1 a2 a3 m0 m1 m2 m3 W)
  have C4 := Lib.hid (fun W => expo_yes (m0 := m0) (m1 := m1) (m2 := m2) (m3 := m3) hok2 rfl rfl rfl rfl ▸ expose_any g b k f e (ghostC f e a0) (ghostC f e a1) (ghostC f e a2) (ghostC f e a3) (ghostC f e a0) (ghostC f e a1) (ghostC f e a2) (ghostC f e a3) 0 m0 m1 m2 m3 W)
  have FF := Lib.hid (fun i hi => four_facts F0 F1 F2 F3 i hi)
  clear hok hv hl hh ho ha0 ha1 ha2 ha3 F0 F1 F2 F3 hraw hx hok2
  generalize ghostC f e a0 = x0 at *
  generalize ghostC f e a1 = x1 at *
  generalize ghostC f e a2 = x2 at *
  generalize ghostC f e a3 = x3 at *
  generalize redC g b k a0 (okC f a0 m0) = y0 at *
  generalize redC g b k a1 (okC f a1 m1) = y1 at *
  generalize redC g b k a2 (okC f a2 m2) = y2 at *
  generalize redC g b k a3 (okC f a3 m3) = y3 at *
  generalize okC f a0 m0 = v0 at *
  generalize okC f a1 m1 = v1 at *
  generalize okC f a2 m2 = v2 at *
  generalize okC f a3 m3 = v3 at *
  generalize expoC g b k f 0 x0 x0 m0 = z0 at *
  generalize expoC g b k f 0 x1 x1 m1 = z1 at *
  generalize expoC g b k f 0 x2 x2 m2 = z2 at *
  generalize expoC g b k f 0 x3 x3 m3 = z3 at *
  go_enter Try.func4, Try.ntmps4
  have B := St.start w
  have R := B.rules
  go_wp2_with fail
  generalize hX : World.alloc _ _ = X
  replace B := St.cast hX ((((B.alloc _ _).alloc _ _).alloc _ _).alloc _ _)
  try simp only [World.size_alloc] at B
  clear hX
  refine (head_any _).mono ?_
  rintro e' w1 ⟨rfl, h⟩
  replace B := B.later h
  replace R := B.rules
  simp only [Rules] at R
  clear h
  go_wp2_with fail
  refine (C1.out _).mono ?_
  rintro e' w2 ⟨rfl, h⟩
  replace B := B.later h
  replace R := B.rules
  simp only [Rules] at R
  clear h
  go_wp2_with fail
  generalize hX : World.alloc _ _ = X
  replace B := St.cast hX (B.alloc _ _)
  clear hX
  refine (C2.out _).mono ?_
  rintro e' w3 ⟨rfl, h⟩
  replace B := B.later h
  replace R := B.rules
  simp only [Rules] at R
  clear h
  go_wp2_with fail
  generalize hX : World.alloc _ _ = X
  replace B := St.cast hX (B.alloc _ _)
  clear hX
  refine (C3.out _).mono ?_
  rintro e' w4 ⟨rfl, h⟩
  replace B := B.later h
  replace R := B.rules
  simp only [Rules] at R
  clear h
  go_wp2_with fail
  generalize hX : World.alloc _ _ = X
  replace B := St.cast hX ((B.alloc _ _).alloc _ _)
  try simp only [World.size_alloc] at B
  clear hX
  replace R := B.rules
  simp only [Rules] at R
  go_loopw [19] (LoopAt X) (fun v _ => 4 - (intOf v).toNat)
  case atStart => exact ⟨0, by omega, rfl, Below.refl _ _⟩
  case round =>
    obtain ⟨n, hn, rfl, hb⟩ := hrel
    replace B := B.later hb
    replace R := B.rules
    simp only [Rules] at R
    by_cases hlt : n < 4
    · obtain ⟨⟨rv, _, sv⟩, ⟨ry, _, sy⟩, ⟨rx, _, sx⟩, ⟨ra, _, sa⟩, ⟨rm, _, sm⟩, ⟨rh, _, sh⟩, ⟨rl, _, sl⟩, ⟨rd, _, sd⟩, _⟩ := R
      have cv := cellBG rv hlt
      have cy := cellG ry hlt
      have cx := cellG rx hlt
      have ca := cellG ra hlt
      have cm := cellBG rm hlt
      obtain ⟨qa0, qa1, qm, qx0, qx1, qy0, qy1, qv⟩ := FF.out n hlt
      have d3 := rd 3
      simp at d3
      have hn1 : (0 : Int) ≤ (n : Int) := by omega
      have hn2 : (n : Int) < 4 := by omega
      clear rv ry rx ra rm rl rh rd FF
      generalize fourG a0 a1 a2 a3 n = a at *
      generalize fourG x0 x1 x2 x3 n = x at *
      generalize fourG y0 y1 y2 y3 n = y at *
      generalize fourBG m0 m1 m2 m3 n = m at *
      generalize fourBG v0 v1 v2 v3 n = v at *
      have t1 : decide (a < 0) = false := by simp; omega
      have t2 : decide (f < a) = false := by simp; omega
      have t3 : decide (x < 0) = false := by simp; omega
      have t4 : decide (1000000 < x) = false := by simp; omega
      have t5 : decide (y < 0) = false := by simp; omega
      have t6 : decide (1000 * f < y) = false := by simp; omega
      cases m with
      | true =>
        obtain ⟨rfl, rfl⟩ := qm rfl
        obtain rfl := qv rfl
        clear qm qv
        go_wp2_with fail
        refine wp_region_later (by kernel_rfl) (by kernel_rfl) ?_
        simp only [List.append]
        repeat (go_big_quiet_step (fail))
        refine wpQuiet_nil ?_
        rintro _ ⟨⟨wq, hq⟩, rfl⟩
        go_wp2
        exact ⟨⟨n + 1, by omega, by go_num, below_step hb (Nat.le_refl _) hq⟩, by simp [intOf]; omega⟩
      | false =>
        cases v with
        | true =>
          clear qm qv
          go_wp2_with fail
          refine wp_region_later (by kernel_rfl) (by kernel_rfl) ?_
          simp only [List.append]
          repeat (go_big_quiet_step (fail))
          refine wpQuiet_nil ?_
          rintro _ ⟨⟨wq, hq⟩, rfl⟩
          go_wp2
          exact ⟨⟨n + 1, by omega, by go_num, below_step hb (Nat.le_refl _) hq⟩, by simp [intOf]; omega⟩
        | false =>
          obtain rfl := qv rfl
          clear qm qv
          go_wp2_with fail
          refine wp_region_later (by kernel_rfl) (by kernel_rfl) ?_
          simp only [List.append]
          repeat (go_big_quiet_step (fail))
          refine wpQuiet_nil ?_
          rintro _ ⟨⟨wq, hq⟩, rfl⟩
          go_wp2
          exact ⟨⟨n + 1, by omega, by go_num, below_step hb (Nat.le_refl _) hq⟩, by simp [intOf]; omega⟩
    · obtain rfl : n = 4 := by omega
      go_wp2_with fail
      refine (C4.out _).mono ?_
      rintro e' w6 ⟨rfl, h⟩
      replace B := B.later h
      clear R h
      go_wp2
      go_ret
      exact ⟨rfl, (B.alloc _ _).below⟩

theorem results_walk (g b k f e l0 l1 l2 l3 h0 h1 h2 h3 off : Int) (m0 m1 m2 m3 : Bool) (w : World) :
    Calls Try.prog 4 #[.agg #[.int .i64 g, .int .i64 b, .int .i64 k, .int .i64 f, .int .i64 e], .agg #[.int .i64 l0, .int .i64 l1, .int .i64 l2, .int .i64 l3], .agg #[.int .i64 h0, .int .i64 h1, .int .i64 h2, .int .i64 h3],
      .int .i64 off, .agg #[.bool m0, .bool m1, .bool m2, .bool m3]] w (Ret (.bool true) w) := by
  cases h : expoOk g b k f e l0 l1 l2 l3 h0 h1 h2 h3 off with
  | true => exact results_yes g b k f e l0 l1 l2 l3 h0 h1 h2 h3 off m0 m1 m2 m3 h w
  | false => exact results_no g b k f e l0 l1 l2 l3 h0 h1 h2 h3 off m0 m1 m2 m3 h w

set_option maxRecDepth 100000 in
theorem detectorResults_lifted (os : Os) (started : os.Started) (H : Type) (enc : TypeId × Value → H) :
    ReturnsInHanded {} Try.checked os 4 .any (Rows.detectorResultsSpec.pre6 enc Try.prog Try.f4 Rows.detectorResultsRow.domain false) (Rows.detectorResultsSpec.post enc Try.prog Try.f4 false true false false) := by
  refine returnsInHanded_of_change (C := Try.checked) own started (by kernel_rfl) Try.func4
    (ChangeSpec.witness6 (enc := enc) (C := Try.checked) false ⟨#[], #[.agg #[.int .i64 0, .int .i64 0, .int .i64 0, .int .i64 0, .int .i64 0], .agg #[.int .i64 0, .int .i64 0, .int .i64 0, .int .i64 0], .agg #[.int .i64 0, .int .i64 0, .int .i64 0, .int .i64 0], .int .i64 0, .agg #[.bool false, .bool false, .bool false, .bool false]], []⟩ 8 (by kernel_rfl) (by kernel_rfl) (by kernel_rfl) (by kernel_rfl)) ?_
  intro W base args ds gs before hval0 hW _ _
  have hval : ∀ (j : Nat) t v, Try.f4.params[j]? = some t → args[j]? = some v → Value.okWide Try.prog W .any base t v := hval0
  have hW' := hW
  obtain ⟨p, q, hA0, hV, _, _, _⟩ := hW
  have hA : DataW.TrodAll enc Try.prog W 0 (fun _ => true) true Try.f4.params.toList args.toList ds p := hA0
  rw [Try.params4] at hA hval
  obtain ⟨v0, vs0, d0, ds0, p0, q0, hargs, rfl, _, h0, r0⟩ := trodAll_cons hA
  obtain ⟨v1, vs1, d1, ds1, p1, q1, rfl, rfl, rfl, h1, r1⟩ := trodAll_cons r0
  obtain ⟨v2, vs2, d2, ds2, p2, q2, rfl, rfl, rfl, h2, r2⟩ := trodAll_cons r1
  obtain ⟨v3, vs3, d3, ds3, p3, q3, rfl, rfl, rfl, h3, r3⟩ := trodAll_cons r2
  obtain ⟨v4, vs4, d4, ds4, p4, q4, rfl, rfl, rfl, h4, r4⟩ := trodAll_cons r3
  obtain ⟨rfl, rfl, rfl⟩ := trodAll_nil r4
  obtain rfl : args = #[v0, v1, v2, v3, v4] := by cases args; simp_all
  obtain ⟨rfl, rfl⟩ := trodVars_none hV
  obtain ⟨g, b, k, f, e, rfl⟩ := open23 (hval 0 23 v0 rfl rfl) h0
  obtain ⟨l0, l1, l2, l3, rfl⟩ := open25 (hval 1 25 v1 rfl rfl) h1
  obtain ⟨x0, x1, x2, x3, rfl⟩ := open25 (hval 2 25 v2 rfl rfl) h2
  obtain ⟨off, rfl⟩ := open3 (hval 3 3 v3 rfl rfl) h3
  obtain ⟨m0, m1, m2, m3, rfl⟩ := open27 (hval 4 27 v4 rfl rfl) h4
  exact law_post (f := 4) laidOut (by kernel_rfl) rfl Try.underlying4 rfl hW' rfl (results_walk g b k f e l0 l1 l2 l3 x0 x1 x2 x3 off m0 m1 m2 m3 W)

/-- The statement. -/
theorem detectorResults_holds : Rows.DetectorResultsSaid :=
  OpenClaim.holds_of_wide 4 Try.f4 rfl rfl rfl rfl rfl rfl rfl ⟨rfl, rfl, rfl, rfl, rfl⟩ rfl rfl rfl rfl rfl (by kernel_rfl) Try.func4 (by kernel_rfl)
    (of_decide_eq_true (by kernel_rfl)) (by unfold Func.isWrapper; rw [if_neg (of_decide_eq_false (by kernel_rfl))]; exact ⟨rfl, rfl⟩)
    (fun os started H enc _ => detectorResults_lifted os started H enc)

#print axioms detectorResults_holds

end Go.Proofs.Yteghionkljbggaa
