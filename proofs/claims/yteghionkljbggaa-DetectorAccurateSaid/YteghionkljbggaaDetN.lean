/-
  DetectorAccurate: for every detector, light and bad cells the law returns true. No conditions.
-/
import Derived.Test.YteghionkljbggaaDetI
import Derived.Test.YteghionkljbggaaDetP
import Derived.Test.YteghionkljbggaaLaw
namespace Go.Proofs.Yteghionkljbggaa
open Go.ChangeShapes Go.WideShapes Go.ChangeAt Go.RowKit

/-- What is known of one cell behind Expose without ghost and Reduce. -/
structure AccFacts (g f l a y : Int) (m v : Bool) : Prop where
  l0 : 0 ≤ l
  l1 : l ≤ 1000000
  a0 : 0 ≤ a
  a1 : a ≤ f
  y0 : 0 ≤ y
  y1 : y ≤ 65535000
  hv : v = okC f a m
  hy : v = true → y ≤ l ∧ (l - y - 1) * g < 1000

theorem acc_cell {g b k f e l : Int} (m : Bool) (hv : validB g b k f e = true) (hl0 : 0 ≤ l) (hl1 : l ≤ 1000000) :
    ∃ a, expoC g b k f 0 l 0 m = a ∧ 0 ≤ a ∧ a ≤ f ∧ AccFacts g f l a (redC g b k a (okC f a m)) m (okC f a m) := by
  obtain ⟨⟨g1, g2⟩, ⟨b1, b2⟩, ⟨k1, k2⟩, ⟨f1, f2⟩, ⟨e1, e2⟩⟩ := valid_bounds hv
  refine ⟨_, rfl, ?_⟩
  have h0 : 0 ≤ expoC g b k f 0 l 0 m := by simp only [expoC, clip]; omega
  have h1 : expoC g b k f 0 l 0 m ≤ f := by simp only [expoC, clip]; omega
  have hm1 : 0 ≤ l * g := Int.mul_nonneg hl0 (by omega)
  have h2 : m = false → expoC g b k f 0 l 0 m < f → expoC g b k f 0 l 0 m = b + k + l * g / 1000 := fun e => by
    subst e; simp only [expoC, clip, expo, Bool.false_eq_true, if_false, Int.add_zero]; omega
  generalize expoC g b k f 0 l 0 m = a at *
  have hy := red_le (v := okC f a m) g1 b1 k1 h1 (by omega)
  refine ⟨h0, h1, hl0, hl1, h0, h1, hy.1, by omega, rfl, fun hok => ?_⟩
  have hm : m = false := by cases m <;> simp_all [okC]
  have hlt : a < f := by simpa [okC, hm] using hok
  have ha := h2 hm hlt
  rw [hok]
  simp only [redC, if_pos]
  rw [show max 0 (a - b - k) = l * g / 1000 by omega]
  have t1 := Int.mul_ediv_add_emod (l * g) 1000
  have t2 := Int.emod_nonneg (l * g) (show (1000 : Int) ≠ 0 by omega)
  have t3 := Int.emod_lt_of_pos (l * g) (show (0 : Int) < 1000 by omega)
  generalize hT : l * g / 1000 * 1000 = T
  have hT1 : T ≤ l * g := by omega
  have hT2 : l * g < T + 1000 := by omega
  have hTg := Int.mul_ediv_add_emod T g
  have s2 := Int.emod_nonneg T (show g ≠ 0 by omega)
  have s3 := Int.emod_lt_of_pos T (show 0 < g by omega)
  generalize T / g = y at *
  constructor
  · have : y * g ≤ l * g := by rw [Int.mul_comm y g]; omega
    exact Int.le_of_mul_le_mul_right this (by omega)
  · rw [Int.sub_mul, Int.sub_mul, Int.one_mul, Int.mul_comm y g]
    omega

theorem acc_four {g f l0 l1 l2 l3 a0 a1 a2 a3 y0 y1 y2 y3 : Int} {m0 m1 m2 m3 v0 v1 v2 v3 : Bool} (F0 : AccFacts g f l0 a0 y0 m0 v0) (F1 : AccFacts g f l1 a1 y1 m1 v1) (F2 : AccFacts g f l2 a2 y2 m2 v2) (F3 : AccFacts g f l3 a3 y3 m3 v3) (i : Nat) (hi : i < 4) :
    AccFacts g f (fourG l0 l1 l2 l3 i) (fourG a0 a1 a2 a3 i) (fourG y0 y1 y2 y3 i) (fourBG m0 m1 m2 m3 i) (fourBG v0 v1 v2 v3 i) := by
  have h4 : i = 0 ∨ i = 1 ∨ i = 2 ∨ i = 3 := by omega
  rcases h4 with rfl | rfl | rfl | rfl
  · exact F0
  · exact F1
  · exact F2
  · exact F3

set_option maxRecDepth 100000 in
set_option maxHeartbeats 8000000 in
theorem accurate_no (g b k f e l0 l1 l2 l3 : Int) (m0 m1 m2 m3 : Bool) (hno : expoOk g b k f e l0 l1 l2 l3 0 0 0 0 0 = false) (w : World) :
    Calls Try.prog 7 #[.agg #[.int .i64 g, .int .i64 b, .int .i64 k, .int .i64 f, .int .i64 e], .agg #[.int .i64 l0, .int .i64 l1, .int .i64 l2, .int .i64 l3], .agg #[.bool m0, .bool m1, .bool m2, .bool m3]] w (Ret (.bool true) w) := by
  have C1 := Lib.hid (fun W => expo_no hno ▸ expose_any g b k f e l0 l1 l2 l3 0 0 0 0 0 m0 m1 m2 m3 W)
  clear hno
  go_enter Try.func7, Try.ntmps7
  have B := St.start w
  have R := B.rules
  go_wp2_with fail
  generalize hX : World.alloc _ _ = X
  replace B := St.cast hX (((B.alloc _ _).alloc _ _).alloc _ _)
  try simp only [World.size_alloc] at B
  clear hX
  refine (head_any _).mono ?_
  rintro e' w1 ⟨rfl, h⟩
  replace B := B.later h
  replace R := B.rules
  simp only [Rules] at R
  clear h
  go_wp2_with fail
  refine (C1.out _).mono ?_
  rintro e' w2 ⟨rfl, h⟩
  replace B := B.later h
  replace R := B.rules
  simp only [Rules] at R
  clear h
  go_wp2
  go_ret
  exact ⟨rfl, (B.alloc _ _).below⟩

set_option maxRecDepth 100000 in
set_option maxHeartbeats 8000000 in
theorem accurate_yes (g b k f e l0 l1 l2 l3 : Int) (m0 m1 m2 m3 : Bool) (hok : expoOk g b k f e l0 l1 l2 l3 0 0 0 0 0 = true) (w : World) :
    Calls Try.prog 7 #[.agg #[.int .i64 g, .int .i64 b, .int .i64 k, .int .i64 f, .int .i64 e], .agg #[.int .i64 l0, .int .i64 l1, .int .i64 l2, .int .i64 l3], .agg #[.bool m0, .bool m1, .bool m2, .bool m3]] w (Ret (.bool true) w) := by
  obtain ⟨hv, hl, hh, ho⟩ := ok_parts hok
  obtain ⟨bl0, bl1, bl2, bl3⟩ := all_bounds hl
  have hf := (valid_bounds hv).2.2.2.1
  have hg := (valid_bounds hv).1
  obtain ⟨a0, ha0, u0, u0', F0⟩ := acc_cell (l := l0) m0 hv bl0.1 bl0.2
  obtain ⟨a1, ha1, u1, u1', F1⟩ := acc_cell (l := l1) m1 hv bl1.1 bl1.2
  obtain ⟨a2, ha2, u2, u2', F2⟩ := acc_cell (l := l2) m2 hv bl2.1 bl2.2
  obtain ⟨a3, ha3, u3, u3', F3⟩ := acc_cell (l := l3) m3 hv bl3.1 bl3.2
  have hraw : rawB g b k f e a0 a1 a2 a3 = true := by simp [rawB, hv, allB, inB, u0, u0', u1, u1', u2, u2', u3, u3']
  have C1 := Lib.hid (fun W => (expo_yes (m0 := m0) (m1 := m1) (m2 := m2) (m3 := m3) hok ha0 ha1 ha2 ha3) ▸ expose_any g b k f e l0 l1 l2 l3 0 0 0 0 0 m0 m1 m2 m3 W)
  have C3 := Lib.hid (fun W => reduce_yes (m0 := m0) (m1 := m1) (m2 := m2) (m3 := m3) hraw ▸ reduce_any g b k f e a0 a1 a2 a3 m0 m1 m2 m3 W)
  have FF := Lib.hid (fun i hi => acc_four F0 F1 F2 F3 i hi)
  clear hok hv hl hh ho ha0 ha1 ha2 ha3 F0 F1 F2 F3 hraw u0 u0' u1 u1' u2 u2' u3 u3' bl0 bl1 bl2 bl3
  generalize redC g b k a0 (okC f a0 m0) = y0 at *
  generalize okC f a0 m0 = v0 at *
  generalize redC g b k a1 (okC f a1 m1) = y1 at *
  generalize okC f a1 m1 = v1 at *
  generalize redC g b k a2 (okC f a2 m2) = y2 at *
  generalize okC f a2 m2 = v2 at *
  generalize redC g b k a3 (okC f a3 m3) = y3 at *
  generalize okC f a3 m3 = v3 at *
  obtain ⟨hg1, hg2⟩ := hg
  obtain ⟨hf1, hf2⟩ := hf
  go_enter Try.func7, Try.ntmps7
  have B := St.start w
  have R := B.rules
  go_wp2_with fail
  generalize hX : World.alloc _ _ = X
  replace B := St.cast hX (((B.alloc _ _).alloc _ _).alloc _ _)
  try simp only [World.size_alloc] at B
  clear hX
  refine (head_any _).mono ?_
  rintro e' w1 ⟨rfl, h⟩
  replace B := B.later h
  replace R := B.rules
  simp only [Rules] at R
  clear h
  go_wp2_with fail
  refine (C1.out _).mono ?_
  rintro e' w2 ⟨rfl, h⟩
  replace B := B.later h
  replace R := B.rules
  simp only [Rules] at R
  clear h
  go_wp2_with fail
  generalize hX : World.alloc _ _ = X
  replace B := St.cast hX (B.alloc _ _)
  clear hX
  refine (C3.out _).mono ?_
  rintro e' w3 ⟨rfl, h⟩
  replace B := B.later h
  replace R := B.rules
  simp only [Rules] at R
  clear h
  go_wp2_with fail
  generalize hX : World.alloc _ _ = X
  replace B := St.cast hX ((B.alloc _ _).alloc _ _)
  try simp only [World.size_alloc] at B
  clear hX
  clear R
  go_loopw [13] (LoopAt X) (fun v _ => 4 - (intOf v).toNat)
  case atStart => exact ⟨0, by omega, rfl, Below.refl _ _⟩
  case round =>
    obtain ⟨n, hn, rfl, hb⟩ := hrel
    replace B := B.later hb
    have R := B.rules
    simp only [Rules] at R
    by_cases hlt : n < 4
    · obtain ⟨⟨rv, _, sv⟩, ⟨ry, _, sy⟩, ⟨ra, _, sa⟩, ⟨rm, _, sm⟩, ⟨rl, _, sl⟩, ⟨rd, _, sd⟩, _⟩ := R
      have cv := cellBG rv hlt
      have cy := cellG ry hlt
      have ca := cellG ra hlt
      have cm := cellBG rm hlt
      have cl := cellG rl hlt
      obtain ⟨ql0, ql1, qa0, qa1, qy0, qy1, qv, qy⟩ := FF.out n hlt
      have d0 := rd 0
      have d3 := rd 3
      simp at d0 d3
      have hn1 : (0 : Int) ≤ (n : Int) := by omega
      have hn2 : (n : Int) < 4 := by omega
      clear rv ry ra rm rl rd FF
      generalize fourG l0 l1 l2 l3 n = l at *
      generalize fourG a0 a1 a2 a3 n = a at *
      generalize fourG y0 y1 y2 y3 n = y at *
      generalize fourBG m0 m1 m2 m3 n = m at *
      generalize fourBG v0 v1 v2 v3 n = v at *
      cases m with
      | true =>
        obtain rfl : v = false := by simpa [okC] using qv
        clear qv qy
        go_wp2_with fail
        refine wp_region_later (by kernel_rfl) (by kernel_rfl) ?_
        repeat (go_big_quiet_step (fail))
        refine wpQuiet_nil ?_
        rintro _ ⟨⟨wq, hq⟩, rfl⟩
        go_wp2
        exact ⟨⟨n + 1, by omega, by go_num, below_step hb (Nat.le_refl _) hq⟩, by simp [intOf]; omega⟩
      | false =>
        by_cases haf : a < f
        · obtain rfl : v = true := by simpa [okC, haf] using qv
          obtain ⟨z1, z2⟩ := qy rfl
          have z3 : -65535001 * 10000 ≤ (l - y - 1) * g := by
            have w1 : (-65535001) * g ≤ (l - y - 1) * g := Int.mul_le_mul_of_nonneg_right (by omega) (by omega)
            have w2 : (-65535001) * 10000 ≤ (-65535001) * g := by omega
            omega
          have hd1 : decide (l < y) = false := by simp; omega
          have hd2 : decide (1000 ≤ (l - y - 1) * g) = false := by simp; omega
          clear qv qy
          go_wp2_with fail
          refine wp_region_later (by kernel_rfl) (by kernel_rfl) ?_
          repeat (go_big_quiet_step (fail))
          refine wpQuiet_nil ?_
          rintro _ ⟨⟨wq, hq⟩, rfl⟩
          go_wp2
          exact ⟨⟨n + 1, by omega, by go_num, below_step hb (Nat.le_refl _) hq⟩, by simp [intOf]; omega⟩
        · obtain rfl : v = false := by simpa [okC, haf] using qv
          have hd1 : decide (a < f) = false := by simp; omega
          clear qv qy
          go_wp2_with fail
          refine wp_region_later (by kernel_rfl) (by kernel_rfl) ?_
          repeat (go_big_quiet_step (fail))
          refine wpQuiet_nil ?_
          rintro _ ⟨⟨wq, hq⟩, rfl⟩
          go_wp2
          exact ⟨⟨n + 1, by omega, by go_num, below_step hb (Nat.le_refl _) hq⟩, by simp [intOf]; omega⟩
    · obtain rfl : n = 4 := by omega
      clear R
      go_wp2
      go_ret
      exact ⟨rfl, B.below⟩

theorem accurate_walk (g b k f e l0 l1 l2 l3 : Int) (m0 m1 m2 m3 : Bool) (w : World) :
    Calls Try.prog 7 #[.agg #[.int .i64 g, .int .i64 b, .int .i64 k, .int .i64 f, .int .i64 e], .agg #[.int .i64 l0, .int .i64 l1, .int .i64 l2, .int .i64 l3], .agg #[.bool m0, .bool m1, .bool m2, .bool m3]] w (Ret (.bool true) w) := by
  cases h : expoOk g b k f e l0 l1 l2 l3 0 0 0 0 0 with
  | true => exact accurate_yes g b k f e l0 l1 l2 l3 m0 m1 m2 m3 h w
  | false => exact accurate_no g b k f e l0 l1 l2 l3 m0 m1 m2 m3 h w

set_option maxRecDepth 100000 in
theorem detectorAccurate_lifted (os : Os) (started : os.Started) (H : Type) (enc : TypeId × Value → H) :
    ReturnsInHanded {} Try.checked os 7 .any (Rows.detectorAccurateSpec.pre6 enc Try.prog Try.f7 Rows.detectorAccurateRow.domain false) (Rows.detectorAccurateSpec.post enc Try.prog Try.f7 false true false false) := by
  refine returnsInHanded_of_change (C := Try.checked) own started (by kernel_rfl) Try.func7
    (ChangeSpec.witness6 (enc := enc) (C := Try.checked) false ⟨#[], #[.agg #[.int .i64 0, .int .i64 0, .int .i64 0, .int .i64 0, .int .i64 0], .agg #[.int .i64 0, .int .i64 0, .int .i64 0, .int .i64 0], .agg #[.bool false, .bool false, .bool false, .bool false]], []⟩ 8 (by kernel_rfl) (by kernel_rfl) (by kernel_rfl) (by kernel_rfl)) ?_
  intro W base args ds gs before hval0 hW _ _
  have hval : ∀ (j : Nat) t v, Try.f7.params[j]? = some t → args[j]? = some v → Value.okWide Try.prog W .any base t v := hval0
  have hW' := hW
  obtain ⟨p, q, hA0, hV, _, _, _⟩ := hW
  have hA : DataW.TrodAll enc Try.prog W 0 (fun _ => true) true Try.f7.params.toList args.toList ds p := hA0
  rw [Try.params7] at hA hval
  obtain ⟨v0, vs0, d0, ds0, p0, q0, hargs, rfl, _, h0, r0⟩ := trodAll_cons hA
  obtain ⟨v1, vs1, d1, ds1, p1, q1, rfl, rfl, rfl, h1, r1⟩ := trodAll_cons r0
  obtain ⟨v2, vs2, d2, ds2, p2, q2, rfl, rfl, rfl, h2, r2⟩ := trodAll_cons r1
  obtain ⟨rfl, rfl, rfl⟩ := trodAll_nil r2
  obtain rfl : args = #[v0, v1, v2] := by cases args; simp_all
  obtain ⟨rfl, rfl⟩ := trodVars_none hV
  obtain ⟨g, b, k, f, e, rfl⟩ := open23 (hval 0 23 v0 rfl rfl) h0
  obtain ⟨l0, l1, l2, l3, rfl⟩ := open25 (hval 1 25 v1 rfl rfl) h1
  obtain ⟨m0, m1, m2, m3, rfl⟩ := open27 (hval 2 27 v2 rfl rfl) h2
  exact law_post (f := 7) laidOut (by kernel_rfl) rfl Try.underlying4 rfl hW' rfl (accurate_walk g b k f e l0 l1 l2 l3 m0 m1 m2 m3 W)

/-- The statement. -/
theorem detectorAccurate_holds : Rows.DetectorAccurateSaid :=
  OpenClaim.holds_of_wide 7 Try.f7 rfl rfl rfl rfl rfl rfl rfl ⟨rfl, rfl, rfl, rfl, rfl⟩ rfl rfl rfl rfl rfl (by kernel_rfl) Try.func7 (by kernel_rfl)
    (of_decide_eq_true (by kernel_rfl)) (by unfold Func.isWrapper; rw [if_neg (of_decide_eq_false (by kernel_rfl))]; exact ⟨rfl, rfl⟩)
    (fun os started H enc _ => detectorAccurate_lifted os started H enc)

#print axioms detectorAccurate_holds

end Go.Proofs.Yteghionkljbggaa
