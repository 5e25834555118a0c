/-
  DetectorSaturates: for every detector, light, ghost and offset the law returns true. No conditions.
-/
import Derived.Test.YteghionkljbggaaDetI
import Derived.Test.YteghionkljbggaaDetP
import Derived.Test.YteghionkljbggaaDetS
import Derived.Test.YteghionkljbggaaDetT
import Derived.Test.YteghionkljbggaaLaw
namespace Go.Proofs.Yteghionkljbggaa
open Go.ChangeShapes Go.WideShapes Go.ChangeAt Go.RowKit

theorem ok_comm (g b k f e l0 l1 l2 l3 h0 h1 h2 h3 off : Int) : expoOk g b k f e h0 h1 h2 h3 l0 l1 l2 l3 off = expoOk g b k f e l0 l1 l2 l3 h0 h1 h2 h3 off := by
  simp only [expoOk]
  cases allB 1000000 l0 l1 l2 l3 <;> cases allB 1000000 h0 h1 h2 h3 <;> simp

theorem expoC_comm (g b k f off l h : Int) : expoC g b k f off h l false = expoC g b k f off l h false := by
  simp only [expoC, expo, Int.add_comm h l]

theorem valid_zero {g b k f e : Int} (h : validB g b k f e = true) : validB g b k f 0 = true := by
  simp only [validB, Bool.and_eq_true] at h ⊢
  exact ⟨h.1, by simp [inB]⟩

theorem ghost_zero (f a : Int) : ghostC f 0 a = 0 := by
  simp [ghostC]

structure SatFacts (f a : Int) (v : Bool) : Prop where
  a0 : 0 ≤ a
  a1 : a ≤ f
  hv : v = decide (a < f)

theorem sat_four {f a0 a1 a2 a3 : Int} {v0 v1 v2 v3 : Bool} (F0 : SatFacts f a0 v0) (F1 : SatFacts f a1 v1) (F2 : SatFacts f a2 v2) (F3 : SatFacts f a3 v3) (i : Nat) (hi : i < 4) : SatFacts f (fourG a0 a1 a2 a3 i) (fourBG v0 v1 v2 v3 i) := by
  have h4 : i = 0 ∨ i = 1 ∨ i = 2 ∨ i = 3 := by omega
  rcases h4 with rfl | rfl | rfl | rfl
  · exact F0
  · exact F1
  · exact F2
  · exact F3

theorem sat_cell {g b k f e : Int} (off l h : Int) (hv : validB g b k f e = true) : SatFacts f (expoC g b k f off l h false) (okC f (expoC g b k f off l h false) false) := by
  have := expoC_range off l h false hv
  simp only [inB, Bool.and_eq_true, decide_eq_true_eq] at this
  exact ⟨this.1, this.2, by simp [okC]⟩

set_option maxRecDepth 100000 in
set_option maxHeartbeats 8000000 in
theorem saturates_no (g b k f e l0 l1 l2 l3 h0 h1 h2 h3 off : Int) (hno : expoOk g b k f e l0 l1 l2 l3 h0 h1 h2 h3 off = false) (w : World) :
    Calls Try.prog 8 #[.agg #[.int .i64 g, .int .i64 b, .int .i64 k, .int .i64 f, .int .i64 e], .agg #[.int .i64 l0, .int .i64 l1, .int .i64 l2, .int .i64 l3], .agg #[.int .i64 h0, .int .i64 h1, .int .i64 h2, .int .i64 h3], .int .i64 off] w (Ret (.bool true) w) := by
  have hno2 : expoOk g b k f e h0 h1 h2 h3 l0 l1 l2 l3 off = false := (ok_comm ..).trans hno
  have C1 := Lib.hid (fun W => expo_no hno ▸ expose_any g b k f e l0 l1 l2 l3 h0 h1 h2 h3 off false false false false W)
  have C2 := Lib.hid (fun W => expo_no hno2 ▸ expose_any g b k f e h0 h1 h2 h3 l0 l1 l2 l3 off false false false false W)
  clear hno hno2
  go_enter Try.func8, Try.ntmps8
  have B := St.start w
  have R := B.rules
  go_wp2_with fail
  generalize hX : World.alloc _ _ = X
  replace B := St.cast hX (((B.alloc _ _).alloc _ _).alloc _ _)
  try simp only [World.size_alloc] at B
  clear hX
  refine (head_any _).mono ?_
  rintro e' w1 ⟨rfl, h⟩
  replace B := B.later h
  replace R := B.rules
  simp only [Rules] at R
  clear h
  go_wp2_with fail
  refine (C1.out _).mono ?_
  rintro e' w2 ⟨rfl, h⟩
  replace B := B.later h
  replace R := B.rules
  simp only [Rules] at R
  clear h
  go_wp2_with fail
  generalize hX : World.alloc _ _ = X
  replace B := St.cast hX (B.alloc _ _)
  clear hX
  refine (C2.out _).mono ?_
  rintro e' w3 ⟨rfl, h⟩
  replace B := B.later h
  replace R := B.rules
  simp only [Rules] at R
  clear h
  go_wp2
  go_ret
  exact ⟨rfl, (B.alloc _ _).below⟩

set_option maxRecDepth 100000 in
set_option maxHeartbeats 8000000 in
theorem saturates_yes (g b k f e l0 l1 l2 l3 h0 h1 h2 h3 off : Int) (hok : expoOk g b k f e l0 l1 l2 l3 h0 h1 h2 h3 off = true) (w : World) :
    Calls Try.prog 8 #[.agg #[.int .i64 g, .int .i64 b, .int .i64 k, .int .i64 f, .int .i64 e], .agg #[.int .i64 l0, .int .i64 l1, .int .i64 l2, .int .i64 l3], .agg #[.int .i64 h0, .int .i64 h1, .int .i64 h2, .int .i64 h3], .int .i64 off] w (Ret (.bool true) w) := by
  have hok2 : expoOk g b k f e h0 h1 h2 h3 l0 l1 l2 l3 off = true := (ok_comm ..).trans hok
  obtain ⟨hv, _, _, _⟩ := ok_parts hok
  have F0 := sat_cell off l0 h0 hv
  have F1 := sat_cell off l1 h1 hv
  have F2 := sat_cell off l2 h2 hv
  have F3 := sat_cell off l3 h3 hv
  have hr1 := raw_of (l := l0) (h := h0) (m := false) (l' := l1) (h' := h1) (m' := false) (l2 := l2) (h2 := h2) (m2 := false) (l3 := l3) (h3 := h3) (m3 := false) (off := off) hv
  have hr2 : rawB g b k f 0 (expoC g b k f off l0 h0 false) (expoC g b k f off l1 h1 false) (expoC g b k f off l2 h2 false) (expoC g b k f off l3 h3 false) = true := by
    have := valid_zero hv
    simp only [rawB, hv, this] at hr1 ⊢
    exact hr1
  have C1 := Lib.hid (fun W => expo_yes (m0 := false) (m1 := false) (m2 := false) (m3 := false) hok rfl rfl rfl rfl ▸ expose_any g b k f e l0 l1 l2 l3 h0 h1 h2 h3 off false false false false W)
  have C2 := Lib.hid (fun W => expo_yes (m0 := false) (m1 := false) (m2 := false) (m3 := false) hok2 (expoC_comm ..) (expoC_comm ..) (expoC_comm ..) (expoC_comm ..) ▸ expose_any g b k f e h0 h1 h2 h3 l0 l1 l2 l3 off false false false false W)
  have C3 := Lib.hid (fun W => reduce_yes (m0 := false) (m1 := false) (m2 := false) (m3 := false) hr1 ▸ reduce_any g b k f e _ _ _ _ false false false false W)
  have C4 := Lib.hid (fun W => ghost_yes hr2 ▸ ghost_any g b k f 0 _ _ _ _ W)
  simp only [ghost_zero] at C4
  have FF := Lib.hid (fun i hi => sat_four F0 F1 F2 F3 i hi)
  clear hok hok2 hv hr1 hr2 F0 F1 F2 F3
  generalize expoC g b k f off l0 h0 false = a0 at *
  generalize redC g b k a0 (okC f a0 false) = y0 at *
  generalize okC f a0 false = v0 at *
  generalize expoC g b k f off l1 h1 false = a1 at *
  generalize redC g b k a1 (okC f a1 false) = y1 at *
  generalize okC f a1 false = v1 at *
  generalize expoC g b k f off l2 h2 false = a2 at *
  generalize redC g b k a2 (okC f a2 false) = y2 at *
  generalize okC f a2 false = v2 at *
  generalize expoC g b k f off l3 h3 false = a3 at *
  generalize redC g b k a3 (okC f a3 false) = y3 at *
  generalize okC f a3 false = v3 at *
  go_enter Try.func8, Try.ntmps8
  have B := St.start w
  have R := B.rules
  go_wp2_with fail
  generalize hX : World.alloc _ _ = X
  replace B := St.cast hX (((B.alloc _ _).alloc _ _).alloc _ _)
  try simp only [World.size_alloc] at B
  clear hX
  refine (head_any _).mono ?_
  rintro e' w1 ⟨rfl, h⟩
  replace B := B.later h
  replace R := B.rules
  simp only [Rules] at R
  clear h
  go_wp2_with fail
  refine (C1.out _).mono ?_
  rintro e' w2 ⟨rfl, h⟩
  replace B := B.later h
  replace R := B.rules
  simp only [Rules] at R
  clear h
  go_wp2_with fail
  generalize hX : World.alloc _ _ = X
  replace B := St.cast hX (B.alloc _ _)
  clear hX
  refine (C2.out _).mono ?_
  rintro e' w3 ⟨rfl, h⟩
  replace B := B.later h
  replace R := B.rules
  simp only [Rules] at R
  clear h
  go_wp2_with fail
  generalize hX : World.alloc _ _ = X
  replace B := St.cast hX (B.alloc _ _)
  clear hX
  refine (C3.out _).mono ?_
  rintro e' w4 ⟨rfl, h⟩
  replace B := B.later h
  replace R := B.rules
  simp only [Rules] at R
  clear h
  have R2 := R
  obtain ⟨⟨_, _, s3⟩, ⟨_, _, s2⟩, ⟨_, _, sh⟩, ⟨_, _, sl⟩, ⟨_, _, sd⟩, _⟩ := R2
  have n2 : w2.heap.size ≠ w4.heap.size + 1 + 1 := by omega
  have nd : w.heap.size ≠ w4.heap.size + 1 + 1 := by omega
  have n3 : w2.heap.size < w4.heap.size + 1 + 1 := by omega
  have n4 : w2.heap.size < w4.heap.size + 1 := by omega
  have nd3 : w.heap.size < w4.heap.size + 1 + 1 := by omega
  have nd4 : w.heap.size < w4.heap.size + 1 := by omega
  go_wp2_with fail
  generalize hX : World.alloc _ _ = X
  replace B := St.cast hX (((B.alloc _ _).alloc _ _).alloc _ _)
  try simp only [World.size_alloc] at B
  clear hX
  refine (C4.out _).mono ?_
  rintro e' w5 ⟨rfl, h⟩
  replace B := B.later h
  replace R := B.rules
  simp only [Rules] at R
  clear h
  clear n2 nd n3 n4 nd3 nd4 s3 s2 sh sl sd
  go_wp2_with fail
  generalize hX : World.alloc _ _ = X
  replace B := St.cast hX (B.alloc _ _)
  clear hX
  clear R
  go_loopw [20] (LoopAt X) (fun v _ => 4 - (intOf v).toNat)
  case atStart => exact ⟨0, by omega, rfl, Below.refl _ _⟩
  case round =>
    obtain ⟨n, hn, rfl, hb⟩ := hrel
    replace B := B.later hb
    have R := B.rules
    simp only [Rules] at R
    by_cases hlt : n < 4
    · obtain ⟨_, _, ⟨rv, _, sv⟩, _, _, ⟨ra, _, sa⟩, _, _, ⟨rd, _, sd⟩, _⟩ := R
      have cv := cellBG rv hlt
      have ca := cellG ra hlt
      have d3 := rd 3
      simp at d3
      obtain ⟨qa0, qa1, qv⟩ := FF.out n hlt
      have hn1 : (0 : Int) ≤ (n : Int) := by omega
      have hn2 : (n : Int) < 4 := by omega
      clear rv ra rd FF
      generalize fourG a0 a1 a2 a3 n = a at *
      generalize fourBG v0 v1 v2 v3 n = v at *
      cases v with
      | true =>
        have hd : ((a : Int) == f) = false := by simp at qv ⊢; omega
        clear qv
        go_wp2_with fail
        refine wp_region_later (by kernel_rfl) (by kernel_rfl) ?_
        repeat (go_big_quiet_step (fail))
        refine wpQuiet_nil ?_
        rintro _ ⟨⟨wq, hq⟩, rfl⟩
        go_wp2
        exact ⟨⟨n + 1, by omega, by go_num, below_step hb (Nat.le_refl _) hq⟩, by simp [intOf]; omega⟩
      | false =>
        have hd : ((a : Int) == f) = true := by simp at qv ⊢; omega
        clear qv
        go_wp2_with fail
        refine wp_region_later (by kernel_rfl) (by kernel_rfl) ?_
        repeat (go_big_quiet_step (fail))
        refine wpQuiet_nil ?_
        rintro _ ⟨⟨wq, hq⟩, rfl⟩
        go_wp2
        exact ⟨⟨n + 1, by omega, by go_num, below_step hb (Nat.le_refl _) hq⟩, by simp [intOf]; omega⟩
    · obtain rfl : n = 4 := by omega
      go_wp2
      go_ret
      exact ⟨rfl, B.below⟩

theorem saturates_walk (g b k f e l0 l1 l2 l3 h0 h1 h2 h3 off : Int) (w : World) :
    Calls Try.prog 8 #[.agg #[.int .i64 g, .int .i64 b, .int .i64 k, .int .i64 f, .int .i64 e], .agg #[.int .i64 l0, .int .i64 l1, .int .i64 l2, .int .i64 l3], .agg #[.int .i64 h0, .int .i64 h1, .int .i64 h2, .int .i64 h3], .int .i64 off] w (Ret (.bool true) w) := by
  cases h : expoOk g b k f e l0 l1 l2 l3 h0 h1 h2 h3 off with
  | true => exact saturates_yes g b k f e l0 l1 l2 l3 h0 h1 h2 h3 off h w
  | false => exact saturates_no g b k f e l0 l1 l2 l3 h0 h1 h2 h3 off h w

set_option maxRecDepth 100000 in
theorem detectorSaturates_lifted (os : Os) (started : os.Started) (H : Type) (enc : TypeId × Value → H) :
    ReturnsInHanded {} Try.checked os 8 .any (Rows.detectorSaturatesSpec.pre6 enc Try.prog Try.f8 Rows.detectorSaturatesRow.domain false) (Rows.detectorSaturatesSpec.post enc Try.prog Try.f8 false true false false) := by
  refine returnsInHanded_of_change (C := Try.checked) own started (by kernel_rfl) Try.func8
    (ChangeSpec.witness6 (enc := enc) (C := Try.checked) false ⟨#[], #[.agg #[.int .i64 0, .int .i64 0, .int .i64 0, .int .i64 0, .int .i64 0], .agg #[.int .i64 0, .int .i64 0, .int .i64 0, .int .i64 0], .agg #[.int .i64 0, .int .i64 0, .int .i64 0, .int .i64 0], .int .i64 0], []⟩ 8 (by kernel_rfl) (by kernel_rfl) (by kernel_rfl) (by kernel_rfl)) ?_
  intro W base args ds gs before hval0 hW _ _
  have hval : ∀ (j : Nat) t v, Try.f8.params[j]? = some t → args[j]? = some v → Value.okWide Try.prog W .any base t v := hval0
  have hW' := hW
  obtain ⟨p, q, hA0, hV, _, _, _⟩ := hW
  have hA : DataW.TrodAll enc Try.prog W 0 (fun _ => true) true Try.f8.params.toList args.toList ds p := hA0
  rw [Try.params8] at hA hval
  obtain ⟨v0, vs0, d0, ds0, p0, q0, hargs, rfl, _, h0, r0⟩ := trodAll_cons hA
  obtain ⟨v1, vs1, d1, ds1, p1, q1, rfl, rfl, rfl, h1, r1⟩ := trodAll_cons r0
  obtain ⟨v2, vs2, d2, ds2, p2, q2, rfl, rfl, rfl, h2, r2⟩ := trodAll_cons r1
  obtain ⟨v3, vs3, d3, ds3, p3, q3, rfl, rfl, rfl, h3, r3⟩ := trodAll_cons r2
  obtain ⟨rfl, rfl, rfl⟩ := trodAll_nil r3
  obtain rfl : args = #[v0, v1, v2, v3] := by cases args; simp_all
  obtain ⟨rfl, rfl⟩ := trodVars_none hV
  obtain ⟨g, b, k, f, e, rfl⟩ := open23 (hval 0 23 v0 rfl rfl) h0
  obtain ⟨l0, l1, l2, l3, rfl⟩ := open25 (hval 1 25 v1 rfl rfl) h1
  obtain ⟨x0, x1, x2, x3, rfl⟩ := open25 (hval 2 25 v2 rfl rfl) h2
  obtain ⟨off, rfl⟩ := open3 (hval 3 3 v3 rfl rfl) h3
  exact law_post (f := 8) laidOut (by kernel_rfl) rfl Try.underlying4 rfl hW' rfl (saturates_walk g b k f e l0 l1 l2 l3 x0 x1 x2 x3 off W)

/-- The statement. -/
theorem detectorSaturates_holds : Rows.DetectorSaturatesSaid :=
  OpenClaim.holds_of_wide 8 Try.f8 rfl rfl rfl rfl rfl rfl rfl ⟨rfl, rfl, rfl, rfl, rfl⟩ rfl rfl rfl rfl rfl (by kernel_rfl) Try.func8 (by kernel_rfl)
    (of_decide_eq_true (by kernel_rfl)) (by unfold Func.isWrapper; rw [if_neg (of_decide_eq_false (by kernel_rfl))]; exact ⟨rfl, rfl⟩)
    (fun os started H enc _ => detectorSaturates_lifted os started H enc)

#print axioms detectorSaturates_holds

end Go.Proofs.Yteghionkljbggaa
