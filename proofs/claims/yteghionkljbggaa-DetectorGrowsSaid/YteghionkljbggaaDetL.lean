/-
  DetectorGrows: for every detector, two lights, two ghosts, two offsets and bad cells the law returns true. No conditions.
-/
import Derived.Test.YteghionkljbggaaDetI
import Derived.Test.YteghionkljbggaaDetP
import Derived.Test.YteghionkljbggaaDetS
import Derived.Test.YteghionkljbggaaLaw
namespace Go.Proofs.Yteghionkljbggaa
open Go.ChangeShapes Go.WideShapes Go.ChangeAt Go.RowKit

/-- What is known of one cell behind two exposures and their estimates. -/
structure GroFacts (f l h p q o1 o2 a A y Y : Int) (v V : Bool) : Prop where
  grow : l ≤ p → h ≤ q → o1 ≤ o2 → a ≤ A ∧ (v = true → V = true → y ≤ Y)

theorem gro_cell {g b k f e : Int} (l h p q o1 o2 : Int) (m : Bool) (hv : validB g b k f e = true) :
    GroFacts f l h p q o1 o2 (expoC g b k f o1 l h m) (expoC g b k f o2 p q m) (redC g b k (expoC g b k f o1 l h m) (okC f (expoC g b k f o1 l h m) m)) (redC g b k (expoC g b k f o2 p q m) (okC f (expoC g b k f o2 p q m) m))
      (okC f (expoC g b k f o1 l h m) m) (okC f (expoC g b k f o2 p q m) m) := by
  obtain ⟨⟨g1, g2⟩, ⟨b1, b2⟩, ⟨k1, k2⟩, ⟨f1, f2⟩, ⟨e1, e2⟩⟩ := valid_bounds hv
  refine ⟨fun h1 h2 h3 => ?_⟩
  have hle : expoC g b k f o1 l h m ≤ expoC g b k f o2 p q m := by
    have hm : (l + h) * g ≤ (p + q) * g := Int.mul_le_mul_of_nonneg_right (by omega) (by omega)
    have hd : (l + h) * g / 1000 ≤ (p + q) * g / 1000 := Int.ediv_le_ediv (by omega) hm
    simp only [expoC, clip, expo]
    cases m <;> simp <;> omega
  refine ⟨hle, fun e1 e2 => ?_⟩
  rw [e1, e2]
  simp only [redC, if_pos]
  exact Int.ediv_le_ediv (by omega) (by omega)

theorem gro_four {f l0 l1 l2 l3 h0 h1 h2 h3 p0 p1 p2 p3 q0 q1 q2 q3 o1 o2 a0 a1 a2 a3 A0 A1 A2 A3 y0 y1 y2 y3 Y0 Y1 Y2 Y3 : Int} {v0 v1 v2 v3 V0 V1 V2 V3 : Bool} (F0 : GroFacts f l0 h0 p0 q0 o1 o2 a0 A0 y0 Y0 v0 V0) (F1 : GroFacts f l1 h1 p1 q1 o1 o2 a1 A1 y1 Y1 v1 V1) (F2 : GroFacts f l2 h2 p2 q2 o1 o2 a2 A2 y2 Y2 v2 V2) (F3 : GroFacts f l3 h3 p3 q3 o1 o2 a3 A3 y3 Y3 v3 V3) (i : Nat) (hi : i < 4) :
    GroFacts f (fourG l0 l1 l2 l3 i) (fourG h0 h1 h2 h3 i) (fourG p0 p1 p2 p3 i) (fourG q0 q1 q2 q3 i) o1 o2 (fourG a0 a1 a2 a3 i) (fourG A0 A1 A2 A3 i) (fourG y0 y1 y2 y3 i) (fourG Y0 Y1 Y2 Y3 i) (fourBG v0 v1 v2 v3 i) (fourBG V0 V1 V2 V3 i) := by
  have h4 : i = 0 ∨ i = 1 ∨ i = 2 ∨ i = 3 := by omega
  rcases h4 with rfl | rfl | rfl | rfl
  · exact F0
  · exact F1
  · exact F2
  · exact F3

set_option maxRecDepth 100000 in
set_option maxHeartbeats 8000000 in
theorem grows_no1 (g b k f e l0 l1 l2 l3 h0 h1 h2 h3 p0 p1 p2 p3 q0 q1 q2 q3 o1 o2 : Int) (m0 m1 m2 m3 : Bool) (hno : expoOk g b k f e l0 l1 l2 l3 h0 h1 h2 h3 o1 = false) (w : World) :
    Calls Try.prog 5 #[.agg #[.int .i64 g, .int .i64 b, .int .i64 k, .int .i64 f, .int .i64 e], .agg #[.int .i64 l0, .int .i64 l1, .int .i64 l2, .int .i64 l3], .agg #[.int .i64 h0, .int .i64 h1, .int .i64 h2, .int .i64 h3], .agg #[.int .i64 p0, .int .i64 p1, .int .i64 p2, .int .i64 p3], .agg #[.int .i64 q0, .int .i64 q1, .int .i64 q2, .int .i64 q3], .int .i64 o1, .int .i64 o2, .agg #[.bool m0, .bool m1, .bool m2, .bool m3]] w (Ret (.bool true) w) := by
  obtain ⟨a0, a1, a2, a3, ra, ha⟩ := expo_shape g b k f e p0 p1 p2 p3 q0 q1 q2 q3 o2 m0 m1 m2 m3
  have C1 := Lib.hid (fun W => expo_no hno ▸ expose_any g b k f e l0 l1 l2 l3 h0 h1 h2 h3 o1 m0 m1 m2 m3 W)
  have C2 := Lib.hid (fun W => ha ▸ expose_any g b k f e p0 p1 p2 p3 q0 q1 q2 q3 o2 m0 m1 m2 m3 W)
  clear hno ha
  go_enter Try.func5, Try.ntmps5
  have B := St.start w
  have R := B.rules
  go_wp2_with fail
  generalize hX : World.alloc _ _ = X
  replace B := St.cast hX ((((((B.alloc _ _).alloc _ _).alloc _ _).alloc _ _).alloc _ _).alloc _ _)
  try simp only [World.size_alloc] at B
  clear hX
  refine (head_any _).mono ?_
  rintro e' w1 ⟨rfl, h⟩
  replace B := B.later h
  replace R := B.rules
  simp only [Rules] at R
  clear h
  go_wp2_with fail
  refine (C1.out _).mono ?_
  rintro e' w2 ⟨rfl, h⟩
  replace B := B.later h
  replace R := B.rules
  simp only [Rules] at R
  clear h
  go_wp2_with fail
  generalize hX : World.alloc _ _ = X
  replace B := St.cast hX (B.alloc _ _)
  clear hX
  refine (C2.out _).mono ?_
  rintro e' w3 ⟨rfl, h⟩
  replace B := B.later h
  replace R := B.rules
  simp only [Rules] at R
  clear h
  go_wp2
  go_ret
  exact ⟨rfl, (B.alloc _ _).below⟩

set_option maxRecDepth 100000 in
set_option maxHeartbeats 8000000 in
theorem grows_no2 (g b k f e l0 l1 l2 l3 h0 h1 h2 h3 p0 p1 p2 p3 q0 q1 q2 q3 o1 o2 : Int) (m0 m1 m2 m3 : Bool) (hok : expoOk g b k f e l0 l1 l2 l3 h0 h1 h2 h3 o1 = true) (hno : expoOk g b k f e p0 p1 p2 p3 q0 q1 q2 q3 o2 = false) (w : World) :
    Calls Try.prog 5 #[.agg #[.int .i64 g, .int .i64 b, .int .i64 k, .int .i64 f, .int .i64 e], .agg #[.int .i64 l0, .int .i64 l1, .int .i64 l2, .int .i64 l3], .agg #[.int .i64 h0, .int .i64 h1, .int .i64 h2, .int .i64 h3], .agg #[.int .i64 p0, .int .i64 p1, .int .i64 p2, .int .i64 p3], .agg #[.int .i64 q0, .int .i64 q1, .int .i64 q2, .int .i64 q3], .int .i64 o1, .int .i64 o2, .agg #[.bool m0, .bool m1, .bool m2, .bool m3]] w (Ret (.bool true) w) := by
  have C1 := Lib.hid (fun W => expo_yes (m0 := m0) (m1 := m1) (m2 := m2) (m3 := m3) hok rfl rfl rfl rfl ▸ expose_any g b k f e l0 l1 l2 l3 h0 h1 h2 h3 o1 m0 m1 m2 m3 W)
  have C2 := Lib.hid (fun W => expo_no hno ▸ expose_any g b k f e p0 p1 p2 p3 q0 q1 q2 q3 o2 m0 m1 m2 m3 W)
  clear hno hok
  generalize expoC g b k f o1 l0 h0 m0 = a0 at *
  generalize expoC g b k f o1 l1 h1 m1 = a1 at *
  generalize expoC g b k f o1 l2 h2 m2 = a2 at *
  generalize expoC g b k f o1 l3 h3 m3 = a3 at *
  go_enter Try.func5, Try.ntmps5
  have B := St.start w
  have R := B.rules
  go_wp2_with fail
  generalize hX : World.alloc _ _ = X
  replace B := St.cast hX ((((((B.alloc _ _).alloc _ _).alloc _ _).alloc _ _).alloc _ _).alloc _ _)
  try simp only [World.size_alloc] at B
  clear hX
  refine (head_any _).mono ?_
  rintro e' w1 ⟨rfl, h⟩
  replace B := B.later h
  replace R := B.rules
  simp only [Rules] at R
  clear h
  go_wp2_with fail
  refine (C1.out _).mono ?_
  rintro e' w2 ⟨rfl, h⟩
  replace B := B.later h
  replace R := B.rules
  simp only [Rules] at R
  clear h
  go_wp2_with fail
  generalize hX : World.alloc _ _ = X
  replace B := St.cast hX (B.alloc _ _)
  clear hX
  refine (C2.out _).mono ?_
  rintro e' w3 ⟨rfl, h⟩
  replace B := B.later h
  replace R := B.rules
  simp only [Rules] at R
  clear h
  go_wp2
  go_ret
  exact ⟨rfl, (B.alloc _ _).below⟩

set_option maxRecDepth 100000 in
set_option maxHeartbeats 8000000 in
theorem grows_yes (g b k f e l0 l1 l2 l3 h0 h1 h2 h3 p0 p1 p2 p3 q0 q1 q2 q3 o1 o2 : Int) (m0 m1 m2 m3 : Bool) (hok : expoOk g b k f e l0 l1 l2 l3 h0 h1 h2 h3 o1 = true) (hok2 : expoOk g b k f e p0 p1 p2 p3 q0 q1 q2 q3 o2 = true) (w : World) :
    Calls Try.prog 5 #[.agg #[.int .i64 g, .int .i64 b, .int .i64 k, .int .i64 f, .int .i64 e], .agg #[.int .i64 l0, .int .i64 l1, .int .i64 l2, .int .i64 l3], .agg #[.int .i64 h0, .int .i64 h1, .int .i64 h2, .int .i64 h3], .agg #[.int .i64 p0, .int .i64 p1, .int .i64 p2, .int .i64 p3], .agg #[.int .i64 q0, .int .i64 q1, .int .i64 q2, .int .i64 q3], .int .i64 o1, .int .i64 o2, .agg #[.bool m0, .bool m1, .bool m2, .bool m3]] w (Ret (.bool true) w) := by
  obtain ⟨hv, _, _, _⟩ := ok_parts hok
  have F0 := gro_cell l0 h0 p0 q0 o1 o2 m0 hv
  have F1 := gro_cell l1 h1 p1 q1 o1 o2 m1 hv
  have F2 := gro_cell l2 h2 p2 q2 o1 o2 m2 hv
  have F3 := gro_cell l3 h3 p3 q3 o1 o2 m3 hv
  have hr1 := raw_of (l := l0) (h := h0) (m := m0) (l' := l1) (h' := h1) (m' := m1) (l2 := l2) (h2 := h2) (m2 := m2) (l3 := l3) (h3 := h3) (m3 := m3) (off := o1) hv
  have hr2 := raw_of (l := p0) (h := q0) (m := m0) (l' := p1) (h' := q1) (m' := m1) (l2 := p2) (h2 := q2) (m2 := m2) (l3 := p3) (h3 := q3) (m3 := m3) (off := o2) hv
  have C1 := Lib.hid (fun W => expo_yes (m0 := m0) (m1 := m1) (m2 := m2) (m3 := m3) hok rfl rfl rfl rfl ▸ expose_any g b k f e l0 l1 l2 l3 h0 h1 h2 h3 o1 m0 m1 m2 m3 W)
  have C2 := Lib.hid (fun W => expo_yes (m0 := m0) (m1 := m1) (m2 := m2) (m3 := m3) hok2 rfl rfl rfl rfl ▸ expose_any g b k f e p0 p1 p2 p3 q0 q1 q2 q3 o2 m0 m1 m2 m3 W)
  have C3 := Lib.hid (fun W => reduce_yes (m0 := m0) (m1 := m1) (m2 := m2) (m3 := m3) hr1 ▸ reduce_any g b k f e _ _ _ _ m0 m1 m2 m3 W)
  have C4 := Lib.hid (fun W => reduce_yes (m0 := m0) (m1 := m1) (m2 := m2) (m3 := m3) hr2 ▸ reduce_any g b k f e _ _ _ _ m0 m1 m2 m3 W)
  have FF := Lib.hid (fun i hi => gro_four F0 F1 F2 F3 i hi)
  clear hok hok2 hv hr1 hr2 F0 F1 F2 F3
  generalize expoC g b k f o1 l0 h0 m0 = a0 at *
  generalize expoC g b k f o2 p0 q0 m0 = A0 at *
  generalize redC g b k a0 (okC f a0 m0) = y0 at *
  generalize redC g b k A0 (okC f A0 m0) = Y0 at *
  generalize okC f a0 m0 = v0 at *
  generalize okC f A0 m0 = V0 at *
  generalize expoC g b k f o1 l1 h1 m1 = a1 at *
  generalize expoC g b k f o2 p1 q1 m1 = A1 at *
  generalize redC g b k a1 (okC f a1 m1) = y1 at *
  generalize redC g b k A1 (okC f A1 m1) = Y1 at *
  generalize okC f a1 m1 = v1 at *
  generalize okC f A1 m1 = V1 at *
  generalize expoC g b k f o1 l2 h2 m2 = a2 at *
  generalize expoC g b k f o2 p2 q2 m2 = A2 at *
  generalize redC g b k a2 (okC f a2 m2) = y2 at *
  generalize redC g b k A2 (okC f A2 m2) = Y2 at *
  generalize okC f a2 m2 = v2 at *
  generalize okC f A2 m2 = V2 at *
  generalize expoC g b k f o1 l3 h3 m3 = a3 at *
  generalize expoC g b k f o2 p3 q3 m3 = A3 at *
  generalize redC g b k a3 (okC f a3 m3) = y3 at *
  generalize redC g b k A3 (okC f A3 m3) = Y3 at *
  generalize okC f a3 m3 = v3 at *
  generalize okC f A3 m3 = V3 at *
  go_enter Try.func5, Try.ntmps5
  have B := St.start w
  have R := B.rules
  go_wp2_with fail
  generalize hX : World.alloc _ _ = X
  replace B := St.cast hX ((((((B.alloc _ _).alloc _ _).alloc _ _).alloc _ _).alloc _ _).alloc _ _)
  try simp only [World.size_alloc] at B
  clear hX
  refine (head_any _).mono ?_
  rintro e' w1 ⟨rfl, h⟩
  replace B := B.later h
  replace R := B.rules
  simp only [Rules] at R
  clear h
  go_wp2_with fail
  refine (C1.out _).mono ?_
  rintro e' w2 ⟨rfl, h⟩
  replace B := B.later h
  replace R := B.rules
  simp only [Rules] at R
  clear h
  go_wp2_with fail
  generalize hX : World.alloc _ _ = X
  replace B := St.cast hX (B.alloc _ _)
  clear hX
  refine (C2.out _).mono ?_
  rintro e' w3 ⟨rfl, h⟩
  replace B := B.later h
  replace R := B.rules
  simp only [Rules] at R
  clear h
  go_wp2_with fail
  generalize hX : World.alloc _ _ = X
  replace B := St.cast hX (B.alloc _ _)
  clear hX
  refine (C3.out _).mono ?_
  rintro e' w4 ⟨rfl, h⟩
  replace B := B.later h
  replace R := B.rules
  simp only [Rules] at R
  clear h
  go_wp2_with fail
  generalize hX : World.alloc _ _ = X
  replace B := St.cast hX ((B.alloc _ _).alloc _ _)
  try simp only [World.size_alloc] at B
  clear hX
  refine (C4.out _).mono ?_
  rintro e' w5 ⟨rfl, h⟩
  replace B := B.later h
  replace R := B.rules
  simp only [Rules] at R
  clear h
  go_wp2_with fail
  generalize hX : World.alloc _ _ = X
  replace B := St.cast hX ((B.alloc _ _).alloc _ _)
  try simp only [World.size_alloc] at B
  clear hX
  clear R
  go_loopw [28] (LoopAt X) (fun v _ => 4 - (intOf v).toNat)
  case atStart => exact ⟨0, by omega, rfl, Below.refl _ _⟩
  case round =>
    obtain ⟨n, hn, rfl, hb⟩ := hrel
    replace B := B.later hb
    have R := B.rules
    simp only [Rules] at R
    by_cases hlt : n < 4
    · obtain ⟨⟨rV, _, sV⟩, ⟨rY, _, sY⟩, ⟨rv, _, sv⟩, ⟨ry, _, sy⟩, ⟨rA, _, sA⟩, ⟨ra, _, sa⟩, ⟨rm, _, sm⟩, ⟨rq, _, sq⟩, ⟨rp, _, sp⟩, ⟨rh, _, sh⟩, ⟨rl, _, sl⟩, ⟨rd, _, sd⟩, _⟩ := R
      have cV := cellBG rV hlt
      have cY := cellG rY hlt
      have cv := cellBG rv hlt
      have cy := cellG ry hlt
      have cA := cellG rA hlt
      have ca := cellG ra hlt
      have cq := cellG rq hlt
      have cp := cellG rp hlt
      have ch := cellG rh hlt
      have cl := cellG rl hlt
      obtain ⟨gro⟩ := FF.out n hlt
      have hn1 : (0 : Int) ≤ (n : Int) := by omega
      have hn2 : (n : Int) < 4 := by omega
      clear rV rY rv ry rA ra rm rq rp rh rl rd FF
      generalize fourG l0 l1 l2 l3 n = l at *
      generalize fourG h0 h1 h2 h3 n = h at *
      generalize fourG p0 p1 p2 p3 n = p at *
      generalize fourG q0 q1 q2 q3 n = q at *
      generalize fourG a0 a1 a2 a3 n = a at *
      generalize fourG A0 A1 A2 A3 n = A at *
      generalize fourG y0 y1 y2 y3 n = y at *
      generalize fourG Y0 Y1 Y2 Y3 n = Y at *
      generalize fourBG v0 v1 v2 v3 n = v at *
      generalize fourBG V0 V1 V2 V3 n = V at *
      by_cases t1 : p < l
      · have d1 : decide (p < l) = true := by simpa using t1
        clear gro t1
        go_wp2_with fail
        refine wp_region_later (by kernel_rfl) (by kernel_rfl) ?_
        repeat (go_big_quiet_step (fail))
        refine wpQuiet_nil ?_
        rintro _ ⟨⟨wq, hq⟩, rfl⟩
        go_wp2
        exact ⟨⟨n + 1, by omega, by go_num, below_step hb (Nat.le_refl _) hq⟩, by simp [intOf]; omega⟩
      have d1 : decide (p < l) = false := by simpa using t1
      by_cases t2 : q < h
      · have d2 : decide (q < h) = true := by simpa using t2
        clear gro t2
        go_wp2_with fail
        refine wp_region_later (by kernel_rfl) (by kernel_rfl) ?_
        repeat (go_big_quiet_step (fail))
        refine wpQuiet_nil ?_
        rintro _ ⟨⟨wq, hq⟩, rfl⟩
        go_wp2
        exact ⟨⟨n + 1, by omega, by go_num, below_step hb (Nat.le_refl _) hq⟩, by simp [intOf]; omega⟩
      have d2 : decide (q < h) = false := by simpa using t2
      by_cases t3 : o2 < o1
      · have d3 : decide (o2 < o1) = true := by simpa using t3
        clear gro t3
        go_wp2_with fail
        refine wp_region_later (by kernel_rfl) (by kernel_rfl) ?_
        repeat (go_big_quiet_step (fail))
        refine wpQuiet_nil ?_
        rintro _ ⟨⟨wq, hq⟩, rfl⟩
        go_wp2
        exact ⟨⟨n + 1, by omega, by go_num, below_step hb (Nat.le_refl _) hq⟩, by simp [intOf]; omega⟩
      have d3 : decide (o2 < o1) = false := by simpa using t3
      obtain ⟨z1, z2⟩ := gro (by omega) (by omega) (by omega)
      have d4 : decide (A < a) = false := by simp; omega
      clear gro
      go_wp2_with fail
      refine wp_region_later (by kernel_rfl) (by kernel_rfl) ?_
      repeat (go_big_quiet_step (fail))
      refine wpQuiet_nil ?_
      rintro _ ⟨⟨wq, hq⟩, rfl⟩
      have cV2 := cell_later hq cV
      have cY2 := cell_later hq cY
      have cv2 := cell_later hq cv
      have cy2 := cell_later hq cy
      have cA2 := cell_later hq cA
      have ca2 := cell_later hq ca
      have hsz := hq.size
      have hcur := below_step hb (Nat.le_refl _) hq
      have sV2 := Nat.lt_of_lt_of_le sV hsz
      have sY2 := Nat.lt_of_lt_of_le sY hsz
      have sv2 := Nat.lt_of_lt_of_le sv hsz
      have sy2 := Nat.lt_of_lt_of_le sy hsz
      have sA2 := Nat.lt_of_lt_of_le sA hsz
      have sa2 := Nat.lt_of_lt_of_le sa hsz
      clear hq hsz cV cY cv cy cA ca cq cp ch cl
      cases v with
      | false =>
        clear z2
        go_wp2_with fail
        refine wp_region_later (by kernel_rfl) (by kernel_rfl) ?_
        repeat (go_big_quiet_step (fail))
        refine wpQuiet_nil ?_
        rintro _ ⟨⟨wq, hq⟩, rfl⟩
        go_wp2
        exact ⟨⟨n + 1, by omega, by go_num, below_step hcur (Nat.le_refl _) hq⟩, by simp [intOf]; omega⟩
      | true =>
        cases V with
        | false =>
          clear z2
          go_wp2_with fail
          refine wp_region_later (by kernel_rfl) (by kernel_rfl) ?_
          repeat (go_big_quiet_step (fail))
          refine wpQuiet_nil ?_
          rintro _ ⟨⟨wq, hq⟩, rfl⟩
          go_wp2
          exact ⟨⟨n + 1, by omega, by go_num, below_step hcur (Nat.le_refl _) hq⟩, by simp [intOf]; omega⟩
        | true =>
          have d5 : decide (Y < y) = false := by have := z2 rfl rfl; simp; omega
          clear z2
          go_wp2_with fail
          refine wp_region_later (by kernel_rfl) (by kernel_rfl) ?_
          repeat (go_big_quiet_step (fail))
          refine wpQuiet_nil ?_
          rintro _ ⟨⟨wq, hq⟩, rfl⟩
          go_wp2
          exact ⟨⟨n + 1, by omega, by go_num, below_step hcur (Nat.le_refl _) hq⟩, by simp [intOf]; omega⟩
    · obtain rfl : n = 4 := by omega
      clear R
      go_wp2
      go_ret
      exact ⟨rfl, B.below⟩

theorem grows_walk (g b k f e l0 l1 l2 l3 h0 h1 h2 h3 p0 p1 p2 p3 q0 q1 q2 q3 o1 o2 : Int) (m0 m1 m2 m3 : Bool) (w : World) :
    Calls Try.prog 5 #[.agg #[.int .i64 g, .int .i64 b, .int .i64 k, .int .i64 f, .int .i64 e], .agg #[.int .i64 l0, .int .i64 l1, .int .i64 l2, .int .i64 l3], .agg #[.int .i64 h0, .int .i64 h1, .int .i64 h2, .int .i64 h3], .agg #[.int .i64 p0, .int .i64 p1, .int .i64 p2, .int .i64 p3], .agg #[.int .i64 q0, .int .i64 q1, .int .i64 q2, .int .i64 q3], .int .i64 o1, .int .i64 o2, .agg #[.bool m0, .bool m1, .bool m2, .bool m3]] w (Ret (.bool true) w) := by
  cases c1 : expoOk g b k f e l0 l1 l2 l3 h0 h1 h2 h3 o1 with
  | false => exact grows_no1 g b k f e l0 l1 l2 l3 h0 h1 h2 h3 p0 p1 p2 p3 q0 q1 q2 q3 o1 o2 m0 m1 m2 m3 c1 w
  | true =>
    cases c2 : expoOk g b k f e p0 p1 p2 p3 q0 q1 q2 q3 o2 with
    | false => exact grows_no2 g b k f e l0 l1 l2 l3 h0 h1 h2 h3 p0 p1 p2 p3 q0 q1 q2 q3 o1 o2 m0 m1 m2 m3 c1 c2 w
    | true => exact grows_yes g b k f e l0 l1 l2 l3 h0 h1 h2 h3 p0 p1 p2 p3 q0 q1 q2 q3 o1 o2 m0 m1 m2 m3 c1 c2 w

set_option maxRecDepth 100000 in
theorem detectorGrows_lifted (os : Os) (started : os.Started) (H : Type) (enc : TypeId × Value → H) :
    ReturnsInHanded {} Try.checked os 5 .any (Rows.detectorGrowsSpec.pre6 enc Try.prog Try.f5 Rows.detectorGrowsRow.domain false) (Rows.detectorGrowsSpec.post enc Try.prog Try.f5 false true false false) := by
  refine returnsInHanded_of_change (C := Try.checked) own started (by kernel_rfl) Try.func5
    (ChangeSpec.witness6 (enc := enc) (C := Try.checked) false ⟨#[], #[.agg #[.int .i64 0, .int .i64 0, .int .i64 0, .int .i64 0, .int .i64 0], .agg #[.int .i64 0, .int .i64 0, .int .i64 0, .int .i64 0], .agg #[.int .i64 0, .int .i64 0, .int .i64 0, .int .i64 0], .agg #[.int .i64 0, .int .i64 0, .int .i64 0, .int .i64 0], .agg #[.int .i64 0, .int .i64 0, .int .i64 0, .int .i64 0], .int .i64 0, .int .i64 0, .agg #[.bool false, .bool false, .bool false, .bool false]], []⟩ 8 (by kernel_rfl) (by kernel_rfl) (by kernel_rfl) (by kernel_rfl)) ?_
  intro W base args ds gs before hval0 hW _ _
  have hval : ∀ (j : Nat) t v, Try.f5.params[j]? = some t → args[j]? = some v → Value.okWide Try.prog W .any base t v := hval0
  have hW' := hW
  obtain ⟨p, q, hA0, hV, _, _, _⟩ := hW
  have hA : DataW.TrodAll enc Try.prog W 0 (fun _ => true) true Try.f5.params.toList args.toList ds p := hA0
  rw [Try.params5] at hA hval
  obtain ⟨v0, vs0, d0, ds0, p0, q0, hargs, rfl, _, h0, r0⟩ := trodAll_cons hA
  obtain ⟨v1, vs1, d1, ds1, p1, q1, rfl, rfl, rfl, h1, r1⟩ := trodAll_cons r0
  obtain ⟨v2, vs2, d2, ds2, p2, q2, rfl, rfl, rfl, h2, r2⟩ := trodAll_cons r1
  obtain ⟨v3, vs3, d3, ds3, p3, q3, rfl, rfl, rfl, h3, r3⟩ := trodAll_cons r2
  obtain ⟨v4, vs4, d4, ds4, p4, q4, rfl, rfl, rfl, h4, r4⟩ := trodAll_cons r3
  obtain ⟨v5, vs5, d5, ds5, p5, q5, rfl, rfl, rfl, h5, r5⟩ := trodAll_cons r4
  obtain ⟨v6, vs6, d6, ds6, p6, q6, rfl, rfl, rfl, h6, r6⟩ := trodAll_cons r5
  obtain ⟨v7, vs7, d7, ds7, p7, q7, rfl, rfl, rfl, h7, r7⟩ := trodAll_cons r6
  obtain ⟨rfl, rfl, rfl⟩ := trodAll_nil r7
  obtain rfl : args = #[v0, v1, v2, v3, v4, v5, v6, v7] := by cases args; simp_all
  obtain ⟨rfl, rfl⟩ := trodVars_none hV
  obtain ⟨g, b, k, f, e, rfl⟩ := open23 (hval 0 23 v0 rfl rfl) h0
  obtain ⟨l0, l1, l2, l3, rfl⟩ := open25 (hval 1 25 v1 rfl rfl) h1
  obtain ⟨x0, x1, x2, x3, rfl⟩ := open25 (hval 2 25 v2 rfl rfl) h2
  obtain ⟨y0, y1, y2, y3, rfl⟩ := open25 (hval 3 25 v3 rfl rfl) h3
  obtain ⟨z0, z1, z2, z3, rfl⟩ := open25 (hval 4 25 v4 rfl rfl) h4
  obtain ⟨o1, rfl⟩ := open3 (hval 5 3 v5 rfl rfl) h5
  obtain ⟨o2, rfl⟩ := open3 (hval 6 3 v6 rfl rfl) h6
  obtain ⟨m0, m1, m2, m3, rfl⟩ := open27 (hval 7 27 v7 rfl rfl) h7
  exact law_post (f := 5) laidOut (by kernel_rfl) rfl Try.underlying4 rfl hW' rfl (grows_walk g b k f e l0 l1 l2 l3 x0 x1 x2 x3 y0 y1 y2 y3 z0 z1 z2 z3 o1 o2 m0 m1 m2 m3 W)

/-- The statement. -/
theorem detectorGrows_holds : Rows.DetectorGrowsSaid :=
  OpenClaim.holds_of_wide 5 Try.f5 rfl rfl rfl rfl rfl rfl rfl ⟨rfl, rfl, rfl, rfl, rfl⟩ rfl rfl rfl rfl rfl (by kernel_rfl) Try.func5 (by kernel_rfl)
    (of_decide_eq_true (by kernel_rfl)) (by unfold Func.isWrapper; rw [if_neg (of_decide_eq_false (by kernel_rfl))]; exact ⟨rfl, rfl⟩)
    (fun os started H enc _ => detectorGrows_lifted os started H enc)

#print axioms detectorGrows_holds

end Go.Proofs.Yteghionkljbggaa
