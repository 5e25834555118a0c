/-
  Courses: when they are valid, in both packages. No conditions but those in each statement.
-/
import Derived.Test.YtmplcceoepkppaaCadA
namespace Go.Proofs.Ytmplcceoepkppaa
open Go.RowKit

theorem eq26g (n : Nat) (a b c a' b' c' : Int) (d d' : Bool) (w : World) :
    (Op.equalIn (n + 2) 26 (.agg #[.int .i64 a, .int .i64 b, .int .i64 c, .bool d]) (.agg #[.int .i64 a', .int .i64 b', .int .i64 c', .bool d'])).run Try.prog w = .ok (eqC a b c d a' b' c' d') w := by
  rw [Op.equalIn]
  simp [run_underlying Try.underlying26, go_sem, List.forIn_cons, eqC]
  by_cases h1 : a = a' <;> by_cases h2 : b = b' <;> by_cases h3 : c = c' <;> by_cases h4 : d = d' <;> simp [*]

@[go_sem ↓ high] theorem eq26 (a b c a' b' c' : Int) (d d' : Bool) (w : World) :
    (Op.equalIn 10000 26 (.agg #[.int .i64 a, .int .i64 b, .int .i64 c, .bool d]) (.agg #[.int .i64 a', .int .i64 b', .int .i64 c', .bool d'])).run Try.prog w = .ok (eqC a b c d a' b' c' d') w :=
  eq26g 9998 a b c a' b' c' d d' w

@[go_sem] theorem eqC_over (a b c a' b' c' : Int) : eqC a b c true a' b' c' false = false := by simp [eqC]

set_option maxHeartbeats 400000 in
theorem is_any (n : Int) (w : World) :
    Calls Try.prog 32 #[.int .i64 n] w fun e w' => e = .returned (.bool (inB 0 n 38399)) ∧ w = w' := by
  by_cases h1 : 0 ≤ n
  · have hr : inB 0 n 38399 = decide (n ≤ 38399) := by simp [inB, h1]
    have Hr := Lib.hid hr; clear hr
    go_enter Try.func32, Try.ntmps32
    go_wp2
    all_goals
      go_ret
      exact ⟨by rw [Hr.out]; simp [*], rfl⟩
  · have hr : inB 0 n 38399 = false := by simp [inB, h1]
    have Hr := Lib.hid hr; clear hr
    go_enter Try.func32, Try.ntmps32
    go_wp2
    all_goals
      go_ret
      exact ⟨by rw [Hr.out]; rfl, rfl⟩

set_option maxHeartbeats 2000000 in
theorem validr_any (A : Option Addr) (c : Nat) (s : Sq) (w : World) (hs : StepsAt w A s) (hn : s.n ≤ maxLen) :
    Calls Try.prog 18 #[.agg #[.slice A s.n c, .int .i64 s.r]] w (Ret (.bool (sqB s)) w) := by
  unfold maxLen at hn
  by_cases a1 : 1 ≤ (s.n : Int)
  rotate_left
  · have hq : sqB s = false := by simp [sqB, inB, a1]
    go_enter Try.func18, Try.ntmps18
    go_wp2
    go_ret
    exact ⟨by first | rfl | (rw [hq]; rfl), by go_grown⟩
  by_cases a2 : (s.n : Int) ≤ 40
  rotate_left
  · have hq : sqB s = false := by simp [sqB, inB, a2]
    go_enter Try.func18, Try.ntmps18
    go_wp2
    go_ret
    exact ⟨by first | rfl | (rw [hq]; rfl), by go_grown⟩
  by_cases a3 : 1 ≤ s.r
  rotate_left
  · have hq : sqB s = false := by simp [sqB, inB, a3]
    go_enter Try.func18, Try.ntmps18
    go_wp2
    go_ret
    exact ⟨by first | rfl | (rw [hq]; rfl), by go_grown⟩
  by_cases a4 : s.r ≤ 100
  rotate_left
  · have hq : sqB s = false := by simp [sqB, inB, a4]
    go_enter Try.func18, Try.ntmps18
    go_wp2
    go_ret
    exact ⟨by first | rfl | (rw [hq]; rfl), by go_grown⟩
  have hq : sqB s = stepsB s s.n := by simp [sqB, inB, a1, a2, a3, a4]
  have Hq := Lib.hid hq; clear hq
  go_enter Try.func18, Try.ntmps18
  have B := St.start w
  go_wp2
  generalize hX : World.alloc _ _ = X
  replace B := St.cast hX (B.alloc _ _)
  clear hX
  go_loopw [3] (ValidRel s X) (fun v _ => s.n - (intOf v).toNat)
  case atStart => exact ⟨0, by omega, rfl, rfl, Below.refl _ _⟩
  case round =>
    obtain ⟨k, hk, rfl, hsk, hb⟩ := hrel
    replace B := B.later hb
    have R := B.rules
    simp only [Rules] at R
    by_cases hlt : k < s.n
    · obtain ⟨ad, rfl, hblt, c0, c1, c2⟩ := (hs.later B.below) k hlt
      have hbad : stepB s k = false → sqB s = false := sqB_bad hlt
      have hgood : stepB s k = true → stepsB s (k + 1) = true := fun h => by simp [stepsB, hsk, h]
      have hb1 := Lib.hid hbad
      have hg1 := Lib.hid hgood
      clear hbad hgood hs
      by_cases F0 : 0 ≤ s.F k
      rotate_left
      · have hq := hb1.out (by simp [stepB, inB, F0])
        go_wp2
        go_ret
        exact ⟨by first | rfl | (rw [hq]; rfl), (B.alloc _ _).below⟩
      by_cases F1 : s.F k ≤ 7
      rotate_left
      · have hq := hb1.out (by simp [stepB, inB, F1])
        go_wp2
        go_ret
        exact ⟨by first | rfl | (rw [hq]; rfl), (B.alloc _ _).below⟩
      by_cases L0 : 0 ≤ s.L k
      rotate_left
      · have hq := hb1.out (by simp [stepB, inB, L0])
        go_wp2
        go_ret
        exact ⟨by first | rfl | (rw [hq]; rfl), (B.alloc _ _).below⟩
      by_cases L1 : s.L k ≤ s.M k
      rotate_left
      · have hq := hb1.out (by simp [stepB, inB, L1])
        go_wp2
        go_ret
        exact ⟨by first | rfl | (rw [hq]; rfl), (B.alloc _ _).below⟩
      by_cases M1 : s.M k ≤ 38399
      rotate_left
      · have hq := hb1.out (by simp [stepB, inB, M1])
        go_wp2
        go_ret
        exact ⟨by first | rfl | (rw [hq]; rfl), (B.alloc _ _).below⟩
      have hq := hg1.out (by simp [stepB, inB, F0, F1, L0, L1, M1])
      have hq1 := Lib.hid hq
      clear hq
      go_wp2
      exact ⟨⟨k + 1, by omega, by go_num, hq1.out, hb.alloc hb.size _⟩, by simp [intOf]; omega⟩
    · obtain rfl : k = s.n := by omega
      go_wp2
      go_ret
      exact ⟨by rw [Hq.out, hsk]; rfl, B.below⟩

set_option maxHeartbeats 4000000 in
theorem course_any (A : Option Addr) (c : Nat) (s : Sq) (nx rd la : Int) (ov : Bool) (w : World) (hs : StepsAt w A s) (hn : s.n ≤ maxLen) :
    Calls Try.prog 23 #[.agg #[.slice A s.n c, .int .i64 s.r], .agg #[.int .i64 nx, .int .i64 rd, .int .i64 la, .bool ov]] w (Ret (.bool (courseB s ⟨nx, rd, la, ov⟩)) w) := by
  cases hq : sqB s with
  | false =>
    have hc : courseB s ⟨nx, rd, la, ov⟩ = false := by simp [courseB, hq]
    go_enter Try.func23, Try.ntmps23
    have B := St.start w
    have R := B.rules
    go_wp2_with fail
    generalize hX : World.alloc _ _ = X
    replace B := St.cast hX ((B.alloc _ _).alloc _ _)
    try simp only [World.size_alloc] at B
    clear hX
    refine (valid_any A c s _ (hs.later B.below) hn).mono ?_
    rw [hq]
    rintro e' w1 ⟨rfl, h⟩
    replace B := B.later h
    replace R := B.rules
    simp only [Rules] at R
    clear h
    go_wp2
    go_ret
    exact ⟨by first | rfl | (rw [hc]; rfl), B.below⟩
  | true =>
    cases hz : eqC nx rd la ov 0 0 0 false with
    | true =>
      have hc : courseB s ⟨nx, rd, la, ov⟩ = true := by simp [courseB, hq, zeroB, hz]
      go_enter Try.func23, Try.ntmps23
      have B := St.start w
      have R := B.rules
      go_wp2_with fail
      generalize hX : World.alloc _ _ = X
      replace B := St.cast hX ((B.alloc _ _).alloc _ _)
      try simp only [World.size_alloc] at B
      clear hX
      refine (valid_any A c s _ (hs.later B.below) hn).mono ?_
      rw [hq]
      rintro e' w1 ⟨rfl, h⟩
      replace B := B.later h
      replace R := B.rules
      simp only [Rules] at R
      clear h
      go_wp2
      go_ret
      exact ⟨by first | rfl | (rw [hc]; rfl), B.below⟩
    | false =>
      have hc : courseB s ⟨nx, rd, la, ov⟩ = liveB s ⟨nx, rd, la, ov⟩ := by simp [courseB, hq, zeroB, hz]
      obtain ⟨⟨n1, n2⟩, ⟨r1, r2⟩, _⟩ := sqB_parts hq
      have Hc := Lib.hid hc
      clear hc
      cases ov with
      | true =>
        clear hz
        by_cases t1 : nx = 0
        rotate_left
        · have hl : liveB s ⟨nx, rd, la, true⟩ = false := by simp [liveB, t1]
          go_enter Try.func23, Try.ntmps23
          have B := St.start w
          have R := B.rules
          go_wp2_with fail
          generalize hX : World.alloc _ _ = X
          replace B := St.cast hX ((B.alloc _ _).alloc _ _)
          try simp only [World.size_alloc] at B
          clear hX
          refine (valid_any A c s _ (hs.later B.below) hn).mono ?_
          rw [hq]
          rintro e' w1 ⟨rfl, h⟩
          replace B := B.later h
          replace R := B.rules
          simp only [Rules] at R
          clear h
          go_wp2_with (go_at_call 26; refine (within_any _ _ _ _).mono ?_; rintro e' w' ⟨rfl, rfl⟩)
          go_ret
          exact ⟨by rw [Hc.out, hl]; first | rfl | exact ret_bool (by simp; omega) | exact ret_bool (by simp [*]), B.below⟩
        by_cases t2 : rd = s.r
        rotate_left
        · have hl : liveB s ⟨nx, rd, la, true⟩ = false := by simp [liveB, t2]
          go_enter Try.func23, Try.ntmps23
          have B := St.start w
          have R := B.rules
          go_wp2_with fail
          generalize hX : World.alloc _ _ = X
          replace B := St.cast hX ((B.alloc _ _).alloc _ _)
          try simp only [World.size_alloc] at B
          clear hX
          refine (valid_any A c s _ (hs.later B.below) hn).mono ?_
          rw [hq]
          rintro e' w1 ⟨rfl, h⟩
          replace B := B.later h
          replace R := B.rules
          simp only [Rules] at R
          clear h
          go_wp2_with (go_at_call 26; refine (within_any _ _ _ _).mono ?_; rintro e' w' ⟨rfl, rfl⟩)
          go_ret
          exact ⟨by rw [Hc.out, hl]; first | rfl | exact ret_bool (by simp; omega) | exact ret_bool (by simp [*]), B.below⟩
        cases t3 : inB 0 la 38399
        · have hl : liveB s ⟨nx, rd, la, true⟩ = false := by simp [liveB, t3]
          go_enter Try.func23, Try.ntmps23
          have B := St.start w
          have R := B.rules
          go_wp2_with fail
          generalize hX : World.alloc _ _ = X
          replace B := St.cast hX ((B.alloc _ _).alloc _ _)
          try simp only [World.size_alloc] at B
          clear hX
          refine (valid_any A c s _ (hs.later B.below) hn).mono ?_
          rw [hq]
          rintro e' w1 ⟨rfl, h⟩
          replace B := B.later h
          replace R := B.rules
          simp only [Rules] at R
          clear h
          go_wp2_with (go_at_call 26; refine (within_any _ _ _ _).mono ?_; rintro e' w' ⟨rfl, rfl⟩)
          go_ret
          exact ⟨by rw [Hc.out, hl]; first | rfl | exact ret_bool (by simp; omega) | exact ret_bool (by simp [*]), B.below⟩
        have hl : liveB s ⟨nx, rd, la, true⟩ = true := by simp [liveB, t1, t2, t3]
        go_enter Try.func23, Try.ntmps23
        have B := St.start w
        have R := B.rules
        go_wp2_with fail
        generalize hX : World.alloc _ _ = X
        replace B := St.cast hX ((B.alloc _ _).alloc _ _)
        try simp only [World.size_alloc] at B
        clear hX
        refine (valid_any A c s _ (hs.later B.below) hn).mono ?_
        rw [hq]
        rintro e' w1 ⟨rfl, h⟩
        replace B := B.later h
        replace R := B.rules
        simp only [Rules] at R
        clear h
        go_wp2_with (go_at_call 26; refine (within_any _ _ _ _).mono ?_; rintro e' w' ⟨rfl, rfl⟩)
        go_ret
        exact ⟨by rw [Hc.out, hl]; first | rfl | exact ret_bool (by simp; omega) | exact ret_bool (by simp [*]), B.below⟩
      | false =>
        cases t1 : inB 0 nx ((s.n : Int) - 1)
        · have hl : liveB s ⟨nx, rd, la, false⟩ = false := by simp [liveB, t1]
          go_enter Try.func23, Try.ntmps23
          have B := St.start w
          have R := B.rules
          go_wp2_with fail
          generalize hX : World.alloc _ _ = X
          replace B := St.cast hX ((B.alloc _ _).alloc _ _)
          try simp only [World.size_alloc] at B
          clear hX
          refine (valid_any A c s _ (hs.later B.below) hn).mono ?_
          rw [hq]
          rintro e' w1 ⟨rfl, h⟩
          replace B := B.later h
          replace R := B.rules
          simp only [Rules] at R
          clear h
          go_wp2_with (go_at_call 26; refine (within_any _ _ _ _).mono ?_; rintro e' w' ⟨rfl, rfl⟩)
          go_ret
          exact ⟨by rw [Hc.out, hl]; first | rfl | exact ret_bool (by simp; omega) | exact ret_bool (by simp [*]), B.below⟩
        cases t2 : inB 0 rd (s.r - 1)
        · have hl : liveB s ⟨nx, rd, la, false⟩ = false := by simp [liveB, t2]
          go_enter Try.func23, Try.ntmps23
          have B := St.start w
          have R := B.rules
          go_wp2_with fail
          generalize hX : World.alloc _ _ = X
          replace B := St.cast hX ((B.alloc _ _).alloc _ _)
          try simp only [World.size_alloc] at B
          clear hX
          refine (valid_any A c s _ (hs.later B.below) hn).mono ?_
          rw [hq]
          rintro e' w1 ⟨rfl, h⟩
          replace B := B.later h
          replace R := B.rules
          simp only [Rules] at R
          clear h
          go_wp2_with (go_at_call 26; refine (within_any _ _ _ _).mono ?_; rintro e' w' ⟨rfl, rfl⟩)
          go_ret
          exact ⟨by rw [Hc.out, hl]; first | rfl | exact ret_bool (by simp; omega) | exact ret_bool (by simp [*]), B.below⟩
        cases t3 : inB 0 la 38399
        · have hl : liveB s ⟨nx, rd, la, false⟩ = false := by simp [liveB, t3]
          go_enter Try.func23, Try.ntmps23
          have B := St.start w
          have R := B.rules
          go_wp2_with fail
          generalize hX : World.alloc _ _ = X
          replace B := St.cast hX ((B.alloc _ _).alloc _ _)
          try simp only [World.size_alloc] at B
          clear hX
          refine (valid_any A c s _ (hs.later B.below) hn).mono ?_
          rw [hq]
          rintro e' w1 ⟨rfl, h⟩
          replace B := B.later h
          replace R := B.rules
          simp only [Rules] at R
          clear h
          go_wp2_with (go_at_call 26; refine (within_any _ _ _ _).mono ?_; rintro e' w' ⟨rfl, rfl⟩)
          go_ret
          exact ⟨by rw [Hc.out, hl]; first | rfl | exact ret_bool (by simp; omega) | exact ret_bool (by simp [*]), B.below⟩
        obtain ⟨x1, x2⟩ := inB_iff.1 t1
        obtain ⟨x3, x4⟩ := inB_iff.1 t2
        by_cases t7 : 0 < nx + rd
        rotate_left
        · have hl : liveB s ⟨nx, rd, la, false⟩ = false := by simp [liveB, t7]
          go_enter Try.func23, Try.ntmps23
          have B := St.start w
          have R := B.rules
          go_wp2_with fail
          generalize hX : World.alloc _ _ = X
          replace B := St.cast hX ((B.alloc _ _).alloc _ _)
          try simp only [World.size_alloc] at B
          clear hX
          refine (valid_any A c s _ (hs.later B.below) hn).mono ?_
          rw [hq]
          rintro e' w1 ⟨rfl, h⟩
          replace B := B.later h
          replace R := B.rules
          simp only [Rules] at R
          clear h
          go_wp2_with (go_at_call 26; refine (within_any _ _ _ _).mono ?_; rintro e' w' ⟨rfl, rfl⟩)
          go_ret
          exact ⟨by rw [Hc.out, hl]; first | rfl | exact ret_bool (by simp; omega) | exact ret_bool (by simp [*]), B.below⟩
        have hl : liveB s ⟨nx, rd, la, false⟩ = true := by simp [liveB, t1, t2, t3, t7]
        go_enter Try.func23, Try.ntmps23
        have B := St.start w
        have R := B.rules
        go_wp2_with fail
        generalize hX : World.alloc _ _ = X
        replace B := St.cast hX ((B.alloc _ _).alloc _ _)
        try simp only [World.size_alloc] at B
        clear hX
        refine (valid_any A c s _ (hs.later B.below) hn).mono ?_
        rw [hq]
        rintro e' w1 ⟨rfl, h⟩
        replace B := B.later h
        replace R := B.rules
        simp only [Rules] at R
        clear h
        go_wp2_with (go_at_call 26; refine (within_any _ _ _ _).mono ?_; rintro e' w' ⟨rfl, rfl⟩)
        go_ret
        exact ⟨by rw [Hc.out, hl]; first | rfl | exact ret_bool (by simp; omega) | exact ret_bool (by simp [*]), B.below⟩

set_option maxHeartbeats 4000000 in
theorem courser_any (A : Option Addr) (c : Nat) (s : Sq) (nx rd la : Int) (ov : Bool) (w : World) (hs : StepsAt w A s) (hn : s.n ≤ maxLen) :
    Calls Try.prog 25 #[.agg #[.slice A s.n c, .int .i64 s.r], .agg #[.int .i64 nx, .int .i64 rd, .int .i64 la, .bool ov]] w (Ret (.bool (courseB s ⟨nx, rd, la, ov⟩)) w) := by
  cases hq : sqB s with
  | false =>
    have hc : courseB s ⟨nx, rd, la, ov⟩ = false := by simp [courseB, hq]
    go_enter Try.func25, Try.ntmps25
    have B := St.start w
    have R := B.rules
    go_wp2_with fail
    generalize hX : World.alloc _ _ = X
    replace B := St.cast hX ((B.alloc _ _).alloc _ _)
    try simp only [World.size_alloc] at B
    clear hX
    refine (validr_any A c s _ (hs.later B.below) hn).mono ?_
    rw [hq]
    rintro e' w1 ⟨rfl, h⟩
    replace B := B.later h
    replace R := B.rules
    simp only [Rules] at R
    clear h
    go_wp2
    go_ret
    exact ⟨by first | rfl | (rw [hc]; rfl), B.below⟩
  | true =>
    cases hz : eqC nx rd la ov 0 0 0 false with
    | true =>
      have hc : courseB s ⟨nx, rd, la, ov⟩ = true := by simp [courseB, hq, zeroB, hz]
      go_enter Try.func25, Try.ntmps25
      have B := St.start w
      have R := B.rules
      go_wp2_with fail
      generalize hX : World.alloc _ _ = X
      replace B := St.cast hX ((B.alloc _ _).alloc _ _)
      try simp only [World.size_alloc] at B
      clear hX
      refine (validr_any A c s _ (hs.later B.below) hn).mono ?_
      rw [hq]
      rintro e' w1 ⟨rfl, h⟩
      replace B := B.later h
      replace R := B.rules
      simp only [Rules] at R
      clear h
      go_wp2
      go_ret
      exact ⟨by first | rfl | (rw [hc]; rfl), B.below⟩
    | false =>
      have hc : courseB s ⟨nx, rd, la, ov⟩ = liveB s ⟨nx, rd, la, ov⟩ := by simp [courseB, hq, zeroB, hz]
      obtain ⟨⟨n1, n2⟩, ⟨r1, r2⟩, _⟩ := sqB_parts hq
      have Hc := Lib.hid hc
      clear hc
      cases ov with
      | true =>
        clear hz
        cases t0 : inB 0 la 38399
        · have hla : ¬ (0 ≤ la ∧ la ≤ 38399) := fun h => by rw [inB_iff.2 h] at t0; cases t0
          have hl : liveB s ⟨nx, rd, la, true⟩ = false := by simp [liveB, inB]; omega
          go_enter Try.func25, Try.ntmps25
          have B := St.start w
          have R := B.rules
          go_wp2_with fail
          generalize hX : World.alloc _ _ = X
          replace B := St.cast hX ((B.alloc _ _).alloc _ _)
          try simp only [World.size_alloc] at B
          clear hX
          refine (validr_any A c s _ (hs.later B.below) hn).mono ?_
          rw [hq]
          rintro e' w1 ⟨rfl, h⟩
          replace B := B.later h
          replace R := B.rules
          simp only [Rules] at R
          clear h
          go_wp2_with (go_at_call 32; refine (is_any _ _).mono ?_; rintro e' w' ⟨rfl, rfl⟩)
          go_ret
          exact ⟨by rw [Hc.out, hl]; first | rfl | exact ret_bool (by simp; omega) | exact ret_bool (by simp [*]), B.below⟩
        obtain ⟨x1, x2⟩ := inB_iff.1 t0
        by_cases t1 : nx = 0
        rotate_left
        · have hl : liveB s ⟨nx, rd, la, true⟩ = false := by simp [liveB, inB]; omega
          go_enter Try.func25, Try.ntmps25
          have B := St.start w
          have R := B.rules
          go_wp2_with fail
          generalize hX : World.alloc _ _ = X
          replace B := St.cast hX ((B.alloc _ _).alloc _ _)
          try simp only [World.size_alloc] at B
          clear hX
          refine (validr_any A c s _ (hs.later B.below) hn).mono ?_
          rw [hq]
          rintro e' w1 ⟨rfl, h⟩
          replace B := B.later h
          replace R := B.rules
          simp only [Rules] at R
          clear h
          go_wp2_with (go_at_call 32; refine (is_any _ _).mono ?_; rintro e' w' ⟨rfl, rfl⟩)
          go_ret
          exact ⟨by rw [Hc.out, hl]; first | rfl | exact ret_bool (by simp; omega) | exact ret_bool (by simp [*]), B.below⟩
        by_cases t2 : rd = s.r
        rotate_left
        · have hl : liveB s ⟨nx, rd, la, true⟩ = false := by simp [liveB, inB]; omega
          go_enter Try.func25, Try.ntmps25
          have B := St.start w
          have R := B.rules
          go_wp2_with fail
          generalize hX : World.alloc _ _ = X
          replace B := St.cast hX ((B.alloc _ _).alloc _ _)
          try simp only [World.size_alloc] at B
          clear hX
          refine (validr_any A c s _ (hs.later B.below) hn).mono ?_
          rw [hq]
          rintro e' w1 ⟨rfl, h⟩
          replace B := B.later h
          replace R := B.rules
          simp only [Rules] at R
          clear h
          go_wp2_with (go_at_call 32; refine (is_any _ _).mono ?_; rintro e' w' ⟨rfl, rfl⟩)
          go_ret
          exact ⟨by rw [Hc.out, hl]; first | rfl | exact ret_bool (by simp; omega) | exact ret_bool (by simp [*]), B.below⟩
        have hl : liveB s ⟨nx, rd, la, true⟩ = true := by simp [liveB, inB]; omega
        go_enter Try.func25, Try.ntmps25
        have B := St.start w
        have R := B.rules
        go_wp2_with fail
        generalize hX : World.alloc _ _ = X
        replace B := St.cast hX ((B.alloc _ _).alloc _ _)
        try simp only [World.size_alloc] at B
        clear hX
        refine (validr_any A c s _ (hs.later B.below) hn).mono ?_
        rw [hq]
        rintro e' w1 ⟨rfl, h⟩
        replace B := B.later h
        replace R := B.rules
        simp only [Rules] at R
        clear h
        go_wp2_with (go_at_call 32; refine (is_any _ _).mono ?_; rintro e' w' ⟨rfl, rfl⟩)
        go_ret
        exact ⟨by rw [Hc.out, hl]; first | rfl | exact ret_bool (by simp; omega) | exact ret_bool (by simp [*]), B.below⟩
      | false =>
        cases t0 : inB 0 la 38399
        · have hla : ¬ (0 ≤ la ∧ la ≤ 38399) := fun h => by rw [inB_iff.2 h] at t0; cases t0
          have hl : liveB s ⟨nx, rd, la, false⟩ = false := by simp [liveB, inB]; omega
          go_enter Try.func25, Try.ntmps25
          have B := St.start w
          have R := B.rules
          go_wp2_with fail
          generalize hX : World.alloc _ _ = X
          replace B := St.cast hX ((B.alloc _ _).alloc _ _)
          try simp only [World.size_alloc] at B
          clear hX
          refine (validr_any A c s _ (hs.later B.below) hn).mono ?_
          rw [hq]
          rintro e' w1 ⟨rfl, h⟩
          replace B := B.later h
          replace R := B.rules
          simp only [Rules] at R
          clear h
          go_wp2_with (go_at_call 32; refine (is_any _ _).mono ?_; rintro e' w' ⟨rfl, rfl⟩)
          go_ret
          exact ⟨by rw [Hc.out, hl]; first | rfl | exact ret_bool (by simp; omega) | exact ret_bool (by simp [*]), B.below⟩
        obtain ⟨x1, x2⟩ := inB_iff.1 t0
        by_cases t1 : 0 ≤ nx
        rotate_left
        · have hl : liveB s ⟨nx, rd, la, false⟩ = false := by simp [liveB, inB]; omega
          go_enter Try.func25, Try.ntmps25
          have B := St.start w
          have R := B.rules
          go_wp2_with fail
          generalize hX : World.alloc _ _ = X
          replace B := St.cast hX ((B.alloc _ _).alloc _ _)
          try simp only [World.size_alloc] at B
          clear hX
          refine (validr_any A c s _ (hs.later B.below) hn).mono ?_
          rw [hq]
          rintro e' w1 ⟨rfl, h⟩
          replace B := B.later h
          replace R := B.rules
          simp only [Rules] at R
          clear h
          go_wp2_with (go_at_call 32; refine (is_any _ _).mono ?_; rintro e' w' ⟨rfl, rfl⟩)
          go_ret
          exact ⟨by rw [Hc.out, hl]; first | rfl | exact ret_bool (by simp; omega) | exact ret_bool (by simp [*]), B.below⟩
        by_cases t2 : nx < (s.n : Int)
        rotate_left
        · have hl : liveB s ⟨nx, rd, la, false⟩ = false := by simp [liveB, inB]; omega
          go_enter Try.func25, Try.ntmps25
          have B := St.start w
          have R := B.rules
          go_wp2_with fail
          generalize hX : World.alloc _ _ = X
          replace B := St.cast hX ((B.alloc _ _).alloc _ _)
          try simp only [World.size_alloc] at B
          clear hX
          refine (validr_any A c s _ (hs.later B.below) hn).mono ?_
          rw [hq]
          rintro e' w1 ⟨rfl, h⟩
          replace B := B.later h
          replace R := B.rules
          simp only [Rules] at R
          clear h
          go_wp2_with (go_at_call 32; refine (is_any _ _).mono ?_; rintro e' w' ⟨rfl, rfl⟩)
          go_ret
          exact ⟨by rw [Hc.out, hl]; first | rfl | exact ret_bool (by simp; omega) | exact ret_bool (by simp [*]), B.below⟩
        by_cases t3 : 0 ≤ rd
        rotate_left
        · have hl : liveB s ⟨nx, rd, la, false⟩ = false := by simp [liveB, inB]; omega
          go_enter Try.func25, Try.ntmps25
          have B := St.start w
          have R := B.rules
          go_wp2_with fail
          generalize hX : World.alloc _ _ = X
          replace B := St.cast hX ((B.alloc _ _).alloc _ _)
          try simp only [World.size_alloc] at B
          clear hX
          refine (validr_any A c s _ (hs.later B.below) hn).mono ?_
          rw [hq]
          rintro e' w1 ⟨rfl, h⟩
          replace B := B.later h
          replace R := B.rules
          simp only [Rules] at R
          clear h
          go_wp2_with (go_at_call 32; refine (is_any _ _).mono ?_; rintro e' w' ⟨rfl, rfl⟩)
          go_ret
          exact ⟨by rw [Hc.out, hl]; first | rfl | exact ret_bool (by simp; omega) | exact ret_bool (by simp [*]), B.below⟩
        by_cases t4 : rd < s.r
        rotate_left
        · have hl : liveB s ⟨nx, rd, la, false⟩ = false := by simp [liveB, inB]; omega
          go_enter Try.func25, Try.ntmps25
          have B := St.start w
          have R := B.rules
          go_wp2_with fail
          generalize hX : World.alloc _ _ = X
          replace B := St.cast hX ((B.alloc _ _).alloc _ _)
          try simp only [World.size_alloc] at B
          clear hX
          refine (validr_any A c s _ (hs.later B.below) hn).mono ?_
          rw [hq]
          rintro e' w1 ⟨rfl, h⟩
          replace B := B.later h
          replace R := B.rules
          simp only [Rules] at R
          clear h
          go_wp2_with (go_at_call 32; refine (is_any _ _).mono ?_; rintro e' w' ⟨rfl, rfl⟩)
          go_ret
          exact ⟨by rw [Hc.out, hl]; first | rfl | exact ret_bool (by simp; omega) | exact ret_bool (by simp [*]), B.below⟩
        by_cases t5 : 0 < nx
        · have hl : liveB s ⟨nx, rd, la, false⟩ = true := by simp [liveB, inB]; omega
          go_enter Try.func25, Try.ntmps25
          have B := St.start w
          have R := B.rules
          go_wp2_with fail
          generalize hX : World.alloc _ _ = X
          replace B := St.cast hX ((B.alloc _ _).alloc _ _)
          try simp only [World.size_alloc] at B
          clear hX
          refine (validr_any A c s _ (hs.later B.below) hn).mono ?_
          rw [hq]
          rintro e' w1 ⟨rfl, h⟩
          replace B := B.later h
          replace R := B.rules
          simp only [Rules] at R
          clear h
          go_wp2_with (go_at_call 32; refine (is_any _ _).mono ?_; rintro e' w' ⟨rfl, rfl⟩)
          go_ret
          exact ⟨by rw [Hc.out, hl]; first | rfl | exact ret_bool (by simp; omega) | exact ret_bool (by simp [*]), B.below⟩
        by_cases t6 : 0 < rd
        · have hl : liveB s ⟨nx, rd, la, false⟩ = true := by simp [liveB, inB]; omega
          go_enter Try.func25, Try.ntmps25
          have B := St.start w
          have R := B.rules
          go_wp2_with fail
          generalize hX : World.alloc _ _ = X
          replace B := St.cast hX ((B.alloc _ _).alloc _ _)
          try simp only [World.size_alloc] at B
          clear hX
          refine (validr_any A c s _ (hs.later B.below) hn).mono ?_
          rw [hq]
          rintro e' w1 ⟨rfl, h⟩
          replace B := B.later h
          replace R := B.rules
          simp only [Rules] at R
          clear h
          go_wp2_with (go_at_call 32; refine (is_any _ _).mono ?_; rintro e' w' ⟨rfl, rfl⟩)
          go_ret
          exact ⟨by rw [Hc.out, hl]; first | rfl | exact ret_bool (by simp; omega) | exact ret_bool (by simp [*]), B.below⟩
        have hl : liveB s ⟨nx, rd, la, false⟩ = false := by simp [liveB, inB]; omega
        go_enter Try.func25, Try.ntmps25
        have B := St.start w
        have R := B.rules
        go_wp2_with fail
        generalize hX : World.alloc _ _ = X
        replace B := St.cast hX ((B.alloc _ _).alloc _ _)
        try simp only [World.size_alloc] at B
        clear hX
        refine (validr_any A c s _ (hs.later B.below) hn).mono ?_
        rw [hq]
        rintro e' w1 ⟨rfl, h⟩
        replace B := B.later h
        replace R := B.rules
        simp only [Rules] at R
        clear h
        go_wp2_with (go_at_call 32; refine (is_any _ _).mono ?_; rintro e' w' ⟨rfl, rfl⟩)
        go_ret
        exact ⟨by rw [Hc.out, hl]; first | rfl | exact ret_bool (by simp; omega) | exact ret_bool (by simp [*]), B.below⟩

end Go.Proofs.Ytmplcceoepkppaa
