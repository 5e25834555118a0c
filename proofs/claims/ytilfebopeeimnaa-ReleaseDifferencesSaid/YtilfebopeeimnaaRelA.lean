/-
  The leaf functions of the packages release, detect, debt and their reference implementations: what each call returns. No conditions but those in each statement.
-/
import Derived.Test.YtilfebopeeimnaaRows
import Derived.Test.YtilfebopeeimnaaSet
import Derived.Test.YtilfebopeeimnaaLawD
import Derived.Test.YtilfebopeeimnaaLawG
import Derived.WalkMore
namespace Go.Proofs.Ytilfebopeeimnaa
open Go.RowKit

/-- A tally, a place as values. -/
def talV (x : Tal) : Value := .agg #[.int .i64 x.t, .int .i64 x.c, .int .i64 x.f, .int .i64 x.n]
def plV (x : Tal) : Value := .agg #[.int .i64 x.t, .int .i64 x.c, .int .i64 x.f]
def sameB (x y : Tal) : Bool := x.t == y.t && x.c == y.c && x.f == y.f

set_option maxHeartbeats 400000 in
theorem within_any (n lo hi : Int) (w : World) : Calls Try.prog 26 #[.int .i64 n, .int .i64 lo, .int .i64 hi] w (Ret (.bool (inR n lo hi)) w) := by
  by_cases h1 : lo ≤ n
  · have hr : inR n lo hi = decide (n ≤ hi) := by simp [inR, h1]
    have Hr := Lib.hid hr; clear hr
    go_enter Try.func26, Try.ntmps26
    go_wp2
    all_goals
      go_ret
      exact Ret.same (by rw [Hr.out]; simp [*]) rfl
  · have hr : inR n lo hi = false := by simp [inR, h1]
    have Hr := Lib.hid hr; clear hr
    go_enter Try.func26, Try.ntmps26
    go_wp2
    all_goals
      go_ret
      exact Ret.same (by rw [Hr.out]; rfl) rfl

set_option maxHeartbeats 400000 in
theorem at_any (t c f n : Int) (w : World) : Calls Try.prog 23 #[.agg #[.int .i64 t, .int .i64 c, .int .i64 f, .int .i64 n]] w (Ret (.agg #[.int .i64 t, .int .i64 c, .int .i64 f]) w) := by
  go_enter Try.func23, Try.ntmps23
  go_wp2
  refine bodyPost_ret (v := .agg #[.int .i64 t, .int .i64 c, .int .i64 f]) (by simp [results, Try.results23, go_sem, *]) rfl ⟨rfl, ?_⟩
  go_grown

set_option maxHeartbeats 400000 in
theorem rplace_any (t c f n : Int) (w : World) : Calls Try.prog 18 #[.agg #[.int .i64 t, .int .i64 c, .int .i64 f, .int .i64 n]] w (Ret (.agg #[.int .i64 t, .int .i64 c, .int .i64 f]) w) := by
  go_enter Try.func18, Try.ntmps18
  go_wp2
  refine bodyPost_ret (v := .agg #[.int .i64 t, .int .i64 c, .int .i64 f]) (by simp [results, Try.results18, go_sem, *]) rfl ⟨rfl, ?_⟩
  go_grown

set_option maxHeartbeats 1000000 in
theorem same_any (t c f n t' c' f' n' : Int) (w : World) : Calls Try.prog 13 #[.agg #[.int .i64 t, .int .i64 c, .int .i64 f, .int .i64 n], .agg #[.int .i64 t', .int .i64 c', .int .i64 f', .int .i64 n']] w (Ret (.bool (sameB ⟨t, c, f, n⟩ ⟨t', c', f', n'⟩)) w) := by
  cases h1 : (t == t') with
  | false =>
    have Hq := Lib.hid (show sameB ⟨t, c, f, n⟩ ⟨t', c', f', n'⟩ = false from by simp [sameB, h1])
    go_enter Try.func13, Try.ntmps13
    go_wp2
    go_ret
    exact ⟨by rw [Hq.out]; rfl, by go_grown⟩
  | true =>
    cases h2 : (c == c') with
    | false =>
      have Hq := Lib.hid (show sameB ⟨t, c, f, n⟩ ⟨t', c', f', n'⟩ = false from by simp [sameB, h2])
      go_enter Try.func13, Try.ntmps13
      go_wp2
      go_ret
      exact ⟨by rw [Hq.out]; rfl, by go_grown⟩
    | true =>
      have Hq := Lib.hid (show sameB ⟨t, c, f, n⟩ ⟨t', c', f', n'⟩ = (f == f') from by simp [sameB, h1, h2])
      go_enter Try.func13, Try.ntmps13
      go_wp2
      go_ret
      exact ⟨by rw [Hq.out]; rfl, by go_grown⟩

set_option maxHeartbeats 2000000 in
theorem exists_any (t c f n : Int) (w : World) : Calls Try.prog 24 #[.agg #[.int .i64 t, .int .i64 c, .int .i64 f]] w (Ret (.bool (exB ⟨t, c, f, n⟩)) w) := by
  by_cases a0 : 0 ≤ t
  rotate_left
  · have Hq := Lib.hid (show exB ⟨t, c, f, n⟩ = false from by simp [exB, a0])
    go_enter Try.func24, Try.ntmps24
    go_wp2
    go_ret
    exact ⟨by rw [Hq.out]; rfl, by go_grown⟩
  by_cases a1 : t < 512
  rotate_left
  · have Hq := Lib.hid (show exB ⟨t, c, f, n⟩ = false from by simp [exB, a1])
    go_enter Try.func24, Try.ntmps24
    go_wp2
    go_ret
    exact ⟨by rw [Hq.out]; rfl, by go_grown⟩
  by_cases a2 : 0 ≤ c
  rotate_left
  · have Hq := Lib.hid (show exB ⟨t, c, f, n⟩ = false from by simp [exB, a2])
    go_enter Try.func24, Try.ntmps24
    go_wp2
    go_ret
    exact ⟨by rw [Hq.out]; rfl, by go_grown⟩
  by_cases a3 : c < 4
  rotate_left
  · have Hq := Lib.hid (show exB ⟨t, c, f, n⟩ = false from by simp [exB, a3])
    go_enter Try.func24, Try.ntmps24
    go_wp2
    go_ret
    exact ⟨by rw [Hq.out]; rfl, by go_grown⟩
  by_cases a4 : 0 ≤ f
  rotate_left
  · have Hq := Lib.hid (show exB ⟨t, c, f, n⟩ = false from by simp [exB, a4])
    go_enter Try.func24, Try.ntmps24
    go_wp2
    go_ret
    exact ⟨by rw [Hq.out]; rfl, by go_grown⟩
  by_cases a5 : f < 8
  rotate_left
  · have Hq := Lib.hid (show exB ⟨t, c, f, n⟩ = false from by simp [exB, a5])
    go_enter Try.func24, Try.ntmps24
    go_wp2
    go_ret
    exact ⟨by rw [Hq.out]; rfl, by go_grown⟩
  have Hq := Lib.hid (show exB ⟨t, c, f, n⟩ = true from by simp [exB, a0, a1, a2, a3, a4, a5])
  go_enter Try.func24, Try.ntmps24
  go_wp2
  go_ret
  exact ⟨by rw [Hq.out]; rfl, by go_grown⟩

/-- What cmp.Or returns of three numbers. -/
def or3 (D : Nat → Int) : Int := if D 0 ≠ 0 then D 0 else if D 1 ≠ 0 then D 1 else D 2
def OrRel (D : Nat → Int) (w : World) (v8 : Value) (wr : World) : Prop := ∃ k : Nat, k ≤ 3 ∧ v8 = .int .i64 k ∧ (∀ i, i < k → D i = 0) ∧ Below w.heap.size w wr
set_option maxHeartbeats 1000000 in
theorem or_any (b : Nat) (D : Nat → Int) (w : World) (h : ∀ i, i < 3 → w.cell? ⟨b, i, none⟩ = some (.int .i64 (D i))) (hb : b < w.heap.size) :
    Calls Try.prog 30 #[.slice (some ⟨b, 0, none⟩) 3 3] w (Ret (.int .i64 (or3 D)) w) := by
  have H := Lib.hid h
  clear h
  go_enter Try.func30, Try.ntmps30
  go_wp2_with fail
  go_loopw [8] (OrRel D w) (fun v _ => 3 - (intOf v).toNat)
  case atStart => exact ⟨0, by omega, rfl, fun i hi => absurd hi (by omega), Below.refl _ _⟩
  case round =>
    obtain ⟨k, hk, rfl, hz, hbel⟩ := hrel
    have Hz := Lib.hid hz
    clear hz
    by_cases hlt : k < 3
    · have c0 : wr.cell? ⟨b, k, none⟩ = some (.int .i64 (D k)) := (hbel.cell (p := ⟨b, k, none⟩) hb).trans (H.out k hlt)
      have hlt' : (k : Int) < 3 := by omega
      by_cases h0 : D k = 0
      · have Hk := Lib.hid h0
        go_wp2
        exact ⟨⟨k + 1, by omega, by go_num, fun i hi => by
          by_cases e : i = k
          · rw [e]; exact Hk.out
          · exact Hz.out i (by omega), hbel⟩, by simp [intOf]; omega⟩
      · have Hq := Lib.hid (show or3 D = D k from by
          have hz := Hz.out
          have e : k = 0 ∨ k = 1 ∨ k = 2 := by omega
          unfold or3
          rcases e with rfl | rfl | rfl
          · rw [if_pos h0]
          · rw [if_neg (by simp [hz 0 (by omega)]), if_pos h0]
          · rw [if_neg (by simp [hz 0 (by omega)]), if_neg (by simp [hz 1 (by omega)])])
        go_wp2
        go_ret
        exact ⟨by rw [Hq.out]; rfl, hbel⟩
    · obtain rfl : k = 3 := by omega
      have Hq := Lib.hid (show or3 D = 0 from by
        have hz := Hz.out
        simp [or3, hz 0 (by omega), hz 1 (by omega), hz 2 (by omega)])
      go_wp2
      go_ret
      exact ⟨by rw [Hq.out]; rfl, hbel⟩

theorem exB_bounds {x : Tal} (h : exB x = true) : 0 ≤ x.t ∧ x.t < 512 ∧ 0 ≤ x.c ∧ x.c < 4 ∧ 0 ≤ x.f ∧ x.f < 8 := by
  simp only [exB, Bool.and_eq_true, decide_eq_true_eq] at h
  omega
set_option maxHeartbeats 1000000 in
theorem compare_any (t c f n t' c' f' n' : Int) (w : World) (h1 : exB ⟨t, c, f, n⟩ = true) (h2 : exB ⟨t', c', f', n'⟩ = true) :
    Calls Try.prog 25 #[.agg #[.int .i64 t, .int .i64 c, .int .i64 f], .agg #[.int .i64 t', .int .i64 c', .int .i64 f']] w (Ret (.int .i64 (cmpP ⟨t, c, f, n⟩ ⟨t', c', f', n'⟩)) w) := by
  obtain ⟨a1, a2, a3, a4, a5, a6⟩ := exB_bounds h1
  obtain ⟨b1, b2, b3, b4, b5, b6⟩ := exB_bounds h2
  dsimp only at a1 a2 a3 a4 a5 a6 b1 b2 b3 b4 b5 b6
  clear h1 h2
  have HO := Lib.hid (show or3 (fun i => if i = 0 then t - t' else if i = 1 then c - c' else f - f') = cmpP ⟨t, c, f, n⟩ ⟨t', c', f', n'⟩ from rfl)
  go_enter Try.func25, Try.ntmps25
  have B := St.start w
  go_wp2_with fail
  generalize hX : World.alloc _ _ = X
  replace B := St.cast hX (((B.alloc _ _).alloc _ _).alloc _ _)
  try simp only [World.size_alloc] at B
  clear hX
  have hh := B.blks.1
  refine (or_any _ (fun i => if i = 0 then t - t' else if i = 1 then c - c' else f - f') X (fun i hi => ?_) (lt_of_block hh)).mono ?_
  · have e : i = 0 ∨ i = 1 ∨ i = 2 := by omega
    rcases e with rfl | rfl | rfl
    · exact cell_blk hh 0 _ rfl
    · exact cell_blk hh 1 _ rfl
    · exact cell_blk hh 2 _ rfl
  rintro e' w1 ⟨rfl, h⟩
  replace B := B.later h
  go_wp2
  go_ret
  exact ⟨by rw [← HO.out]; rfl, B.below⟩

set_option maxHeartbeats 1000000 in
theorem cls_any (k t f : Int) (w : World) : Calls Try.prog 27 #[.agg #[.int .i64 k, .int .i64 t, .int .i64 f]] w (Ret (.bool (clsB k t f)) w) := by
  cases h1 : inR t 0 5 with
  | false =>
    have Hq := Lib.hid (show clsB k t f = false from by simp [clsB, h1])
    have C := Lib.hid (fun W => h1 ▸ within_any t 0 5 W)
    go_enter Try.func27, Try.ntmps27
    have B := St.start w
    go_wp2_with fail
    generalize hX : World.alloc _ _ = X
    replace B := St.cast hX (B.alloc _ _)
    clear hX
    refine (C.out _).mono ?_
    rintro e' w1 ⟨rfl, h⟩
    replace B := B.later h
    go_wp2
    go_ret
    exact ⟨by rw [Hq.out]; rfl, B.below⟩
  | true =>
    have C := Lib.hid (fun W => h1 ▸ within_any t 0 5 W)
    have C2 := Lib.hid (fun W => within_any f 0 7 W)
    cases e1 : (k == 1) with
    | true =>
      have Hq := Lib.hid (show clsB k t f = (f == -1) from by
        have e : k = 1 := by simpa using e1
        simp [clsB, h1, e]
        rfl)
      go_enter Try.func27, Try.ntmps27
      have B := St.start w
      go_wp2_with fail
      generalize hX : World.alloc _ _ = X
      replace B := St.cast hX (B.alloc _ _)
      clear hX
      refine (C.out _).mono ?_
      rintro e' w1 ⟨rfl, h⟩
      replace B := B.later h
      have R := B.rules
      simp only [Rules] at R
      clear h
      go_wp2
      go_ret
      exact ⟨by rw [Hq.out]; rfl, B.below⟩
    | false =>
      cases e2 : (k == 2) with
      | true =>
        have Hq := Lib.hid (show clsB k t f = inR f 0 7 from by
          have e : k = 2 := by simpa using e2
          simp [clsB, h1, e])
        go_enter Try.func27, Try.ntmps27
        have B := St.start w
        go_wp2_with fail
        generalize hX : World.alloc _ _ = X
        replace B := St.cast hX (B.alloc _ _)
        clear hX
        refine (C.out _).mono ?_
        rintro e' w1 ⟨rfl, h⟩
        replace B := B.later h
        have R := B.rules
        simp only [Rules] at R
        clear h
        go_wp2_with fail
        refine (C2.out _).mono ?_
        rintro e' w2 ⟨rfl, h⟩
        replace B := B.later h
        go_wp2
        go_ret
        exact ⟨by rw [Hq.out]; rfl, B.below⟩
      | false =>
        cases e3 : (k == 3) with
        | true =>
          have Hq := Lib.hid (show clsB k t f = inR f 0 7 from by
            have e : k = 3 := by simpa using e3
            simp [clsB, h1, e])
          go_enter Try.func27, Try.ntmps27
          have B := St.start w
          go_wp2_with fail
          generalize hX : World.alloc _ _ = X
          replace B := St.cast hX (B.alloc _ _)
          clear hX
          refine (C.out _).mono ?_
          rintro e' w1 ⟨rfl, h⟩
          replace B := B.later h
          have R := B.rules
          simp only [Rules] at R
          clear h
          go_wp2_with fail
          refine (C2.out _).mono ?_
          rintro e' w2 ⟨rfl, h⟩
          replace B := B.later h
          go_wp2
          go_ret
          exact ⟨by rw [Hq.out]; rfl, B.below⟩
        | false =>
          have Hq := Lib.hid (show clsB k t f = false from by
            have n1 : ¬ k = 1 := by simpa using e1
            have n2 : ¬ k = 2 := by simpa using e2
            have n3 : ¬ k = 3 := by simpa using e3
            simp [clsB, n1, n2, n3])
          go_enter Try.func27, Try.ntmps27
          have B := St.start w
          go_wp2_with fail
          generalize hX : World.alloc _ _ = X
          replace B := St.cast hX (B.alloc _ _)
          clear hX
          refine (C.out _).mono ?_
          rintro e' w1 ⟨rfl, h⟩
          replace B := B.later h
          have R := B.rules
          simp only [Rules] at R
          clear h
          go_wp2
          go_ret
          exact ⟨by rw [Hq.out]; rfl, B.below⟩

end Go.Proofs.Ytilfebopeeimnaa
