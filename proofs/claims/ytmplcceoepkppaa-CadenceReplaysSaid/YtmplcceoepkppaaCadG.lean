/-
  Advance of the reference implementation. No conditions but those in each statement.
-/
import Derived.Test.YtmplcceoepkppaaCadF
import Derived.Test.YtmplcceoepkppaaLawB
import Derived.Test.YtmplcceoepkppaaSet
namespace Go.Proofs.Ytmplcceoepkppaa
open Go.RowKit

theorem advV_last {s : Sq} {nx rd la m : Int} {ov : Bool} (h : readyE s ⟨nx, rd, la, ov⟩ m = 0) (h0 : 1 ≤ (s.n : Int)) (hl : nx + 1 = s.n) :
    advV s ⟨nx, rd, la, ov⟩ m = .tuple #[.agg #[.int .i64 0, .int .i64 (rd + 1), .int .i64 m, .bool (rd + 1 == s.r)], .int .i64 0] := by
  simp only [advV, advC, h, if_true, crsV, next_last h0 hl]
theorem advV_more {s : Sq} {nx rd la m : Int} {ov : Bool} (h : readyE s ⟨nx, rd, la, ov⟩ m = 0) (h0 : 0 ≤ nx) (hl : nx + 1 < s.n) (hr : rd ≠ s.r) :
    advV s ⟨nx, rd, la, ov⟩ m = .tuple #[.agg #[.int .i64 (nx + 1), .int .i64 rd, .int .i64 m, .bool false], .int .i64 0] := by
  simp only [advV, advC, h, if_true, crsV, next_more h0 hl hr]

set_option maxRecDepth 100000 in
set_option maxHeartbeats 4000000 in
theorem advancer_any (A : Option Addr) (c : Nat) (s : Sq) (nx rd la : Int) (ov : Bool) (m : Int) (w : World) (hs : StepsAt w A s) (hn : s.n ≤ maxLen) :
    Calls Try.prog 12 #[.agg #[.slice A s.n c, .int .i64 s.r], .agg #[.int .i64 nx, .int .i64 rd, .int .i64 la, .bool ov], .int .i64 m] w (Ret (advV s ⟨nx, rd, la, ov⟩ m) w) := by
  have C := Lib.hid (fun W (h : Below w.heap.size w W) => readyr_any A c s nx rd la ov m W (hs.later h) hn)
  by_cases h0 : readyE s ⟨nx, rd, la, ov⟩ m = 0
  rotate_left
  · have hv := advV_no (e := readyE s ⟨nx, rd, la, ov⟩ m) rfl h0
    rw [hv]
    clear hv hs
    generalize readyE s ⟨nx, rd, la, ov⟩ m = e at *
    go_enter Try.func12, Try.ntmps12
    have B := St.start w
    go_wp2_with fail
    generalize hX : World.alloc _ _ = X
    replace B := St.cast hX (((B.alloc _ _).alloc _ _).alloc _ _)
    try simp only [World.size_alloc] at B
    clear hX
    refine (C.out _ B.below).mono ?_
    rintro e' w1 ⟨rfl, h⟩
    replace B := B.later h
    have R := B.rules
    simp only [Rules] at R
    clear h
    go_wp2
    refine bodyPost_ret (v := .tuple #[.agg #[.int .i64 0, .int .i64 0, .int .i64 0, .bool false], .int .i64 e]) (by simp [results, Try.results12, go_sem, *]) rfl ⟨rfl, ?_⟩
    have bw := B.below.size
    refine (((B.below.setCell ?_ _).setCell ?_ _).setCell ?_ _).setCell ?_ _
    all_goals (first | omega | (simp; done) | (simp; omega))
  · obtain ⟨hc, hm, ho, _, _⟩ := ready_ok h0
    obtain ⟨x1, x2, x3, x4, x5, x6⟩ := course_open hc ho
    obtain ⟨⟨n1, n2⟩, ⟨r1, r2⟩, _⟩ := sqB_parts (course_valid hc)
    obtain ⟨m1, m2⟩ := inB_iff.1 hm
    simp only at x1 x2 x3 x4 x5 x6 ho
    subst ho
    cases hl : (nx + 1 : Int) == (s.n : Int) with
    | true =>
      have HV := Lib.hid (advV_last h0 n1 (by simpa using hl))
      rw [h0] at C
      clear hc hm hs h0
      go_enter Try.func12, Try.ntmps12
      have B := St.start w
      go_wp2_with fail
      generalize hX : World.alloc _ _ = X
      replace B := St.cast hX (((B.alloc _ _).alloc _ _).alloc _ _)
      try simp only [World.size_alloc] at B
      clear hX
      refine (C.out _ B.below).mono ?_
      rintro e' w1 ⟨rfl, h⟩
      replace B := B.later h
      have R := B.rules
      simp only [Rules] at R
      clear h
      have e21 : (w.heap.size + 1 + 1 = w.heap.size + 1) = False := eq_false (by omega)
      have e01 : (w.heap.size = w.heap.size + 1) = False := eq_false (by omega)
      go_upto_region 5 with (fail)
      generalize hX : World.setCell _ _ _ = X
      replace B := St.cast hX (B.set (w.heap.size + 1) 2 (.int .i64 m) (by omega))
      simp only [setIn, if_true, if_false, e21, e01, put4_2] at B
      clear hX
      replace R := B.rules
      simp only [Rules] at R
      go_upto_region 6 with (fail)
      generalize hX : World.setCell _ _ _ = X
      replace B := St.cast hX (B.set (w.heap.size + 1) 0 (.int .i64 (nx + 1)) (by omega))
      simp only [setIn, if_true, if_false, e21, e01, put4_0] at B
      clear hX
      replace R := B.rules
      simp only [Rules] at R
      go_upto_region 8 with (fail)
      generalize hX : World.setCell _ _ _ = X
      replace B := St.cast hX (B.set (w.heap.size + 1) 0 (.int .i64 0) (by omega))
      simp only [setIn, if_true, if_false, e21, e01, put4_0] at B
      clear hX
      replace R := B.rules
      simp only [Rules] at R
      go_upto_region 9 with (fail)
      generalize hX : World.setCell _ _ _ = X
      replace B := St.cast hX (B.set (w.heap.size + 1) 1 (.int .i64 (rd + 1)) (by omega))
      simp only [setIn, if_true, if_false, e21, e01, put4_1] at B
      clear hX
      replace R := B.rules
      simp only [Rules] at R
      go_upto_region 10 with (fail)
      generalize hX : World.setCell _ _ _ = X
      replace B := St.cast hX (B.set (w.heap.size + 1) 3 (.bool (rd + 1 == s.r)) (by omega))
      simp only [setIn, if_true, if_false, e21, e01, put4_3] at B
      clear hX
      replace R := B.rules
      simp only [Rules] at R
      go_wp2
      refine bodyPost_ret (v := .tuple #[.agg #[.int .i64 0, .int .i64 (rd + 1), .int .i64 m, .bool (rd + 1 == s.r)], .int .i64 0]) (by simp [results, Try.results12, go_sem, *]) rfl ⟨by rw [HV.out], ?_⟩
      have bw := B.below.size
      refine (((B.below.setCell ?_ _).setCell ?_ _).setCell ?_ _).setCell ?_ _
      all_goals (first | omega | (simp; done) | (simp; omega))
    | false =>
      have HV := Lib.hid (advV_more h0 x1 (by simp at hl; omega) (show rd ≠ s.r by omega))
      rw [h0] at C
      clear hc hm hs h0
      go_enter Try.func12, Try.ntmps12
      have B := St.start w
      go_wp2_with fail
      generalize hX : World.alloc _ _ = X
      replace B := St.cast hX (((B.alloc _ _).alloc _ _).alloc _ _)
      try simp only [World.size_alloc] at B
      clear hX
      refine (C.out _ B.below).mono ?_
      rintro e' w1 ⟨rfl, h⟩
      replace B := B.later h
      have R := B.rules
      simp only [Rules] at R
      clear h
      have e21 : (w.heap.size + 1 + 1 = w.heap.size + 1) = False := eq_false (by omega)
      have e01 : (w.heap.size = w.heap.size + 1) = False := eq_false (by omega)
      go_upto_region 5 with (fail)
      generalize hX : World.setCell _ _ _ = X
      replace B := St.cast hX (B.set (w.heap.size + 1) 2 (.int .i64 m) (by omega))
      simp only [setIn, if_true, if_false, e21, e01, put4_2] at B
      clear hX
      replace R := B.rules
      simp only [Rules] at R
      go_upto_region 6 with (fail)
      generalize hX : World.setCell _ _ _ = X
      replace B := St.cast hX (B.set (w.heap.size + 1) 0 (.int .i64 (nx + 1)) (by omega))
      simp only [setIn, if_true, if_false, e21, e01, put4_0] at B
      clear hX
      replace R := B.rules
      simp only [Rules] at R
      go_wp2
      refine bodyPost_ret (v := .tuple #[.agg #[.int .i64 (nx + 1), .int .i64 rd, .int .i64 m, .bool false], .int .i64 0]) (by simp [results, Try.results12, go_sem, *]) rfl ⟨by rw [HV.out], ?_⟩
      have bw := B.below.size
      refine (((B.below.setCell ?_ _).setCell ?_ _).setCell ?_ _).setCell ?_ _
      all_goals (first | omega | (simp; done) | (simp; omega))

end Go.Proofs.Ytmplcceoepkppaa
