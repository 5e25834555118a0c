/-
  Advance, Window, of both packages. No conditions but those in each statement.
-/
import Derived.Test.YtmplcceoepkppaaCadD
import Derived.Test.YtmplcceoepkppaaTail
namespace Go.Proofs.Ytmplcceoepkppaa
open Go.RowKit

/-- A course's value; what Advance returns. -/
def crsV (c : Crs) : Value := .agg #[.int .i64 c.nx, .int .i64 c.rd, .int .i64 c.la, .bool c.ov]
def advV (s : Sq) (c : Crs) (m : Int) : Value := .tuple #[crsV (advC s c m), .int .i64 (readyE s c m)]
theorem advV_no {s : Sq} {c : Crs} {m e : Int} (h : readyE s c m = e) (he : ¬ e = 0) : advV s c m = .tuple #[.agg #[.int .i64 0, .int .i64 0, .int .i64 0, .bool false], .int .i64 e] := by
  simp only [advV, advC, h, if_neg he, crsV, zeroC]
theorem advV_yes {s : Sq} {c : Crs} {m T U V : Int} (h : readyE s c m = 0) (hT : T = taken s c + 1) (hU : U = T / s.n) (hV : V = T % s.n) : advV s c m = .tuple #[.agg #[.int .i64 V, .int .i64 U, .int .i64 m, .bool (U == s.r)], .int .i64 0] := by
  subst hV hU hT
  simp only [advV, advC, h, if_true, crsV, nextC]

set_option maxRecDepth 100000 in
set_option maxHeartbeats 2000000 in
theorem advance_any (A : Option Addr) (c : Nat) (s : Sq) (nx rd la : Int) (ov : Bool) (m : Int) (w : World) (hs : StepsAt w A s) (hn : s.n ≤ maxLen) :
    Calls Try.prog 11 #[.agg #[.slice A s.n c, .int .i64 s.r], .agg #[.int .i64 nx, .int .i64 rd, .int .i64 la, .bool ov], .int .i64 m] w (Ret (advV s ⟨nx, rd, la, ov⟩ m) w) := by
  have C := Lib.hid (fun W (h : Below w.heap.size w W) => ready_any A c s nx rd la ov m W (hs.later h) hn)
  by_cases h0 : readyE s ⟨nx, rd, la, ov⟩ m = 0
  rotate_left
  · have hv := advV_no (e := readyE s ⟨nx, rd, la, ov⟩ m) rfl h0
    rw [hv]
    clear hv hs
    generalize readyE s ⟨nx, rd, la, ov⟩ m = e at *
    go_enter Try.func11, Try.ntmps11
    have B := St.start w
    go_wp2_with fail
    generalize hX : World.alloc _ _ = X
    replace B := St.cast hX (((B.alloc _ _).alloc _ _).alloc _ _)
    try simp only [World.size_alloc] at B
    clear hX
    refine (C.out _ B.below).mono ?_
    rintro e' w1 ⟨rfl, h⟩
    replace B := B.later h
    have R := B.rules
    simp only [Rules] at R
    clear h
    go_wp2
    refine bodyPost_ret (v := .tuple #[.agg #[.int .i64 0, .int .i64 0, .int .i64 0, .bool false], .int .i64 e]) (by simp [results, Try.results11, go_sem, *]) rfl ⟨rfl, ?_⟩
    have bw := B.below.size
    refine (((B.below.setCell ?_ _).setCell ?_ _).setCell ?_ _).setCell ?_ _
    all_goals (first | omega | (simp; done) | (simp; omega))
  · obtain ⟨hc, hm, ho, _, _⟩ := ready_ok h0
    obtain ⟨x1, x2, x3, x4, x5, x6⟩ := course_open hc ho
    obtain ⟨⟨n1, n2⟩, ⟨r1, r2⟩, _⟩ := sqB_parts (course_valid hc)
    obtain ⟨m1, m2⟩ := inB_iff.1 hm
    simp only at x1 x2 x3 x4 x5 x6 ho
    subst ho
    obtain ⟨p1, p2⟩ := mul_bounds (x := 99) (y := 40) x3 (by omega) (show (0 : Int) ≤ s.n by omega) n2
    have hv := fun T U V => advV_yes (T := T) (U := U) (V := V) h0
    have Hv := Lib.hid hv
    rw [h0] at C
    clear hv hc hm hs h0
    go_enter Try.func11, Try.ntmps11
    have B := St.start w
    go_wp2_with fail
    generalize hX : World.alloc _ _ = X
    replace B := St.cast hX (((B.alloc _ _).alloc _ _).alloc _ _)
    try simp only [World.size_alloc] at B
    clear hX
    refine (C.out _ B.below).mono ?_
    rintro e' w1 ⟨rfl, h⟩
    replace B := B.later h
    have R := B.rules
    simp only [Rules] at R
    clear h
    go_wp2_with fail
    have hT0 : 0 ≤ rd * s.n + nx + 1 := by omega
    have e := Hv.out (rd * s.n + nx + 1) _ _ rfl rfl rfl
    have E := Lib.hid e
    clear e Hv C
    have hr : (rd * s.n + nx + 1).tmod s.n = (rd * s.n + nx + 1) % s.n := Int.tmod_eq_emod_of_nonneg hT0
    have v1 : 0 ≤ (rd * s.n + nx + 1) % s.n := Int.emod_nonneg _ (by omega)
    have v2 : (rd * s.n + nx + 1) % s.n < s.n := Int.emod_lt_of_pos _ (by omega)
    have hT1 : rd * s.n + nx + 1 ≤ 4000 := by omega
    clear p1 p2
    generalize (rd * s.n + nx + 1) / s.n = U at *
    generalize (rd * s.n + nx + 1) % s.n = V at *
    generalize rd * s.n + nx + 1 = T at *
    have hw : IntKind.i64.wrap V = V := IntWalk.i64_in _ (by omega)
    refine wp_region_later_tail 12 (by kernel_rfl) (by kernel_rfl) ?_
    simp only [List.take_succ_cons, List.take_zero, List.drop_succ_cons, List.drop_zero]
    repeat (go_big_quiet_step (fail))
    refine wpQuiet_nil ?_
    rintro _ ⟨⟨w2, hb2⟩, rfl⟩
    replace B := B.later hb2
    replace R := B.rules
    simp only [Rules] at R
    clear hb2
    go_wp2
    refine bodyPost_ret (v := .tuple #[.agg #[.int .i64 V, .int .i64 U, .int .i64 m, .bool (U == s.r)], .int .i64 0]) (by simp [results, Try.results11, go_sem, *]) rfl ⟨congrArg Ending.returned E.out.symm, ?_⟩
    have bw := B.below.size
    refine (((B.below.setCell ?_ _).setCell ?_ _).setCell ?_ _).setCell ?_ _
    all_goals (first | omega | (simp; done) | (simp; omega))

end Go.Proofs.Ytmplcceoepkppaa
