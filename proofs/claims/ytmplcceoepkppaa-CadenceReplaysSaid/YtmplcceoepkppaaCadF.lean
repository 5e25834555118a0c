/-
  Window of both packages; Few; taken. No conditions but those in each statement.
-/
import Derived.Test.YtmplcceoepkppaaCadE
namespace Go.Proofs.Ytmplcceoepkppaa
open Go.RowKit

def winE (s : Sq) (c : Crs) : Int := if courseB s c then if c.ov then 11 else if 38399 < fromOf s c then 17 else 0 else 1
def winF (s : Sq) (c : Crs) : Int := if winE s c = 0 then fromOf s c else 0
def winU (s : Sq) (c : Crs) : Int := if winE s c = 0 then untilOf s c else 0
def winV (s : Sq) (c : Crs) : Value := .tuple #[.agg #[.int .i64 (winF s c), .int .i64 (winU s c)], .int .i64 (winE s c)]
theorem winV_no {s : Sq} {c : Crs} {e : Int} (h : winE s c = e) (he : ¬ e = 0) : winV s c = .tuple #[.agg #[.int .i64 0, .int .i64 0], .int .i64 e] := by
  simp only [winV, winF, winU, h, if_neg he]
theorem winV_yes {s : Sq} {c : Crs} {f u : Int} (h : winE s c = 0) (hf : fromOf s c = f) (hu : untilOf s c = u) : winV s c = .tuple #[.agg #[.int .i64 f, .int .i64 u], .int .i64 0] := by
  simp only [winV, winF, winU, h, if_true, hf, hu]

set_option maxHeartbeats 1000000 in
theorem few_any (A : Option Addr) (c : Nat) (s : Sq) (w : World) (_hn : s.n ≤ maxLen) :
    Calls Try.prog 10 #[.agg #[.slice A s.n c, .int .i64 s.r]] w (Ret (.bool (decide ((s.n : Int) ≤ 50))) w) := by
  unfold maxLen at _hn
  go_enter Try.func10, Try.ntmps10
  go_wp2
  go_ret
  exact ⟨rfl, by go_grown⟩

set_option maxHeartbeats 1000000 in
theorem taken_any (A : Option Addr) (c : Nat) (s : Sq) (nx rd la : Int) (ov : Bool) (w : World) (h1 : 0 ≤ nx) (h2 : nx ≤ 40) (h3 : 0 ≤ rd) (h4 : rd ≤ 100) (h5 : (s.n : Int) ≤ 40) :
    Calls Try.prog 21 #[.agg #[.slice A s.n c, .int .i64 s.r], .agg #[.int .i64 nx, .int .i64 rd, .int .i64 la, .bool ov]] w (Ret (.int .i64 (taken s ⟨nx, rd, la, ov⟩)) w) := by
  obtain ⟨p1, p2⟩ := mul_bounds (x := 100) (y := 40) h3 h4 (show (0 : Int) ≤ s.n by omega) h5
  go_enter Try.func21, Try.ntmps21
  go_wp2
  go_ret
  exact ⟨rfl, by go_grown⟩

set_option maxRecDepth 100000 in
set_option maxHeartbeats 4000000 in
theorem win_any (A : Option Addr) (c : Nat) (s : Sq) (nx rd la : Int) (ov : Bool) (w : World) (hs : StepsAt w A s) (hn : s.n ≤ maxLen) :
    Calls Try.prog 15 #[.agg #[.slice A s.n c, .int .i64 s.r], .agg #[.int .i64 nx, .int .i64 rd, .int .i64 la, .bool ov]] w (Ret (winV s ⟨nx, rd, la, ov⟩) w) := by
  cases hc : courseB s ⟨nx, rd, la, ov⟩ with
  | false =>
    have hv := winV_no (s := s) (c := ⟨nx, rd, la, ov⟩) (e := 1) (by simp [winE, hc]) (by omega)
    have HV := Lib.hid hv
    clear hv
    go_enter Try.func15, Try.ntmps15
    have B := St.start w
    have R := B.rules
    go_wp2_with fail
    generalize hX : World.alloc _ _ = X
    replace B := St.cast hX (((B.alloc _ _).alloc _ _).alloc _ _)
    try simp only [World.size_alloc] at B
    clear hX
    refine (course_any A c s nx rd la ov _ (hs.later B.below) hn).mono ?_
    rw [hc]
    rintro e' w1 ⟨rfl, h⟩
    replace B := B.later h
    replace R := B.rules
    simp only [Rules] at R
    clear h
    go_wp2
    refine bodyPost_ret (v := .tuple #[.agg #[.int .i64 0, .int .i64 0], .int .i64 1]) (by simp [results, Try.results15, go_sem, *]) rfl ⟨by rw [HV.out], ?_⟩
    have bw := B.below.size
    refine (B.below.setCell ?_ _).setCell ?_ _
    all_goals (first | omega | (simp; done) | (simp; omega))
  | true =>
    cases ov with
    | true =>
      have hv := winV_no (s := s) (c := ⟨nx, rd, la, true⟩) (e := 11) (by simp [winE, hc]) (by omega)
      have HV := Lib.hid hv
      clear hv
      go_enter Try.func15, Try.ntmps15
      have B := St.start w
      have R := B.rules
      go_wp2_with fail
      generalize hX : World.alloc _ _ = X
      replace B := St.cast hX (((B.alloc _ _).alloc _ _).alloc _ _)
      try simp only [World.size_alloc] at B
      clear hX
      refine (course_any A c s nx rd la true _ (hs.later B.below) hn).mono ?_
      rw [hc]
      rintro e' w1 ⟨rfl, h⟩
      replace B := B.later h
      replace R := B.rules
      simp only [Rules] at R
      clear h
      go_wp2
      refine bodyPost_ret (v := .tuple #[.agg #[.int .i64 0, .int .i64 0], .int .i64 11]) (by simp [results, Try.results15, go_sem, *]) rfl ⟨by rw [HV.out], ?_⟩
      have bw := B.below.size
      refine (B.below.setCell ?_ _).setCell ?_ _
      all_goals (first | omega | (simp; done) | (simp; omega))
    | false =>
      have C := Lib.hid (fun W (h : Below w.heap.size w W) => window_any A c s nx rd la false W (hs.later h) hn hc rfl)
      by_cases hf : 38399 < fromOf s ⟨nx, rd, la, false⟩
      · have hv := winV_no (s := s) (c := ⟨nx, rd, la, false⟩) (e := 17) (by simp [winE, hc, hf]) (by omega)
        have HV := Lib.hid hv
        clear hv
        generalize fromOf s ⟨nx, rd, la, false⟩ = f at *
        generalize untilOf s ⟨nx, rd, la, false⟩ = u at *
        go_enter Try.func15, Try.ntmps15
        have B := St.start w
        have R := B.rules
        go_wp2_with fail
        generalize hX : World.alloc _ _ = X
        replace B := St.cast hX (((B.alloc _ _).alloc _ _).alloc _ _)
        try simp only [World.size_alloc] at B
        clear hX
        refine (course_any A c s nx rd la false _ (hs.later B.below) hn).mono ?_
        rw [hc]
        rintro e' w1 ⟨rfl, h⟩
        replace B := B.later h
        replace R := B.rules
        simp only [Rules] at R
        clear h
        go_wp2_with fail
        refine (C.out _ B.below).mono ?_
        rintro e' w2 ⟨rfl, h⟩
        replace B := B.later h
        replace R := B.rules
        simp only [Rules] at R
        clear h
        go_wp2
        refine bodyPost_ret (v := .tuple #[.agg #[.int .i64 0, .int .i64 0], .int .i64 17]) (by simp [results, Try.results15, go_sem, *]) rfl ⟨by rw [HV.out], ?_⟩
        have bw := B.below.size
        refine ((B.below.setCell ?_ _).setCell ?_ _).alloc ?_ _
        all_goals (first | omega | (simp; done) | (simp; omega))
      · have hv := winV_yes (s := s) (c := ⟨nx, rd, la, false⟩) (by simp [winE, hc, hf]) rfl rfl
        have HV := Lib.hid hv
        clear hv
        generalize fromOf s ⟨nx, rd, la, false⟩ = f at *
        generalize untilOf s ⟨nx, rd, la, false⟩ = u at *
        go_enter Try.func15, Try.ntmps15
        have B := St.start w
        have R := B.rules
        go_wp2_with fail
        generalize hX : World.alloc _ _ = X
        replace B := St.cast hX (((B.alloc _ _).alloc _ _).alloc _ _)
        try simp only [World.size_alloc] at B
        clear hX
        refine (course_any A c s nx rd la false _ (hs.later B.below) hn).mono ?_
        rw [hc]
        rintro e' w1 ⟨rfl, h⟩
        replace B := B.later h
        replace R := B.rules
        simp only [Rules] at R
        clear h
        go_wp2_with fail
        refine (C.out _ B.below).mono ?_
        rintro e' w2 ⟨rfl, h⟩
        replace B := B.later h
        replace R := B.rules
        simp only [Rules] at R
        clear h
        go_wp2
        refine bodyPost_ret (v := .tuple #[.agg #[.int .i64 f, .int .i64 u], .int .i64 0]) (by simp [results, Try.results15, go_sem, *]) rfl ⟨by rw [HV.out], ?_⟩
        have bw := B.below.size
        refine ((B.below.setCell ?_ _).setCell ?_ _).alloc ?_ _
        all_goals (first | omega | (simp; done) | (simp; omega))

set_option maxRecDepth 100000 in
set_option maxHeartbeats 4000000 in
theorem winr_any (A : Option Addr) (c : Nat) (s : Sq) (nx rd la : Int) (ov : Bool) (w : World) (hs : StepsAt w A s) (hn : s.n ≤ maxLen) :
    Calls Try.prog 16 #[.agg #[.slice A s.n c, .int .i64 s.r], .agg #[.int .i64 nx, .int .i64 rd, .int .i64 la, .bool ov]] w (Ret (winV s ⟨nx, rd, la, ov⟩) w) := by
  cases hc : courseB s ⟨nx, rd, la, ov⟩ with
  | false =>
    have hv := winV_no (s := s) (c := ⟨nx, rd, la, ov⟩) (e := 1) (by simp [winE, hc]) (by omega)
    have HV := Lib.hid hv
    clear hv
    go_enter Try.func16, Try.ntmps16
    have B := St.start w
    have R := B.rules
    go_wp2_with fail
    generalize hX : World.alloc _ _ = X
    replace B := St.cast hX (((B.alloc _ _).alloc _ _).alloc _ _)
    try simp only [World.size_alloc] at B
    clear hX
    refine (courser_any A c s nx rd la ov _ (hs.later B.below) hn).mono ?_
    rw [hc]
    rintro e' w1 ⟨rfl, h⟩
    replace B := B.later h
    replace R := B.rules
    simp only [Rules] at R
    clear h
    go_wp2
    refine bodyPost_ret (v := .tuple #[.agg #[.int .i64 0, .int .i64 0], .int .i64 1]) (by simp [results, Try.results16, go_sem, *]) rfl ⟨by rw [HV.out], ?_⟩
    have bw := B.below.size
    refine (B.below.setCell ?_ _).setCell ?_ _
    all_goals (first | omega | (simp; done) | (simp; omega))
  | true =>
    cases ov with
    | true =>
      have hv := winV_no (s := s) (c := ⟨nx, rd, la, true⟩) (e := 11) (by simp [winE, hc]) (by omega)
      have HV := Lib.hid hv
      clear hv
      go_enter Try.func16, Try.ntmps16
      have B := St.start w
      have R := B.rules
      go_wp2_with fail
      generalize hX : World.alloc _ _ = X
      replace B := St.cast hX (((B.alloc _ _).alloc _ _).alloc _ _)
      try simp only [World.size_alloc] at B
      clear hX
      refine (courser_any A c s nx rd la true _ (hs.later B.below) hn).mono ?_
      rw [hc]
      rintro e' w1 ⟨rfl, h⟩
      replace B := B.later h
      replace R := B.rules
      simp only [Rules] at R
      clear h
      go_wp2
      refine bodyPost_ret (v := .tuple #[.agg #[.int .i64 0, .int .i64 0], .int .i64 11]) (by simp [results, Try.results16, go_sem, *]) rfl ⟨by rw [HV.out], ?_⟩
      have bw := B.below.size
      refine (B.below.setCell ?_ _).setCell ?_ _
      all_goals (first | omega | (simp; done) | (simp; omega))
    | false =>
      obtain ⟨x1, x2, x3, x4, x5, x6⟩ := course_open hc rfl
      have hq := course_valid hc
      obtain ⟨⟨n1, n2⟩, ⟨r1, r2⟩, _⟩ := sqB_parts hq
      simp only at x1 x2 x3 x4 x5 x6
      obtain ⟨k, rfl⟩ : ∃ k : Nat, nx = k := ⟨nx.toNat, by omega⟩
      have hk : k < s.n := by omega
      obtain ⟨l0, l1, m1⟩ := step_parts hq hk
      clear hq x1
      by_cases hz : (k : Int) + rd = 0
      · have hv := winV_yes (s := s) (c := ⟨k, rd, la, false⟩) (f := 0) (u := 38399) (by simp [winE, hc, fromOf, hz]) (by simp [fromOf, hz]) (by simp [untilOf, hz])
        obtain rfl : k = 0 := by omega
        obtain rfl : rd = 0 := by omega
        have HV := Lib.hid hv
        clear hv
        go_enter Try.func16, Try.ntmps16
        have B := St.start w
        have R := B.rules
        go_wp2_with fail
        generalize hX : World.alloc _ _ = X
        replace B := St.cast hX (((B.alloc _ _).alloc _ _).alloc _ _)
        try simp only [World.size_alloc] at B
        clear hX
        refine (courser_any A c s ((0 : Nat) : Int) 0 la false _ (hs.later B.below) hn).mono ?_
        rw [hc]
        rintro e' w1 ⟨rfl, h⟩
        replace B := B.later h
        replace R := B.rules
        simp only [Rules] at R
        clear h
        go_wp2
        refine bodyPost_ret (v := .tuple #[.agg #[.int .i64 0, .int .i64 38399], .int .i64 0]) (by simp [results, Try.results16, go_sem, *]) rfl ⟨by rw [HV.out], ?_⟩
        have bw := B.below.size
        refine (B.below.setCell ?_ _).setCell ?_ _
        all_goals (first | omega | (simp; done) | (simp; omega))
      · have hff : fromOf s ⟨k, rd, la, false⟩ = la + s.L k := by simp [fromOf, hz]
        have huu : untilOf s ⟨k, rd, la, false⟩ = min (la + s.M k) 38399 := by simp [untilOf, hz]
        have hz2 : ((k : Int) == 0) = false ∨ (((k : Int) == 0) = true ∧ (rd == 0) = false) := by simp; omega
        by_cases hf : 38399 < la + s.L k
        · have hv := winV_no (s := s) (c := ⟨k, rd, la, false⟩) (e := 17) (by simp [winE, hc, hff, hf]) (by omega)
          have HV := Lib.hid hv
          clear hv hff huu hz
          rcases hz2 with hz2 | ⟨hz2, hz3⟩
          all_goals
            go_enter Try.func16, Try.ntmps16
            have B := St.start w
            have R := B.rules
            go_wp2_with fail
            generalize hX : World.alloc _ _ = X
            replace B := St.cast hX (((B.alloc _ _).alloc _ _).alloc _ _)
            try simp only [World.size_alloc] at B
            clear hX
            refine (courser_any A c s k rd la false _ (hs.later B.below) hn).mono ?_
            rw [hc]
            rintro e' w1 ⟨rfl, h⟩
            replace B := B.later h
            replace R := B.rules
            simp only [Rules] at R
            clear h
            obtain ⟨ad, rfl, hblt, c0, c1, c2⟩ := (hs.later B.below) k hk
            go_wp2
            refine bodyPost_ret (v := .tuple #[.agg #[.int .i64 0, .int .i64 0], .int .i64 17]) (by simp [results, Try.results16, go_sem, *]) rfl ⟨by rw [HV.out], ?_⟩
            have bw := B.below.size
            refine ((B.below.setCell ?_ _).setCell ?_ _).alloc ?_ _
            all_goals (first | omega | (simp; done) | (simp; omega))
        · obtain ⟨u, hu, hu2⟩ : ∃ u, untilOf s ⟨k, rd, la, false⟩ = u ∧ (38399 < la + s.M k ∧ u = 38399 ∨ la + s.M k ≤ 38399 ∧ u = la + s.M k) := ⟨_, rfl, by rw [huu]; omega⟩
          have hv := winV_yes (s := s) (c := ⟨k, rd, la, false⟩) (u := u) (by simp [winE, hc, hff, hf]) hff hu
          have HV := Lib.hid hv
          clear hv hff huu hz hu
          rcases hu2 with ⟨t1, rfl⟩ | ⟨t1, rfl⟩
          · rcases hz2 with hz2 | ⟨hz2, hz3⟩
            all_goals
              go_enter Try.func16, Try.ntmps16
              have B := St.start w
              have R := B.rules
              go_wp2_with fail
              generalize hX : World.alloc _ _ = X
              replace B := St.cast hX (((B.alloc _ _).alloc _ _).alloc _ _)
              try simp only [World.size_alloc] at B
              clear hX
              refine (courser_any A c s k rd la false _ (hs.later B.below) hn).mono ?_
              rw [hc]
              rintro e' w1 ⟨rfl, h⟩
              replace B := B.later h
              replace R := B.rules
              simp only [Rules] at R
              clear h
              obtain ⟨ad, rfl, hblt, c0, c1, c2⟩ := (hs.later B.below) k hk
              go_wp2
              refine bodyPost_ret (v := .tuple #[.agg #[.int .i64 (la + s.L k), .int .i64 38399], .int .i64 0]) (by simp [results, Try.results16, go_sem, *]) rfl ⟨by rw [HV.out], ?_⟩
              have bw := B.below.size
              refine ((B.below.setCell ?_ _).setCell ?_ _).alloc ?_ _
              all_goals (first | omega | (simp; done) | (simp; omega))
          · rcases hz2 with hz2 | ⟨hz2, hz3⟩
            all_goals
              go_enter Try.func16, Try.ntmps16
              have B := St.start w
              have R := B.rules
              go_wp2_with fail
              generalize hX : World.alloc _ _ = X
              replace B := St.cast hX (((B.alloc _ _).alloc _ _).alloc _ _)
              try simp only [World.size_alloc] at B
              clear hX
              refine (courser_any A c s k rd la false _ (hs.later B.below) hn).mono ?_
              rw [hc]
              rintro e' w1 ⟨rfl, h⟩
              replace B := B.later h
              replace R := B.rules
              simp only [Rules] at R
              clear h
              obtain ⟨ad, rfl, hblt, c0, c1, c2⟩ := (hs.later B.below) k hk
              go_wp2
              refine bodyPost_ret (v := .tuple #[.agg #[.int .i64 (la + s.L k), .int .i64 (la + s.M k)], .int .i64 0]) (by simp [results, Try.results16, go_sem, *]) rfl ⟨by rw [HV.out], ?_⟩
              have bw := B.below.size
              refine ((B.below.setCell ?_ _).setCell ?_ _).alloc ?_ _
              all_goals (first | omega | (simp; done) | (simp; omega))


end Go.Proofs.Ytmplcceoepkppaa
