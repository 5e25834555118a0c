/-
  Ready of the reference implementation. No conditions but those in each statement.
-/
import Derived.Test.YtmplcceoepkppaaCadC
import Derived.IntWalk
namespace Go.Proofs.Ytmplcceoepkppaa
open Go.RowKit

set_option maxHeartbeats 4000000 in
theorem readyr_any (A : Option Addr) (c : Nat) (s : Sq) (nx rd la : Int) (ov : Bool) (m : Int) (w : World) (hs : StepsAt w A s) (hn : s.n ≤ maxLen) :
    Calls Try.prog 20 #[.agg #[.slice A s.n c, .int .i64 s.r], .agg #[.int .i64 nx, .int .i64 rd, .int .i64 la, .bool ov], .int .i64 m] w (Ret (.int .i64 (readyE s ⟨nx, rd, la, ov⟩ m)) w) := by
  cases hc : courseB s ⟨nx, rd, la, ov⟩ with
  | false =>
    have hq := ready_no (m := m) (show (courseB s ⟨nx, rd, la, ov⟩ && inB 0 m 38399) = false by simp [hc])
    rw [hq]
    go_enter Try.func20, Try.ntmps20
    have B := St.start w
    have R := B.rules
    go_wp2_with fail
    generalize hX : World.alloc _ _ = X
    replace B := St.cast hX ((B.alloc _ _).alloc _ _)
    try simp only [World.size_alloc] at B
    clear hX
    refine (courser_any A c s nx rd la ov _ (hs.later B.below) hn).mono ?_
    rw [hc]
    rintro e' w1 ⟨rfl, h⟩
    replace B := B.later h
    replace R := B.rules
    simp only [Rules] at R
    clear h
    go_wp2
    go_ret
    exact ⟨by first | rfl | (rw [hq]; rfl), B.below⟩
  | true =>
    cases hm : inB 0 m 38399 with
    | false =>
      have hq := ready_no (c := ⟨nx, rd, la, ov⟩) (s := s) (m := m) (by simp [hm])
      rw [hq]
      go_enter Try.func20, Try.ntmps20
      have B := St.start w
      have R := B.rules
      go_wp2_with fail
      generalize hX : World.alloc _ _ = X
      replace B := St.cast hX ((B.alloc _ _).alloc _ _)
      try simp only [World.size_alloc] at B
      clear hX
      refine (courser_any A c s nx rd la ov _ (hs.later B.below) hn).mono ?_
      rw [hc]
      rintro e' w1 ⟨rfl, h⟩
      replace B := B.later h
      replace R := B.rules
      simp only [Rules] at R
      clear h
      go_wp2_with (go_at_call 32; refine (is_any _ _).mono ?_; rintro e' w' ⟨rfl, rfl⟩)
      go_ret
      exact ⟨by first | rfl | (rw [hq]; rfl), B.below⟩
    | true =>
      cases ov with
      | true =>
        have hq := ready_over hc hm rfl
        rw [hq]
        go_enter Try.func20, Try.ntmps20
        have B := St.start w
        have R := B.rules
        go_wp2_with fail
        generalize hX : World.alloc _ _ = X
        replace B := St.cast hX ((B.alloc _ _).alloc _ _)
        try simp only [World.size_alloc] at B
        clear hX
        refine (courser_any A c s nx rd la true _ (hs.later B.below) hn).mono ?_
        rw [hc]
        rintro e' w1 ⟨rfl, h⟩
        replace B := B.later h
        replace R := B.rules
        simp only [Rules] at R
        clear h
        go_wp2_with (go_at_call 32; refine (is_any _ _).mono ?_; rintro e' w' ⟨rfl, rfl⟩)
        go_ret
        exact ⟨by first | rfl | (rw [hq]; rfl), B.below⟩
      | false =>
        obtain ⟨x1, x2, x3, x4, x5, x6⟩ := course_open hc rfl
        have hq := course_valid hc
        obtain ⟨⟨n1, n2⟩, ⟨r1, r2⟩, _⟩ := sqB_parts hq
        simp only at x1 x2 x3 x4 x5 x6
        obtain ⟨k, rfl⟩ : ∃ k : Nat, nx = k := ⟨nx.toNat, by omega⟩
        have hk : k < s.n := by omega
        obtain ⟨l0, l1, m1⟩ := step_parts hq hk
        clear hq x1
        by_cases hz : (k : Int) + rd = 0
        · have hq := ready_zero hc hm rfl hz
          rw [hq]
          obtain rfl : k = 0 := by omega
          obtain rfl : rd = 0 := by omega
          go_enter Try.func20, Try.ntmps20
          have B := St.start w
          have R := B.rules
          go_wp2_with fail
          generalize hX : World.alloc _ _ = X
          replace B := St.cast hX ((B.alloc _ _).alloc _ _)
          try simp only [World.size_alloc] at B
          clear hX
          refine (courser_any A c s ((0 : Nat) : Int) 0 la false _ (hs.later B.below) hn).mono ?_
          rw [hc]
          rintro e' w1 ⟨rfl, h⟩
          replace B := B.later h
          replace R := B.rules
          simp only [Rules] at R
          clear h
          go_wp2_with (go_at_call 32; refine (is_any _ _).mono ?_; rintro e' w' ⟨rfl, rfl⟩)
          go_ret
          exact ⟨by first | rfl | (rw [hq]; rfl), B.below⟩
        · have hq := ready_step hc hm hz
          rw [hq]
          clear hq
          generalize hE : (if la + s.L k ≤ m then (if m ≤ la + s.M k then 0 else 17) else 16 : Int) = E
          have HE := Lib.hid hE
          clear hE
          have hz2 : ((k : Int) == 0) = false ∨ (((k : Int) == 0) = true ∧ (rd == 0) = false) := by simp; omega
          clear hz
          rcases hz2 with hz2 | ⟨hz2, hz3⟩
          all_goals
            go_enter Try.func20, Try.ntmps20
            have B := St.start w
            have R := B.rules
            go_wp2_with fail
            generalize hX : World.alloc _ _ = X
            replace B := St.cast hX ((B.alloc _ _).alloc _ _)
            try simp only [World.size_alloc] at B
            clear hX
            refine (courser_any A c s k rd la false _ (hs.later B.below) hn).mono ?_
            rw [hc]
            rintro e' w1 ⟨rfl, h⟩
            replace B := B.later h
            replace R := B.rules
            simp only [Rules] at R
            clear h
            obtain ⟨ad, rfl, hblt, c0, c1, c2⟩ := (hs.later B.below) k hk
            have y1 : (0 : Int) ≤ k := by omega
            have y2 : (k : Int) < s.n := by omega
            have y3 : IntKind.i64.wrap (la + s.L k) = la + s.L k := IntWalk.i64_in _ (by omega)
            have y4 : IntKind.i64.wrap (la + s.M k) = la + s.M k := IntWalk.i64_in _ (by omega)
            have Y4 := Lib.hid y4
            clear y4
            go_wp2_with (go_at_call 32; refine (is_any _ _).mono ?_; rintro e' w' ⟨rfl, rfl⟩)
            refine wp_region_later (by kernel_rfl) (by kernel_rfl) ?_
            repeat (go_big_quiet_step (fail))
            refine wpQuiet_nil ?_
            rintro _ ⟨⟨wq, hq⟩, rfl⟩
            replace B := B.later hq
            replace R := B.rules
            simp only [Rules] at R
            clear y3
            by_cases t1 : la + s.L k ≤ m
            · have he := HE.out
              rw [if_pos t1] at he
              have HF := Lib.hid he
              clear he HE
              clear c0 c1 c2 hblt hq
              obtain ⟨ad', had, hblt, c0, c1, c2⟩ := (hs.later B.below) k hk
              obtain rfl : ad = ad' := by simpa using had
              go_wp2_with fail
              have y4 := Y4.out
              refine wp_region_later (by kernel_rfl) (by kernel_rfl) ?_
              repeat (go_big_quiet_step (fail))
              refine wpQuiet_nil ?_
              rintro _ ⟨⟨wq2, hq2⟩, rfl⟩
              replace B := B.later hq2
              clear y4
              by_cases t2 : m ≤ la + s.M k
              · have he := HF.out
                rw [if_pos t2] at he
                subst he
                go_wp2
                go_ret
                exact ⟨rfl, B.below⟩
              · have he := HF.out
                rw [if_neg t2] at he
                subst he
                go_wp2
                go_ret
                exact ⟨rfl, B.below⟩
            · have he := HE.out
              rw [if_neg t1] at he
              subst he
              go_wp2
              go_ret
              exact ⟨rfl, B.below⟩

end Go.Proofs.Ytmplcceoepkppaa
