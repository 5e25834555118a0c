/-
  CadenceWindows: for every sequence, course and number the law returns true. No conditions.
-/
import Derived.Test.YtmplcceoepkppaaLaw
namespace Go.Proofs.Ytmplcceoepkppaa
open Go.ChangeShapes Go.WideShapes Go.ChangeAt Go.RowKit

theorem win_ok {s : Sq} {c : Crs} (h : winE s c = 0) : courseB s c = true ∧ c.ov = false ∧ fromOf s c ≤ 38399 := by
  simp only [winE] at h
  split at h
  · rename_i h1
    split at h
    · omega
    · rename_i h2
      split at h
      · omega
      · exact ⟨h1, by simpa using h2, by omega⟩
  · omega
theorem win_bounds {s : Sq} {c : Crs} (h : winE s c = 0) : 0 ≤ fromOf s c ∧ fromOf s c ≤ untilOf s c ∧ untilOf s c ≤ 38399 := by
  obtain ⟨hc, ho, hf⟩ := win_ok h
  obtain ⟨x1, x2, x3, x4, x5, x6⟩ := course_open hc ho
  have hq := course_valid hc
  obtain ⟨l0, l1, m1⟩ := step_parts hq (k := c.nx.toNat) (by omega)
  simp only [fromOf, untilOf] at hf ⊢
  split
  · omega
  · rename_i hz
    rw [if_neg hz] at hf
    omega
theorem ready_iff {s : Sq} {c : Crs} {m : Int} (h : winE s c = 0) : readyE s c m = 0 ↔ fromOf s c ≤ m ∧ m ≤ untilOf s c := by
  obtain ⟨hc, ho, _⟩ := win_ok h
  obtain ⟨b1, b2, b3⟩ := win_bounds h
  constructor
  · intro h0
    obtain ⟨_, _, _, h4, h5⟩ := ready_ok h0
    exact ⟨h4, h5⟩
  · rintro ⟨h4, h5⟩
    have hm : inB 0 m 38399 = true := inB_iff.2 ⟨by omega, by omega⟩
    simp [readyE, hc, hm, ho, h4, h5]
theorem ready_win {s : Sq} {c : Crs} {m : Int} (h : ¬ winE s c = 0) : ¬ readyE s c m = 0 := by
  intro h0
  obtain ⟨hc, hm, ho, h4, h5⟩ := ready_ok h0
  have hb := inB_iff.1 hm
  exact h (by simp [winE, hc, ho]; omega)

set_option maxRecDepth 100000 in
set_option maxHeartbeats 4000000 in
theorem windows_walk (w : World) (A : Option Addr) (c : Nat) (s : Sq) (hs : StepsAt w A s) (hn : s.n ≤ maxLen) (hcap : s.n ≤ c) (nx rd la : Int) (ov : Bool) (m : Int) :
    Calls Try.prog 4 #[.agg #[.slice A s.n c, .int .i64 s.r], .agg #[.int .i64 nx, .int .i64 rd, .int .i64 la, .bool ov], .int .i64 m] w (Ret (.bool true) w) := by
  have C1 := Lib.hid (fun W => few_any A c s W hn)
  clear hcap
  by_cases hf : (s.n : Int) ≤ 50
  rotate_left
  · have hfd : decide ((s.n : Int) ≤ 50) = false := by simpa using hf
    rw [hfd] at C1
    clear hf hfd hs
    go_enter Try.func4, Try.ntmps4
    have B := St.start w
    have R := B.rules
    go_wp2_with fail
    generalize hX : World.alloc _ _ = X
    replace B := St.cast hX ((B.alloc _ _).alloc _ _)
    try simp only [World.size_alloc] at B
    clear hX
    refine (head_any _).mono ?_
    rintro e' w1 ⟨rfl, h⟩
    replace B := B.later h
    replace R := B.rules
    simp only [Rules] at R
    clear h
    go_wp2_with fail
    refine (C1.out _).mono ?_
    rintro e' w2 ⟨rfl, h⟩
    replace B := B.later h
    replace R := B.rules
    simp only [Rules] at R
    clear h
    go_wp2
    go_ret
    exact ⟨rfl, B.below⟩
  · have hfd : decide ((s.n : Int) ≤ 50) = true := by simpa using hf
    rw [hfd] at C1
    clear hf hfd
    have C3 := Lib.hid (fun W (h : Below w.heap.size w W) => ready_any A c s nx rd la ov m W (hs.later h) hn)
    by_cases h0 : winE s ⟨nx, rd, la, ov⟩ = 0
    rotate_left
    · have C2 := Lib.hid (fun W (h : Below w.heap.size w W) => winV_no (s := s) (c := ⟨nx, rd, la, ov⟩) rfl h0 ▸ win_any A c s nx rd la ov W (hs.later h) hn)
      have hr := ready_win (m := m) h0
      clear hs
      generalize winE s ⟨nx, rd, la, ov⟩ = e at *
      generalize readyE s ⟨nx, rd, la, ov⟩ m = r at *
      go_enter Try.func4, Try.ntmps4
      have B := St.start w
      have R := B.rules
      go_wp2_with fail
      generalize hX : World.alloc _ _ = X
      replace B := St.cast hX ((B.alloc _ _).alloc _ _)
      try simp only [World.size_alloc] at B
      clear hX
      refine (head_any _).mono ?_
      rintro e' w1 ⟨rfl, h⟩
      replace B := B.later h
      replace R := B.rules
      simp only [Rules] at R
      clear h
      go_wp2_with fail
      refine (C1.out _).mono ?_
      rintro e' w2 ⟨rfl, h⟩
      replace B := B.later h
      replace R := B.rules
      simp only [Rules] at R
      clear h
      go_wp2_with fail
      refine (C2.out _ B.below).mono ?_
      rintro e' w3 ⟨rfl, h⟩
      replace B := B.later h
      replace R := B.rules
      simp only [Rules] at R
      clear h
      go_wp2_with fail
      generalize hX : World.alloc _ _ = X
      replace B := St.cast hX (B.alloc _ _)
      clear hX
      refine (C3.out _ B.below).mono ?_
      rintro e' w4 ⟨rfl, h⟩
      replace B := B.later h
      replace R := B.rules
      simp only [Rules] at R
      clear h
      go_wp2
      go_ret
      exact ⟨ret_bool (by simp [hr]), B.below⟩
    · have C2 := Lib.hid (fun W (h : Below w.heap.size w W) => winV_yes (s := s) (c := ⟨nx, rd, la, ov⟩) h0 rfl rfl ▸ win_any A c s nx rd la ov W (hs.later h) hn)
      obtain ⟨b1, b2, b3⟩ := win_bounds h0
      have hi := ready_iff (m := m) h0
      clear hs h0
      generalize fromOf s ⟨nx, rd, la, ov⟩ = f at *
      generalize untilOf s ⟨nx, rd, la, ov⟩ = u at *
      generalize readyE s ⟨nx, rd, la, ov⟩ m = r at *
      by_cases hr : r = 0
      · obtain ⟨i1, i2⟩ := hi.1 hr
        subst hr
        clear hi
        go_enter Try.func4, Try.ntmps4
        have B := St.start w
        have R := B.rules
        go_wp2_with fail
        generalize hX : World.alloc _ _ = X
        replace B := St.cast hX ((B.alloc _ _).alloc _ _)
        try simp only [World.size_alloc] at B
        clear hX
        refine (head_any _).mono ?_
        rintro e' w1 ⟨rfl, h⟩
        replace B := B.later h
        replace R := B.rules
        simp only [Rules] at R
        clear h
        go_wp2_with fail
        refine (C1.out _).mono ?_
        rintro e' w2 ⟨rfl, h⟩
        replace B := B.later h
        replace R := B.rules
        simp only [Rules] at R
        clear h
        go_wp2_with fail
        refine (C2.out _ B.below).mono ?_
        rintro e' w3 ⟨rfl, h⟩
        replace B := B.later h
        replace R := B.rules
        simp only [Rules] at R
        clear h
        go_wp2_with fail
        generalize hX : World.alloc _ _ = X
        replace B := St.cast hX (B.alloc _ _)
        clear hX
        refine (C3.out _ B.below).mono ?_
        rintro e' w4 ⟨rfl, h⟩
        replace B := B.later h
        replace R := B.rules
        simp only [Rules] at R
        clear h
        go_wp2
        go_ret
        exact ⟨rfl, B.below⟩
      · have hno : ¬ f ≤ m ∨ (f ≤ m ∧ ¬ m ≤ u) := by
          by_cases i1 : f ≤ m
          · exact .inr ⟨i1, fun i2 => hr (hi.2 ⟨i1, i2⟩)⟩
          · exact .inl i1
        clear hi
        rcases hno with i1 | ⟨i1, i2⟩
        all_goals
          go_enter Try.func4, Try.ntmps4
          have B := St.start w
          have R := B.rules
          go_wp2_with fail
          generalize hX : World.alloc _ _ = X
          replace B := St.cast hX ((B.alloc _ _).alloc _ _)
          try simp only [World.size_alloc] at B
          clear hX
          refine (head_any _).mono ?_
          rintro e' w1 ⟨rfl, h⟩
          replace B := B.later h
          replace R := B.rules
          simp only [Rules] at R
          clear h
          go_wp2_with fail
          refine (C1.out _).mono ?_
          rintro e' w2 ⟨rfl, h⟩
          replace B := B.later h
          replace R := B.rules
          simp only [Rules] at R
          clear h
          go_wp2_with fail
          refine (C2.out _ B.below).mono ?_
          rintro e' w3 ⟨rfl, h⟩
          replace B := B.later h
          replace R := B.rules
          simp only [Rules] at R
          clear h
          go_wp2_with fail
          generalize hX : World.alloc _ _ = X
          replace B := St.cast hX (B.alloc _ _)
          clear hX
          refine (C3.out _ B.below).mono ?_
          rintro e' w4 ⟨rfl, h⟩
          replace B := B.later h
          replace R := B.rules
          simp only [Rules] at R
          clear h
          go_wp2
          go_ret
          exact ⟨ret_bool (by
            first
              | (simp [hr]; done)
              | (rw [show (r == 0) = false from by simpa using hr, show decide (m ≤ u) = false from by simpa using ‹_ < m›]; rfl)
              | (rw [show (r == 0) = false from by simpa using hr]; simp; omega)), B.below⟩

set_option maxRecDepth 100000 in
theorem cadenceWindows_lifted (os : Os) (started : os.Started) (H : Type) (enc : TypeId × Value → H) :
    ReturnsInHanded {} Try.checked os 4 .any (Rows.cadenceWindowsSpec.pre6 enc Try.prog Try.f4 Rows.cadenceWindowsRow.domain false) (Rows.cadenceWindowsSpec.post enc Try.prog Try.f4 false true false false) := by
  refine returnsInHanded_of_change (C := Try.checked) own started (by kernel_rfl) Try.func4
    (ChangeSpec.witness6 (enc := enc) (C := Try.checked) false ⟨#[], #[.agg #[.slice none 0 0, .int .i64 0], .agg #[.int .i64 0, .int .i64 0, .int .i64 0, .bool false], .int .i64 0], []⟩ 8 (by kernel_rfl) (by kernel_rfl) (by kernel_rfl) (by kernel_rfl)) ?_
  intro W base args ds gs before hval0 hW _ _
  have hval : ∀ (j : Nat) t v, Try.f4.params[j]? = some t → args[j]? = some v → Value.okWide Try.prog W .any base t v := hval0
  have hW' := hW
  obtain ⟨p, q, hA0, hV, _, _, _⟩ := hW
  have hA : DataW.TrodAll enc Try.prog W 0 (fun _ => true) true Try.f4.params.toList args.toList ds p := hA0
  rw [Try.params4] at hA hval
  obtain ⟨v0, vs0, d0, ds0, p0, q0, hargs, rfl, _, h0, r0⟩ := trodAll_cons hA
  obtain ⟨v1, vs1, d1, ds1, p1, q1, rfl, rfl, rfl, h1, r1⟩ := trodAll_cons r0
  obtain ⟨v2, vs2, d2, ds2, p2, q2, rfl, rfl, rfl, h2, r2⟩ := trodAll_cons r1
  obtain ⟨rfl, rfl, rfl⟩ := trodAll_nil r2
  obtain rfl : args = #[v0, v1, v2] := by cases args; simp_all
  obtain ⟨rfl, rfl⟩ := trodVars_none hV
  obtain ⟨A, c, s, hsA, hsn, hsc, rfl⟩ := open24 (hval 0 24 v0 rfl rfl) h0
  obtain ⟨nx, rd, la, ov, rfl⟩ := open26 (hval 1 26 v1 rfl rfl) h1
  obtain ⟨m0, rfl⟩ := open3 (hval 2 3 v2 rfl rfl) h2
  exact law_post (f := 4) laidOut (by kernel_rfl) rfl Try.underlying4 rfl hW' rfl (windows_walk W A c s hsA hsn hsc nx rd la ov m0)

/-- The statement. -/
theorem cadenceWindows_holds : Rows.CadenceWindowsSaid :=
  OpenClaim.holds_of_wide 4 Try.f4 rfl rfl rfl rfl rfl rfl rfl ⟨rfl, rfl, rfl, rfl, rfl⟩ rfl rfl rfl rfl rfl (by kernel_rfl) Try.func4 (by kernel_rfl)
    (of_decide_eq_true (by kernel_rfl)) (by unfold Func.isWrapper; rw [if_neg (of_decide_eq_false (by kernel_rfl))]; exact ⟨rfl, rfl⟩)
    (fun os started H enc _ => cadenceWindows_lifted os started H enc)

#print axioms cadenceWindows_holds

end Go.Proofs.Ytmplcceoepkppaa
