/-
  CadenceAdvances: for every sequence, course and moment the law returns true. No conditions.
-/
import Derived.Test.YtmplcceoepkppaaLaw
import Derived.Test.YtmplcceoepkppaaLawC
namespace Go.Proofs.Ytmplcceoepkppaa
open Go.ChangeShapes Go.WideShapes Go.ChangeAt Go.RowKit

set_option maxRecDepth 100000 in
set_option maxHeartbeats 1000000 in
theorem advances_walk (w : World) (A : Option Addr) (c : Nat) (s : Sq) (hs : StepsAt w A s) (hn : s.n ≤ maxLen) (_hcap : s.n ≤ c) (nx rd la : Int) (ov : Bool) (m : Int) :
    Calls Try.prog 5 #[.agg #[.slice A s.n c, .int .i64 s.r], .agg #[.int .i64 nx, .int .i64 rd, .int .i64 la, .bool ov], .int .i64 m] w (Ret (.bool true) w) := by
  have C1 := Lib.hid (fun W => few_any A c s W hn)
  clear _hcap
  by_cases hf : (s.n : Int) ≤ 50
  rotate_left
  · have hfd : decide ((s.n : Int) ≤ 50) = false := by simpa using hf
    rw [hfd] at C1
    clear hf hfd hs
    go_enter Try.func5, Try.ntmps5
    have B := St.start w
    have R := B.rules
    go_wp2_with fail
    generalize hX : World.alloc _ _ = X
    replace B := St.cast hX ((B.alloc _ _).alloc _ _)
    try simp only [World.size_alloc] at B
    clear hX
    refine (head_any _).mono ?_
    rintro e' w1 ⟨rfl, h⟩
    replace B := B.later h
    replace R := B.rules
    simp only [Rules] at R
    clear h
    go_wp2_with fail
    refine (C1.out _).mono ?_
    rintro e' w2 ⟨rfl, h⟩
    replace B := B.later h
    replace R := B.rules
    simp only [Rules] at R
    clear h
    go_wp2
    go_ret
    exact ⟨rfl, B.below⟩
  · have hfd : decide ((s.n : Int) ≤ 50) = true := by simpa using hf
    rw [hfd] at C1
    clear hf hfd
    by_cases h0 : readyE s ⟨nx, rd, la, ov⟩ m = 0
    rotate_left
    · have C2 := Lib.hid (fun W (h : Below w.heap.size w W) => advV_no (s := s) (c := ⟨nx, rd, la, ov⟩) (m := m) rfl h0 ▸ advance_any A c s nx rd la ov m W (hs.later h) hn)
      have C3 := Lib.hid (fun W (h : Below w.heap.size w W) => ready_any A c s nx rd la ov m W (hs.later h) hn)
      clear hs
      generalize readyE s ⟨nx, rd, la, ov⟩ m = e at *
      go_enter Try.func5, Try.ntmps5
      have B := St.start w
      have R := B.rules
      go_wp2_with fail
      generalize hX : World.alloc _ _ = X
      replace B := St.cast hX ((B.alloc _ _).alloc _ _)
      try simp only [World.size_alloc] at B
      clear hX
      refine (head_any _).mono ?_
      rintro e' w1 ⟨rfl, h⟩
      replace B := B.later h
      replace R := B.rules
      simp only [Rules] at R
      clear h
      go_wp2_with fail
      refine (C1.out _).mono ?_
      rintro e' w2 ⟨rfl, h⟩
      replace B := B.later h
      replace R := B.rules
      simp only [Rules] at R
      clear h
      go_wp2_with fail
      refine (C2.out _ B.below).mono ?_
      rintro e' w3 ⟨rfl, h⟩
      replace B := B.later h
      replace R := B.rules
      simp only [Rules] at R
      clear h
      go_wp2_with fail
      generalize hX : World.alloc _ _ = X
      replace B := St.cast hX (B.alloc _ _)
      clear hX
      refine (C3.out _ B.below).mono ?_
      rintro e' w4 ⟨rfl, h⟩
      replace B := B.later h
      replace R := B.rules
      simp only [Rules] at R
      clear h
      go_wp2
      go_ret
      exact ⟨ret_bool (by simp), B.below⟩
    · obtain ⟨f1, f2, f3, f4, f5, f6, f7, f8, f9⟩ := next_facts h0
      obtain ⟨hc0, _, ho0, _, _⟩ := ready_ok h0
      obtain ⟨x1, x2, x3, x4, _, _⟩ := course_open hc0 ho0
      obtain ⟨⟨n1, n2⟩, ⟨r1, r2⟩, _⟩ := sqB_parts (course_valid hc0)
      have hp : 0 ≤ s.r * s.n ∧ s.r * s.n ≤ 100 * 40 := mul_bounds (by omega) r2 (by omega) n2
      generalize hd : nextC s ⟨nx, rd, la, ov⟩ m = d at f1 f2 f3 f4 f5 f6 f7
      have C2 := Lib.hid (fun W (h : Below w.heap.size w W) => advance_any A c s nx rd la ov m W (hs.later h) hn)
      have hadv := adv_out h0 hd
      have hm : m = d.la := congrArg Crs.la hd
      clear hd
      obtain ⟨x, y, z, o⟩ := d
      rw [hadv] at C2
      clear hadv
      dsimp only at C2 f1 f2 f3 f4 f5 f6 f7 hm x1 x2 x3 x4
      subst hm
      have C3 := Lib.hid (fun W (h : Below w.heap.size w W) => win_any A c s x y m o W (hs.later h) hn)
      have hb1 : 0 ≤ nx ∧ nx ≤ 40 ∧ 0 ≤ rd ∧ rd ≤ 100 := ⟨x1, by omega, x3, by omega⟩
      have hb2 : 0 ≤ x ∧ x ≤ 40 ∧ 0 ≤ y ∧ y ≤ 100 := ⟨f4, f5, f6, f7⟩
      have C4 := Lib.hid (fun W (nx rd la : Int) (ov : Bool) (h : 0 ≤ nx ∧ nx ≤ 40 ∧ 0 ≤ rd ∧ rd ≤ 100) => taken_any A c s nx rd la ov W h.1 h.2.1 h.2.2.1 h.2.2.2 n2)
      clear x1 x2 x3 x4 f4 f5 f6 f7
      have hne : ¬ winE s ⟨x, y, m, o⟩ = 1 := by
        simp only [winE, f1, if_true]
        split
        · omega
        · split <;> omega
      obtain ⟨wf, wu, hw⟩ : ∃ wf wu, winV s ⟨x, y, m, o⟩ = .tuple #[.agg #[.int .i64 wf, .int .i64 wu], .int .i64 (winE s ⟨x, y, m, o⟩)] := ⟨_, _, rfl⟩
      rw [hw] at C3
      clear hw h0 hc0 f1 ho0
      have F3 := Lib.hid f3
      clear f3
      generalize winE s ⟨x, y, m, o⟩ = e at *
      go_enter Try.func5, Try.ntmps5
      have B := St.start w
      have R := B.rules
      go_wp2_with fail
      generalize hX : World.alloc _ _ = X
      replace B := St.cast hX ((B.alloc _ _).alloc _ _)
      try simp only [World.size_alloc] at B
      clear hX
      refine (head_any _).mono ?_
      rintro e' w1 ⟨rfl, h⟩
      replace B := B.later h
      replace R := B.rules
      simp only [Rules] at R
      clear h
      go_wp2_with fail
      refine (C1.out _).mono ?_
      rintro e' w2 ⟨rfl, h⟩
      replace B := B.later h
      replace R := B.rules
      simp only [Rules] at R
      clear h
      go_wp2_with fail
      refine (C2.out _ B.below).mono ?_
      rintro e' w3 ⟨rfl, h⟩
      replace B := B.later h
      replace R := B.rules
      simp only [Rules] at R
      clear h
      go_wp2_with fail
      generalize hX : World.alloc _ _ = X
      replace B := St.cast hX (B.alloc _ _)
      clear hX
      refine (C3.out _ B.below).mono ?_
      rintro e' w4 ⟨rfl, h⟩
      replace B := B.later h
      replace R := B.rules
      simp only [Rules] at R
      clear h
      go_wp2_with fail
      generalize hX : World.alloc _ _ = X
      replace B := St.cast hX (B.alloc _ _)
      clear hX
      replace R := B.rules
      simp only [Rules] at R
      have hn1 : (e != 1) = true := by simpa using hne
      have hn2 : (e == 1) = false := by simpa using hne
      refine wp_region_later (by kernel_rfl) (by kernel_rfl) ?_
      repeat (go_big_quiet_step (first | (go_at_call 21; exact Later.call (C4.out _ _ _ _ _ (by assumption)))))
      refine wpQuiet_nil ?_
      rintro _ ⟨⟨wq, hq⟩, rfl⟩
      replace B := B.later hq
      go_wp2
      go_ret
      exact ⟨ret_bool (by rw [F3.out]; simp), B.below⟩

set_option maxRecDepth 100000 in
theorem cadenceAdvances_lifted (os : Os) (started : os.Started) (H : Type) (enc : TypeId × Value → H) :
    ReturnsInHanded {} Try.checked os 5 .any (Rows.cadenceAdvancesSpec.pre6 enc Try.prog Try.f5 Rows.cadenceAdvancesRow.domain false) (Rows.cadenceAdvancesSpec.post enc Try.prog Try.f5 false true false false) := by
  refine returnsInHanded_of_change (C := Try.checked) own started (by kernel_rfl) Try.func5
    (ChangeSpec.witness6 (enc := enc) (C := Try.checked) false ⟨#[], #[.agg #[.slice none 0 0, .int .i64 0], .agg #[.int .i64 0, .int .i64 0, .int .i64 0, .bool false], .int .i64 0], []⟩ 8 (by kernel_rfl) (by kernel_rfl) (by kernel_rfl) (by kernel_rfl)) ?_
  intro W base args ds gs before hval0 hW _ _
  have hval : ∀ (j : Nat) t v, Try.f5.params[j]? = some t → args[j]? = some v → Value.okWide Try.prog W .any base t v := hval0
  have hW' := hW
  obtain ⟨p, q, hA0, hV, _, _, _⟩ := hW
  have hA : DataW.TrodAll enc Try.prog W 0 (fun _ => true) true Try.f5.params.toList args.toList ds p := hA0
  rw [Try.params5] at hA hval
  obtain ⟨v0, vs0, d0, ds0, p0, q0, hargs, rfl, _, h0, r0⟩ := trodAll_cons hA
  obtain ⟨v1, vs1, d1, ds1, p1, q1, rfl, rfl, rfl, h1, r1⟩ := trodAll_cons r0
  obtain ⟨v2, vs2, d2, ds2, p2, q2, rfl, rfl, rfl, h2, r2⟩ := trodAll_cons r1
  obtain ⟨rfl, rfl, rfl⟩ := trodAll_nil r2
  obtain rfl : args = #[v0, v1, v2] := by cases args; simp_all
  obtain ⟨rfl, rfl⟩ := trodVars_none hV
  obtain ⟨A, c, s, hsA, hsn, hsc, rfl⟩ := open24 (hval 0 24 v0 rfl rfl) h0
  obtain ⟨nx, rd, la, ov, rfl⟩ := open26 (hval 1 26 v1 rfl rfl) h1
  obtain ⟨m0, rfl⟩ := open3 (hval 2 3 v2 rfl rfl) h2
  exact law_post (f := 5) laidOut (by kernel_rfl) rfl Try.underlying4 rfl hW' rfl (advances_walk W A c s hsA hsn hsc nx rd la ov m0)

/-- The statement. -/
theorem cadenceAdvances_holds : Rows.CadenceAdvancesSaid :=
  OpenClaim.holds_of_wide 5 Try.f5 rfl rfl rfl rfl rfl rfl rfl ⟨rfl, rfl, rfl, rfl, rfl⟩ rfl rfl rfl rfl rfl (by kernel_rfl) Try.func5 (by kernel_rfl)
    (of_decide_eq_true (by kernel_rfl)) (by unfold Func.isWrapper; rw [if_neg (of_decide_eq_false (by kernel_rfl))]; exact ⟨rfl, rfl⟩)
    (fun os started H enc _ => cadenceAdvances_lifted os started H enc)

#print axioms cadenceAdvances_holds

end Go.Proofs.Ytmplcceoepkppaa
