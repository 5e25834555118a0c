/-
  CadenceMatchesReference: for every sequence, course, moment and moments the law returns true. No conditions.
-/
import Derived.Test.YtmplcceoepkppaaLaw
namespace Go.Proofs.Ytmplcceoepkppaa
open Go.ChangeShapes Go.WideShapes Go.ChangeAt Go.RowKit

theorem advV_some (s : Sq) (c : Crs) (m : Int) : ∃ (x y z : Int) (o : Bool) (e : Int), advV s c m = .tuple #[.agg #[.int .i64 x, .int .i64 y, .int .i64 z, .bool o], .int .i64 e] := ⟨_, _, _, _, _, rfl⟩
theorem repV_some (p : Crs × Int × Int) : ∃ (x y z : Int) (o : Bool) (n e : Int), repV p = .tuple #[.agg #[.int .i64 x, .int .i64 y, .int .i64 z, .bool o], .int .i64 n, .int .i64 e] := ⟨_, _, _, _, _, _, rfl⟩
theorem winV_some (s : Sq) (c : Crs) : ∃ (f u e : Int), winV s c = .tuple #[.agg #[.int .i64 f, .int .i64 u], .int .i64 e] := ⟨_, _, _, rfl⟩
set_option maxRecDepth 100000 in
set_option maxHeartbeats 4000000 in
theorem matches_walk (w : World) (A : Option Addr) (c : Nat) (s : Sq) (hs : StepsAt w A s) (hn : s.n ≤ maxLen) (_hcap : s.n ≤ c) (nx rd la : Int) (ov : Bool) (m : Int)
    (MA : Option Addr) (N mc : Nat) (M : Nat → Int) (hM : IntsAt w MA N M) (_hN : N ≤ maxLen) (_hmc : N ≤ mc) :
    Calls Try.prog 3 #[.agg #[.slice A s.n c, .int .i64 s.r], .agg #[.int .i64 nx, .int .i64 rd, .int .i64 la, .bool ov], .int .i64 m, .slice MA N mc] w (Ret (.bool true) w) := by
  have C1 := Lib.hid (fun W => few_any A c s W hn)
  clear _hcap _hmc
  by_cases hf : (s.n : Int) ≤ 50
  rotate_left
  · have hfd : decide ((s.n : Int) ≤ 50) = false := by simpa using hf
    rw [hfd] at C1
    clear hf hfd hs hM
    go_enter Try.func3, Try.ntmps3
    have B := St.start w
    have R := B.rules
    go_wp2_with fail
    generalize hX : World.alloc _ _ = X
    replace B := St.cast hX ((B.alloc _ _).alloc _ _)
    try simp only [World.size_alloc] at B
    clear hX
    refine (head_any _).mono ?_
    rintro e' w1 ⟨rfl, h⟩
    replace B := B.later h
    replace R := B.rules
    simp only [Rules] at R
    clear h
    go_wp2_with fail
    refine (C1.out _).mono ?_
    rintro e' w2 ⟨rfl, h⟩
    replace B := B.later h
    replace R := B.rules
    simp only [Rules] at R
    clear h
    go_wp2
    go_ret
    exact ⟨rfl, B.below⟩
  · have hfd : decide ((s.n : Int) ≤ 50) = true := by simpa using hf
    rw [hfd] at C1
    clear hf hfd
    by_cases hl : (200 : Int) < N
    · clear hs hM
      go_enter Try.func3, Try.ntmps3
      have B := St.start w
      have R := B.rules
      go_wp2_with fail
      generalize hX : World.alloc _ _ = X
      replace B := St.cast hX ((B.alloc _ _).alloc _ _)
      try simp only [World.size_alloc] at B
      clear hX
      refine (head_any _).mono ?_
      rintro e' w1 ⟨rfl, h⟩
      replace B := B.later h
      replace R := B.rules
      simp only [Rules] at R
      clear h
      go_wp2_with fail
      refine (C1.out _).mono ?_
      rintro e' w2 ⟨rfl, h⟩
      replace B := B.later h
      replace R := B.rules
      simp only [Rules] at R
      clear h
      go_wp2
      go_ret
      exact ⟨rfl, B.below⟩
    · have C2 := Lib.hid (fun W (h : Below w.heap.size w W) => advance_any A c s nx rd la ov m W (hs.later h) hn)
      have C3 := Lib.hid (fun W (h : Below w.heap.size w W) => advancer_any A c s nx rd la ov m W (hs.later h) hn)
      have C4 := Lib.hid (fun W (h : Below w.heap.size w W) => replay_any A c s MA N mc M W (hs.later h) hn (hM.later h) (by omega))
      have C5 := Lib.hid (fun W (h : Below w.heap.size w W) => replayr_any A c s MA N mc M W (hs.later h) hn (hM.later h) (by omega))
      have C6 := Lib.hid (fun W (h : Below w.heap.size w W) => win_any A c s nx rd la ov W (hs.later h) hn)
      have C7 := Lib.hid (fun W (h : Below w.heap.size w W) => winr_any A c s nx rd la ov W (hs.later h) hn)
      have C8 := Lib.hid (fun W (h : Below w.heap.size w W) => valid_any A c s W (hs.later h) hn)
      have C9 := Lib.hid (fun W (h : Below w.heap.size w W) => validr_any A c s W (hs.later h) hn)
      have C10 := Lib.hid (fun W (h : Below w.heap.size w W) => ready_any A c s nx rd la ov m W (hs.later h) hn)
      have C11 := Lib.hid (fun W (h : Below w.heap.size w W) => readyr_any A c s nx rd la ov m W (hs.later h) hn)
      clear hs hM
      obtain ⟨a1, a2, a3, a4, a5, ha⟩ := advV_some s ⟨nx, rd, la, ov⟩ m
      obtain ⟨r1, r2, r3, r4, r5, r6, hr⟩ := repV_some (repR s M N)
      obtain ⟨w1, w2, w3, hw⟩ := winV_some s ⟨nx, rd, la, ov⟩
      rw [ha] at C2 C3
      rw [hr] at C4 C5
      rw [hw] at C6 C7
      clear ha hr hw
      generalize readyE s ⟨nx, rd, la, ov⟩ m = re at *
      generalize sqB s = bq at *
      go_enter Try.func3, Try.ntmps3
      have B := St.start w
      have R := B.rules
      go_wp2_with fail
      generalize hX : World.alloc _ _ = X
      replace B := St.cast hX ((B.alloc _ _).alloc _ _)
      try simp only [World.size_alloc] at B
      clear hX
      refine (head_any _).mono ?_
      rintro e' w1 ⟨rfl, h⟩
      replace B := B.later h
      replace R := B.rules
      simp only [Rules] at R
      clear h
      go_wp2_with fail
      refine (C1.out _).mono ?_
      rintro e' w2 ⟨rfl, h⟩
      replace B := B.later h
      replace R := B.rules
      simp only [Rules] at R
      clear h
      go_wp2_with fail
      refine (C2.out _ B.below).mono ?_
      rintro e' w3 ⟨rfl, h⟩
      replace B := B.later h
      replace R := B.rules
      simp only [Rules] at R
      clear h
      go_wp2_with fail
      generalize hX : World.alloc _ _ = X
      replace B := St.cast hX (B.alloc _ _)
      clear hX
      refine (C3.out _ B.below).mono ?_
      rintro e' w4 ⟨rfl, h⟩
      replace B := B.later h
      replace R := B.rules
      simp only [Rules] at R
      clear h
      go_wp2_with fail
      generalize hX : World.alloc _ _ = X
      replace B := St.cast hX (B.alloc _ _)
      clear hX
      refine (C4.out _ B.below).mono ?_
      rintro e' w5 ⟨rfl, h⟩
      replace B := B.later h
      replace R := B.rules
      simp only [Rules] at R
      clear h
      go_wp2_with fail
      generalize hX : World.alloc _ _ = X
      replace B := St.cast hX (B.alloc _ _)
      clear hX
      refine (C5.out _ B.below).mono ?_
      rintro e' w6 ⟨rfl, h⟩
      replace B := B.later h
      replace R := B.rules
      simp only [Rules] at R
      clear h
      go_wp2_with fail
      generalize hX : World.alloc _ _ = X
      replace B := St.cast hX (B.alloc _ _)
      clear hX
      refine (C6.out _ B.below).mono ?_
      rintro e' w7 ⟨rfl, h⟩
      replace B := B.later h
      replace R := B.rules
      simp only [Rules] at R
      clear h
      go_wp2_with fail
      generalize hX : World.alloc _ _ = X
      replace B := St.cast hX (B.alloc _ _)
      clear hX
      refine (C7.out _ B.below).mono ?_
      rintro e' w8 ⟨rfl, h⟩
      replace B := B.later h
      replace R := B.rules
      simp only [Rules] at R
      clear h
      go_wp2_with fail
      generalize hX : World.alloc _ _ = X
      replace B := St.cast hX (B.alloc _ _)
      clear hX
      replace R := B.rules
      simp only [Rules] at R
      refine wp_region_later (by kernel_rfl) (by kernel_rfl) ?_
      repeat (go_big_quiet_step (first | (go_at_call 17; exact Later.call (C8.out _ (below_step B.below (Nat.le_refl _) (Later.ok _)))) | (go_at_call 18; exact Later.call (C9.out _ (below_step B.below (Nat.le_refl _) (Later.ok _)))) | (go_at_call 19; exact Later.call (C10.out _ (below_step B.below (Nat.le_refl _) (Later.ok _)))) | (go_at_call 20; exact Later.call (C11.out _ (below_step B.below (Nat.le_refl _) (Later.ok _))))))
      refine wpQuiet_nil ?_
      rintro _ ⟨⟨wq, hq⟩, rfl⟩
      replace B := B.later hq
      go_wp2
      go_ret
      exact ⟨rfl, B.below⟩

set_option maxRecDepth 100000 in
theorem cadenceMatchesReference_lifted (os : Os) (started : os.Started) (H : Type) (enc : TypeId × Value → H) :
    ReturnsInHanded {} Try.checked os 3 .any (Rows.cadenceMatchesReferenceSpec.pre6 enc Try.prog Try.f3 Rows.cadenceMatchesReferenceRow.domain false) (Rows.cadenceMatchesReferenceSpec.post enc Try.prog Try.f3 false true false false) := by
  refine returnsInHanded_of_change (C := Try.checked) own started (by kernel_rfl) Try.func3
    (ChangeSpec.witness6 (enc := enc) (C := Try.checked) false ⟨#[], #[.agg #[.slice none 0 0, .int .i64 0], .agg #[.int .i64 0, .int .i64 0, .int .i64 0, .bool false], .int .i64 0, .slice none 0 0], []⟩ 8 (by kernel_rfl) (by kernel_rfl) (by kernel_rfl) (by kernel_rfl)) ?_
  intro W base args ds gs before hval0 hW _ _
  have hval : ∀ (j : Nat) t v, Try.f3.params[j]? = some t → args[j]? = some v → Value.okWide Try.prog W .any base t v := hval0
  have hW' := hW
  obtain ⟨p, q, hA0, hV, _, _, _⟩ := hW
  have hA : DataW.TrodAll enc Try.prog W 0 (fun _ => true) true Try.f3.params.toList args.toList ds p := hA0
  rw [Try.params3] at hA hval
  obtain ⟨v0, vs0, d0, ds0, p0, q0, hargs, rfl, _, h0, r0⟩ := trodAll_cons hA
  obtain ⟨v1, vs1, d1, ds1, p1, q1, rfl, rfl, rfl, h1, r1⟩ := trodAll_cons r0
  obtain ⟨v2, vs2, d2, ds2, p2, q2, rfl, rfl, rfl, h2, r2⟩ := trodAll_cons r1
  obtain ⟨v3, vs3, d3, ds3, p3, q3, rfl, rfl, rfl, h3, r3⟩ := trodAll_cons r2
  obtain ⟨rfl, rfl, rfl⟩ := trodAll_nil r3
  obtain rfl : args = #[v0, v1, v2, v3] := by cases args; simp_all
  obtain ⟨rfl, rfl⟩ := trodVars_none hV
  obtain ⟨A, c, s, hsA, hsn, hsc, rfl⟩ := open24 (hval 0 24 v0 rfl rfl) h0
  obtain ⟨nx, rd, la, ov, rfl⟩ := open26 (hval 1 26 v1 rfl rfl) h1
  obtain ⟨m0, rfl⟩ := open3 (hval 2 3 v2 rfl rfl) h2
  obtain ⟨MA, N, mc, M, hM, hN, hmc, rfl⟩ := open27 (hval 3 27 v3 rfl rfl) h3
  exact law_post (f := 3) laidOut (by kernel_rfl) rfl Try.underlying4 rfl hW' rfl (matches_walk W A c s hsA hsn hsc nx rd la ov m0 MA N mc M hM hN hmc)

/-- The statement. -/
theorem cadenceMatchesReference_holds : Rows.CadenceMatchesReferenceSaid :=
  OpenClaim.holds_of_wide 3 Try.f3 rfl rfl rfl rfl rfl rfl rfl ⟨rfl, rfl, rfl, rfl, rfl⟩ rfl rfl rfl rfl rfl (by kernel_rfl) Try.func3 (by kernel_rfl)
    (of_decide_eq_true (by kernel_rfl)) (by unfold Func.isWrapper; rw [if_neg (of_decide_eq_false (by kernel_rfl))]; exact ⟨rfl, rfl⟩)
    (fun os started H enc _ => cadenceMatchesReference_lifted os started H enc)

#print axioms cadenceMatchesReference_holds

end Go.Proofs.Ytmplcceoepkppaa
