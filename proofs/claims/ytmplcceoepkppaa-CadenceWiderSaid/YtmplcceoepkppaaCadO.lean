/-
  CadenceWider: for every sequence, moments and numbers the law returns true. No conditions.
-/
import Derived.Test.YtmplcceoepkppaaLaw
import Derived.Test.YtmplcceoepkppaaLawD
import Derived.Test.YtmplcceoepkppaaApp
namespace Go.Proofs.Ytmplcceoepkppaa
open Go.ChangeShapes Go.WideShapes Go.ChangeAt Go.RowKit

theorem rep_two (s : Sq) (M : Nat → Int) (N : Nat) : (∃ (c : Crs) (n e : Int), repR s M N = (c, n, e) ∧ ¬ e = 0) ∨ (sqB s = true ∧ okTo s M N ∧ repR s M N = (runC s M N, (N : Int), 0)) := by
  rcases repR_cases s M N with ⟨_, h⟩ | h | ⟨_, i, _, _, h4, h5⟩
  · exact .inl ⟨_, _, _, h, by omega⟩
  · exact .inr h
  · exact .inl ⟨_, _, _, h5, h4⟩

set_option maxRecDepth 100000 in
set_option maxHeartbeats 2000000 in
theorem wider_walk (w : World) (A : Option Addr) (c : Nat) (s : Sq) (hs : StepsAt w A s) (hn : s.n ≤ maxLen) (_hcap : s.n ≤ c)
    (MA : Option Addr) (N mc : Nat) (M : Nat → Int) (hM : IntsAt w MA N M) (_hN : N ≤ maxLen) (_hmc : N ≤ mc) (ra : Int) (ra0 : 0 ≤ ra) (ra1 : ra ≤ 255) (le : Int) (le0 : 0 ≤ le) (le1 : le ≤ 65535) (mo : Int) (mo0 : 0 ≤ mo) (mo1 : mo ≤ 65535) :
    Calls Try.prog 7 #[.agg #[.slice A s.n c, .int .i64 s.r], .slice MA N mc, .int .u8 ra, .int .u16 le, .int .u16 mo] w (Ret (.bool true) w) := by
  have C1 := Lib.hid (fun W => few_any A c s W hn)
  clear _hcap _hmc _hN
  by_cases hf : (s.n : Int) ≤ 50
  rotate_left
  · have hfd : decide ((s.n : Int) ≤ 50) = false := by simpa using hf
    rw [hfd] at C1
    clear hf hfd hs hM
    go_enter Try.func7, Try.ntmps7
    have B := St.start w
    have R := B.rules
    go_wp2_with fail
    generalize hX : World.alloc _ _ = X
    replace B := St.cast hX (B.alloc _ _)
    clear hX
    refine (head_any _).mono ?_
    rintro e' w1 ⟨rfl, h⟩
    replace B := B.later h
    replace R := B.rules
    simp only [Rules] at R
    clear h
    go_wp2_with fail
    refine (C1.out _).mono ?_
    rintro e' w2 ⟨rfl, h⟩
    replace B := B.later h
    replace R := B.rules
    simp only [Rules] at R
    clear h
    go_wp2
    go_ret
    exact ⟨rfl, B.below⟩
  · have hfd : decide ((s.n : Int) ≤ 50) = true := by simpa using hf
    rw [hfd] at C1
    clear hf hfd
    by_cases hl : (200 : Int) < N
    · clear hs hM
      go_enter Try.func7, Try.ntmps7
      have B := St.start w
      have R := B.rules
      go_wp2_with fail
      generalize hX : World.alloc _ _ = X
      replace B := St.cast hX (B.alloc _ _)
      clear hX
      refine (head_any _).mono ?_
      rintro e' w1 ⟨rfl, h⟩
      replace B := B.later h
      replace R := B.rules
      simp only [Rules] at R
      clear h
      go_wp2_with fail
      refine (C1.out _).mono ?_
      rintro e' w2 ⟨rfl, h⟩
      replace B := B.later h
      replace R := B.rules
      simp only [Rules] at R
      clear h
      go_wp2
      go_ret
      exact ⟨rfl, B.below⟩
    · have C := Lib.hid (fun W (h : Below w.heap.size w W) => replay_any A c s MA N mc M W (hs.later h) hn (hM.later h) (by omega))
      rcases rep_two s M N with ⟨⟨x, y, z, o⟩, n, e, h1, he⟩ | ⟨hq, hok, h1⟩
      · rw [h1] at C
        simp only [repV] at C
        have he1 : (e != 0) = true := by simpa using he
        clear hs hM h1
        go_enter Try.func7, Try.ntmps7
        have B := St.start w
        have R := B.rules
        go_wp2_with fail
        generalize hX : World.alloc _ _ = X
        replace B := St.cast hX (B.alloc _ _)
        clear hX
        refine (head_any _).mono ?_
        rintro e' w1 ⟨rfl, h⟩
        replace B := B.later h
        replace R := B.rules
        simp only [Rules] at R
        clear h
        go_wp2_with fail
        refine (C1.out _).mono ?_
        rintro e' w2 ⟨rfl, h⟩
        replace B := B.later h
        replace R := B.rules
        simp only [Rules] at R
        clear h
        go_wp2_with fail
        refine (C.out _ B.below).mono ?_
        rintro e' w3 ⟨rfl, h⟩
        replace B := B.later h
        replace R := B.rules
        simp only [Rules] at R
        clear h
        go_wp2
        go_ret
        exact ⟨ret_bool (by simp), B.below.alloc B.below.size _⟩
      · rw [h1] at C
        clear h1
        obtain ⟨⟨n1, n2⟩, _, _⟩ := sqB_parts hq
        have hn0 : ((s.n : Int) == 0) = false := by rw [beq_eq_false_iff_ne]; omega
        obtain ⟨k, hk, hmod⟩ : ∃ k : Nat, k < s.n ∧ ra.tmod s.n = k := by
          refine ⟨(ra.tmod s.n).toNat, ?_, ?_⟩
          · have := Int.tmod_lt_of_pos ra (show (0 : Int) < s.n by omega)
            omega
          · have := Int.tmod_nonneg s.n ra0
            omega
        obtain ⟨k0, k1, k2⟩ := step_parts hq hk
        obtain ⟨l, hl⟩ : ∃ l, l = max 0 (s.L k - le) := ⟨_, rfl⟩
        obtain ⟨m, hm⟩ : ∃ m, m = min 38399 (s.M k + mo) := ⟨_, rfl⟩
        have hw := wider_rep (k := k) (l := l) (m := m) hq hok (by omega) (by omega) (by omega) (by omega) hk
        have D := Lib.hid (fun W (h : Below w.heap.size w W) (A' : Option Addr) (c' : Nat) (hm : StepsAt W A' (widerS s k l m)) => replay_any A' c' (widerS s k l m) MA N mc M W hm hn (hM.later h) (by omega))
        rw [hw] at D
        clear hw hM hok hq
        have HL := Lib.hid hl
        have HM := Lib.hid hm
        clear hl hm
        simp only [repV] at C D
        generalize runC s M N = cN at C D
        obtain ⟨x, y, z, o⟩ := cN
        dsimp only at C D
        obtain ⟨i0, hi0, hz0, hz1, hz2⟩ := info_parts step_info
        go_enter Try.func7, Try.ntmps7
        have B := St.start w
        have R := B.rules
        go_wp2_with fail
        generalize hX : World.alloc _ _ = X
        replace B := St.cast hX (B.alloc _ _)
        clear hX
        refine (head_any _).mono ?_
        rintro e' w1 ⟨rfl, h⟩
        replace B := B.later h
        replace R := B.rules
        simp only [Rules] at R
        clear h
        go_wp2_with fail
        refine (C1.out _).mono ?_
        rintro e' w2 ⟨rfl, h⟩
        replace B := B.later h
        replace R := B.rules
        simp only [Rules] at R
        clear h
        go_wp2_with fail
        refine (C.out _ B.below).mono ?_
        rintro e' w3 ⟨rfl, h⟩
        replace B := B.later h
        replace R := B.rules
        simp only [Rules] at R
        clear h
        have q0 := R.1.2.2
        have q00 := q0
        have q1 : w.heap.size < w3.heap.size + 1 := by omega
        have q2 : w.heap.size < w3.heap.size + 1 + 1 := by omega
        have q3 : w.heap.size < w3.heap.size + 1 + 1 + 1 := by omega
        go_wp2_with (at_builtin; refine wpList_app (((B.alloc _ _).alloc _ _).skip _) rfl _ _ rfl Try.underlying22 hi0 hz0 hz1 hz2 rfl (by decide) rfl (own_of_blk (blk_at _ _ _ (by simp)) (by omega) 3 (stepG s)) ⟨by simp, by simp, by simp, trivial⟩ rfl (((hs.later (((B.alloc _ _).alloc _ _).skip _).below).gen)) (stepG_one s) (by simp only [maxLen]; omega) (by omega) (stepG s) (fun _ _ => rfl) (fun i _ => by rw [Nat.zero_add]) ?_; intro v' w4 hown B4; clear B; obtain ⟨g, gc, cur, rfl, hgc, hg0, hgh, hcur⟩ := own_blk hown (by omega); replace B4 := B4.more hgh; replace hcur : ∀ j, j < s.n * 3 → cur[j]? = some (stepG s j) := fun j hj => hcur j (by omega); simp only [World.size_alloc] at B4; replace R := B4.rules; simp only [Rules] at R)
        go_wp2_with fail
        try clear R
        clear q0 q1 q2 q3 hown
        skip
        have ng := blk_ne B4.blks.1 B4.blks.2.1 (by simp)
        have n1g := blk_ne B4.blks.1 B4.blks.2.2.1 (by simp)
        have n2g := blk_ne B4.blks.1 B4.blks.2.2.2.1 (by simp)
        have W3 : w.heap.size < w3.heap.size := q00
        have d1 : (g = w3.heap.size + 1) = False := eq_false ng
        have d2 : (w3.heap.size = w3.heap.size + 1) = False := eq_false (by omega)
        have d3 : (w.heap.size = w3.heap.size + 1) = False := eq_false (by omega)
        have d4 : (w3.heap.size + 1 = g) = False := eq_false (Ne.symm ng)
        have d5 : (w3.heap.size = g) = False := eq_false (Ne.symm n1g)
        have d6 : (w.heap.size = g) = False := eq_false (Ne.symm n2g)
        generalize hX : World.setCell _ _ _ = X
        have B := St.cast hX (B4.set (w3.heap.size + 1) 0 (.slice (some ⟨g, 0, none⟩) s.n gc) (by omega))
        simp only [setIn, if_true, if_false, d1, d2, d3, put2_0] at B
        clear hX B4 hgh d1 d2 d3 ng n1g n2g
        have R := B.rules
        simp only [Rules] at R
        have u1 := hcur (k * 3 + 1) (by omega)
        rw [stepG_1] at u1
        have u2 : (cur.setIfInBounds (k * 3 + 1) (.int .i64 l))[k * 3 + 2]? = some (.int .i64 (s.M k)) := by
          rw [Array.getElem?_setIfInBounds_ne (by omega), hcur (k * 3 + 2) (by omega), stepG_2]
        have HD := Lib.hid (wider_cells (k := k) (l := l) (m := m) hcur)
        clear hcur
        obtain ⟨ad, rfl, hblt, e0, e1, e2⟩ := (hs.later B.below) k hk
        have hk' : (k : Int) < s.n := by omega
        have hlc : (le < s.L k ∧ 0 < s.L k - le ∧ l = s.L k - le) ∨ (¬ le < s.L k ∧ ¬ 0 < s.L k - le ∧ l = 0) := by have := HL.out; omega
        have hmc : (s.M k + mo < 38399 ∧ m = s.M k + mo) ∨ (¬ s.M k + mo < 38399 ∧ m = 38399) := by have := HM.out; omega
        clear HL HM
        rcases hlc with ⟨t1, t2, rfl⟩ | ⟨t1, t2, rfl⟩ <;> rcases hmc with ⟨t3, rfl⟩ | ⟨t3, rfl⟩
        all_goals
          refine wp_region_later_tail 15 (by kernel_rfl) (by kernel_rfl) ?_
          simp only [List.take_succ_cons, List.take_zero, List.drop_succ_cons, List.drop_zero]
          repeat (go_big_quiet_step (fail))
          refine wpQuiet_nil ?_
          rintro _ ⟨⟨wq, hq⟩, rfl⟩
          replace B := B.later hq
          replace R := B.rules
          simp only [Rules] at R
          go_wp2_with fail
          generalize hX : World.setCell _ _ _ = Y
          replace B := St.cast hX (B.set g (k * 3 + 1) _ hg0)
          simp only [setIn, if_true, if_false, d4, d5, d6] at B
          clear hX
          replace R := B.rules
          simp only [Rules] at R
          have e2' := (hs.later B.below) k hk
          obtain ⟨ad', he', hblt', e0', e1', e2'⟩ := e2'
          obtain rfl : ad = ad' := by injection he'
          clear he' e0' e1'
          refine wp_region_later_tail 15 (by kernel_rfl) (by kernel_rfl) ?_
          simp only [List.take_succ_cons, List.take_zero, List.drop_succ_cons, List.drop_zero]
          repeat (go_big_quiet_step (fail))
          refine wpQuiet_nil ?_
          rintro _ ⟨⟨wq, hq⟩, rfl⟩
          replace B := B.later hq
          replace R := B.rules
          simp only [Rules] at R
          go_wp2_with fail
          generalize hX : World.setCell _ _ _ = Y
          replace B := St.cast hX (B.set g (k * 3 + 2) _ hg0)
          simp only [setIn, if_true, if_false, d4, d5, d6] at B
          clear hX
          replace R := B.rules
          simp only [Rules] at R
          clear u1 u2 e0 e1 e2 e2' hblt hblt' hs t1 t2 t3
          have HS := Lib.hid (steps_of_blk B.blks.1 HD.out)
          go_wp2_with fail
          refine (D.out _ B.below _ _ HS.out).mono ?_
          rintro e' w5 ⟨rfl, h⟩
          replace B := B.later h
          replace R := B.rules
          simp only [Rules] at R
          clear h
          go_wp2
          go_ret
          exact ⟨ret_bool (by first | rfl | simp), B.below.alloc B.below.size _⟩

set_option maxRecDepth 100000 in
theorem cadenceWider_lifted (os : Os) (started : os.Started) (H : Type) (enc : TypeId × Value → H) :
    ReturnsInHanded {} Try.checked os 7 .any (Rows.cadenceWiderSpec.pre6 enc Try.prog Try.f7 Rows.cadenceWiderRow.domain false) (Rows.cadenceWiderSpec.post enc Try.prog Try.f7 false true false false) := by
  refine returnsInHanded_of_change (C := Try.checked) own started (by kernel_rfl) Try.func7
    (ChangeSpec.witness6 (enc := enc) (C := Try.checked) false ⟨#[], #[.agg #[.slice none 0 0, .int .i64 0], .slice none 0 0, .int .u8 0, .int .u16 0, .int .u16 0], []⟩ 8 (by kernel_rfl) (by kernel_rfl) (by kernel_rfl) (by kernel_rfl)) ?_
  intro W base args ds gs before hval0 hW _ _
  have hval : ∀ (j : Nat) t v, Try.f7.params[j]? = some t → args[j]? = some v → Value.okWide Try.prog W .any base t v := hval0
  have hW' := hW
  obtain ⟨p, q, hA0, hV, _, _, _⟩ := hW
  have hA : DataW.TrodAll enc Try.prog W 0 (fun _ => true) true Try.f7.params.toList args.toList ds p := hA0
  rw [Try.params7] at hA hval
  obtain ⟨v0, vs0, d0, ds0, p0, q0, hargs, rfl, _, h0, r0⟩ := trodAll_cons hA
  obtain ⟨v1, vs1, d1, ds1, p1, q1, rfl, rfl, rfl, h1, r1⟩ := trodAll_cons r0
  obtain ⟨v2, vs2, d2, ds2, p2, q2, rfl, rfl, rfl, h2, r2⟩ := trodAll_cons r1
  obtain ⟨v3, vs3, d3, ds3, p3, q3, rfl, rfl, rfl, h3, r3⟩ := trodAll_cons r2
  obtain ⟨v4, vs4, d4, ds4, p4, q4, rfl, rfl, rfl, h4, r4⟩ := trodAll_cons r3
  obtain ⟨rfl, rfl, rfl⟩ := trodAll_nil r4
  obtain rfl : args = #[v0, v1, v2, v3, v4] := by cases args; simp_all
  obtain ⟨rfl, rfl⟩ := trodVars_none hV
  obtain ⟨A, c, s, hsA, hsn, hsc, rfl⟩ := open24 (hval 0 24 v0 rfl rfl) h0
  obtain ⟨MA, N, mc, M, hM, hN, hmc, rfl⟩ := open27 (hval 1 27 v1 rfl rfl) h1
  obtain ⟨ra, ra0, ra1, rfl⟩ := open5 (hval 2 5 v2 rfl rfl) h2
  obtain ⟨le, le0, le1, rfl⟩ := open46 (hval 3 46 v3 rfl rfl) h3
  obtain ⟨mo, mo0, mo1, rfl⟩ := open46 (hval 4 46 v4 rfl rfl) h4
  exact law_post (f := 7) laidOut (by kernel_rfl) rfl Try.underlying4 rfl hW' rfl (wider_walk W A c s hsA hsn hsc MA N mc M hM hN hmc ra ra0 ra1 le le0 le1 mo mo0 mo1)

/-- The statement. -/
theorem cadenceWider_holds : Rows.CadenceWiderSaid :=
  OpenClaim.holds_of_wide 7 Try.f7 rfl rfl rfl rfl rfl rfl rfl ⟨rfl, rfl, rfl, rfl, rfl⟩ rfl rfl rfl rfl rfl (by kernel_rfl) Try.func7 (by kernel_rfl)
    (of_decide_eq_true (by kernel_rfl)) (by unfold Func.isWrapper; rw [if_neg (of_decide_eq_false (by kernel_rfl))]; exact ⟨rfl, rfl⟩)
    (fun os started H enc _ => cadenceWider_lifted os started H enc)

#print axioms cadenceWider_holds

end Go.Proofs.Ytmplcceoepkppaa
