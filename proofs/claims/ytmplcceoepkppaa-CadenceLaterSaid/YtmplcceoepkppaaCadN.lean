/-
  CadenceLater: for every sequence, moments and number the law returns true. No conditions.
-/
import Derived.Test.YtmplcceoepkppaaLaw
import Derived.Test.YtmplcceoepkppaaLawD
import Derived.Test.YtmplcceoepkppaaApp
namespace Go.Proofs.Ytmplcceoepkppaa
open Go.ChangeShapes Go.WideShapes Go.ChangeAt Go.RowKit

/-- At the head of the law's loop: k moments are moved. -/
def LateRel (w : World) (M : Nat → Int) (N : Nat) (d : Int) (L : List (Nat × Array Value × TypeId)) (v8 v9 : Value) (wr : World) : Prop :=
  ∃ k : Nat, k ≤ N ∧ v9 = .int .i64 k ∧ wr.ownsRow w.heap.size 3 1 v8 k ((List.range k).map fun i => .int .i64 (M i + d)) ∧ St w wr L ∧ ∀ i, i < k → 0 ≤ M i ∧ M i ≤ 38399 - d

set_option maxRecDepth 100000 in
set_option maxHeartbeats 2000000 in
theorem later_walk (w : World) (A : Option Addr) (c : Nat) (s : Sq) (hs : StepsAt w A s) (hn : s.n ≤ maxLen) (_hcap : s.n ≤ c)
    (MA : Option Addr) (N mc : Nat) (M : Nat → Int) (hM : IntsAt w MA N M) (_hN : N ≤ maxLen) (_hmc : N ≤ mc) (d : Int) (d0 : 0 ≤ d) (d1 : d ≤ 65535) :
    Calls Try.prog 8 #[.agg #[.slice A s.n c, .int .i64 s.r], .slice MA N mc, .int .u16 d] w (Ret (.bool true) w) := by
  have C1 := Lib.hid (fun W => few_any A c s W hn)
  clear _hcap _hmc _hN
  by_cases hf : (s.n : Int) ≤ 50
  rotate_left
  · have hfd : decide ((s.n : Int) ≤ 50) = false := by simpa using hf
    rw [hfd] at C1
    clear hf hfd hs hM
    go_enter Try.func8, Try.ntmps8
    have B := St.start w
    have R := B.rules
    go_wp2_with fail
    generalize hX : World.alloc _ _ = X
    replace B := St.cast hX (B.alloc _ _)
    clear hX
    refine (head_any _).mono ?_
    rintro e' w1 ⟨rfl, h⟩
    replace B := B.later h
    replace R := B.rules
    simp only [Rules] at R
    clear h
    go_wp2_with fail
    refine (C1.out _).mono ?_
    rintro e' w2 ⟨rfl, h⟩
    replace B := B.later h
    replace R := B.rules
    simp only [Rules] at R
    clear h
    go_wp2
    go_ret
    exact ⟨rfl, B.below⟩
  · have hfd : decide ((s.n : Int) ≤ 50) = true := by simpa using hf
    rw [hfd] at C1
    clear hf hfd
    by_cases hl : (200 : Int) < N
    · clear hs hM
      go_enter Try.func8, Try.ntmps8
      have B := St.start w
      have R := B.rules
      go_wp2_with fail
      generalize hX : World.alloc _ _ = X
      replace B := St.cast hX (B.alloc _ _)
      clear hX
      refine (head_any _).mono ?_
      rintro e' w1 ⟨rfl, h⟩
      replace B := B.later h
      replace R := B.rules
      simp only [Rules] at R
      clear h
      go_wp2_with fail
      refine (C1.out _).mono ?_
      rintro e' w2 ⟨rfl, h⟩
      replace B := B.later h
      replace R := B.rules
      simp only [Rules] at R
      clear h
      go_wp2
      go_ret
      exact ⟨rfl, B.below⟩
    · have C := Lib.hid (fun W (h : Below w.heap.size w W) => replay_any A c s MA N mc M W (hs.later h) hn (hM.later h) (by omega))
      have D := Lib.hid (fun W (h : Below w.heap.size w W) (A' : Option Addr) (c' : Nat) (hm : IntsAt W A' N (fun i => M i + d)) => replay_any A c s A' N c' (fun i => M i + d) W (hs.later h) hn hm (by omega))
      clear hs
      obtain ⟨i0, hi0, hz0, hz1, hz2⟩ := info_parts int_info
      go_enter Try.func8, Try.ntmps8
      have B := St.start w
      have R := B.rules
      go_wp2_with fail
      generalize hX : World.alloc _ _ = X
      replace B := St.cast hX (B.alloc _ _)
      clear hX
      refine (head_any _).mono ?_
      rintro e' w1 ⟨rfl, h⟩
      replace B := B.later h
      replace R := B.rules
      simp only [Rules] at R
      clear h
      go_wp2_with fail
      refine (C1.out _).mono ?_
      rintro e' w2 ⟨rfl, h⟩
      replace B := B.later h
      replace R := B.rules
      simp only [Rules] at R
      clear h
      clear C1 R
      go_wp2_with fail
      go_loopw [8, 9] (LateRel w M N d [(w.heap.size, #[.slice A s.n c, .int .i64 s.r], 24)]) (fun _ v _ => N - (intOf v).toNat)
      case atStart => exact ⟨0, by omega, rfl, World.ownsRow_nil _ _ _ _, B, fun i hi => absurd hi (by omega)⟩
      case round =>
        clear B
        obtain ⟨k, hk, rfl, hown, B, hall⟩ := hrel
        have R := B.rules
        simp only [Rules] at R
        by_cases hlt : k < N
        · obtain ⟨ad, rfl, hblt, c0⟩ := (hM.later B.below) k hlt
          have ho := Lib.hid hown
          have ha := Lib.hid hall
          clear hown hall
          by_cases t1 : M k < 0
          · go_wp2
            go_ret
            exact ⟨rfl, B.below⟩
          · by_cases t2 : 38399 - d < M k
            · go_wp2
              go_ret
              exact ⟨rfl, B.below⟩
            · go_wp2_with (at_builtin; refine wpList_app (B.skip _) rfl _ _ rfl Try.underlying27 hi0 hz0 hz1 hz2 rfl (by decide) rfl (ho.out.alloc _) ⟨by simp, trivial⟩ rfl (gen_one _ _ _) (fun _ => rfl) (by simp only [maxLen]; omega) (by omega) (fun i => .int .i64 (M i + d)) (fun _ _ => rfl) (fun i hi => by have e : i = 0 := (by omega); subst e; rfl) ?_; intro v' w1 hown' B'; clear B R)
              exact ⟨⟨k + 1, by omega, by go_num, hown', B', fun i hi => by
                by_cases e : i = k
                · rw [e]; omega
                · exact ha.out i (by omega)⟩, by simp [intOf]; omega⟩
        · obtain rfl : k = N := by omega
          obtain ⟨A', c', rfl, _, hgen⟩ := own_gen hown
          have hI : IntsAt wr A' k (fun i => M i + d) := fun i hi => hgen i (by omega)
          clear hgen hown hM
          obtain ⟨⟨x, y, z, o⟩, n, e, h1, h2, h3⟩ := late_rep (s := s) (M := M) (M' := fun i => M i + d) (N := k) d0 (fun i hi => ⟨rfl, hall i hi⟩)
          clear hall
          rw [h1] at C
          rw [h2] at D
          clear h1 h2
          by_cases hc : e = 0 ∧ 0 < k
          · obtain ⟨z0, z1⟩ := h3 hc
            obtain ⟨rfl, hk0⟩ := hc
            rw [if_pos ⟨rfl, hk0⟩] at D
            have hk1 : (0 : Int) < k := by omega
            simp only [repV, lateC] at C D z0 z1
            go_wp2_with fail
            refine (C.out _ B.below).mono ?_
            rintro e' w1 ⟨rfl, h⟩
            replace hI := hI.later h
            replace B := B.later h
            replace R := B.rules
            simp only [Rules] at R
            clear h
            have bw1 := B.below.size
            go_wp2_with fail
            generalize hX : World.alloc _ _ = X
            replace B := St.cast hX (B.alloc _ _)
            replace hI := hI.later (show Below _ _ X from by rw [← hX]; exact (Below.refl _ _).alloc (Nat.le_refl _) _)
            clear hX
            refine (D.out _ B.below _ _ hI).mono ?_
            rintro e' w2 ⟨rfl, h⟩
            replace B := B.later h
            replace R := B.rules
            simp only [Rules] at R
            clear h hI
            go_wp2
            go_ret
            exact ⟨ret_bool (by first | rfl | simp), by
              have bw := B.below.size
              first | exact B.below.alloc bw _ | exact (B.below.setCell (p := ⟨w1.heap.size, 2, none⟩) bw1 _).alloc (by simpa using bw) _⟩
          · rw [if_neg hc] at D
            clear h3
            simp only [repV] at C D
            by_cases he : e = 0
            · have hk0 : ¬ (0 : Int) < k := by omega
              subst he
              clear hc
              go_wp2_with fail
              refine (C.out _ B.below).mono ?_
              rintro e' w1 ⟨rfl, h⟩
              replace hI := hI.later h
              replace B := B.later h
              replace R := B.rules
              simp only [Rules] at R
              clear h
              have bw1 := B.below.size
              go_wp2_with fail
              generalize hX : World.alloc _ _ = X
              replace B := St.cast hX (B.alloc _ _)
              replace hI := hI.later (show Below _ _ X from by rw [← hX]; exact (Below.refl _ _).alloc (Nat.le_refl _) _)
              clear hX
              refine (D.out _ B.below _ _ hI).mono ?_
              rintro e' w2 ⟨rfl, h⟩
              replace B := B.later h
              replace R := B.rules
              simp only [Rules] at R
              clear h hI
              go_wp2
              go_ret
              exact ⟨ret_bool (by first | rfl | simp), by
                have bw := B.below.size
                first | exact B.below.alloc bw _ | exact (B.below.setCell (p := ⟨w1.heap.size, 2, none⟩) bw1 _).alloc (by simpa using bw) _⟩
            · have he1 : (e == 0) = false := by simpa using he
              clear hc
              go_wp2_with fail
              refine (C.out _ B.below).mono ?_
              rintro e' w1 ⟨rfl, h⟩
              replace hI := hI.later h
              replace B := B.later h
              replace R := B.rules
              simp only [Rules] at R
              clear h
              have bw1 := B.below.size
              go_wp2_with fail
              generalize hX : World.alloc _ _ = X
              replace B := St.cast hX (B.alloc _ _)
              replace hI := hI.later (show Below _ _ X from by rw [← hX]; exact (Below.refl _ _).alloc (Nat.le_refl _) _)
              clear hX
              refine (D.out _ B.below _ _ hI).mono ?_
              rintro e' w2 ⟨rfl, h⟩
              replace B := B.later h
              replace R := B.rules
              simp only [Rules] at R
              clear h hI
              go_wp2
              go_ret
              exact ⟨ret_bool (by first | rfl | simp), by
                have bw := B.below.size
                first | exact B.below.alloc bw _ | exact (B.below.setCell (p := ⟨w1.heap.size, 2, none⟩) bw1 _).alloc (by simpa using bw) _⟩

set_option maxRecDepth 100000 in
theorem cadenceLater_lifted (os : Os) (started : os.Started) (H : Type) (enc : TypeId × Value → H) :
    ReturnsInHanded {} Try.checked os 8 .any (Rows.cadenceLaterSpec.pre6 enc Try.prog Try.f8 Rows.cadenceLaterRow.domain false) (Rows.cadenceLaterSpec.post enc Try.prog Try.f8 false true false false) := by
  refine returnsInHanded_of_change (C := Try.checked) own started (by kernel_rfl) Try.func8
    (ChangeSpec.witness6 (enc := enc) (C := Try.checked) false ⟨#[], #[.agg #[.slice none 0 0, .int .i64 0], .slice none 0 0, .int .u16 0], []⟩ 8 (by kernel_rfl) (by kernel_rfl) (by kernel_rfl) (by kernel_rfl)) ?_
  intro W base args ds gs before hval0 hW _ _
  have hval : ∀ (j : Nat) t v, Try.f8.params[j]? = some t → args[j]? = some v → Value.okWide Try.prog W .any base t v := hval0
  have hW' := hW
  obtain ⟨p, q, hA0, hV, _, _, _⟩ := hW
  have hA : DataW.TrodAll enc Try.prog W 0 (fun _ => true) true Try.f8.params.toList args.toList ds p := hA0
  rw [Try.params8] at hA hval
  obtain ⟨v0, vs0, d0, ds0, p0, q0, hargs, rfl, _, h0, r0⟩ := trodAll_cons hA
  obtain ⟨v1, vs1, d1, ds1, p1, q1, rfl, rfl, rfl, h1, r1⟩ := trodAll_cons r0
  obtain ⟨v2, vs2, d2, ds2, p2, q2, rfl, rfl, rfl, h2, r2⟩ := trodAll_cons r1
  obtain ⟨rfl, rfl, rfl⟩ := trodAll_nil r2
  obtain rfl : args = #[v0, v1, v2] := by cases args; simp_all
  obtain ⟨rfl, rfl⟩ := trodVars_none hV
  obtain ⟨A, c, s, hsA, hsn, hsc, rfl⟩ := open24 (hval 0 24 v0 rfl rfl) h0
  obtain ⟨MA, N, mc, M, hM, hN, hmc, rfl⟩ := open27 (hval 1 27 v1 rfl rfl) h1
  obtain ⟨d, hd0, hd1, rfl⟩ := open46 (hval 2 46 v2 rfl rfl) h2
  exact law_post (f := 8) laidOut (by kernel_rfl) rfl Try.underlying4 rfl hW' rfl (later_walk W A c s hsA hsn hsc MA N mc M hM hN hmc d hd0 hd1)

/-- The statement. -/
theorem cadenceLater_holds : Rows.CadenceLaterSaid :=
  OpenClaim.holds_of_wide 8 Try.f8 rfl rfl rfl rfl rfl rfl rfl ⟨rfl, rfl, rfl, rfl, rfl⟩ rfl rfl rfl rfl rfl (by kernel_rfl) Try.func8 (by kernel_rfl)
    (of_decide_eq_true (by kernel_rfl)) (by unfold Func.isWrapper; rw [if_neg (of_decide_eq_false (by kernel_rfl))]; exact ⟨rfl, rfl⟩)
    (fun os started H enc _ => cadenceLater_lifted os started H enc)

#print axioms cadenceLater_holds

end Go.Proofs.Ytmplcceoepkppaa
