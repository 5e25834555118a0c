/-
  Ghost and Reduce of the package observatoryref15: what each call returns.
-/
import Derived.Test.YteghionkljbggaaDetG
namespace Go.Proofs.Yteghionkljbggaa
open Go.RowKit

set_option maxHeartbeats 2000000 in
theorem ghost13_any (g b k f e p q r s : Int) (w : World) :
    Calls Try.prog 13 #[.agg #[.int .i64 g, .int .i64 b, .int .i64 k, .int .i64 f, .int .i64 e], .agg #[.int .i64 p, .int .i64 q, .int .i64 r, .int .i64 s]] w (Ret (ghostR g b k f e p q r s) w) := by
  go_enter Try.func13, Try.ntmps13
  go_wp2_with fail
  generalize hW : World.alloc _ _ = w0
  have hB : Below w.heap.size w w0 := by rw [← hW]; go_grown
  have k0 : w0.heap[w.heap.size]? = some (.cells #[.int .i64 g, .int .i64 b, .int .i64 k, .int .i64 f, .int .i64 e] 23) := by rw [← hW]; repeat (first | exact blk_at _ _ _ (by simp; done) | refine blk_old ?_ _)
  have k1 : w0.heap[w.heap.size + 1]? = some (.cells #[.int .i64 p, .int .i64 q, .int .i64 r, .int .i64 s] 25) := by rw [← hW]; repeat (first | exact blk_at _ _ _ (by simp; done) | refine blk_old ?_ _)
  have k2 : w0.heap[w.heap.size + 1 + 1]? = some (.cells #[.int .i64 0, .int .i64 0, .int .i64 0, .int .i64 0] 25) := by rw [← hW]; repeat (first | exact blk_at _ _ _ (by simp; done) | refine blk_old ?_ _)
  clear hW
  obtain ⟨r0, f0, s0⟩ := blk_rules k0
  obtain ⟨r1, f1, s1⟩ := blk_rules k1
  obtain ⟨r2, f2, s2⟩ := blk_rules k2
  have K0 := Lib.hid k0
  have K1 := Lib.hid k1
  clear k0 k1 k2
  refine (raw_any _ _ _ _ _ _ _ _ _ _).mono ?_
  rintro e' w1 ⟨rfl, hcur⟩
  obtain ⟨hc, hf⟩ := bcell hcur
  have hfin := hB.trans (hcur.mono hB.size)
  by_cases hr : rawB g b k f e p q r s = true
  · have hv : validB g b k f e = true := by simp [rawB] at hr; exact hr.1
    have ha : allB f p q r s = true := by simp [rawB] at hr; exact hr.2
    obtain ⟨_, _, _, ⟨ff1, ff2⟩, ⟨ee1, ee2⟩⟩ := valid_bounds hv
    have Hr := Lib.hid hr
    have Ha := Lib.hid ha
    simp only [hr]
    clear hr hv ha hc hf
    have hm1 : 0 ≤ f * e := Int.mul_nonneg (by omega) (by omega)
    have hm2 : f * e ≤ 65535 * 1000 := Int.mul_le_mul (by omega) (by omega) (by omega) (by omega)
    go_wp2_with fail
    go_loopw [7] (OutAt (fun i => ghostC f e (fourG p q r s i)) w0 w1.heap.size) (fun v _ => 4 - (intOf v).toNat)
    case atStart => exact ⟨0, by omega, rfl, hcur.alloc hcur.size _, by simpa [firsts] using blk_new w1 (.cells #[.int .i64 0, .int .i64 0, .int .i64 0, .int .i64 0] 25)⟩
    case round =>
      obtain ⟨n, hn4, rfl, hb, hout⟩ := hrel
      have t0 := Nat.lt_of_lt_of_le s0 hb.size
      have t1 := Nat.lt_of_lt_of_le s1 hb.size
      have t2 := Nat.lt_of_lt_of_le s2 hb.size
      have hV := lt_of_block hout
      have hV0 := hcur.size
      by_cases hlt : n < 4
      · have cr := cell4 (blk_later K1.out hb) hlt
        have d3 := cell_blk (blk_later K0.out hb) 3 (.int .i64 f) rfl
        have d4 := cell_blk (blk_later K0.out hb) 4 (.int .i64 e) rfl
        obtain ⟨bl1, bl2⟩ := all_four Ha.out n hlt
        obtain ⟨z, hz⟩ := firsts_get n _ hlt
        have c1 := cell_blk hout n _ hz
        have fr1 := free_blk hout n
        have Ho := Lib.hid hout
        have Hset := Lib.hid (firsts_set n (fun i => ghostC f e (fourG p q r s i)) hlt)
        have Hskip := Lib.hid (firsts_skip n (fun i => ghostC f e (fourG p q r s i)) hlt)
        have hn1 : (0 : Int) ≤ (n : Int) := by omega
        have hn2 : (n : Int) < 4 := by omega
        clear hout hz r0 r1 r2 f0 f1 f2
        generalize fourG p q r s n = z at *
        by_cases hzf : z = f
        · have hd : ((z : Int) == f) = true := by simpa using hzf
          have Hz := Lib.hid hzf
          clear hzf
          go_wp2
          go_quiet (fail)
          go_wp2
          refine ⟨⟨n + 1, by omega, by go_num, (hb.trans (Joins.below_draws _ _ _)).setCell hV0 _, ?_⟩, by simp [intOf]; omega⟩
          rw [set_blk (w := wr.drewN nq) Ho.out n, ← Hset.out]
          refine congrArg (fun y => some (Obj.cells ((firsts n _).setIfInBounds n (.int .i64 y)) 25)) ?_
          have := Hz.out
          simp only [ghostC]
          rw [if_neg (by omega)]
        · have hd : ((z : Int) == f) = false := by simpa using hzf
          have Hz := Lib.hid hzf
          clear hzf
          go_wp2
          go_quiet (fail)
          go_wp2
          refine ⟨⟨n + 1, by omega, by go_num, hb.trans (Joins.below_draws _ _ _), ?_⟩, by simp [intOf]; omega⟩
          have := Hz.out
          exact Ho.out.trans (congrArg (fun x => some (Obj.cells x 25)) (Hskip.out (by simp only [ghostC]; rw [if_pos (by omega)])))
      · obtain rfl : n = 4 := by omega
        have ho' : wr.heap[w1.heap.size]? = some (.cells #[.int .i64 (ghostC f e p), .int .i64 (ghostC f e q), .int .i64 (ghostC f e r), .int .i64 (ghostC f e s)] 25) := by
          rw [hout]; simp [firsts, fourG]
        obtain ⟨q0, _, q2⟩ := blk_rules ho'
        obtain ⟨hc, hf⟩ := bcell hb
        have hfin := hB.trans (hb.mono hB.size)
        clear hout ho'
        go_wp2
        exact bodyPost_ret (v := .tuple #[.agg #[.int .i64 (ghostC f e p), .int .i64 (ghostC f e q), .int .i64 (ghostC f e r), .int .i64 (ghostC f e s)], .int .i64 0]) (by simp [results, Try.results13, go_sem, *]) rfl ⟨by simp [ghostR, Hr.out], by go_grown⟩
  · have hn : rawB g b k f e p q r s = false := by simpa using hr
    have Hn := Lib.hid hn
    simp only [hn]
    clear hr hn
    go_wp2
    exact bodyPost_ret (v := .tuple #[.agg #[.int .i64 0, .int .i64 0, .int .i64 0, .int .i64 0], .int .i64 1]) (by simp [results, Try.results13, go_sem, *]) rfl ⟨by simp [ghostR, Hn.out], by go_grown⟩

theorem firstsB_skip (k : Nat) (g : Nat → Bool) (h : k < 4) (h0 : g k = false) : firstsB k g = firstsB (k + 1) g := by
  have : k = 0 ∨ k = 1 ∨ k = 2 ∨ k = 3 := by omega
  rcases this with rfl | rfl | rfl | rfl <;> simp [firstsB, h0]

theorem redC_pos (g b k f z : Int) (h1 : z < f) (h2 : k < z - b) : redC g b k z (okC f z false) = (z - b - k) * 1000 / g := by
  have : okC f z false = true := by simp [okC, h1]
  rw [this]
  simp only [redC, if_pos]
  rw [show max 0 (z - b - k) = z - b - k by omega]

def OutsAt (g : Nat → Int) (v : Nat → Bool) (w0 : World) (V : Nat) (i : Value) (wr : World) : Prop :=
  ∃ k : Nat, k ≤ 4 ∧ i = .int .i64 k ∧ Below w0.heap.size w0 wr ∧ wr.heap[V]? = some (.cells (firsts k g) 25) ∧ wr.heap[V + 1]? = some (.cells (firstsB k v) 27)

set_option maxHeartbeats 4000000 in
theorem reduce15_any (g b k f e p q r s : Int) (m0 m1 m2 m3 : Bool) (w : World) :
    Calls Try.prog 15 #[.agg #[.int .i64 g, .int .i64 b, .int .i64 k, .int .i64 f, .int .i64 e], .agg #[.int .i64 p, .int .i64 q, .int .i64 r, .int .i64 s], .agg #[.bool m0, .bool m1, .bool m2, .bool m3]] w (Ret (reduceR g b k f e p q r s m0 m1 m2 m3) w) := by
  go_enter Try.func15, Try.ntmps15
  go_wp2_with fail
  generalize hW : World.alloc _ _ = w0
  have hB : Below w.heap.size w w0 := by rw [← hW]; go_grown
  have k0 : w0.heap[w.heap.size]? = some (.cells #[.int .i64 g, .int .i64 b, .int .i64 k, .int .i64 f, .int .i64 e] 23) := by rw [← hW]; repeat (first | exact blk_at _ _ _ (by simp; done) | refine blk_old ?_ _)
  have k1 : w0.heap[w.heap.size + 1]? = some (.cells #[.int .i64 p, .int .i64 q, .int .i64 r, .int .i64 s] 25) := by rw [← hW]; repeat (first | exact blk_at _ _ _ (by simp; done) | refine blk_old ?_ _)
  have k2 : w0.heap[w.heap.size + 1 + 1]? = some (.cells #[.bool m0, .bool m1, .bool m2, .bool m3] 27) := by rw [← hW]; repeat (first | exact blk_at _ _ _ (by simp; done) | refine blk_old ?_ _)
  have k3 : w0.heap[w.heap.size + 1 + 1 + 1]? = some (.cells #[.int .i64 0, .int .i64 0, .int .i64 0, .int .i64 0] 25) := by rw [← hW]; repeat (first | exact blk_at _ _ _ (by simp; done) | refine blk_old ?_ _)
  have k4 : w0.heap[w.heap.size + 1 + 1 + 1 + 1]? = some (.cells #[.bool false, .bool false, .bool false, .bool false] 27) := by rw [← hW]; repeat (first | exact blk_at _ _ _ (by simp; done) | refine blk_old ?_ _)
  clear hW
  obtain ⟨r0, f0, s0⟩ := blk_rules k0
  obtain ⟨r1, f1, s1⟩ := blk_rules k1
  obtain ⟨r2, f2, s2⟩ := blk_rules k2
  obtain ⟨r3, f3, s3⟩ := blk_rules k3
  obtain ⟨r4, f4, s4⟩ := blk_rules k4
  have K0 := Lib.hid k0
  have K1 := Lib.hid k1
  have K2 := Lib.hid k2
  clear k0 k1 k2 k3 k4
  refine (raw_any _ _ _ _ _ _ _ _ _ _).mono ?_
  rintro e' w1 ⟨rfl, hcur⟩
  obtain ⟨hc, hf⟩ := bcell hcur
  have hfin := hB.trans (hcur.mono hB.size)
  by_cases hr : rawB g b k f e p q r s = true
  · have hv : validB g b k f e = true := by simp [rawB] at hr; exact hr.1
    have ha : allB f p q r s = true := by simp [rawB] at hr; exact hr.2
    obtain ⟨⟨gg1, gg2⟩, ⟨b1, b2⟩, ⟨kk1, kk2⟩, ⟨ff1, ff2⟩, _⟩ := valid_bounds hv
    have Hr := Lib.hid hr
    have Ha := Lib.hid ha
    simp only [hr]
    clear hr hv ha hc hf
    go_wp2_with fail
    go_loopw [11] (OutsAt (fun i => redC g b k (fourG p q r s i) (okC f (fourG p q r s i) (fourBG m0 m1 m2 m3 i))) (fun i => okC f (fourG p q r s i) (fourBG m0 m1 m2 m3 i)) w0 w1.heap.size) (fun v _ => 4 - (intOf v).toNat)
    case atStart =>
      refine ⟨0, by omega, rfl, (hcur.alloc hcur.size _).alloc (by have := hcur.size; simp; omega) _, ?_, ?_⟩
      · have := blk_old (blk_new w1 (.cells #[.int .i64 0, .int .i64 0, .int .i64 0, .int .i64 0] 25)) (.cells #[.bool false, .bool false, .bool false, .bool false] 27)
        simpa [firsts] using this
      · have := blk_at (w1.alloc (.cells #[.int .i64 0, .int .i64 0, .int .i64 0, .int .i64 0] 25)) (.cells #[.bool false, .bool false, .bool false, .bool false] 27) (w1.heap.size + 1) (by simp)
        simpa [firstsB] using this
    case round =>
      obtain ⟨n, hn4, rfl, hb, hout, hval⟩ := hrel
      have t0 := Nat.lt_of_lt_of_le s0 hb.size
      have t1 := Nat.lt_of_lt_of_le s1 hb.size
      have t2 := Nat.lt_of_lt_of_le s2 hb.size
      have t3 := Nat.lt_of_lt_of_le s3 hb.size
      have t4 := Nat.lt_of_lt_of_le s4 hb.size
      have hV := lt_of_block hout
      have hV2 := lt_of_block hval
      have hV0 := hcur.size
      by_cases hlt : n < 4
      · have cm := cell4b (blk_later K2.out hb) hlt
        have cr := cell4 (blk_later K1.out hb) hlt
        have d0 := cell_blk (blk_later K0.out hb) 0 (.int .i64 g) rfl
        have d1 := cell_blk (blk_later K0.out hb) 1 (.int .i64 b) rfl
        have d2 := cell_blk (blk_later K0.out hb) 2 (.int .i64 k) rfl
        have d3 := cell_blk (blk_later K0.out hb) 3 (.int .i64 f) rfl
        obtain ⟨bl1, bl2⟩ := all_four Ha.out n hlt
        obtain ⟨z, hz⟩ := firsts_get n _ hlt
        obtain ⟨zb, hzb⟩ := firstsB_get n _ hlt
        have c1 := cell_blk hout n _ hz
        have fr1 := free_blk hout n
        have c2 := cell_blk hval n _ hzb
        have fr2 := free_blk hval n
        have Ho := Lib.hid hout
        have Hva := Lib.hid hval
        have Hset := Lib.hid (firsts_set n (fun i => redC g b k (fourG p q r s i) (okC f (fourG p q r s i) (fourBG m0 m1 m2 m3 i))) hlt)
        have Hskip := Lib.hid (firsts_skip n (fun i => redC g b k (fourG p q r s i) (okC f (fourG p q r s i) (fourBG m0 m1 m2 m3 i))) hlt)
        have HsetB := Lib.hid (firstsB_set n (fun i => okC f (fourG p q r s i) (fourBG m0 m1 m2 m3 i)) hlt)
        have HskipB := Lib.hid (firstsB_skip n (fun i => okC f (fourG p q r s i) (fourBG m0 m1 m2 m3 i)) hlt)
        have hn1 : (0 : Int) ≤ (n : Int) := by omega
        have hn2 : (n : Int) < 4 := by omega
        clear hout hval hz hzb r0 r1 r2 r3 r4 f0 f1 f2 f3 f4
        generalize fourG p q r s n = z at *
        generalize fourBG m0 m1 m2 m3 n = mn at *
        cases mn with
        | true =>
          go_wp2
          go_quiet (fail)
          go_wp2
          refine ⟨⟨n + 1, by omega, by go_num, hb.trans (Joins.below_draws _ _ _), ?_, ?_⟩, by simp [intOf]; omega⟩
          · exact Ho.out.trans (congrArg (fun x => some (Obj.cells x 25)) (Hskip.out (by simp [redC, okC])))
          · exact Hva.out.trans (congrArg (fun x => some (Obj.cells x 27)) (HskipB.out (by simp [okC])))
        | false =>
          by_cases hzf : z = f
          · have hd : ((z : Int) == f) = true := by simpa using hzf
            have Hz := Lib.hid hzf
            clear hzf
            go_wp2
            go_quiet (fail)
            go_wp2
            have := Hz.out
            refine ⟨⟨n + 1, by omega, by go_num, hb.trans (Joins.below_draws _ _ _), ?_, ?_⟩, by simp [intOf]; omega⟩
            · exact Ho.out.trans (congrArg (fun x => some (Obj.cells x 25)) (Hskip.out (by simp [redC, okC, this])))
            · exact Hva.out.trans (congrArg (fun x => some (Obj.cells x 27)) (HskipB.out (by simp [okC, this])))
          · have hd : ((z : Int) == f) = false := by simpa using hzf
            have Hz := Lib.hid hzf
            clear hzf
            go_wp2
            go_quiet (fail)
            go_wp2
            go_quiet (fail)
            go_wp2
            · refine ⟨⟨n + 1, by omega, by go_num, (((hb.trans (Joins.below_draws _ _ _)).setCell (by simp; omega) _).trans (Joins.below_draws _ _ _)).setCell hV0 _, ?_, ?_⟩, by simp [intOf]; omega⟩
              · refine (set_blk (blk_set_other (w := wr) Ho.out ⟨w1.heap.size + 1, n, none⟩ (.bool true) (by simp)) n _).trans ?_
                rw [← Hset.out]
                refine congrArg (fun y => some (Obj.cells ((firsts n _).setIfInBounds n (.int .i64 y)) 25)) ?_
                have := Hz.out
                exact (redC_pos g b k f z (by omega) (by omega)).symm
              · refine (blk_set_other (w := wr.setCell ⟨w1.heap.size + 1, n, none⟩ (.bool true)) (set_blk (w := wr) Hva.out n _) _ _ (by simp)).trans ?_
                rw [← HsetB.out]
                have := Hz.out
                rw [show okC f z false = true by simp [okC]; omega]
            · refine ⟨⟨n + 1, by omega, by go_num, ((hb.trans (Joins.below_draws _ _ _)).setCell (by simp; omega) _).trans (Joins.below_draws _ _ _), ?_, ?_⟩, by simp [intOf]; omega⟩
              · refine (blk_set_other (w := wr) Ho.out ⟨w1.heap.size + 1, n, none⟩ (.bool true) (by simp)).trans ?_
                refine congrArg (fun x => some (Obj.cells x 25)) (Hskip.out ?_)
                simp only [redC]
                split
                · rw [show max 0 (z - b - k) = 0 by omega]; simp
                · rfl
              · refine (set_blk (w := wr) Hva.out n _).trans ?_
                rw [← HsetB.out]
                have := Hz.out
                rw [show okC f z false = true by simp [okC]; omega]
      · obtain rfl : n = 4 := by omega
        have ho' : wr.heap[w1.heap.size]? = some (.cells #[.int .i64 (redC g b k p (okC f p m0)), .int .i64 (redC g b k q (okC f q m1)), .int .i64 (redC g b k r (okC f r m2)), .int .i64 (redC g b k s (okC f s m3))] 25) := by
          rw [hout]; simp [firsts, fourG, fourBG]
        have hv' : wr.heap[w1.heap.size + 1]? = some (.cells #[.bool (okC f p m0), .bool (okC f q m1), .bool (okC f r m2), .bool (okC f s m3)] 27) := by
          rw [hval]; simp [firstsB, fourG, fourBG]
        obtain ⟨q0, _, q2⟩ := blk_rules ho'
        obtain ⟨q3, _, q5⟩ := blk_rules hv'
        obtain ⟨hc, hf⟩ := bcell hb
        have hfin := hB.trans (hb.mono hB.size)
        clear hout ho' hval hv'
        go_wp2_with fail
        go_region
        all_goals
          go_wp2
          exact bodyPost_ret (v := .tuple #[.agg #[.int .i64 (redC g b k p (okC f p m0)), .int .i64 (redC g b k q (okC f q m1)), .int .i64 (redC g b k r (okC f r m2)), .int .i64 (redC g b k s (okC f s m3))], .agg #[.bool (okC f p m0), .bool (okC f q m1), .bool (okC f r m2), .bool (okC f s m3)], .int .i64 0]) (by simp [results, Try.results15, go_sem, *]) rfl ⟨by simp [reduceR, Hr.out], by go_grown⟩
  · have hn : rawB g b k f e p q r s = false := by simpa using hr
    have Hn := Lib.hid hn
    simp only [hn]
    clear hr hn
    go_wp2
    exact bodyPost_ret (v := .tuple #[.agg #[.int .i64 0, .int .i64 0, .int .i64 0, .int .i64 0], .agg #[.bool false, .bool false, .bool false, .bool false], .int .i64 1]) (by simp [results, Try.results15, go_sem, *]) rfl ⟨by simp [reduceR, Hn.out], by go_grown⟩

end Go.Proofs.Yteghionkljbggaa
