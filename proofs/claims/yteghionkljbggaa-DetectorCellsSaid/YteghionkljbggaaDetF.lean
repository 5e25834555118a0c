/-
  Reduce of the package detector: what a call returns.
-/
import Derived.Test.YteghionkljbggaaDetD
namespace Go.Proofs.Yteghionkljbggaa
open Go.RowKit

/-- The first k of four bools; false behind them. -/
def firstsB (k : Nat) (g : Nat → Bool) : Array Value := #[.bool (decide (0 < k) && g 0), .bool (decide (1 < k) && g 1), .bool (decide (2 < k) && g 2), .bool (decide (3 < k) && g 3)]
theorem firstsB_set (k : Nat) (g : Nat → Bool) (h : k < 4) : (firstsB k g).setIfInBounds k (.bool (g k)) = firstsB (k + 1) g := by
  have : k = 0 ∨ k = 1 ∨ k = 2 ∨ k = 3 := by omega
  rcases this with rfl | rfl | rfl | rfl <;> simp [firstsB]
theorem firstsB_get (k : Nat) (g : Nat → Bool) (h : k < 4) : ∃ n, (firstsB k g)[k]? = some (.bool n) := by
  have : k = 0 ∨ k = 1 ∨ k = 2 ∨ k = 3 := by omega
  rcases this with rfl | rfl | rfl | rfl <;> exact ⟨_, rfl⟩

/-- A cell is valid. -/
def okC (f r : Int) (bad : Bool) : Bool := !bad && decide (r < f)

def RedAt (g : Nat → Bool) (w0 : World) (V : Nat) (v : Value) (wr : World) : Prop :=
  ∃ k : Nat, k ≤ 4 ∧ v = .int .i64 k ∧ Below w0.heap.size w0 wr ∧ wr.heap[V]? = some (.cells (firstsB k g) 27)

/-- What Reduce returns. -/
def reduceR (g b k f e p q r s : Int) (m0 m1 m2 m3 : Bool) : Value :=
  if rawB g b k f e p q r s then .tuple #[.agg #[.int .i64 (redC g b k p (okC f p m0)), .int .i64 (redC g b k q (okC f q m1)), .int .i64 (redC g b k r (okC f r m2)), .int .i64 (redC g b k s (okC f s m3))], .agg #[.bool (okC f p m0), .bool (okC f q m1), .bool (okC f r m2), .bool (okC f s m3)], .int .i64 0]
  else .tuple #[.agg #[.int .i64 0, .int .i64 0, .int .i64 0, .int .i64 0], .agg #[.bool false, .bool false, .bool false, .bool false], .int .i64 1]

set_option maxHeartbeats 2000000 in
theorem reduce_any (g b k f e p q r s : Int) (m0 m1 m2 m3 : Bool) (w : World) :
    Calls Try.prog 14 #[.agg #[.int .i64 g, .int .i64 b, .int .i64 k, .int .i64 f, .int .i64 e], .agg #[.int .i64 p, .int .i64 q, .int .i64 r, .int .i64 s], .agg #[.bool m0, .bool m1, .bool m2, .bool m3]] w (Ret (reduceR g b k f e p q r s m0 m1 m2 m3) w) := by
  go_enter Try.func14, Try.ntmps14
  go_wp2_with fail
  generalize hW : World.alloc _ _ = w0
  have hB : Below w.heap.size w w0 := by rw [← hW]; go_grown
  have k0 : w0.heap[w.heap.size]? = some (.cells #[.int .i64 g, .int .i64 b, .int .i64 k, .int .i64 f, .int .i64 e] 23) := by rw [← hW]; repeat (first | exact blk_at _ _ _ (by simp; done) | refine blk_old ?_ _)
  have k1 : w0.heap[w.heap.size + 1]? = some (.cells #[.int .i64 p, .int .i64 q, .int .i64 r, .int .i64 s] 25) := by rw [← hW]; repeat (first | exact blk_at _ _ _ (by simp; done) | refine blk_old ?_ _)
  have k2 : w0.heap[w.heap.size + 1 + 1]? = some (.cells #[.bool m0, .bool m1, .bool m2, .bool m3] 27) := by rw [← hW]; repeat (first | exact blk_at _ _ _ (by simp; done) | refine blk_old ?_ _)
  have k3 : w0.heap[w.heap.size + 1 + 1 + 1]? = some (.cells #[.int .i64 0, .int .i64 0, .int .i64 0, .int .i64 0] 25) := by rw [← hW]; repeat (first | exact blk_at _ _ _ (by simp; done) | refine blk_old ?_ _)
  have k4 : w0.heap[w.heap.size + 1 + 1 + 1 + 1]? = some (.cells #[.bool false, .bool false, .bool false, .bool false] 27) := by rw [← hW]; repeat (first | exact blk_at _ _ _ (by simp; done) | refine blk_old ?_ _)
  clear hW
  obtain ⟨r0, f0, s0⟩ := blk_rules k0
  obtain ⟨r1, f1, s1⟩ := blk_rules k1
  obtain ⟨r2, f2, s2⟩ := blk_rules k2
  obtain ⟨r3, f3, s3⟩ := blk_rules k3
  obtain ⟨r4, f4, s4⟩ := blk_rules k4
  have K0 := Lib.hid k0
  have K1 := Lib.hid k1
  have K2 := Lib.hid k2
  clear k0 k1 k2 k3 k4
  refine (counts_any _ _ _ _ _ _ _ _ _ _).mono ?_
  rintro e' w1 ⟨rfl, hcur⟩
  by_cases hr : rawB g b k f e p q r s = true
  · have hv : validB g b k f e = true := by simp [rawB] at hr; exact hr.1
    have ha : allB f p q r s = true := by simp [rawB] at hr; exact hr.2
    have Hr := Lib.hid hr
    have Hv := Lib.hid hv
    have Ha := Lib.hid ha
    simp only [hr]
    clear hr hv ha
    go_wp2
    go_loopw [17] (RedAt (fun i => okC f (fourG p q r s i) (fourBG m0 m1 m2 m3 i)) w0 w1.heap.size) (fun v _ => 4 - (intOf v).toNat)
    case atStart => exact ⟨0, by omega, rfl, hcur.alloc hcur.size _, by simpa [firstsB] using blk_new w1 (.cells #[.bool false, .bool false, .bool false, .bool false] 27)⟩
    case round =>
      obtain ⟨n, hn, rfl, hb, ho⟩ := hrel
      have t0 := Nat.lt_of_lt_of_le s0 hb.size
      have t1 := Nat.lt_of_lt_of_le s1 hb.size
      have t2 := Nat.lt_of_lt_of_le s2 hb.size
      have cf := cell_blk (blk_later K0.out hb) 3 (.int .i64 f) rfl
      have hV : w1.heap.size < wr.heap.size := lt_of_block ho
      have hV0 := hcur.size
      by_cases hlt : n < 4
      · have cm := cell4b (blk_later K2.out hb) hlt
        have cr := cell4 (blk_later K1.out hb) hlt
        obtain ⟨z, hz⟩ := firstsB_get n _ hlt
        have c1 := cell_blk ho n _ hz
        have fr1 := free_blk ho n
        have Ho := Lib.hid ho
        have Hset := Lib.hid (firstsB_set n (fun i => okC f (fourG p q r s i) (fourBG m0 m1 m2 m3 i)) hlt)
        have h1 : (0 : Int) ≤ (n : Int) := by omega
        have h2 : (n : Int) < 4 := by omega
        clear ho hz r0 r1 r2 r3 r4 f0 f1 f2 f3 f4
        have Hok : Hid (okC f (fourG p q r s n) (fourBG m0 m1 m2 m3 n) = (!fourBG m0 m1 m2 m3 n && decide (fourG p q r s n < f))) := Lib.hid rfl
        generalize fourG p q r s n = rn at *
        generalize fourBG m0 m1 m2 m3 n = mn at *
        cases mn with
        | true =>
          go_wp2_with fail
          refine wp_region_later_tail 14 (by kernel_rfl) (by kernel_rfl) ?_
          simp only [List.take_succ_cons, List.take_zero, List.drop_succ_cons, List.drop_zero]
          repeat (go_big_quiet_step (fail))
          refine wpQuiet_nil ?_
          rintro _ ⟨⟨w2, hb2⟩, rfl⟩
          have c2 := cell_later hb2 c1
          have fr2 := (hb2.frozen (p := ⟨w1.heap.size, n, none⟩) hV).trans fr1
          have hb3 := below_step hb (Nat.le_refl _) hb2
          have Hw := Lib.hid (set_blk (blk_later Ho.out hb2) n (.bool false))
          clear hb2 hb
          go_wp2
          exact ⟨⟨n + 1, by omega, by go_num, hb3.setCell hV0 _, by rw [Hw.out]; simpa [okC] using Hset.out⟩, by simp [intOf]; omega⟩
        | false =>
          by_cases hlf : rn < f
          all_goals
            go_wp2_with fail
            refine wp_region_later_tail 14 (by kernel_rfl) (by kernel_rfl) ?_
            simp only [List.take_succ_cons, List.take_zero, List.drop_succ_cons, List.drop_zero]
            repeat (go_big_quiet_step (fail))
            refine wpQuiet_nil ?_
            rintro _ ⟨⟨w2, hb2⟩, rfl⟩
            have c2 := cell_later hb2 c1
            have fr2 := (hb2.frozen (p := ⟨w1.heap.size, n, none⟩) hV).trans fr1
            have hb3 := below_step hb (Nat.le_refl _) hb2
            have Hw := fun v => Lib.hid (set_blk (blk_later Ho.out hb2) n v)
            clear hb2 hb
            go_wp2
            exact ⟨⟨n + 1, by omega, by go_num, hb3.setCell hV0 _, by rw [(Hw _).out]; simpa [okC, hlf] using Hset.out⟩, by simp [intOf]; omega⟩
      · obtain rfl : n = 4 := by omega
        have ho' : wr.heap[w1.heap.size]? = some (.cells #[.bool (okC f p m0), .bool (okC f q m1), .bool (okC f r m2), .bool (okC f s m3)] 27) := by
          rw [ho]; simp [firstsB, fourG, fourBG]
        obtain ⟨q0, _, q2⟩ := blk_rules ho'
        have Ho := Lib.hid ho'
        have t3 := Nat.lt_of_lt_of_le s3 hb.size
        have t4 := Nat.lt_of_lt_of_le s4 hb.size
        clear ho ho'
        have HC := Lib.hid (fun (W : World) (hW : Below wr.heap.size wr W) => cells_any 29 #[.pointer (some ⟨w1.heap.size, 0, none⟩), .pointer (some ⟨w.heap.size + 1, 0, none⟩), .pointer (some ⟨w.heap.size, 0, none⟩)] (fun i => redC g b k (fourG p q r s i) (fourBG (okC f p m0) (okC f q m1) (okC f r m2) (okC f s m3) i)) W Try.call29 (fun i hi4 w2 hb2 =>
          (reduce1_any i g b k f e p q r s (okC f p m0) (okC f q m1) (okC f r m2) (okC f s m3) _ _ _ hi4 w2 Hv.out Ha.out (blk_later (blk_later Ho.out hW) hb2) (blk_later (blk_later (blk_later K1.out hb) hW) hb2) (blk_later (blk_later (blk_later K0.out hb) hW) hb2)).mono fun _ _ h => h.ret))
        go_wp2_with fail
        go_region_with (go_at_call 21; refine (HC.out wr.drew (Below.refl _ _).drew).mono ?_; rintro e w' ⟨rfl, hb2⟩; have hb3 : Below wr.heap.size wr w' := (Below.refl _ _).drew.trans hb2; obtain ⟨q0, q1, q2⟩ := blk_rules (blk_later Ho.out hb3); obtain ⟨hc, hf⟩ := bcell (below_step hb (Nat.le_refl _) hb3); clear hb2)
        all_goals
          have hfin := hB.trans ((below_step hb (Nat.le_refl _) hb3).mono hB.size)
          clear hb hb3 HC
          go_wp2
          exact bodyPost_ret (v := .tuple #[.agg #[.int .i64 (redC g b k p (okC f p m0)), .int .i64 (redC g b k q (okC f q m1)), .int .i64 (redC g b k r (okC f r m2)), .int .i64 (redC g b k s (okC f s m3))], .agg #[.bool (okC f p m0), .bool (okC f q m1), .bool (okC f r m2), .bool (okC f s m3)], .int .i64 0]) (by simp [results, Try.results14, go_sem, fourG, fourBG, *]) rfl ⟨by simp [reduceR, Hr.out], by go_grown⟩
  · have hn : rawB g b k f e p q r s = false := by simpa using hr
    have Hn := Lib.hid hn
    simp only [hn]
    clear hr hn
    obtain ⟨hc, hf⟩ := bcell hcur
    have hfin := hB.trans (hcur.mono hB.size)
    go_wp2
    exact bodyPost_ret (v := .tuple #[.agg #[.int .i64 0, .int .i64 0, .int .i64 0, .int .i64 0], .agg #[.bool false, .bool false, .bool false, .bool false], .int .i64 1]) (by simp [results, Try.results14, go_sem, *]) rfl ⟨by simp [reduceR, Hn.out], by go_grown⟩

end Go.Proofs.Yteghionkljbggaa
