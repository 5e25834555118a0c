/-
  Expose, Ghost and Reduce of the package observatoryref15: what each call returns.
-/
import Derived.Test.YteghionkljbggaaDetF
namespace Go.Proofs.Yteghionkljbggaa
open Go.RowKit

theorem valid17_ret (g b k f e : Int) (w : World) :
    Calls Try.prog 17 #[.agg #[.int .i64 g, .int .i64 b, .int .i64 k, .int .i64 f, .int .i64 e]] w (Ret (.bool (validB g b k f e)) w) :=
  (valid17_any g b k f e w).mono fun _ _ ⟨h1, h2⟩ => ⟨h1, by rw [← h2]; go_grown⟩

theorem firsts_skip (k : Nat) (g : Nat → Int) (h : k < 4) (h0 : g k = 0) : firsts k g = firsts (k + 1) g := by
  have : k = 0 ∨ k = 1 ∨ k = 2 ∨ k = 3 := by omega
  rcases this with rfl | rfl | rfl | rfl <;> simp [firsts, h0]

def OutAt (g : Nat → Int) (w0 : World) (V : Nat) (v : Value) (wr : World) : Prop :=
  ∃ k : Nat, k ≤ 4 ∧ v = .int .i64 k ∧ Below w0.heap.size w0 wr ∧ wr.heap[V]? = some (.cells (firsts k g) 25)

theorem four_fun {A : Type} (F : Int → Int → Bool → A) (l0 l1 l2 l3 h0 h1 h2 h3 : Int) (m0 m1 m2 m3 : Bool) :
    F (fourG l0 l1 l2 l3 0) (fourG h0 h1 h2 h3 0) (fourBG m0 m1 m2 m3 0) = F l0 h0 m0 ∧ F (fourG l0 l1 l2 l3 1) (fourG h0 h1 h2 h3 1) (fourBG m0 m1 m2 m3 1) = F l1 h1 m1 ∧
    F (fourG l0 l1 l2 l3 2) (fourG h0 h1 h2 h3 2) (fourBG m0 m1 m2 m3 2) = F l2 h2 m2 ∧ F (fourG l0 l1 l2 l3 3) (fourG h0 h1 h2 h3 3) (fourBG m0 m1 m2 m3 3) = F l3 h3 m3 := ⟨rfl, rfl, rfl, rfl⟩

set_option maxHeartbeats 2000000 in
theorem expose11_any (g b k f e l0 l1 l2 l3 h0 h1 h2 h3 off : Int) (m0 m1 m2 m3 : Bool) (w : World) :
    Calls Try.prog 11 #[.agg #[.int .i64 g, .int .i64 b, .int .i64 k, .int .i64 f, .int .i64 e], .agg #[.int .i64 l0, .int .i64 l1, .int .i64 l2, .int .i64 l3], .agg #[.int .i64 h0, .int .i64 h1, .int .i64 h2, .int .i64 h3], .int .i64 off, .agg #[.bool m0, .bool m1, .bool m2, .bool m3]] w
      (Ret (expoR g b k f e l0 l1 l2 l3 h0 h1 h2 h3 off m0 m1 m2 m3) w) := by
  go_enter Try.func11, Try.ntmps11
  go_wp2_with fail
  generalize hW : World.alloc _ _ = w0
  have hB : Below w.heap.size w w0 := by rw [← hW]; go_grown
  have k0 : w0.heap[w.heap.size]? = some (.cells #[.int .i64 g, .int .i64 b, .int .i64 k, .int .i64 f, .int .i64 e] 23) := by rw [← hW]; repeat (first | exact blk_at _ _ _ (by simp; done) | refine blk_old ?_ _)
  have k1 : w0.heap[w.heap.size + 1]? = some (.cells #[.int .i64 l0, .int .i64 l1, .int .i64 l2, .int .i64 l3] 25) := by rw [← hW]; repeat (first | exact blk_at _ _ _ (by simp; done) | refine blk_old ?_ _)
  have k2 : w0.heap[w.heap.size + 1 + 1]? = some (.cells #[.int .i64 h0, .int .i64 h1, .int .i64 h2, .int .i64 h3] 25) := by rw [← hW]; repeat (first | exact blk_at _ _ _ (by simp; done) | refine blk_old ?_ _)
  have k4 : w0.heap[w.heap.size + 1 + 1 + 1]? = some (.cells #[.bool m0, .bool m1, .bool m2, .bool m3] 27) := by rw [← hW]; repeat (first | exact blk_at _ _ _ (by simp; done) | refine blk_old ?_ _)
  have k5 : w0.heap[w.heap.size + 1 + 1 + 1 + 1]? = some (.cells #[.int .i64 0, .int .i64 0, .int .i64 0, .int .i64 0] 25) := by rw [← hW]; repeat (first | exact blk_at _ _ _ (by simp; done) | refine blk_old ?_ _)
  clear hW
  obtain ⟨r0, f0, s0⟩ := blk_rules k0
  obtain ⟨r1, f1, s1⟩ := blk_rules k1
  obtain ⟨r2, f2, s2⟩ := blk_rules k2
  obtain ⟨r4, f4, s4⟩ := blk_rules k4
  obtain ⟨r5, f5, s5⟩ := blk_rules k5
  have K0 := Lib.hid k0
  have K1 := Lib.hid k1
  have K2 := Lib.hid k2
  have K4 := Lib.hid k4
  clear k0 k1 k2 k4 k5
  have hcur := Below.refl w0.heap.size w0
  go_wp2_with (first | (go_at_call 17; refine (valid17_ret _ _ _ _ _ _).mono ?_; rintro e w' ⟨rfl, hb⟩; replace hcur := below_step hcur (Nat.le_refl _) hb; obtain ⟨hc, hf⟩ := bcell hcur; clear hb) | (go_at_call 25; refine (within25_any _ _ _ _).mono ?_; rintro e w' ⟨rfl, rfl⟩) | (go_at_call 24; refine (light24_any _ _ _ _ _).mono ?_; rintro e w' ⟨rfl, hb⟩; replace hcur := below_step hcur (Nat.le_refl _) hb; obtain ⟨hc, hf⟩ := bcell hcur; clear hb))
  all_goals have hfin := hB.trans (hcur.mono hB.size)
  · have hn : inB (-50) off 50 = false := by simpa using ‹(!inB (-50) off 50) = true›
    exact bodyPost_ret (v := .tuple #[.agg #[.int .i64 0, .int .i64 0, .int .i64 0, .int .i64 0], .int .i64 1]) (by simp [results, Try.results11, go_sem, *]) rfl ⟨by simp [expoR, expoOk, *], by go_grown⟩
  · have hn : inB (-50) off 50 = true := by simpa using ‹(!inB (-50) off 50) = false›
    have hv : validB g b k f e = true := by assumption
    have hl : allB 1000000 l0 l1 l2 l3 = true := by assumption
    have hh : allB 1000000 h0 h1 h2 h3 = true := by assumption
    have Hok := Lib.hid (show expoOk g b k f e l0 l1 l2 l3 h0 h1 h2 h3 off = true by simp [expoOk, *])
    have hf0 := (valid_bounds hv).2.2.2.1
    have ho : -50 ≤ off ∧ off ≤ 50 := by simpa [inB] using hn
    obtain ⟨⟨g1, g2⟩, ⟨b1, b2⟩, ⟨kk1, kk2⟩, ⟨ff1, ff2⟩, _⟩ := valid_bounds hv
    obtain ⟨bo1, bo2⟩ := ho
    have Hl := Lib.hid hl
    have Hh := Lib.hid hh
    clear hn hv hl hh
    go_loopw [13] (OutAt (fun i => expoC g b k f off (fourG l0 l1 l2 l3 i) (fourG h0 h1 h2 h3 i) (fourBG m0 m1 m2 m3 i)) w0 w'.heap.size) (fun v _ => 4 - (intOf v).toNat)
    case atStart => exact ⟨0, by omega, rfl, hcur.alloc hcur.size _, by simpa [firsts] using blk_new w' (.cells #[.int .i64 0, .int .i64 0, .int .i64 0, .int .i64 0] 25)⟩
    case round =>
      obtain ⟨n, hn4, rfl, hb, hout⟩ := hrel
      have t0 := Nat.lt_of_lt_of_le s0 hb.size
      have t1 := Nat.lt_of_lt_of_le s1 hb.size
      have t2 := Nat.lt_of_lt_of_le s2 hb.size
      have t4 := Nat.lt_of_lt_of_le s4 hb.size
      have t5 := Nat.lt_of_lt_of_le s5 hb.size
      have hV := lt_of_block hout
      have hV0 := hcur.size
      by_cases hlt : n < 4
      · have cm := cell4b (blk_later K4.out hb) hlt
        have cl := cell4 (blk_later K1.out hb) hlt
        have ch := cell4 (blk_later K2.out hb) hlt
        have d0 := cell_blk (blk_later K0.out hb) 0 (.int .i64 g) rfl
        have d1 := cell_blk (blk_later K0.out hb) 1 (.int .i64 b) rfl
        have d2 := cell_blk (blk_later K0.out hb) 2 (.int .i64 k) rfl
        have d3 := cell_blk (blk_later K0.out hb) 3 (.int .i64 f) rfl
        obtain ⟨bl1, bl2⟩ := all_four Hl.out n hlt
        obtain ⟨bh1, bh2⟩ := all_four Hh.out n hlt
        obtain ⟨z, hz⟩ := firsts_get n _ hlt
        have c1 := cell_blk hout n _ hz
        have fr1 := free_blk hout n
        have Ho := Lib.hid hout
        have Hset := Lib.hid (firsts_set n (fun i => expoC g b k f off (fourG l0 l1 l2 l3 i) (fourG h0 h1 h2 h3 i) (fourBG m0 m1 m2 m3 i)) hlt)
        have Hskip := Lib.hid (firsts_skip n (fun i => expoC g b k f off (fourG l0 l1 l2 l3 i) (fourG h0 h1 h2 h3 i) (fourBG m0 m1 m2 m3 i)) hlt)
        have hn1 : (0 : Int) ≤ (n : Int) := by omega
        have hn2 : (n : Int) < 4 := by omega
        clear hout hz r0 r1 r2 r4 r5 f0 f1 f2 f4 f5
        generalize fourG l0 l1 l2 l3 n = l at *
        generalize fourG h0 h1 h2 h3 n = h at *
        generalize fourBG m0 m1 m2 m3 n = mn at *
        have hm1 : 0 ≤ (l + h) * g := Int.mul_nonneg (by omega) (by omega)
        have hm2 : (l + h) * g ≤ 2000000 * 10000 := Int.mul_le_mul (by omega) (by omega) (by omega) (by omega)
        cases mn with
        | true =>
          go_wp2
          exact ⟨⟨n + 1, by omega, by go_num, hb, by rw [Ho.out]; exact congrArg (fun x => some (Obj.cells x 25)) (Hskip.out (by simp [expoC, expo, clip]; omega))⟩, by simp [intOf]; omega⟩
        | false =>
          go_wp2
          go_quiet (fail)
          go_wp2
          all_goals
            refine ⟨⟨n + 1, by omega, by go_num, (hb.trans (Joins.below_draws _ _ _)).setCell hV0 _, ?_⟩, by simp [intOf]; omega⟩
            rw [set_blk (w := wr.drewN nq) Ho.out n, ← Hset.out]
            refine congrArg (fun y => some (Obj.cells ((firsts n _).setIfInBounds n (.int .i64 y)) 25)) ?_
            simp only [expoC, expo, clip, Bool.false_eq_true, if_false]
            omega
      · obtain rfl : n = 4 := by omega
        have ho' : wr.heap[w'.heap.size]? = some (.cells #[.int .i64 (expoC g b k f off l0 h0 m0), .int .i64 (expoC g b k f off l1 h1 m1), .int .i64 (expoC g b k f off l2 h2 m2), .int .i64 (expoC g b k f off l3 h3 m3)] 25) := by
          rw [hout]; simp [firsts, fourG, fourBG]
        obtain ⟨q0, _, q2⟩ := blk_rules ho'
        obtain ⟨hc, hf⟩ := bcell hb
        have hfin := hB.trans (hb.mono hB.size)
        clear hout ho'
        go_wp2
        exact bodyPost_ret (v := .tuple #[.agg #[.int .i64 (expoC g b k f off l0 h0 m0), .int .i64 (expoC g b k f off l1 h1 m1), .int .i64 (expoC g b k f off l2 h2 m2), .int .i64 (expoC g b k f off l3 h3 m3)], .int .i64 0]) (by simp [results, Try.results11, go_sem, *]) rfl ⟨by simp [expoR, Hok.out], by go_grown⟩
  all_goals exact bodyPost_ret (v := .tuple #[.agg #[.int .i64 0, .int .i64 0, .int .i64 0, .int .i64 0], .int .i64 1]) (by simp [results, Try.results11, go_sem, *]) rfl ⟨by simp [expoR, expoOk, *], by go_grown⟩

end Go.Proofs.Yteghionkljbggaa
