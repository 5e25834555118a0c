/-
  The closures of the package detector, and its functions Expose, Ghost and Reduce: what each call returns, for a detector and lights within their bounds where that is said.
-/
import Derived.Test.YteghionkljbggaaDetB
namespace Go.Proofs.Yteghionkljbggaa
open Go.RowKit

def fourBG (a b c d : Bool) (i : Nat) : Bool := [a, b, c, d].getD i false

theorem cell4b {w : World} {x : Nat} {a b c d : Bool} {t : TypeId} (hx : w.heap[x]? = some (.cells #[.bool a, .bool b, .bool c, .bool d] t)) {i : Nat} (hi4 : i < 4) :
    w.cell? ⟨x, i, none⟩ = some (.bool (fourBG a b c d i)) := by
  have : i = 0 ∨ i = 1 ∨ i = 2 ∨ i = 3 := by omega
  rcases this with rfl | rfl | rfl | rfl <;> simp [World.cell?, hx, fourBG]

theorem valid_bounds {g b k f e : Int} (h : validB g b k f e = true) : (1 ≤ g ∧ g ≤ 10000) ∧ (0 ≤ b ∧ b ≤ 1000) ∧ (0 ≤ k ∧ k ≤ 1000) ∧ (1 ≤ f ∧ f ≤ 65535) ∧ (0 ≤ e ∧ e ≤ 1000) := by
  simp [validB, inB] at h
  omega

theorem all_bounds {hi a b c d : Int} (h : allB hi a b c d = true) : (0 ≤ a ∧ a ≤ hi) ∧ (0 ≤ b ∧ b ≤ hi) ∧ (0 ≤ c ∧ c ≤ hi) ∧ (0 ≤ d ∧ d ≤ hi) := by
  simp [allB, inB] at h
  omega

theorem all_four {hi a b c d : Int} (h : allB hi a b c d = true) (i : Nat) (hi4 : i < 4) : 0 ≤ fourG a b c d i ∧ fourG a b c d i ≤ hi := by
  have := all_bounds h
  have h4 : i = 0 ∨ i = 1 ∨ i = 2 ∨ i = 3 := by omega
  rcases h4 with rfl | rfl | rfl | rfl <;> simp [fourG] <;> omega

/-- The raw counts of one cell before they are held to the detector's range. -/
def expo (g b k off l h : Int) (bad : Bool) : Int := if bad then 0 else b + k + (l + h) * g / 1000 + off

/-- The cells of a detector. -/
def DetAt (w : World) (x : Nat) (g b k f e : Int) : Prop := w.cell? ⟨x, 0, none⟩ = some (.int .i64 g) ∧ w.cell? ⟨x, 1, none⟩ = some (.int .i64 b) ∧ w.cell? ⟨x, 2, none⟩ = some (.int .i64 k) ∧ w.cell? ⟨x, 3, none⟩ = some (.int .i64 f) ∧ w.cell? ⟨x, 4, none⟩ = some (.int .i64 e)

set_option maxHeartbeats 1000000 in
theorem expose1_bad (i : Nat) (y x1 x2 x3 x4 : Nat) (hi4 : i < 4) (w : World) (hy : w.cell? ⟨y, i, none⟩ = some (.bool true)) :
    Calls Try.prog 22 #[.int .i64 i, .pointer (some ⟨y, 0, none⟩), .pointer (some ⟨x1, 0, none⟩), .pointer (some ⟨x2, 0, none⟩), .pointer (some ⟨x3, 0, none⟩), .pointer (some ⟨x4, 0, none⟩)] w (Qui (.int .i64 0) w) := by
  have h1 : (0 : Int) ≤ (i : Int) := by omega
  have h2 : (i : Int) < 4 := by omega
  go_enter Try.func22, Try.ntmps22
  go_wp2
  go_ret
  exact ⟨rfl, 0, rfl⟩

set_option maxHeartbeats 1000000 in
theorem expose1_good (i : Nat) (g b k f e off l h : Int) (y x1 x2 x3 x4 : Nat) (hi4 : i < 4) (w : World) (hy : w.cell? ⟨y, i, none⟩ = some (.bool false)) (hd : DetAt w x1 g b k f e)
    (hl : w.cell? ⟨x2, i, none⟩ = some (.int .i64 l)) (hh : w.cell? ⟨x3, i, none⟩ = some (.int .i64 h)) (ho : w.cell? ⟨x4, 0, none⟩ = some (.int .i64 off))
    (hv : validB g b k f e = true) (bl : 0 ≤ l ∧ l ≤ 1000000) (bh : 0 ≤ h ∧ h ≤ 1000000) (bo : -50 ≤ off ∧ off ≤ 50) :
    Calls Try.prog 22 #[.int .i64 i, .pointer (some ⟨y, 0, none⟩), .pointer (some ⟨x1, 0, none⟩), .pointer (some ⟨x2, 0, none⟩), .pointer (some ⟨x3, 0, none⟩), .pointer (some ⟨x4, 0, none⟩)] w (Qui (.int .i64 (b + k + (l + h) * g / 1000 + off)) w) := by
  obtain ⟨⟨g1, g2⟩, ⟨b1, b2⟩, ⟨k1, k2⟩, _, _⟩ := valid_bounds hv
  clear hv
  obtain ⟨d0, d1, d2, d3, d4⟩ := hd
  obtain ⟨bl1, bl2⟩ := bl
  obtain ⟨bh1, bh2⟩ := bh
  obtain ⟨bo1, bo2⟩ := bo
  have h1 : (0 : Int) ≤ (i : Int) := by omega
  have h2 : (i : Int) < 4 := by omega
  have hm1 : 0 ≤ (l + h) * g := Int.mul_nonneg (by omega) (by omega)
  have hm2 : (l + h) * g ≤ 2000000 * 10000 := Int.mul_le_mul (by omega) (by omega) (by omega) (by omega)
  go_enter Try.func22, Try.ntmps22
  go_wp2
  go_quiet (fail)
  go_wp2
  go_ret
  exact ⟨rfl, _, rfl⟩


/-- An exposure's arguments are good. -/
def expoOk (g b k f e l0 l1 l2 l3 h0 h1 h2 h3 off : Int) : Bool := validB g b k f e && allB 1000000 l0 l1 l2 l3 && allB 1000000 h0 h1 h2 h3 && inB (-50) off 50

/-- One cell's counts. -/
def expoC (g b k f off l h : Int) (bad : Bool) : Int := clip f (expo g b k off l h bad)

def expoG (g b k off l0 l1 l2 l3 h0 h1 h2 h3 : Int) (m0 m1 m2 m3 : Bool) (i : Nat) : Int := expo g b k off (fourG l0 l1 l2 l3 i) (fourG h0 h1 h2 h3 i) (fourBG m0 m1 m2 m3 i)

/-- What Expose returns. -/
def expoR (g b k f e l0 l1 l2 l3 h0 h1 h2 h3 off : Int) (m0 m1 m2 m3 : Bool) : Value :=
  if expoOk g b k f e l0 l1 l2 l3 h0 h1 h2 h3 off then .tuple #[.agg #[.int .i64 (expoC g b k f off l0 h0 m0), .int .i64 (expoC g b k f off l1 h1 m1), .int .i64 (expoC g b k f off l2 h2 m2), .int .i64 (expoC g b k f off l3 h3 m3)], .int .i64 0]
  else .tuple #[.agg #[.int .i64 0, .int .i64 0, .int .i64 0, .int .i64 0], .int .i64 1]

theorem expose1_any (g b k f e l0 l1 l2 l3 h0 h1 h2 h3 off : Int) (m0 m1 m2 m3 : Bool) (y x1 x2 x3 x4 : Nat) (w : World)
    (hv : validB g b k f e = true) (hl : allB 1000000 l0 l1 l2 l3 = true) (hh : allB 1000000 h0 h1 h2 h3 = true) (ho : inB (-50) off 50 = true)
    (ky : w.heap[y]? = some (.cells #[.bool m0, .bool m1, .bool m2, .bool m3] 27)) (k1 : w.heap[x1]? = some (.cells #[.int .i64 g, .int .i64 b, .int .i64 k, .int .i64 f, .int .i64 e] 23))
    (k2 : w.heap[x2]? = some (.cells #[.int .i64 l0, .int .i64 l1, .int .i64 l2, .int .i64 l3] 25)) (k3 : w.heap[x3]? = some (.cells #[.int .i64 h0, .int .i64 h1, .int .i64 h2, .int .i64 h3] 25))
    (k4 : w.heap[x4]? = some (.cells #[.int .i64 off] 3)) (i : Nat) (hi4 : i < 4) :
    Calls Try.prog 22 #[.int .i64 i, .pointer (some ⟨y, 0, none⟩), .pointer (some ⟨x1, 0, none⟩), .pointer (some ⟨x2, 0, none⟩), .pointer (some ⟨x3, 0, none⟩), .pointer (some ⟨x4, 0, none⟩)] w
      (Ret (.int .i64 (expoG g b k off l0 l1 l2 l3 h0 h1 h2 h3 m0 m1 m2 m3 i)) w) := by
  have cy := cell4b ky hi4
  unfold expoG expo
  cases hb : fourBG m0 m1 m2 m3 i with
  | true =>
    rw [hb] at cy
    exact (expose1_bad i y x1 x2 x3 x4 hi4 w cy).mono fun _ _ h => h.ret
  | false =>
    rw [hb] at cy
    refine (expose1_good i g b k f e off _ _ y x1 x2 x3 x4 hi4 w cy ⟨cell_blk k1 0 _ rfl, cell_blk k1 1 _ rfl, cell_blk k1 2 _ rfl, cell_blk k1 3 _ rfl, cell_blk k1 4 _ rfl⟩ (cell4 k2 hi4) (cell4 k3 hi4) (cell_blk k4 0 _ rfl) hv (all_four hl i hi4) (all_four hh i hi4) ?_).mono fun _ _ h => h.ret.val (by simp)
    simp [inB] at ho
    exact ho

set_option maxHeartbeats 2000000 in
theorem expose_any (g b k f e l0 l1 l2 l3 h0 h1 h2 h3 off : Int) (m0 m1 m2 m3 : Bool) (w : World) :
    Calls Try.prog 10 #[.agg #[.int .i64 g, .int .i64 b, .int .i64 k, .int .i64 f, .int .i64 e], .agg #[.int .i64 l0, .int .i64 l1, .int .i64 l2, .int .i64 l3], .agg #[.int .i64 h0, .int .i64 h1, .int .i64 h2, .int .i64 h3], .int .i64 off, .agg #[.bool m0, .bool m1, .bool m2, .bool m3]] w
      (Ret (expoR g b k f e l0 l1 l2 l3 h0 h1 h2 h3 off m0 m1 m2 m3) w) := by
  go_enter Try.func10, Try.ntmps10
  go_wp2_with fail
  generalize hW : World.alloc _ _ = w0
  have hB : Below w.heap.size w w0 := by rw [← hW]; go_grown
  have k0 : w0.heap[w.heap.size]? = some (.cells #[.int .i64 g, .int .i64 b, .int .i64 k, .int .i64 f, .int .i64 e] 23) := by rw [← hW]; repeat (first | exact blk_at _ _ _ (by simp; done) | refine blk_old ?_ _)
  have k1 : w0.heap[w.heap.size + 1]? = some (.cells #[.int .i64 l0, .int .i64 l1, .int .i64 l2, .int .i64 l3] 25) := by rw [← hW]; repeat (first | exact blk_at _ _ _ (by simp; done) | refine blk_old ?_ _)
  have k2 : w0.heap[w.heap.size + 1 + 1]? = some (.cells #[.int .i64 h0, .int .i64 h1, .int .i64 h2, .int .i64 h3] 25) := by rw [← hW]; repeat (first | exact blk_at _ _ _ (by simp; done) | refine blk_old ?_ _)
  have k4 : w0.heap[w.heap.size + 1 + 1 + 1 + 1]? = some (.cells #[.bool m0, .bool m1, .bool m2, .bool m3] 27) := by rw [← hW]; repeat (first | exact blk_at _ _ _ (by simp; done) | refine blk_old ?_ _)
  have k3 : w0.heap[w.heap.size + 1 + 1 + 1]? = some (.cells #[.int .i64 off] 3) := by rw [← hW]; repeat (first | exact blk_at _ _ _ (by simp; done) | refine blk_old ?_ _)
  have k5 : w0.heap[w.heap.size + 1 + 1 + 1 + 1 + 1]? = some (.cells #[.int .i64 0, .int .i64 0, .int .i64 0, .int .i64 0] 25) := by rw [← hW]; repeat (first | exact blk_at _ _ _ (by simp; done) | refine blk_old ?_ _)
  clear hW
  obtain ⟨r0, f0, s0⟩ := blk_rules k0
  obtain ⟨r1, f1, s1⟩ := blk_rules k1
  obtain ⟨r2, f2, s2⟩ := blk_rules k2
  obtain ⟨r3, f3, s3⟩ := blk_rules k3
  obtain ⟨r5, f5, s5⟩ := blk_rules k5
  have K0 := Lib.hid k0
  have K1 := Lib.hid k1
  have K2 := Lib.hid k2
  have K3 := Lib.hid k3
  have K4 := Lib.hid k4
  clear k0 k1 k2 k3 k4 k5
  have hcur := Below.refl w0.heap.size w0
  go_wp2_with (first | (go_at_call 16; refine (valid_ret _ _ _ _ _ _).mono ?_; rintro e w' ⟨rfl, hb⟩; replace hcur := below_step hcur (Nat.le_refl _) hb; obtain ⟨hc, hf⟩ := bcell hcur; clear hb) | (go_at_call 20; refine (within_any _ _ _ _).mono ?_; rintro e w' ⟨rfl, rfl⟩) | (go_at_call 19; refine (light_any _ _ _ _ _).mono ?_; rintro e w' ⟨rfl, hb⟩; replace hcur := below_step hcur (Nat.le_refl _) hb; obtain ⟨hc, hf⟩ := bcell hcur; clear hb))
  all_goals have hfin := hB.trans (hcur.mono hB.size)
  · have hn : inB (-50) off 50 = false := by simpa using ‹(!inB (-50) off 50) = true›
    exact bodyPost_ret (v := .tuple #[.agg #[.int .i64 0, .int .i64 0, .int .i64 0, .int .i64 0], .int .i64 1]) (by simp [results, Try.results10, go_sem, *]) rfl ⟨by simp [expoR, expoOk, *], by go_grown⟩
  · have hn : inB (-50) off 50 = true := by simpa using ‹(!inB (-50) off 50) = false›
    have hv : validB g b k f e = true := by assumption
    have hf0 := (valid_bounds hv).2.2.2.1
    have hl : allB 1000000 l0 l1 l2 l3 = true := by assumption
    have hh : allB 1000000 h0 h1 h2 h3 = true := by assumption
    have j0 := blk_later K0.out hcur
    have j1 := blk_later K1.out hcur
    have j2 := blk_later K2.out hcur
    have j3 := blk_later K3.out hcur
    have j4 := blk_later K4.out hcur
    refine (cells_any 22 _ (expoG g b k off l0 l1 l2 l3 h0 h1 h2 h3 m0 m1 m2 m3) _ Try.call22 (fun i hi4 w1 hb => ?_)).mono ?_
    · exact expose1_any g b k f e l0 l1 l2 l3 h0 h1 h2 h3 off m0 m1 m2 m3 _ _ _ _ _ w1 hv hl hh hn (blk_later j4 hb) (blk_later j0 hb) (blk_later j1 hb) (blk_later j2 hb) (blk_later j3 hb) i hi4
    clear j0 j1 j2 j3 j4
    rintro e' w1 ⟨rfl, hb⟩
    replace hcur := below_step hcur (Nat.le_refl _) hb
    obtain ⟨hc1, hf1⟩ := bcell hcur
    clear hb hfin
    have t0 := Nat.lt_of_lt_of_le s0 hcur.size
    have t5 := Nat.lt_of_lt_of_le s5 hcur.size
    have hfin := hB.trans (hcur.mono hB.size)
    go_wp2_with fail
    refine (clipped_any _ _ _ _ _ _).mono ?_
    rintro e' w2 ⟨rfl, hb⟩
    replace hcur := below_step hcur (Nat.le_refl _) (below_step (Joins.below_alloc1 w1 _) (Nat.le_refl _) hb)
    obtain ⟨hc2, hf2⟩ := bcell hcur
    clear hb hfin
    have hfin := hB.trans (hcur.mono hB.size)
    go_wp2
    exact bodyPost_ret (v := .tuple #[.agg #[.int .i64 (expoC g b k f off l0 h0 m0), .int .i64 (expoC g b k f off l1 h1 m1), .int .i64 (expoC g b k f off l2 h2 m2), .int .i64 (expoC g b k f off l3 h3 m3)], .int .i64 0]) (by simp [results, Try.results10, go_sem, expoC, expoG, fourG, fourBG, *]) rfl ⟨by simp [expoR, expoOk, *], by go_grown⟩
  all_goals exact bodyPost_ret (v := .tuple #[.agg #[.int .i64 0, .int .i64 0, .int .i64 0, .int .i64 0], .int .i64 1]) (by simp [results, Try.results10, go_sem, *]) rfl ⟨by simp [expoR, expoOk, *], by go_grown⟩

end Go.Proofs.Yteghionkljbggaa
