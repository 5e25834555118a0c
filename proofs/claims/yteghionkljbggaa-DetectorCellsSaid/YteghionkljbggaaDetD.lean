/-
  Ghost and Reduce of the package detector: what each call returns.
-/
import Derived.Test.YteghionkljbggaaDetC
import Derived.Test.YteghionkljbggaaTail
namespace Go.Proofs.Yteghionkljbggaa
open Go.RowKit

/-- The light that remains in one cell. -/
def ghostC (f e r : Int) : Int := if r < f then 0 else f * e / 1000

set_option maxHeartbeats 1000000 in
theorem ghost1_any (i : Nat) (g b k f e p q r s : Int) (x y : Nat) (hi4 : i < 4) (w : World) (hv : validB g b k f e = true)
    (kx : w.heap[x]? = some (.cells #[.int .i64 p, .int .i64 q, .int .i64 r, .int .i64 s] 25)) (ky : w.heap[y]? = some (.cells #[.int .i64 g, .int .i64 b, .int .i64 k, .int .i64 f, .int .i64 e] 23)) :
    Calls Try.prog 27 #[.int .i64 i, .pointer (some ⟨x, 0, none⟩), .pointer (some ⟨y, 0, none⟩)] w (Qui (.int .i64 (ghostC f e (fourG p q r s i))) w) := by
  obtain ⟨_, _, _, ⟨f1, f2⟩, ⟨e1, e2⟩⟩ := valid_bounds hv
  clear hv
  have c0 := cell4 kx hi4
  have c3 := cell_blk ky 3 (.int .i64 f) rfl
  have c4 := cell_blk ky 4 (.int .i64 e) rfl
  clear kx ky
  generalize fourG p q r s i = z at *
  have h1 : (0 : Int) ≤ (i : Int) := by omega
  have h2 : (i : Int) < 4 := by omega
  have hm1 : 0 ≤ f * e := Int.mul_nonneg (by omega) (by omega)
  have hm2 : f * e ≤ 65535 * 1000 := Int.mul_le_mul (by omega) (by omega) (by omega) (by omega)
  unfold ghostC
  by_cases hz : z < f
  · rw [if_pos hz]
    go_enter Try.func27, Try.ntmps27
    go_wp2
    go_quiet (fail)
    go_wp2
    go_ret
    exact ⟨rfl, _, rfl⟩
  · rw [if_neg hz]
    go_enter Try.func27, Try.ntmps27
    go_wp2
    go_quiet (fail)
    go_wp2
    go_ret
    exact ⟨rfl, _, rfl⟩

/-- The estimate of one cell. -/
def redC (g b k r : Int) (v : Bool) : Int := if v then max 0 (r - b - k) * 1000 / g else 0

set_option maxHeartbeats 1000000 in
theorem reduce1_any (i : Nat) (g b k f e p q r s : Int) (m0 m1 m2 m3 : Bool) (x y v : Nat) (hi4 : i < 4) (w : World) (hv : validB g b k f e = true) (hr : allB f p q r s = true)
    (kv : w.heap[v]? = some (.cells #[.bool m0, .bool m1, .bool m2, .bool m3] 27))
    (kx : w.heap[x]? = some (.cells #[.int .i64 p, .int .i64 q, .int .i64 r, .int .i64 s] 25)) (ky : w.heap[y]? = some (.cells #[.int .i64 g, .int .i64 b, .int .i64 k, .int .i64 f, .int .i64 e] 23)) :
    Calls Try.prog 29 #[.int .i64 i, .pointer (some ⟨v, 0, none⟩), .pointer (some ⟨x, 0, none⟩), .pointer (some ⟨y, 0, none⟩)] w (Qui (.int .i64 (redC g b k (fourG p q r s i) (fourBG m0 m1 m2 m3 i))) w) := by
  obtain ⟨⟨g1, g2⟩, ⟨b1, b2⟩, ⟨k1, k2⟩, ⟨f1, f2⟩, _⟩ := valid_bounds hv
  clear hv
  obtain ⟨z1, z2⟩ := all_four hr i hi4
  clear hr
  have cv := cell4b kv hi4
  have c := cell4 kx hi4
  have c0 := cell_blk ky 0 (.int .i64 g) rfl
  have c1 := cell_blk ky 1 (.int .i64 b) rfl
  have c2 := cell_blk ky 2 (.int .i64 k) rfl
  clear kx ky kv
  generalize fourG p q r s i = z at *
  have h1 : (0 : Int) ≤ (i : Int) := by omega
  have h2 : (i : Int) < 4 := by omega
  unfold redC
  cases hm : fourBG m0 m1 m2 m3 i with
  | false =>
    rw [hm] at cv
    clear hm
    go_enter Try.func29, Try.ntmps29
    go_wp2
    go_ret
    exact ⟨rfl, 0, rfl⟩
  | true =>
    rw [hm] at cv
    clear hm
    by_cases hp : 0 < z - b - k
    · rw [if_pos rfl, show max 0 (z - b - k) = z - b - k by omega]
      have hq : 0 ≤ z - b - k := by omega
      go_enter Try.func29, Try.ntmps29
      go_wp2
      go_quiet (fail)
      go_wp2
      go_ret
      exact ⟨rfl, _, rfl⟩
    · rw [if_pos rfl, show max 0 (z - b - k) = 0 by omega]
      have hq : z - b - k ≤ 0 := by omega
      go_enter Try.func29, Try.ntmps29
      go_wp2
      go_quiet (fail)
      go_wp2
      go_ret
      exact ⟨ret_int (by simp), _, rfl⟩

/-- What Ghost returns. -/
def ghostR (g b k f e p q r s : Int) : Value :=
  if rawB g b k f e p q r s then .tuple #[.agg #[.int .i64 (ghostC f e p), .int .i64 (ghostC f e q), .int .i64 (ghostC f e r), .int .i64 (ghostC f e s)], .int .i64 0]
  else .tuple #[.agg #[.int .i64 0, .int .i64 0, .int .i64 0, .int .i64 0], .int .i64 1]

set_option maxHeartbeats 1000000 in
theorem ghost_any (g b k f e p q r s : Int) (w : World) :
    Calls Try.prog 12 #[.agg #[.int .i64 g, .int .i64 b, .int .i64 k, .int .i64 f, .int .i64 e], .agg #[.int .i64 p, .int .i64 q, .int .i64 r, .int .i64 s]] w (Ret (ghostR g b k f e p q r s) w) := by
  go_enter Try.func12, Try.ntmps12
  go_wp2_with fail
  generalize hW : World.alloc _ _ = w0
  have hB : Below w.heap.size w w0 := by rw [← hW]; go_grown
  have k0 : w0.heap[w.heap.size]? = some (.cells #[.int .i64 g, .int .i64 b, .int .i64 k, .int .i64 f, .int .i64 e] 23) := by rw [← hW]; repeat (first | exact blk_at _ _ _ (by simp; done) | refine blk_old ?_ _)
  have k1 : w0.heap[w.heap.size + 1]? = some (.cells #[.int .i64 p, .int .i64 q, .int .i64 r, .int .i64 s] 25) := by rw [← hW]; repeat (first | exact blk_at _ _ _ (by simp; done) | refine blk_old ?_ _)
  have k2 : w0.heap[w.heap.size + 1 + 1]? = some (.cells #[.int .i64 0, .int .i64 0, .int .i64 0, .int .i64 0] 25) := by rw [← hW]; repeat (first | exact blk_at _ _ _ (by simp; done) | refine blk_old ?_ _)
  clear hW
  obtain ⟨r0, f0, s0⟩ := blk_rules k0
  obtain ⟨r1, f1, s1⟩ := blk_rules k1
  obtain ⟨r2, f2, s2⟩ := blk_rules k2
  have K0 := Lib.hid k0
  have K1 := Lib.hid k1
  clear k0 k1 k2
  refine (counts_any _ _ _ _ _ _ _ _ _ _).mono ?_
  rintro e' w1 ⟨rfl, hcur⟩
  obtain ⟨hc, hf⟩ := bcell hcur
  have hfin := hB.trans (hcur.mono hB.size)
  by_cases hr : rawB g b k f e p q r s = true
  · have hv : validB g b k f e = true := by simp [rawB] at hr; exact hr.1
    have Hr := Lib.hid hr
    have Hv := Lib.hid hv
    simp only [hr]
    clear hr hv
    go_wp2_with fail
    refine (cells_any 27 _ (fun i => ghostC f e (fourG p q r s i)) _ Try.call27 (fun i hi4 w2 hb => ?_)).mono ?_
    · exact (ghost1_any i g b k f e p q r s _ _ hi4 w2 Hv.out (blk_later (blk_later K1.out hcur) hb) (blk_later (blk_later K0.out hcur) hb)).mono fun _ _ h => h.ret
    rintro e' w2 ⟨rfl, hb⟩
    have hcur2 := below_step hcur (Nat.le_refl _) hb
    obtain ⟨hc2, hf2⟩ := bcell hcur2
    have hfin2 := hB.trans (hcur2.mono hB.size)
    clear hb hfin hcur
    go_wp2
    exact bodyPost_ret (v := .tuple #[.agg #[.int .i64 (ghostC f e p), .int .i64 (ghostC f e q), .int .i64 (ghostC f e r), .int .i64 (ghostC f e s)], .int .i64 0]) (by simp [results, Try.results12, go_sem, fourG, *]) rfl ⟨by simp [ghostR, Hr.out], by go_grown⟩
  · have hn : rawB g b k f e p q r s = false := by simpa using hr
    have Hn := Lib.hid hn
    simp only [hn]
    clear hr hn
    go_wp2
    exact bodyPost_ret (v := .tuple #[.agg #[.int .i64 0, .int .i64 0, .int .i64 0, .int .i64 0], .int .i64 1]) (by simp [results, Try.results12, go_sem, *]) rfl ⟨by simp [ghostR, Hn.out], by go_grown⟩

end Go.Proofs.Yteghionkljbggaa
