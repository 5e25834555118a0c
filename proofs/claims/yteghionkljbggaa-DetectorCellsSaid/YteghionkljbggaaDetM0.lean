/-
  DetectorCells, at the remainder 0. No conditions but those in the statements.
-/
import Derived.Test.YteghionkljbggaaDetU
namespace Go.Proofs.Yteghionkljbggaa
open Go.RowKit

theorem put0 (a b c d v : Value) : (#[a, b, c, d] : Array Value).setIfInBounds 0 v = #[v, b, c, d] := rfl

set_option maxRecDepth 100000 in
set_option maxHeartbeats 8000000 in
theorem cells_no0 (g b k f e off l0 l1 l2 l3 h0 h1 h2 h3 p0 p1 p2 p3 q0 q1 q2 q3 raw : Int) (m0 m1 m2 m3 n0 n1 n2 n3 : Bool) (w : World) (hk : raw % 4 = 0) (hr0 : 0 ≤ raw) (hr1 : raw ≤ 255)
    (a0 a1 a2 a3 b0 b1 b2 b3 c0 c1 c2 c3 j1 j2 j3 : Int)
    (C1 : Hid (∀ W, Calls Try.prog 10 #[.agg #[.int .i64 g, .int .i64 b, .int .i64 k, .int .i64 f, .int .i64 e], .agg #[.int .i64 l0, .int .i64 l1, .int .i64 l2, .int .i64 l3], .agg #[.int .i64 h0, .int .i64 h1, .int .i64 h2, .int .i64 h3], .int .i64 off, .agg #[.bool m0, .bool m1, .bool m2, .bool m3]] W (Ret (.tuple #[.agg #[.int .i64 a0, .int .i64 a1, .int .i64 a2, .int .i64 a3], .int .i64 j1]) W)))
    (C2 : Hid (∀ W, Calls Try.prog 10 #[.agg #[.int .i64 g, .int .i64 b, .int .i64 k, .int .i64 f, .int .i64 e], .agg #[.int .i64 p0, .int .i64 p1, .int .i64 p2, .int .i64 p3], .agg #[.int .i64 q0, .int .i64 q1, .int .i64 q2, .int .i64 q3], .int .i64 off, .agg #[.bool n0, .bool n1, .bool n2, .bool n3]] W (Ret (.tuple #[.agg #[.int .i64 b0, .int .i64 b1, .int .i64 b2, .int .i64 b3], .int .i64 j2]) W)))
    (C3 : Hid (∀ W, Calls Try.prog 10 #[.agg #[.int .i64 g, .int .i64 b, .int .i64 k, .int .i64 f, .int .i64 e], .agg #[.int .i64 p0, .int .i64 l1, .int .i64 l2, .int .i64 l3], .agg #[.int .i64 q0, .int .i64 h1, .int .i64 h2, .int .i64 h3], .int .i64 off, .agg #[.bool n0, .bool m1, .bool m2, .bool m3]] W (Ret (.tuple #[.agg #[.int .i64 c0, .int .i64 c1, .int .i64 c2, .int .i64 c3], .int .i64 j3]) W)))
    (hno : j1 = 1 ∨ (j1 = 0 ∧ j2 = 1)) :
    Calls Try.prog 6 #[.agg #[.int .i64 g, .int .i64 b, .int .i64 k, .int .i64 f, .int .i64 e], .agg #[.int .i64 l0, .int .i64 l1, .int .i64 l2, .int .i64 l3], .agg #[.int .i64 h0, .int .i64 h1, .int .i64 h2, .int .i64 h3], .agg #[.int .i64 p0, .int .i64 p1, .int .i64 p2, .int .i64 p3], .agg #[.int .i64 q0, .int .i64 q1, .int .i64 q2, .int .i64 q3], .int .i64 off, .agg #[.bool m0, .bool m1, .bool m2, .bool m3], .agg #[.bool n0, .bool n1, .bool n2, .bool n3], .int .u8 raw] w (Ret (.bool true) w) := by
  go_enter Try.func6, Try.ntmps6
  have B := St.start w
  have R := B.rules
  go_wp2_with fail
  generalize hX : World.alloc _ _ = X
  replace B := St.cast hX (((((((B.alloc _ _).alloc _ _).alloc _ _).alloc _ _).alloc _ _).alloc _ _).alloc _ _)
  try simp only [World.size_alloc] at B
  clear hX
  refine (head_any _).mono ?_
  rintro e' w1 ⟨rfl, h⟩
  replace B := B.later h
  replace R := B.rules
  simp only [Rules] at R
  clear h
  go_upto_region 3 with (fail)
  simp only [hk]
  clear hk
  obtain ⟨⟨rn, fn, sn⟩, ⟨rm, fm, sm⟩, ⟨rq, fq, sq⟩, ⟨rp, fp, sp⟩, ⟨rh, fh, sh⟩, ⟨rl, fl, sl⟩, ⟨rd, fd, sd⟩, _⟩ := R
  have l_0 := rl 0
  have l_1 := rl 1
  have l_2 := rl 2
  have l_3 := rl 3
  have nl0 : w.heap.size + 1 < w1.heap.size := by omega
  have el0 : w.heap.size + 1 ≠ w1.heap.size := by omega
  have nl1 : w.heap.size + 1 < w1.heap.size + 1 := by omega
  have el1 : w.heap.size + 1 ≠ w1.heap.size + 1 := by omega
  have nl2 : w.heap.size + 1 < w1.heap.size + 1 + 1 := by omega
  have el2 : w.heap.size + 1 ≠ w1.heap.size + 1 + 1 := by omega
  have h_0 := rh 0
  have h_1 := rh 1
  have h_2 := rh 2
  have h_3 := rh 3
  have nh0 : w.heap.size + 1 + 1 < w1.heap.size := by omega
  have eh0 : w.heap.size + 1 + 1 ≠ w1.heap.size := by omega
  have nh1 : w.heap.size + 1 + 1 < w1.heap.size + 1 := by omega
  have eh1 : w.heap.size + 1 + 1 ≠ w1.heap.size + 1 := by omega
  have nh2 : w.heap.size + 1 + 1 < w1.heap.size + 1 + 1 := by omega
  have eh2 : w.heap.size + 1 + 1 ≠ w1.heap.size + 1 + 1 := by omega
  have m_0 := rm 0
  have m_1 := rm 1
  have m_2 := rm 2
  have m_3 := rm 3
  have nm0 : w.heap.size + 1 + 1 + 1 + 1 + 1 < w1.heap.size := by omega
  have em0 : w.heap.size + 1 + 1 + 1 + 1 + 1 ≠ w1.heap.size := by omega
  have nm1 : w.heap.size + 1 + 1 + 1 + 1 + 1 < w1.heap.size + 1 := by omega
  have em1 : w.heap.size + 1 + 1 + 1 + 1 + 1 ≠ w1.heap.size + 1 := by omega
  have nm2 : w.heap.size + 1 + 1 + 1 + 1 + 1 < w1.heap.size + 1 + 1 := by omega
  have em2 : w.heap.size + 1 + 1 + 1 + 1 + 1 ≠ w1.heap.size + 1 + 1 := by omega
  simp at l_0 l_1 l_2 l_3 h_0 h_1 h_2 h_3 m_0 m_1 m_2 m_3
  go_cut [21, 22, 23] (MixAt w1 #[.int .i64 l0, .int .i64 l1, .int .i64 l2, .int .i64 l3] #[.int .i64 h0, .int .i64 h1, .int .i64 h2, .int .i64 h3] #[.bool m0, .bool m1, .bool m2, .bool m3])
  case first =>
    clear rn fn rm fm rq fq rp fp rh fh rl fl rd fd
    go_region_held3 (fun W => W.cell? ⟨w.heap.size + 1, 0, none⟩ = some (.int .i64 l0) ∧ W.cell? ⟨w.heap.size + 1, 1, none⟩ = some (.int .i64 l1) ∧ W.cell? ⟨w.heap.size + 1, 2, none⟩ = some (.int .i64 l2) ∧ W.cell? ⟨w.heap.size + 1, 3, none⟩ = some (.int .i64 l3) ∧ W.cell? ⟨w.heap.size + 1 + 1, 0, none⟩ = some (.int .i64 h0) ∧ W.cell? ⟨w.heap.size + 1 + 1, 1, none⟩ = some (.int .i64 h1) ∧ W.cell? ⟨w.heap.size + 1 + 1, 2, none⟩ = some (.int .i64 h2) ∧ W.cell? ⟨w.heap.size + 1 + 1, 3, none⟩ = some (.int .i64 h3) ∧ W.cell? ⟨w.heap.size + 1 + 1 + 1 + 1 + 1, 0, none⟩ = some (.bool m0) ∧ W.cell? ⟨w.heap.size + 1 + 1 + 1 + 1 + 1, 1, none⟩ = some (.bool m1) ∧ W.cell? ⟨w.heap.size + 1 + 1 + 1 + 1 + 1, 2, none⟩ = some (.bool m2) ∧ W.cell? ⟨w.heap.size + 1 + 1 + 1 + 1 + 1, 3, none⟩ = some (.bool m3)) ((first | (go_keep; done) | (simp [go_sem, *]; done))) (fail)
    all_goals
      go_wp2_with fail
      go_meet
      exact ⟨_, _, _, rfl, rfl, rfl, (by first | omega | (simp; done) | (simp; omega)), (by first | omega | (simp; done) | (simp; omega)), (by first | omega | (simp; done) | (simp; omega)), (by first | omega | (simp; done) | (simp; omega)), (by first | omega | (simp; done) | (simp; omega)), (by first | omega | (simp; done) | (simp; omega)), by go_grown, (by rw [heapAt_drew]; repeat (first | exact blk_at _ _ _ (by simp; done) | refine blk_old ?_ _)), (by rw [heapAt_drew]; repeat (first | exact blk_at _ _ _ (by simp; done) | refine blk_old ?_ _)), (by rw [heapAt_drew]; repeat (first | exact blk_at _ _ _ (by simp; done) | refine blk_old ?_ _))⟩
  case rest =>
    obtain ⟨x, y, z, rfl, rfl, rfl, nxy, nxz, nyz, lx, ly, lz, hb, hx, hy, hz⟩ := hcut
    clear l_0 l_1 l_2 l_3 h_0 h_1 h_2 h_3 m_0 m_1 m_2 m_3 nl0 el0 nl1 el1 nl2 el2 nh0 eh0 nh1 eh1 nh2 eh2 nm0 em0 nm1 em1 nm2 em2
    clear rn fn rm fm rq fq rp fp rh fh rl fl rd fd
    replace B := (((B.later hb).more hz).more hy).more hx
    have R := B.rules
    simp only [Rules] at R
    obtain ⟨⟨_, fx, sx⟩, ⟨_, fy, sy⟩, ⟨_, fz, sz⟩, ⟨rn, _, _⟩, _, ⟨rq, _, _⟩, ⟨rp, _, _⟩, _⟩ := R
    have p_K := rp 0
    have q_K := rq 0
    have n_K := rn 0
    simp at p_K q_K n_K
    have f_x := fx 0
    have f_y := fy 0
    have f_z := fz 0
    have dx0 : (w.heap.size = x) = False := eq_false (by omega)
    have dx1 : (w.heap.size + 1 = x) = False := eq_false (by omega)
    have dx2 : (w.heap.size + 1 + 1 = x) = False := eq_false (by omega)
    have dx3 : (w.heap.size + 1 + 1 + 1 = x) = False := eq_false (by omega)
    have dx4 : (w.heap.size + 1 + 1 + 1 + 1 = x) = False := eq_false (by omega)
    have dx5 : (w.heap.size + 1 + 1 + 1 + 1 + 1 = x) = False := eq_false (by omega)
    have dx6 : (w.heap.size + 1 + 1 + 1 + 1 + 1 + 1 = x) = False := eq_false (by omega)
    have dy0 : (w.heap.size = y) = False := eq_false (by omega)
    have dy1 : (w.heap.size + 1 = y) = False := eq_false (by omega)
    have dy2 : (w.heap.size + 1 + 1 = y) = False := eq_false (by omega)
    have dy3 : (w.heap.size + 1 + 1 + 1 = y) = False := eq_false (by omega)
    have dy4 : (w.heap.size + 1 + 1 + 1 + 1 = y) = False := eq_false (by omega)
    have dy5 : (w.heap.size + 1 + 1 + 1 + 1 + 1 = y) = False := eq_false (by omega)
    have dy6 : (w.heap.size + 1 + 1 + 1 + 1 + 1 + 1 = y) = False := eq_false (by omega)
    have dz0 : (w.heap.size = z) = False := eq_false (by omega)
    have dz1 : (w.heap.size + 1 = z) = False := eq_false (by omega)
    have dz2 : (w.heap.size + 1 + 1 = z) = False := eq_false (by omega)
    have dz3 : (w.heap.size + 1 + 1 + 1 = z) = False := eq_false (by omega)
    have dz4 : (w.heap.size + 1 + 1 + 1 + 1 = z) = False := eq_false (by omega)
    have dz5 : (w.heap.size + 1 + 1 + 1 + 1 + 1 = z) = False := eq_false (by omega)
    have dz6 : (w.heap.size + 1 + 1 + 1 + 1 + 1 + 1 = z) = False := eq_false (by omega)
    have dxy : (x = y) = False := eq_false (by omega)
    have dxz : (x = z) = False := eq_false (by omega)
    have dyx : (y = x) = False := eq_false (by omega)
    have dyz : (y = z) = False := eq_false (by omega)
    have dzx : (z = x) = False := eq_false (by omega)
    have dzy : (z = y) = False := eq_false (by omega)
    have gx3 : ¬ w.heap.size + 1 + 1 + 1 = x := by omega
    have gx4 : ¬ w.heap.size + 1 + 1 + 1 + 1 = x := by omega
    have gx6 : ¬ w.heap.size + 1 + 1 + 1 + 1 + 1 + 1 = x := by omega
    have gy3 : ¬ w.heap.size + 1 + 1 + 1 = y := by omega
    have gy4 : ¬ w.heap.size + 1 + 1 + 1 + 1 = y := by omega
    have gy6 : ¬ w.heap.size + 1 + 1 + 1 + 1 + 1 + 1 = y := by omega
    have gz3 : ¬ w.heap.size + 1 + 1 + 1 = z := by omega
    have gz4 : ¬ w.heap.size + 1 + 1 + 1 + 1 = z := by omega
    have gz6 : ¬ w.heap.size + 1 + 1 + 1 + 1 + 1 + 1 = z := by omega
    have lwx : w.heap.size ≤ x := by omega
    have lwy : w.heap.size ≤ y := by omega
    have lwz : w.heap.size ≤ z := by omega
    clear fx fy fz rn rq rp lx ly lz hx hy hz hb
    go_wp2_with fail
    go_region_held3 (fun W => W.cell? ⟨w.heap.size + 1 + 1 + 1, 0, none⟩ = some (.int .i64 p0) ∧ W.cell? ⟨w.heap.size + 1 + 1 + 1 + 1, 0, none⟩ = some (.int .i64 q0) ∧ W.cell? ⟨w.heap.size + 1 + 1 + 1 + 1 + 1 + 1, 0, none⟩ = some (.bool n0)) ((first | (go_keep; done) | (simp [go_sem, *]; done))) (fail)
    all_goals
      generalize hX : World.drew _ = X
      replace B := St.cast hX (((B.set x 0 (.int .i64 p0) (by omega)).set y 0 (.int .i64 q0) (by omega)).set z 0 (.bool n0) (by omega)).drew
      simp only [setIn, put0, if_true, if_false, dx0, dx1, dx2, dx3, dx4, dx5, dx6, dy0, dy1, dy2, dy3, dy4, dy5, dy6, dz0, dz1, dz2, dz3, dz4, dz5, dz6, dxy, dxz, dyx, dyz, dzx, dzy] at B
      clear hX p_K q_K n_K f_x f_y f_z dx0 dx1 dx2 dx3 dx4 dx5 dx6 dy0 dy1 dy2 dy3 dy4 dy5 dy6 dz0 dz1 dz2 dz3 dz4 dz5 dz6 dxy dxz dyx dyz dzx dzy gx3 gx4 gx6 gy3 gy4 gy6 gz3 gz4 gz6
      replace R := B.rules
      simp only [Rules] at R
      go_wp2_with fail
      refine (C1.out _).mono ?_
      rintro e' w2 ⟨rfl, h⟩
      replace B := B.later h
      replace R := B.rules
      simp only [Rules] at R
      clear h
      go_wp2_with fail
      generalize hX : World.alloc _ _ = X
      replace B := St.cast hX (B.alloc _ _)
      clear hX
      refine (C2.out _).mono ?_
      rintro e' w3 ⟨rfl, h⟩
      replace B := B.later h
      replace R := B.rules
      simp only [Rules] at R
      clear h
      have o23 := R.1.2.2
      go_wp2_with fail
      generalize hX : World.alloc _ _ = X
      replace B := St.cast hX (B.alloc _ _)
      clear hX
      refine (C3.out _).mono ?_
      rintro e' w4 ⟨rfl, h⟩
      replace B := B.later h
      replace R := B.rules
      simp only [Rules] at R
      clear h
      have o34 := R.1.2.2
      clear o23 o34
      rcases hno with rfl | ⟨rfl, rfl⟩
      all_goals
        go_wp2_with fail
        generalize hX : World.alloc _ _ = X
        replace B := St.cast hX (B.alloc _ _)
        clear hX
        go_wp2
        go_ret
        exact ⟨rfl, B.below⟩

set_option maxRecDepth 100000 in
set_option maxHeartbeats 8000000 in
theorem cells_yes0 (g b k f e off l0 l1 l2 l3 h0 h1 h2 h3 p0 p1 p2 p3 q0 q1 q2 q3 raw : Int) (m0 m1 m2 m3 n0 n1 n2 n3 : Bool) (w : World) (hk : raw % 4 = 0) (hr0 : 0 ≤ raw) (hr1 : raw ≤ 255)
    (a0 a1 a2 a3 b0 b1 b2 b3 x0 x1 x2 x3 y0 y1 y2 y3 u0 u1 u2 u3 v0 v1 v2 v3 : Int) (s0 s1 s2 s3 t0 t1 t2 t3 : Bool)
    (C1 : Hid (∀ W, Calls Try.prog 10 #[.agg #[.int .i64 g, .int .i64 b, .int .i64 k, .int .i64 f, .int .i64 e], .agg #[.int .i64 l0, .int .i64 l1, .int .i64 l2, .int .i64 l3], .agg #[.int .i64 h0, .int .i64 h1, .int .i64 h2, .int .i64 h3], .int .i64 off, .agg #[.bool m0, .bool m1, .bool m2, .bool m3]] W (Ret (.tuple #[.agg #[.int .i64 a0, .int .i64 a1, .int .i64 a2, .int .i64 a3], .int .i64 0]) W)))
    (C2 : Hid (∀ W, Calls Try.prog 10 #[.agg #[.int .i64 g, .int .i64 b, .int .i64 k, .int .i64 f, .int .i64 e], .agg #[.int .i64 p0, .int .i64 p1, .int .i64 p2, .int .i64 p3], .agg #[.int .i64 q0, .int .i64 q1, .int .i64 q2, .int .i64 q3], .int .i64 off, .agg #[.bool n0, .bool n1, .bool n2, .bool n3]] W (Ret (.tuple #[.agg #[.int .i64 b0, .int .i64 b1, .int .i64 b2, .int .i64 b3], .int .i64 0]) W)))
    (C3 : Hid (∀ W, Calls Try.prog 10 #[.agg #[.int .i64 g, .int .i64 b, .int .i64 k, .int .i64 f, .int .i64 e], .agg #[.int .i64 p0, .int .i64 l1, .int .i64 l2, .int .i64 l3], .agg #[.int .i64 q0, .int .i64 h1, .int .i64 h2, .int .i64 h3], .int .i64 off, .agg #[.bool n0, .bool m1, .bool m2, .bool m3]] W (Ret (.tuple #[.agg #[.int .i64 b0, .int .i64 a1, .int .i64 a2, .int .i64 a3], .int .i64 0]) W)))
    (G1 : Hid (∀ W, Calls Try.prog 12 #[.agg #[.int .i64 g, .int .i64 b, .int .i64 k, .int .i64 f, .int .i64 e], .agg #[.int .i64 a0, .int .i64 a1, .int .i64 a2, .int .i64 a3]] W (Ret (.tuple #[.agg #[.int .i64 x0, .int .i64 x1, .int .i64 x2, .int .i64 x3], .int .i64 0]) W)))
    (G2 : Hid (∀ W, Calls Try.prog 12 #[.agg #[.int .i64 g, .int .i64 b, .int .i64 k, .int .i64 f, .int .i64 e], .agg #[.int .i64 b0, .int .i64 b1, .int .i64 b2, .int .i64 b3]] W (Ret (.tuple #[.agg #[.int .i64 y0, .int .i64 y1, .int .i64 y2, .int .i64 y3], .int .i64 0]) W)))
    (G3 : Hid (∀ W, Calls Try.prog 12 #[.agg #[.int .i64 g, .int .i64 b, .int .i64 k, .int .i64 f, .int .i64 e], .agg #[.int .i64 b0, .int .i64 a1, .int .i64 a2, .int .i64 a3]] W (Ret (.tuple #[.agg #[.int .i64 y0, .int .i64 x1, .int .i64 x2, .int .i64 x3], .int .i64 0]) W)))
    (R1 : Hid (∀ W, Calls Try.prog 14 #[.agg #[.int .i64 g, .int .i64 b, .int .i64 k, .int .i64 f, .int .i64 e], .agg #[.int .i64 a0, .int .i64 a1, .int .i64 a2, .int .i64 a3], .agg #[.bool m0, .bool m1, .bool m2, .bool m3]] W (Ret (.tuple #[.agg #[.int .i64 u0, .int .i64 u1, .int .i64 u2, .int .i64 u3], .agg #[.bool s0, .bool s1, .bool s2, .bool s3], .int .i64 0]) W)))
    (R2 : Hid (∀ W, Calls Try.prog 14 #[.agg #[.int .i64 g, .int .i64 b, .int .i64 k, .int .i64 f, .int .i64 e], .agg #[.int .i64 b0, .int .i64 b1, .int .i64 b2, .int .i64 b3], .agg #[.bool n0, .bool n1, .bool n2, .bool n3]] W (Ret (.tuple #[.agg #[.int .i64 v0, .int .i64 v1, .int .i64 v2, .int .i64 v3], .agg #[.bool t0, .bool t1, .bool t2, .bool t3], .int .i64 0]) W)))
    (R3 : Hid (∀ W, Calls Try.prog 14 #[.agg #[.int .i64 g, .int .i64 b, .int .i64 k, .int .i64 f, .int .i64 e], .agg #[.int .i64 b0, .int .i64 a1, .int .i64 a2, .int .i64 a3], .agg #[.bool n0, .bool m1, .bool m2, .bool m3]] W (Ret (.tuple #[.agg #[.int .i64 v0, .int .i64 u1, .int .i64 u2, .int .i64 u3], .agg #[.bool t0, .bool s1, .bool s2, .bool s3], .int .i64 0]) W))) :
    Calls Try.prog 6 #[.agg #[.int .i64 g, .int .i64 b, .int .i64 k, .int .i64 f, .int .i64 e], .agg #[.int .i64 l0, .int .i64 l1, .int .i64 l2, .int .i64 l3], .agg #[.int .i64 h0, .int .i64 h1, .int .i64 h2, .int .i64 h3], .agg #[.int .i64 p0, .int .i64 p1, .int .i64 p2, .int .i64 p3], .agg #[.int .i64 q0, .int .i64 q1, .int .i64 q2, .int .i64 q3], .int .i64 off, .agg #[.bool m0, .bool m1, .bool m2, .bool m3], .agg #[.bool n0, .bool n1, .bool n2, .bool n3], .int .u8 raw] w (Ret (.bool true) w) := by
  go_enter Try.func6, Try.ntmps6
  have B := St.start w
  have R := B.rules
  go_wp2_with fail
  generalize hX : World.alloc _ _ = X
  replace B := St.cast hX (((((((B.alloc _ _).alloc _ _).alloc _ _).alloc _ _).alloc _ _).alloc _ _).alloc _ _)
  try simp only [World.size_alloc] at B
  clear hX
  refine (head_any _).mono ?_
  rintro e' w1 ⟨rfl, h⟩
  replace B := B.later h
  replace R := B.rules
  simp only [Rules] at R
  clear h
  go_upto_region 3 with (fail)
  simp only [hk]
  clear hk
  obtain ⟨⟨rn, fn, sn⟩, ⟨rm, fm, sm⟩, ⟨rq, fq, sq⟩, ⟨rp, fp, sp⟩, ⟨rh, fh, sh⟩, ⟨rl, fl, sl⟩, ⟨rd, fd, sd⟩, _⟩ := R
  have l_0 := rl 0
  have l_1 := rl 1
  have l_2 := rl 2
  have l_3 := rl 3
  have nl0 : w.heap.size + 1 < w1.heap.size := by omega
  have el0 : w.heap.size + 1 ≠ w1.heap.size := by omega
  have nl1 : w.heap.size + 1 < w1.heap.size + 1 := by omega
  have el1 : w.heap.size + 1 ≠ w1.heap.size + 1 := by omega
  have nl2 : w.heap.size + 1 < w1.heap.size + 1 + 1 := by omega
  have el2 : w.heap.size + 1 ≠ w1.heap.size + 1 + 1 := by omega
  have h_0 := rh 0
  have h_1 := rh 1
  have h_2 := rh 2
  have h_3 := rh 3
  have nh0 : w.heap.size + 1 + 1 < w1.heap.size := by omega
  have eh0 : w.heap.size + 1 + 1 ≠ w1.heap.size := by omega
  have nh1 : w.heap.size + 1 + 1 < w1.heap.size + 1 := by omega
  have eh1 : w.heap.size + 1 + 1 ≠ w1.heap.size + 1 := by omega
  have nh2 : w.heap.size + 1 + 1 < w1.heap.size + 1 + 1 := by omega
  have eh2 : w.heap.size + 1 + 1 ≠ w1.heap.size + 1 + 1 := by omega
  have m_0 := rm 0
  have m_1 := rm 1
  have m_2 := rm 2
  have m_3 := rm 3
  have nm0 : w.heap.size + 1 + 1 + 1 + 1 + 1 < w1.heap.size := by omega
  have em0 : w.heap.size + 1 + 1 + 1 + 1 + 1 ≠ w1.heap.size := by omega
  have nm1 : w.heap.size + 1 + 1 + 1 + 1 + 1 < w1.heap.size + 1 := by omega
  have em1 : w.heap.size + 1 + 1 + 1 + 1 + 1 ≠ w1.heap.size + 1 := by omega
  have nm2 : w.heap.size + 1 + 1 + 1 + 1 + 1 < w1.heap.size + 1 + 1 := by omega
  have em2 : w.heap.size + 1 + 1 + 1 + 1 + 1 ≠ w1.heap.size + 1 + 1 := by omega
  simp at l_0 l_1 l_2 l_3 h_0 h_1 h_2 h_3 m_0 m_1 m_2 m_3
  go_cut [21, 22, 23] (MixAt w1 #[.int .i64 l0, .int .i64 l1, .int .i64 l2, .int .i64 l3] #[.int .i64 h0, .int .i64 h1, .int .i64 h2, .int .i64 h3] #[.bool m0, .bool m1, .bool m2, .bool m3])
  case first =>
    clear rn fn rm fm rq fq rp fp rh fh rl fl rd fd
    go_region_held3 (fun W => W.cell? ⟨w.heap.size + 1, 0, none⟩ = some (.int .i64 l0) ∧ W.cell? ⟨w.heap.size + 1, 1, none⟩ = some (.int .i64 l1) ∧ W.cell? ⟨w.heap.size + 1, 2, none⟩ = some (.int .i64 l2) ∧ W.cell? ⟨w.heap.size + 1, 3, none⟩ = some (.int .i64 l3) ∧ W.cell? ⟨w.heap.size + 1 + 1, 0, none⟩ = some (.int .i64 h0) ∧ W.cell? ⟨w.heap.size + 1 + 1, 1, none⟩ = some (.int .i64 h1) ∧ W.cell? ⟨w.heap.size + 1 + 1, 2, none⟩ = some (.int .i64 h2) ∧ W.cell? ⟨w.heap.size + 1 + 1, 3, none⟩ = some (.int .i64 h3) ∧ W.cell? ⟨w.heap.size + 1 + 1 + 1 + 1 + 1, 0, none⟩ = some (.bool m0) ∧ W.cell? ⟨w.heap.size + 1 + 1 + 1 + 1 + 1, 1, none⟩ = some (.bool m1) ∧ W.cell? ⟨w.heap.size + 1 + 1 + 1 + 1 + 1, 2, none⟩ = some (.bool m2) ∧ W.cell? ⟨w.heap.size + 1 + 1 + 1 + 1 + 1, 3, none⟩ = some (.bool m3)) ((first | (go_keep; done) | (simp [go_sem, *]; done))) (fail)
    all_goals
      go_wp2_with fail
      go_meet
      exact ⟨_, _, _, rfl, rfl, rfl, (by first | omega | (simp; done) | (simp; omega)), (by first | omega | (simp; done) | (simp; omega)), (by first | omega | (simp; done) | (simp; omega)), (by first | omega | (simp; done) | (simp; omega)), (by first | omega | (simp; done) | (simp; omega)), (by first | omega | (simp; done) | (simp; omega)), by go_grown, (by rw [heapAt_drew]; repeat (first | exact blk_at _ _ _ (by simp; done) | refine blk_old ?_ _)), (by rw [heapAt_drew]; repeat (first | exact blk_at _ _ _ (by simp; done) | refine blk_old ?_ _)), (by rw [heapAt_drew]; repeat (first | exact blk_at _ _ _ (by simp; done) | refine blk_old ?_ _))⟩
  case rest =>
    obtain ⟨x, y, z, rfl, rfl, rfl, nxy, nxz, nyz, lx, ly, lz, hb, hx, hy, hz⟩ := hcut
    clear l_0 l_1 l_2 l_3 h_0 h_1 h_2 h_3 m_0 m_1 m_2 m_3 nl0 el0 nl1 el1 nl2 el2 nh0 eh0 nh1 eh1 nh2 eh2 nm0 em0 nm1 em1 nm2 em2
    clear rn fn rm fm rq fq rp fp rh fh rl fl rd fd
    replace B := (((B.later hb).more hz).more hy).more hx
    have R := B.rules
    simp only [Rules] at R
    obtain ⟨⟨_, fx, sx⟩, ⟨_, fy, sy⟩, ⟨_, fz, sz⟩, ⟨rn, _, _⟩, _, ⟨rq, _, _⟩, ⟨rp, _, _⟩, _⟩ := R
    have p_K := rp 0
    have q_K := rq 0
    have n_K := rn 0
    simp at p_K q_K n_K
    have f_x := fx 0
    have f_y := fy 0
    have f_z := fz 0
    have dx0 : (w.heap.size = x) = False := eq_false (by omega)
    have dx1 : (w.heap.size + 1 = x) = False := eq_false (by omega)
    have dx2 : (w.heap.size + 1 + 1 = x) = False := eq_false (by omega)
    have dx3 : (w.heap.size + 1 + 1 + 1 = x) = False := eq_false (by omega)
    have dx4 : (w.heap.size + 1 + 1 + 1 + 1 = x) = False := eq_false (by omega)
    have dx5 : (w.heap.size + 1 + 1 + 1 + 1 + 1 = x) = False := eq_false (by omega)
    have dx6 : (w.heap.size + 1 + 1 + 1 + 1 + 1 + 1 = x) = False := eq_false (by omega)
    have dy0 : (w.heap.size = y) = False := eq_false (by omega)
    have dy1 : (w.heap.size + 1 = y) = False := eq_false (by omega)
    have dy2 : (w.heap.size + 1 + 1 = y) = False := eq_false (by omega)
    have dy3 : (w.heap.size + 1 + 1 + 1 = y) = False := eq_false (by omega)
    have dy4 : (w.heap.size + 1 + 1 + 1 + 1 = y) = False := eq_false (by omega)
    have dy5 : (w.heap.size + 1 + 1 + 1 + 1 + 1 = y) = False := eq_false (by omega)
    have dy6 : (w.heap.size + 1 + 1 + 1 + 1 + 1 + 1 = y) = False := eq_false (by omega)
    have dz0 : (w.heap.size = z) = False := eq_false (by omega)
    have dz1 : (w.heap.size + 1 = z) = False := eq_false (by omega)
    have dz2 : (w.heap.size + 1 + 1 = z) = False := eq_false (by omega)
    have dz3 : (w.heap.size + 1 + 1 + 1 = z) = False := eq_false (by omega)
    have dz4 : (w.heap.size + 1 + 1 + 1 + 1 = z) = False := eq_false (by omega)
    have dz5 : (w.heap.size + 1 + 1 + 1 + 1 + 1 = z) = False := eq_false (by omega)
    have dz6 : (w.heap.size + 1 + 1 + 1 + 1 + 1 + 1 = z) = False := eq_false (by omega)
    have dxy : (x = y) = False := eq_false (by omega)
    have dxz : (x = z) = False := eq_false (by omega)
    have dyx : (y = x) = False := eq_false (by omega)
    have dyz : (y = z) = False := eq_false (by omega)
    have dzx : (z = x) = False := eq_false (by omega)
    have dzy : (z = y) = False := eq_false (by omega)
    have gx3 : ¬ w.heap.size + 1 + 1 + 1 = x := by omega
    have gx4 : ¬ w.heap.size + 1 + 1 + 1 + 1 = x := by omega
    have gx6 : ¬ w.heap.size + 1 + 1 + 1 + 1 + 1 + 1 = x := by omega
    have gy3 : ¬ w.heap.size + 1 + 1 + 1 = y := by omega
    have gy4 : ¬ w.heap.size + 1 + 1 + 1 + 1 = y := by omega
    have gy6 : ¬ w.heap.size + 1 + 1 + 1 + 1 + 1 + 1 = y := by omega
    have gz3 : ¬ w.heap.size + 1 + 1 + 1 = z := by omega
    have gz4 : ¬ w.heap.size + 1 + 1 + 1 + 1 = z := by omega
    have gz6 : ¬ w.heap.size + 1 + 1 + 1 + 1 + 1 + 1 = z := by omega
    have lwx : w.heap.size ≤ x := by omega
    have lwy : w.heap.size ≤ y := by omega
    have lwz : w.heap.size ≤ z := by omega
    clear fx fy fz rn rq rp lx ly lz hx hy hz hb
    go_wp2_with fail
    go_region_held3 (fun W => W.cell? ⟨w.heap.size + 1 + 1 + 1, 0, none⟩ = some (.int .i64 p0) ∧ W.cell? ⟨w.heap.size + 1 + 1 + 1 + 1, 0, none⟩ = some (.int .i64 q0) ∧ W.cell? ⟨w.heap.size + 1 + 1 + 1 + 1 + 1 + 1, 0, none⟩ = some (.bool n0)) ((first | (go_keep; done) | (simp [go_sem, *]; done))) (fail)
    all_goals
      generalize hX : World.drew _ = X
      replace B := St.cast hX (((B.set x 0 (.int .i64 p0) (by omega)).set y 0 (.int .i64 q0) (by omega)).set z 0 (.bool n0) (by omega)).drew
      simp only [setIn, put0, if_true, if_false, dx0, dx1, dx2, dx3, dx4, dx5, dx6, dy0, dy1, dy2, dy3, dy4, dy5, dy6, dz0, dz1, dz2, dz3, dz4, dz5, dz6, dxy, dxz, dyx, dyz, dzx, dzy] at B
      clear hX p_K q_K n_K f_x f_y f_z dx0 dx1 dx2 dx3 dx4 dx5 dx6 dy0 dy1 dy2 dy3 dy4 dy5 dy6 dz0 dz1 dz2 dz3 dz4 dz5 dz6 dxy dxz dyx dyz dzx dzy gx3 gx4 gx6 gy3 gy4 gy6 gz3 gz4 gz6
      replace R := B.rules
      simp only [Rules] at R
      go_wp2_with fail
      refine (C1.out _).mono ?_
      rintro e' w2 ⟨rfl, h⟩
      replace B := B.later h
      replace R := B.rules
      simp only [Rules] at R
      clear h
      have lw2 := B.below.size
      go_wp2_with fail
      generalize hX : World.alloc _ _ = X
      replace B := St.cast hX (B.alloc _ _)
      clear hX
      refine (C2.out _).mono ?_
      rintro e' w3 ⟨rfl, h⟩
      replace B := B.later h
      replace R := B.rules
      simp only [Rules] at R
      clear h
      have o23 := R.1.2.2
      go_wp2_with fail
      generalize hX : World.alloc _ _ = X
      replace B := St.cast hX (B.alloc _ _)
      clear hX
      refine (C3.out _).mono ?_
      rintro e' w4 ⟨rfl, h⟩
      replace B := B.later h
      replace R := B.rules
      simp only [Rules] at R
      clear h
      have o34 := R.1.2.2
      go_wp2_with fail
      generalize hX : World.alloc _ _ = X
      replace B := St.cast hX (B.alloc _ _)
      clear hX
      refine (G1.out _).mono ?_
      rintro e' w5 ⟨rfl, h⟩
      replace B := B.later h
      replace R := B.rules
      simp only [Rules] at R
      clear h
      have o45 := R.1.2.2
      go_wp2_with fail
      generalize hX : World.alloc _ _ = X
      replace B := St.cast hX (B.alloc _ _)
      clear hX
      refine (G2.out _).mono ?_
      rintro e' w6 ⟨rfl, h⟩
      replace B := B.later h
      replace R := B.rules
      simp only [Rules] at R
      clear h
      have o56 := R.1.2.2
      go_wp2_with fail
      generalize hX : World.alloc _ _ = X
      replace B := St.cast hX (B.alloc _ _)
      clear hX
      refine (G3.out _).mono ?_
      rintro e' w7 ⟨rfl, h⟩
      replace B := B.later h
      replace R := B.rules
      simp only [Rules] at R
      clear h
      have o67 := R.1.2.2
      go_wp2_with fail
      generalize hX : World.alloc _ _ = X
      replace B := St.cast hX (B.alloc _ _)
      clear hX
      refine (R1.out _).mono ?_
      rintro e' w8 ⟨rfl, h⟩
      replace B := B.later h
      replace R := B.rules
      simp only [Rules] at R
      clear h
      have o78 := R.1.2.2
      go_wp2_with fail
      generalize hX : World.alloc _ _ = X
      replace B := St.cast hX ((B.alloc _ _).alloc _ _)
      try simp only [World.size_alloc] at B
      clear hX
      refine (R2.out _).mono ?_
      rintro e' w9 ⟨rfl, h⟩
      replace B := B.later h
      replace R := B.rules
      simp only [Rules] at R
      clear h
      have o89 := R.1.2.2
      go_wp2_with fail
      generalize hX : World.alloc _ _ = X
      replace B := St.cast hX ((B.alloc _ _).alloc _ _)
      try simp only [World.size_alloc] at B
      clear hX
      refine (R3.out _).mono ?_
      rintro e' w10 ⟨rfl, h⟩
      replace B := B.later h
      replace R := B.rules
      simp only [Rules] at R
      clear h
      have o9a := R.1.2.2
      go_upto_region 18 with (fail)
      generalize hX : World.alloc _ _ = X
      replace B := St.cast hX ((B.alloc _ _).alloc _ _)
      try simp only [World.size_alloc] at B
      clear hX
      obtain ⟨ho, hr, ht, hv, hs, hu, hzz, hyy, hxx, hc, hbb, ha, _⟩ := B.blks
      have khbb := cell_blk hbb 0 (.int .i64 b0) rfl
      have khyy := cell_blk hyy 0 (.int .i64 y0) rfl
      have khv := cell_blk hv 0 (.int .i64 v0) rfl
      have kht := cell_blk ht 0 (.bool t0) rfl
      have fha := free_blk ha 0
      have cha := cell_blk ha 0 (.int .i64 a0) rfl
      have fhxx := free_blk hxx 0
      have chxx := cell_blk hxx 0 (.int .i64 x0) rfl
      have fhu := free_blk hu 0
      have chu := cell_blk hu 0 (.int .i64 u0) rfl
      have fhs := free_blk hs 0
      have chs := cell_blk hs 0 (.bool s0) rfl
      replace B : St w X [(w2.heap.size, #[.int .i64 a0, .int .i64 a1, .int .i64 a2, .int .i64 a3], 25), (w4.heap.size, #[.int .i64 b0, .int .i64 a1, .int .i64 a2, .int .i64 a3], 25), (w5.heap.size, #[.int .i64 x0, .int .i64 x1, .int .i64 x2, .int .i64 x3], 25), (w7.heap.size, #[.int .i64 y0, .int .i64 x1, .int .i64 x2, .int .i64 x3], 25), (w8.heap.size, #[.int .i64 u0, .int .i64 u1, .int .i64 u2, .int .i64 u3], 25), (w8.heap.size + 1, #[.bool s0, .bool s1, .bool s2, .bool s3], 27), (w10.heap.size, #[.int .i64 v0, .int .i64 u1, .int .i64 u2, .int .i64 u3], 25), (w10.heap.size + 1, #[.bool t0, .bool s1, .bool s2, .bool s3], 27)] := ⟨B.below, ha, hc, hxx, hzz, hu, hs, hr, ho, trivial⟩
      have bw := B.below.size
      have Dhahxx : (w2.heap.size = w5.heap.size) = False := eq_false (by omega)
      have Dhahu : (w2.heap.size = w8.heap.size) = False := eq_false (by omega)
      have Dhahs : (w2.heap.size = w8.heap.size + 1) = False := eq_false (by omega)
      have Dhcha : (w4.heap.size = w2.heap.size) = False := eq_false (by omega)
      have Dhchxx : (w4.heap.size = w5.heap.size) = False := eq_false (by omega)
      have Dhchu : (w4.heap.size = w8.heap.size) = False := eq_false (by omega)
      have Dhchs : (w4.heap.size = w8.heap.size + 1) = False := eq_false (by omega)
      have Dhxxha : (w5.heap.size = w2.heap.size) = False := eq_false (by omega)
      have Dhxxhu : (w5.heap.size = w8.heap.size) = False := eq_false (by omega)
      have Dhxxhs : (w5.heap.size = w8.heap.size + 1) = False := eq_false (by omega)
      have Dhzzha : (w7.heap.size = w2.heap.size) = False := eq_false (by omega)
      have Dhzzhxx : (w7.heap.size = w5.heap.size) = False := eq_false (by omega)
      have Dhzzhu : (w7.heap.size = w8.heap.size) = False := eq_false (by omega)
      have Dhzzhs : (w7.heap.size = w8.heap.size + 1) = False := eq_false (by omega)
      have Dhuha : (w8.heap.size = w2.heap.size) = False := eq_false (by omega)
      have Dhuhxx : (w8.heap.size = w5.heap.size) = False := eq_false (by omega)
      have Dhuhs : (w8.heap.size = w8.heap.size + 1) = False := eq_false (by omega)
      have Dhsha : (w8.heap.size + 1 = w2.heap.size) = False := eq_false (by omega)
      have Dhshxx : (w8.heap.size + 1 = w5.heap.size) = False := eq_false (by omega)
      have Dhshu : (w8.heap.size + 1 = w8.heap.size) = False := eq_false (by omega)
      have Dhrha : (w10.heap.size = w2.heap.size) = False := eq_false (by omega)
      have Dhrhxx : (w10.heap.size = w5.heap.size) = False := eq_false (by omega)
      have Dhrhu : (w10.heap.size = w8.heap.size) = False := eq_false (by omega)
      have Dhrhs : (w10.heap.size = w8.heap.size + 1) = False := eq_false (by omega)
      have Dhoha : (w10.heap.size + 1 = w2.heap.size) = False := eq_false (by omega)
      have Dhohxx : (w10.heap.size + 1 = w5.heap.size) = False := eq_false (by omega)
      have Dhohu : (w10.heap.size + 1 = w8.heap.size) = False := eq_false (by omega)
      have Dhohs : (w10.heap.size + 1 = w8.heap.size + 1) = False := eq_false (by omega)
      have Ehbbha : ¬ w3.heap.size = w2.heap.size := by omega
      have Ehbbhxx : ¬ w3.heap.size = w5.heap.size := by omega
      have Ehbbhu : ¬ w3.heap.size = w8.heap.size := by omega
      have Ehbbhs : ¬ w3.heap.size = w8.heap.size + 1 := by omega
      have Ehyyha : ¬ w6.heap.size = w2.heap.size := by omega
      have Ehyyhxx : ¬ w6.heap.size = w5.heap.size := by omega
      have Ehyyhu : ¬ w6.heap.size = w8.heap.size := by omega
      have Ehyyhs : ¬ w6.heap.size = w8.heap.size + 1 := by omega
      have Ehvha : ¬ w9.heap.size = w2.heap.size := by omega
      have Ehvhxx : ¬ w9.heap.size = w5.heap.size := by omega
      have Ehvhu : ¬ w9.heap.size = w8.heap.size := by omega
      have Ehvhs : ¬ w9.heap.size = w8.heap.size + 1 := by omega
      have Ehtha : ¬ w9.heap.size + 1 = w2.heap.size := by omega
      have Ehthxx : ¬ w9.heap.size + 1 = w5.heap.size := by omega
      have Ehthu : ¬ w9.heap.size + 1 = w8.heap.size := by omega
      have Ehths : ¬ w9.heap.size + 1 = w8.heap.size + 1 := by omega
      clear ho hr ht hv hs hu hzz hyy hxx hc hbb ha R
      go_wp2_with fail
      go_region_held3 (fun W => W.cell? ⟨w3.heap.size, 0, none⟩ = some (.int .i64 b0) ∧ W.cell? ⟨w6.heap.size, 0, none⟩ = some (.int .i64 y0) ∧ W.cell? ⟨w9.heap.size, 0, none⟩ = some (.int .i64 v0) ∧ W.cell? ⟨w9.heap.size + 1, 0, none⟩ = some (.bool t0)) ((first | (go_keep; done) | (simp [go_sem, *]; done))) (fail)
      all_goals
        generalize hX : World.drew _ = Y
        replace B := St.cast hX (((((B.set (w2.heap.size) 0 (.int .i64 b0) (by omega)).set (w5.heap.size) 0 (.int .i64 y0) (by omega)).set (w8.heap.size) 0 (.int .i64 v0) (by omega)).set (w8.heap.size + 1) 0 (.bool t0) (by omega))).drew
        simp only [setIn, put0, if_true, if_false, Dhahxx, Dhahu, Dhahs, Dhcha, Dhchxx, Dhchu, Dhchs, Dhxxha, Dhxxhu, Dhxxhs, Dhzzha, Dhzzhxx, Dhzzhu, Dhzzhs, Dhuha, Dhuhxx, Dhuhs, Dhsha, Dhshxx, Dhshu, Dhrha, Dhrhxx, Dhrhu, Dhrhs, Dhoha, Dhohxx, Dhohu, Dhohs] at B
        clear hX Dhahxx Dhahu Dhahs Dhcha Dhchxx Dhchu Dhchs Dhxxha Dhxxhu Dhxxhs Dhzzha Dhzzhxx Dhzzhu Dhzzhs Dhuha Dhuhxx Dhuhs Dhsha Dhshxx Dhshu Dhrha Dhrhxx Dhrhu Dhrhs Dhoha Dhohxx Dhohu Dhohs Ehbbha Ehbbhxx Ehbbhu Ehbbhs Ehyyha Ehyyhxx Ehyyhu Ehyyhs Ehvha Ehvhxx Ehvhu Ehvhs Ehtha Ehthxx Ehthu Ehths
        have R := B.rules
        simp only [Rules] at R
        go_wp2
        go_ret
        exact ⟨rfl, B.below⟩


end Go.Proofs.Yteghionkljbggaa
