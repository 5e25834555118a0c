/-
  Replay of the reference implementation. No conditions but those in each statement.
-/
import Derived.Test.YtmplcceoepkppaaCadH
namespace Go.Proofs.Ytmplcceoepkppaa
open Go.RowKit

/-- Behind the call of Advance in a round of the reference's loop. -/
def MidRel (w : World) (n1 : Nat) (L : List (Nat × Array Value × TypeId)) (D : Crs) (e : Int) (v9 v10 : Value) (wr : World) : Prop :=
  ∃ y : Nat, v9 = .pointer (some ⟨y, 0, none⟩) ∧ v10 = .int .i64 e ∧ n1 < y ∧ St w wr ((y, crsC D, 26) :: L)

/-- At the head of the reference's loop. -/
def RepRelR (s : Sq) (M : Nat → Int) (N : Nat) (w : World) (L : Crs → List (Nat × Array Value × TypeId)) (v8 : Value) (wr : World) : Prop :=
  ∃ (k : Nat) (d : Crs), k ≤ N ∧ v8 = .int .i64 k ∧ repFrom s M (N - k) k d = repFrom s M N 0 zeroC ∧ St w wr (L d)

set_option maxRecDepth 100000 in
set_option maxHeartbeats 4000000 in
theorem replayr_any (A : Option Addr) (c : Nat) (s : Sq) (MA : Option Addr) (N mc : Nat) (M : Nat → Int) (w : World) (hs : StepsAt w A s) (hn : s.n ≤ maxLen) (hm : IntsAt w MA N M) (hN : N ≤ 1000) :
    Calls Try.prog 14 #[.agg #[.slice A s.n c, .int .i64 s.r], .slice MA N mc] w (Ret (repV (repR s M N)) w) := by
  have C0 := Lib.hid (fun W (h : Below w.heap.size w W) => validr_any A c s W (hs.later h) hn)
  cases hq : sqB s with
  | false =>
    have hv := Lib.hid (show repR s M N = (zeroC, 0, 1) by simp [repR, hq])
    rw [hq] at C0
    go_enter Try.func14, Try.ntmps14
    have B := St.start w
    go_wp2_with fail
    generalize hX : World.alloc _ _ = X
    replace B := St.cast hX ((B.alloc _ _).alloc _ _)
    try simp only [World.size_alloc] at B
    clear hX
    refine (C0.out _ B.below).mono ?_
    rintro e' w1 ⟨rfl, h⟩
    replace B := B.later h
    have R := B.rules
    simp only [Rules] at R
    clear h
    go_wp2
    try rw [Exit.noGoto_ret]
    refine bodyPost_ret (v := .tuple #[.agg #[.int .i64 0, .int .i64 0, .int .i64 0, .bool false], .int .i64 0, .int .i64 1]) (by simp [results, Try.results14, go_sem, *]) rfl ⟨by rw [hv.out]; rfl, ?_⟩
    have bw := B.below.size
    refine (((B.below.setCell ?_ _).setCell ?_ _).setCell ?_ _).setCell ?_ _
    all_goals (first | omega | (simp; done) | (simp; omega))
  | true =>
    have hv := Lib.hid (show repR s M N = repFrom s M N 0 zeroC by simp [repR, hq])
    rw [hq] at C0
    clear hq
    have C := Lib.hid (fun W (h : Below w.heap.size w W) (d : Crs) (m : Int) => (advancer_any A c s d.nx d.rd d.la d.ov m W (hs.later h) hn : Calls Try.prog 12 _ W (Ret (advV s d m) W)))
    clear hs
    go_enter Try.func14, Try.ntmps14
    have B := St.start w
    go_wp2_with fail
    generalize hX : World.alloc _ _ = X
    replace B := St.cast hX ((B.alloc _ _).alloc _ _)
    try simp only [World.size_alloc] at B
    clear hX
    refine (C0.out _ B.below).mono ?_
    rintro e' w1 ⟨rfl, h⟩
    replace B := B.later h
    have R := B.rules
    simp only [Rules] at R
    clear h
    go_wp2_with fail
    generalize hX : World.alloc _ _ = X1
    replace B := St.cast hX (B.alloc _ _)
    clear hX
    replace B : St w X1 ((fun d => [(w1.heap.size, crsC d, 26), (w.heap.size + 1, #[.int .i64 0, .int .i64 0, .int .i64 0, .bool false], 26), (w.heap.size, #[.slice A s.n c, .int .i64 s.r], 24)]) zeroC) := B
    have o1 : w.heap.size + 1 < w1.heap.size := R.1.2.2
    clear R C0
    go_loopw [8] (RepRelR s M N w (fun d => [(w1.heap.size, crsC d, 26), (w.heap.size + 1, #[.int .i64 0, .int .i64 0, .int .i64 0, .bool false], 26), (w.heap.size, #[.slice A s.n c, .int .i64 s.r], 24)])) (fun v _ => N - (intOf v).toNat)
    case atStart => exact ⟨0, zeroC, by omega, rfl, rfl, B⟩
    case round =>
      clear B
      obtain ⟨k, d, hk, rfl, hrep, B⟩ := hrel
      have R := B.rules
      simp only [Rules, crsC] at R
      by_cases hlt : k < N
      · obtain ⟨ad, rfl, hblt, c0⟩ := (hm.later B.below) k hlt
        rw [repFrom_step hlt] at hrep
        have hX : ∃ (D : Crs) (e : Int), advV s d (M k) = .tuple #[.agg #[.int .i64 D.nx, .int .i64 D.rd, .int .i64 D.la, .bool D.ov], .int .i64 e] ∧
            ((e = 0 ∧ repFrom s M (N - (k + 1)) (k + 1) D = repFrom s M N 0 zeroC) ∨ (¬ e = 0 ∧ repR s M N = (zeroC, (k : Int), e))) := by
          by_cases h0 : readyE s d (M k) = 0
          · rw [if_pos h0] at hrep
            exact ⟨_, _, adv_out h0 rfl, .inl ⟨rfl, hrep⟩⟩
          · rw [if_neg h0] at hrep
            exact ⟨zeroC, _, advV_no (s := s) (c := d) (m := M k) rfl h0, .inr ⟨h0, hv.out.trans hrep.symm⟩⟩
        clear hrep
        obtain ⟨D, e, hav, hcase⟩ := hX
        have HC := Lib.hid hcase
        have CC := Lib.hid (fun W (h : Below w.heap.size w W) => hav ▸ C.out W h d (M k))
        clear hcase hav
        go_upto_region 7 with (fail)
        go_cut [9, 10] (MidRel w w1.heap.size [(w1.heap.size, crsC d, 26), (w.heap.size + 1, #[.int .i64 0, .int .i64 0, .int .i64 0, .bool false], 26), (w.heap.size, #[.slice A s.n c, .int .i64 s.r], 24)] D e)
        case first =>
          have BB := B.below
          have cs0 := R.2.2.1.1 0
          have cs1 := R.2.2.1.1 1
          have cd0 := R.1.1 0
          have cd1 := R.1.1 1
          have cd2 := R.1.1 2
          have cd3 := R.1.1 3
          simp at cs0 cs1 cd0 cd1 cd2 cd3
          have q1 := R.1.2.2
          have q3 := R.2.2.1.2.2
          have hne : ∀ i, ad.add k ≠ ⟨wr.heap.size, i, none⟩ := fun i e => by rw [e] at hblt; exact absurd hblt (by simp)
          have hne2 : ∀ i, (⟨wr.heap.size, i, none⟩ : Addr) ≠ ad.add k := fun i e => hne i e.symm
          go_region_held3 (fun W => W.cell? ⟨w.heap.size, 0, none⟩ = some (.slice A s.n c) ∧ W.cell? ⟨w.heap.size, 1, none⟩ = some (.int .i64 s.r) ∧ W.cell? ⟨w1.heap.size, 0, none⟩ = some (.int .i64 d.nx) ∧ W.cell? ⟨w1.heap.size, 1, none⟩ = some (.int .i64 d.rd) ∧ W.cell? ⟨w1.heap.size, 2, none⟩ = some (.int .i64 d.la) ∧ W.cell? ⟨w1.heap.size, 3, none⟩ = some (.bool d.ov) ∧ W.cell? (ad.add k) = some (.int .i64 (M k)))
            ((first | exact ⟨k0, k1, k2, k3, k4, k5, k6⟩ | (go_keep; done) | (simp [go_sem, *]; done)))
            ((first | (go_at_call 12; refine (CC.out _ ?_).mono ?_; (first | exact BB | exact BB.alloc BB.size _ | exact BB.drew | exact (BB.alloc BB.size _).drew); rintro e' w2 ⟨rfl, h⟩; have hw2 : Below wr.heap.size wr w2 := (by first | exact h | exact below_step ((Below.refl _ _).alloc (Nat.le_refl _) _) (by simp) h | exact below_step ((Below.refl _ _).drew) (by simp) h | exact below_step (((Below.refl _ _).alloc (Nat.le_refl _) _).drew) (by simp) h); have k0 := cell_later hw2 cs0; have k1 := cell_later hw2 cs1; have k2 := cell_later hw2 cd0; have k3 := cell_later hw2 cd1; have k4 := cell_later hw2 cd2; have k5 := cell_later hw2 cd3; have k6 := cell_later hw2 c0; have hcf := bcell h; have hsz := h.size; simp at hsz)))
          · go_wp2_with fail
            go_meet
            refine ⟨w2.heap.size, rfl, rfl, by omega, (B.later hw2).alloc _ _⟩
          · go_wp2_with fail
            go_meet
            have h1 : w.heap.size ≤ wr.heap.size := by omega
            have d1 : (w1.heap.size = wr.heap.size) = False := eq_false (by omega)
            have d2 : (w.heap.size + 1 = wr.heap.size) = False := eq_false (by omega)
            have d3 : (w.heap.size = wr.heap.size) = False := eq_false (by omega)
            have B2 := (((((B.alloc (#[.int .i64 0, .int .i64 0, .int .i64 0, .bool false]) 26).drew.later h).set wr.heap.size 0 (.int .i64 D.nx) h1).set wr.heap.size 1 (.int .i64 D.rd) h1).set wr.heap.size 2 (.int .i64 D.la) h1).set wr.heap.size 3 (.bool D.ov) h1
            simp only [setIn, if_true, if_false, d1, d2, d3, put4_0, put4_1, put4_2, put4_3] at B2
            exact ⟨wr.heap.size, rfl, rfl, by omega, B2⟩
        case rest =>
          clear R B hblt c0
          obtain ⟨y, rfl, rfl, hy, B⟩ := hcut
          have R := B.rules
          simp only [Rules, crsC] at R
          rcases HC.out with ⟨rfl, hr⟩ | ⟨he, hr⟩
          · have Hr := Lib.hid hr
            clear hr HC
            go_upto_region 6 with (fail)
            have l1 : w.heap.size ≤ w1.heap.size := by omega
            have d1 : (w.heap.size + 1 = w1.heap.size) = False := eq_false (by omega)
            have d0 : (w.heap.size = w1.heap.size) = False := eq_false (by omega)
            have dy : (y = w1.heap.size) = False := eq_false (by omega)
            generalize hX : World.setCell _ _ _ = Y
            replace B := St.cast hX ((((B.set w1.heap.size 0 (.int .i64 D.nx) l1).set w1.heap.size 1 (.int .i64 D.rd) l1).set w1.heap.size 2 (.int .i64 D.la) l1).set w1.heap.size 3 (.bool D.ov) l1)
            simp only [crsC, setIn, if_true, if_false, d1, d0, dy, put4_0, put4_1, put4_2, put4_3] at B
            clear hX R d1 d0 dy
            go_wp2
            exact ⟨⟨k + 1, D, by omega, by go_num, Hr.out, ⟨B.below, B.blks.2⟩⟩, by simp [intOf]; omega⟩
          · have Hr := Lib.hid hr
            clear hr HC
            go_wp2
            try rw [Exit.noGoto_ret]
            refine bodyPost_ret (v := .tuple #[.agg #[.int .i64 0, .int .i64 0, .int .i64 0, .bool false], .int .i64 k, .int .i64 e]) (by simp [results, Try.results14, go_sem, *]) rfl ⟨by rw [Hr.out]; rfl, ?_⟩
            have bw := B.below.size
            refine (((B.below.setCell ?_ _).setCell ?_ _).setCell ?_ _).setCell ?_ _
            all_goals (first | omega | (simp; done) | (simp; omega))
      · obtain rfl : k = N := by omega
        have hres := Lib.hid (hv.out.trans hrep.symm)
        simp only [Nat.sub_self, repFrom] at hres
        clear hrep
        go_wp2
        try rw [Exit.noGoto_ret]
        refine bodyPost_ret (v := .tuple #[.agg #[.int .i64 d.nx, .int .i64 d.rd, .int .i64 d.la, .bool d.ov], .int .i64 k, .int .i64 0]) (by simp [results, Try.results14, go_sem, *]) rfl ⟨by rw [hres.out]; rfl, ?_⟩
        have bw := B.below.size
        refine (((B.below.setCell ?_ _).setCell ?_ _).setCell ?_ _).setCell ?_ _
        all_goals (first | omega | (simp; done) | (simp; omega))

end Go.Proofs.Ytmplcceoepkppaa
