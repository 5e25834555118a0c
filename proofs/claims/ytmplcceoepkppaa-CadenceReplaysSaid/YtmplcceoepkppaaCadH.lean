/-
  Replay of package cadence. No conditions but those in each statement.
-/
import Derived.Test.YtmplcceoepkppaaCadG
import Derived.WalkMore
namespace Go.Proofs.Ytmplcceoepkppaa
open Go.RowKit

/-- Where the moments lie. -/
def IntsAt (w : World) (A : Option Addr) (N : Nat) (M : Nat → Int) : Prop :=
  ∀ i, i < N → ∃ ad, A = some ad ∧ (ad.add i).block < w.heap.size ∧ w.cell? (ad.add i) = some (.int .i64 (M i))
theorem IntsAt.later {w w' : World} {A : Option Addr} {N : Nat} {M : Nat → Int} (h : IntsAt w A N M) (hb : Below w.heap.size w w') : IntsAt w' A N M := by
  intro i hi
  obtain ⟨ad, rfl, h0, h1⟩ := h i hi
  have := hb.size
  exact ⟨ad, rfl, by omega, by rw [hb.cell h0]; exact h1⟩

def crsC (c : Crs) : Array Value := #[.int .i64 c.nx, .int .i64 c.rd, .int .i64 c.la, .bool c.ov]
def repV (p : Crs × Int × Int) : Value := .tuple #[.agg #[.int .i64 p.1.nx, .int .i64 p.1.rd, .int .i64 p.1.la, .bool p.1.ov], .int .i64 p.2.1, .int .i64 p.2.2]

/-- At the head of Replay's loop. -/
def RepRel (s : Sq) (M : Nat → Int) (N : Nat) (w : World) (L : Crs → List (Nat × Array Value × TypeId)) (v22 v8 v9 : Value) (wr : World) : Prop :=
  ∃ (k : Nat) (d : Crs), k ≤ N ∧ v22 = .int .i64 k ∧ v8 = .int .i64 N ∧ v9 = .int .i64 0 ∧ repFrom s M (N - k) k d = repFrom s M N 0 zeroC ∧ St w wr (L d)

theorem repFrom_step {s : Sq} {M : Nat → Int} {N k : Nat} {d : Crs} (hlt : k < N) :
    repFrom s M (N - k) k d = if readyE s d (M k) = 0 then repFrom s M (N - (k + 1)) (k + 1) (nextC s d (M k)) else (zeroC, (k : Int), readyE s d (M k)) := by
  have e : N - k = (N - (k + 1)) + 1 := by omega
  rw [e, repFrom]

theorem adv_out {s : Sq} {c : Crs} {m : Int} {d : Crs} (h : readyE s c m = 0) (hd : nextC s c m = d) : advV s c m = .tuple #[.agg #[.int .i64 d.nx, .int .i64 d.rd, .int .i64 d.la, .bool d.ov], .int .i64 0] := by
  subst hd
  simp only [advV, advC, h, if_true, crsV]

set_option maxRecDepth 100000 in
set_option maxHeartbeats 4000000 in
theorem replay_any (A : Option Addr) (c : Nat) (s : Sq) (MA : Option Addr) (N mc : Nat) (M : Nat → Int) (w : World) (hs : StepsAt w A s) (hn : s.n ≤ maxLen) (hm : IntsAt w MA N M) (hN : N ≤ 1000) :
    Calls Try.prog 13 #[.agg #[.slice A s.n c, .int .i64 s.r], .slice MA N mc] w (Ret (repV (repR s M N)) w) := by
  have C0 := Lib.hid (fun W (h : Below w.heap.size w W) => valid_any A c s W (hs.later h) hn)
  cases hq : sqB s with
  | false =>
    have hv := Lib.hid (show repR s M N = (zeroC, 0, 1) by simp [repR, hq])
    rw [hq] at C0
    go_enter Try.func13, Try.ntmps13
    have B := St.start w
    go_wp2_with fail
    go_step3
    go_wp2_with fail
    generalize hX : World.alloc _ _ = X
    replace B := St.cast hX ((B.alloc _ _).alloc _ _)
    try simp only [World.size_alloc] at B
    clear hX
    refine (C0.out _ B.below).mono ?_
    rintro e' w1 ⟨rfl, h⟩
    replace B := B.later h
    have R := B.rules
    simp only [Rules] at R
    clear h
    go_wp2
    try rw [Exit.noGoto_ret]
    refine bodyPost_ret (v := .tuple #[.agg #[.int .i64 0, .int .i64 0, .int .i64 0, .bool false], .int .i64 0, .int .i64 1]) (by simp [results, Try.results13, go_sem, *]) rfl ⟨by rw [hv.out]; rfl, ?_⟩
    have bw := B.below.size
    refine (((B.below.setCell ?_ _).setCell ?_ _).setCell ?_ _).setCell ?_ _
    all_goals (first | omega | (simp; done) | (simp; omega))
  | true =>
    have hv := Lib.hid (show repR s M N = repFrom s M N 0 zeroC by simp [repR, hq])
    rw [hq] at C0
    clear hq
    have C := Lib.hid (fun W (h : Below w.heap.size w W) (d : Crs) (m : Int) => (advance_any A c s d.nx d.rd d.la d.ov m W (hs.later h) hn : Calls Try.prog 11 _ W (Ret (advV s d m) W)))
    clear hs
    go_enter Try.func13, Try.ntmps13
    have B := St.start w
    go_wp2_with fail
    go_step3
    go_wp2_with fail
    generalize hX : World.alloc _ _ = X
    replace B := St.cast hX ((B.alloc _ _).alloc _ _)
    try simp only [World.size_alloc] at B
    clear hX
    refine (C0.out _ B.below).mono ?_
    rintro e' w1 ⟨rfl, h⟩
    replace B := B.later h
    have R := B.rules
    simp only [Rules] at R
    clear h
    go_wp2_with fail
    go_step3
    go_wp2_with fail
    generalize hX : World.alloc _ _ = X1
    replace B := St.cast hX (B.alloc _ _)
    clear hX
    replace B : St w X1 ((fun d => [(w1.heap.size, crsC d, 26), (w.heap.size + 1, #[.int .i64 0, .int .i64 0, .int .i64 0, .bool false], 26), (w.heap.size, #[.slice A s.n c, .int .i64 s.r], 24)]) zeroC) := B
    have o1 : w.heap.size + 1 < w1.heap.size := R.1.2.2
    clear R C0
    go_loopw [22, 8, 9] (RepRel s M N w (fun d => [(w1.heap.size, crsC d, 26), (w.heap.size + 1, #[.int .i64 0, .int .i64 0, .int .i64 0, .bool false], 26), (w.heap.size, #[.slice A s.n c, .int .i64 s.r], 24)])) (fun v _ _ _ => N - (intOf v).toNat)
    case atStart => exact ⟨0, zeroC, by omega, rfl, rfl, rfl, rfl, B⟩
    case round =>
      clear B
      obtain ⟨k, d, hk, rfl, rfl, rfl, hrep, B⟩ := hrel
      have R := B.rules
      simp only [Rules, crsC] at R
      by_cases hlt : k < N
      · obtain ⟨ad, rfl, hblt, c0⟩ := (hm.later B.below) k hlt
        rw [repFrom_step hlt] at hrep
        have Hr := Lib.hid hrep
        clear hrep
        by_cases h0 : readyE s d (M k) = 0
        · have hr := Hr.out
          rw [if_pos h0] at hr
          have hav2 := Lib.hid (adv_out h0 (rfl : nextC s d (M k) = nextC s d (M k)))
          have Hr2 := Lib.hid hr
          clear Hr h0 hr
          generalize nextC s d (M k) = D at *
          go_wp2_with fail
          refine (C.out _ B.below d (M k)).mono ?_
          rw [hav2.out]
          rintro e' w2 ⟨rfl, h⟩
          replace B := B.later h
          replace R := B.rules
          simp only [Rules, crsC] at R
          clear h c0 hblt
          go_upto_region 12 with (fail)
          have l1 : w.heap.size ≤ w1.heap.size := by omega
          have d1 : (w.heap.size + 1 = w1.heap.size) = False := eq_false (by omega)
          have d0 : (w.heap.size = w1.heap.size) = False := eq_false (by omega)
          generalize hX : World.alloc _ _ = Y
          replace B := St.cast hX (((((B.set w1.heap.size 0 (.int .i64 D.nx) l1).set w1.heap.size 1 (.int .i64 D.rd) l1).set w1.heap.size 2 (.int .i64 D.la) l1).set w1.heap.size 3 (.bool D.ov) l1).alloc _ _)
          simp only [crsC, setIn, if_true, if_false, d1, d0, put4_0, put4_1, put4_2, put4_3] at B
          clear hX R d1 d0
          go_wp2
          exact ⟨⟨k + 1, D, by omega, by go_num, rfl, rfl, Hr2.out, ⟨B.below, B.blks.2⟩⟩, by simp [intOf]; omega⟩
        · have hr := Hr.out
          rw [if_neg h0] at hr
          have hres := Lib.hid (hv.out.trans hr.symm)
          have hav2 := Lib.hid (advV_no (s := s) (c := d) (m := M k) rfl h0)
          clear Hr hr
          generalize readyE s d (M k) = e at *
          go_wp2_with fail
          refine (C.out _ B.below d (M k)).mono ?_
          rw [hav2.out]
          rintro e' w2 ⟨rfl, h⟩
          replace B := B.later h
          replace R := B.rules
          simp only [Rules, crsC] at R
          clear h c0 hblt
          go_upto_region 13 with (fail)
          have l1 : w.heap.size ≤ w1.heap.size := by omega
          have d1 : (w.heap.size + 1 = w1.heap.size) = False := eq_false (by omega)
          have d0 : (w.heap.size = w1.heap.size) = False := eq_false (by omega)
          generalize hX : World.alloc _ _ = Y
          replace B := St.cast hX (((((B.set w1.heap.size 0 (.int .i64 0) l1).set w1.heap.size 1 (.int .i64 0) l1).set w1.heap.size 2 (.int .i64 0) l1).set w1.heap.size 3 (.bool false) l1).alloc _ _)
          simp only [crsC, setIn, if_true, if_false, d1, d0, put4_0, put4_1, put4_2, put4_3] at B
          clear hX d1 d0
          replace R := B.rules
          simp only [Rules] at R
          go_wp2
          try rw [Exit.noGoto_ret]
          refine bodyPost_ret (v := .tuple #[.agg #[.int .i64 0, .int .i64 0, .int .i64 0, .bool false], .int .i64 k, .int .i64 e]) (by simp [results, Try.results13, go_sem, *]) rfl ⟨by rw [hres.out]; rfl, ?_⟩
          have bw := B.below.size
          refine (((B.below.setCell ?_ _).setCell ?_ _).setCell ?_ _).setCell ?_ _
          all_goals (first | omega | (simp; done) | (simp; omega))
      · obtain rfl : k = N := by omega
        have hres := Lib.hid (hv.out.trans hrep.symm)
        simp only [Nat.sub_self, repFrom] at hres
        clear hrep
        go_wp2
        try rw [Exit.noGoto_ret]
        refine bodyPost_ret (v := .tuple #[.agg #[.int .i64 d.nx, .int .i64 d.rd, .int .i64 d.la, .bool d.ov], .int .i64 k, .int .i64 0]) (by simp [results, Try.results13, go_sem, *]) rfl ⟨by rw [hres.out]; rfl, ?_⟩
        have bw := B.below.size
        refine (((B.below.setCell ?_ _).setCell ?_ _).setCell ?_ _).setCell ?_ _
        all_goals (first | omega | (simp; done) | (simp; omega))

end Go.Proofs.Ytmplcceoepkppaa
