/-
  The elements of a list whose places another list does not have. No conditions but those in each statement.
-/
import Derived.Test.YtilfebopeeimnaaRelE
import Derived.Carry
import Derived.Test.YtilfebopeeimnaaTail
namespace Go.Proofs.Ytilfebopeeimnaa
open Go.RowKit Go.Maps

theorem St.skip {w W : World} {L : List (Nat × Array Value × TypeId)} (h : St w W L) (o : Obj) : St w (W.alloc o) L :=
  ⟨h.below.alloc h.below.size _, h.blks.keep fun _ _ hb => blk_old hb _⟩
set_option maxHeartbeats 1000000 in
theorem lacks_any (t c f n : Int) (z b : Nat) (v : Bool) (w : World) (hz : w.heap[z]? = some (.cells #[.map (some b)] 62 (0, 0)))
    (hl : ∀ W, Below w.heap.size w W → (Instr.lookup 62 (.map (some b)) (.agg #[.int .i64 t, .int .i64 c, .int .i64 f]) false).run Try.prog W = .ok (.bool v) W) :
    Calls Try.prog 20 #[.agg #[.int .i64 t, .int .i64 c, .int .i64 f, .int .i64 n], .pointer (some ⟨z, 0, none⟩)] w (Ret (.bool (!v)) w) := by
  have B : St w w [(z, #[.map (some b)], 62)] := ⟨Below.refl _ _, hz, trivial⟩
  have H := Lib.hid hl
  clear hl
  go_enter Try.func20, Try.ntmps20
  go_wp2_with fail
  generalize hX : World.alloc _ _ = X
  replace B := St.cast hX (B.alloc _ _)
  clear hX
  have R := B.rules
  simp only [Rules] at R
  have HL : ∀ x : Later X, (Instr.lookup 62 (.map (some b)) (.agg #[.int .i64 t, .int .i64 c, .int .i64 f]) false).run Try.prog x.u = .ok (.bool v) x.u := fun x => H.out _ (below_step B.below (Nat.le_refl _) x.ok)
  refine wp_region_later (by kernel_rfl) (by kernel_rfl) ?_
  repeat (go_big_quiet_step (first | (go_at_call 18; exact Later.call (rplace_any _ _ _ _ _))))
  refine wpQuiet_nil ?_
  rintro _ ⟨⟨wq, hq⟩, rfl⟩
  replace B := B.later hq
  go_wp2
  go_ret
  exact ⟨by first | rfl | simp, B.below⟩

theorem own_base {w : World} {base base' n size : Nat} {e : TypeId} {v : Value} {xs : List Value} (h : w.ownsRow base e size v n xs) (hb : base' ≤ base) : w.ownsRow base' e size v n xs := by
  refine ⟨h.1, ?_⟩
  rcases h.2 with h2 | ⟨g, cap, cur, h1, h2, h3⟩
  · exact .inl h2
  · exact .inr ⟨g, cap, cur, h1, Nat.le_trans hb h2, h3⟩
def MissRel (K : Tal → Lit) (o : Nat → Tal) (m : Nat) (w : World) (bm z : Nat) (v11 : Value) (wr : World) : Prop :=
  ∃ k : Nat, k ≤ m ∧ v11 = .int .i64 k ∧ Places wr bm k (DofK K o k) ∧ St w wr [(z, #[.map (some bm)], 62)]

set_option maxRecDepth 100000 in
set_option maxHeartbeats 2000000 in
theorem missing_any (A : Option Addr) (n c : Nat) (l : Nat → Tal) (B0 : Option Addr) (m d : Nat) (o : Nat → Tal) (w : World) (ha : TalsAt w A n l) (hb : TalsAt w B0 m o) (hn : n ≤ 1000) (hm : m ≤ 1000)
    (hl : ∀ i, i < n → exB (l i) = true) (ho : ∀ i, i < m → exB (o i) = true) :
    Calls Try.prog 12 #[.slice A n c, .slice B0 m d] w fun e w' => ∃ v, e = .returned v ∧ w'.ownsRow w.heap.size 29 4 v (filt l (fun i => !hasP o m (l i)) n).length ((filt l (fun i => !hasP o m (l i)) n).flatMap tcells) ∧ Below w.heap.size w w' := by
  obtain ⟨K, k1, k2, k3⟩ := keys_of
  have HK1 := Lib.hid k1
  have HAT := Lib.hid (fun x (hx : exB x = true) k h => atKey_of (K := K) (l := o) k1 k2 k3 hx (k := k) h)
  have HL := Lib.hid hl
  have HO := Lib.hid ho
  clear k1 k2 k3 hl ho
  have hmm := @run_makeMap Try.prog
  go_enter Try.func12, Try.ntmps12
  have B := St.start w
  go_wp2_with fail
  have hp0 : Places (w.alloc (.map #[] 0)) w.heap.size 0 (DofK K o 0) := World.ownsMap_made w Try.prog 63 _
  generalize hX : World.alloc (World.alloc _ _) _ = X
  have hp : Places X w.heap.size 0 (DofK K o 0) := by rw [← hX]; exact World.ownsMap.alloc hp0 _
  replace B := St.cast hX ((St.skip B _).alloc _ _)
  try simp only [World.size_alloc] at B
  clear hX hp0 hmm
  go_loopw [11] (MissRel K o m w w.heap.size (w.heap.size + 1)) (fun v _ => m - (intOf v).toNat)
  case atStart => exact ⟨0, by omega, rfl, hp, B⟩
  case round =>
    clear B hp
    obtain ⟨k, hk, rfl, hp, B⟩ := hrel
    have R := B.rules
    simp only [Rules] at R
    by_cases hlt : k < m
    · obtain ⟨ad, rfl, hblt, c0, c1, c2, c3⟩ := (hb.later B.below) k hlt
      have hlt' : (k : Int) < m := by omega
      have HP := Lib.hid hp
      have HKey := Lib.hid (HK1.out (o k) (HO.out k hlt))
      have HD := Lib.hid (show DofK K o (k + 1) = (DofK K o k).put (K (o k)) (.lit (.bool true)) from rfl)
      clear hp
      generalize o k = y at c0 c1 c2 c3 HKey HD
      obtain ⟨t, cc, f, q⟩ := y
      dsimp only at c0 c1 c2 c3
      go_wp2_with fail
      generalize hX : World.alloc _ _ = Y
      have hp2 : Places Y w.heap.size k (DofK K o k) := by rw [← hX]; exact World.ownsMap.alloc HP.out _
      have z0 := R.1.2.2
      replace B := St.cast hX (B.alloc _ _)
      clear hX c0 c1 c2 c3 hblt
      replace R := B.rules
      simp only [Rules] at R
      refine wp_region_later_tail 3 (by kernel_rfl) (by kernel_rfl) ?_
      simp only [List.take_succ_cons, List.take_zero, List.drop_succ_cons, List.drop_zero]
      repeat (go_big_quiet_step (first | (go_at_call 18; exact Later.call (rplace_any _ _ _ _ _))))
      refine wpQuiet_nil ?_
      rintro _ ⟨⟨wq, hq⟩, rfl⟩
      have HP3 := Lib.hid (hp2.later hq)
      replace B := B.later hq
      clear R hp2 hq HP
      go_wp2_with (at_mapUpdate; refine wpList_mapUpdate_own _ rfl _ _ _ 62 rfl 63 4 keyed63 Try.underlying62 _ w.heap.size k _ rfl HP3.out (by unfold maxLen; omega) _ _ _ rfl rfl HKey.out _ [] (plainElem_bool Try.underlying4 true) ?_; intro w4 hown hg)
      have hz := (hg.block (w.heap.size + 1) (lt_of_block B.blks.2.1) (by simp)).trans B.blks.2.1
      have hb4 := B.below.grown hg B.below.size (fun g hgg => by cases hgg; exact Nat.le_refl _)
      have HN := Lib.hid hown
      clear hown hg
      go_wp2
      exact ⟨⟨k + 1, by omega, by go_num, by rw [HD.out]; exact HN.out, hb4, hz, trivial⟩, by simp [intOf]; omega⟩
    · obtain rfl : k = m := by omega
      have HP := Lib.hid hp
      clear hp
      go_wp2_with fail
      refine (only19_any A n c l (fun i => !hasP o k (l i)) (w.heap.size + 1) wr (ha.later B.below) hn (fun W i hW hi => ?_)).mono ?_
      · refine lacks_any _ _ _ _ _ w.heap.size (hasP o k (l i)) W (blk_later B.blks.1 hW) (fun W2 hW2 => ?_)
        have hx := HL.out i hi
        obtain ⟨x, hrun, hat⟩ := ((HP.out.later hW).later hW2).look (HK1.out (l i) hx)
        have h2 := HAT.out (l i) hx k (fun j hj => HO.out j hj)
        rw [h2] at hat
        obtain rfl : hasP o k (l i) = x := by injection hat with h3; injection h3
        exact hrun
      · rintro e' w5 ⟨v, rfl, hown, h⟩
        have HN := Lib.hid (own_base hown B.below.size)
        have hb5 := below_step B.below (Nat.le_refl _) h
        clear hown h
        go_wp2
        go_ret
        exact ⟨v, rfl, HN.out, hb5⟩

end Go.Proofs.Ytilfebopeeimnaa
