/-
  The elements of a list that meet a condition: both packages' filters. No conditions but those in each statement.
-/
import Derived.Test.YtilfebopeeimnaaRelB
import Derived.Laws.OwnMore
import Derived.Deep.AppendLies
import Derived.OwnWalk
namespace Go.Proofs.Ytilfebopeeimnaa
open Go.RowKit

def tcells (x : Tal) : List Value := [.int .i64 x.t, .int .i64 x.c, .int .i64 x.f, .int .i64 x.n]
def filt (l : Nat → Tal) (p : Nat → Bool) (k : Nat) : List Tal := ((List.range k).filter p).map l
theorem filt_succ (l : Nat → Tal) (p : Nat → Bool) (k : Nat) : filt l p (k + 1) = filt l p k ++ (if p k then [l k] else []) := by
  simp only [filt, List.range_succ, List.filter_append, List.map_append]
  congr 1
  cases h : p k <;> simp [h]
theorem filt_len (l : Nat → Tal) (p : Nat → Bool) (k : Nat) : (filt l p k).length ≤ k := by
  have := List.length_filter_le p (List.range k)
  simpa [filt] using this
theorem own_later {w w' : World} {base n size : Nat} {e : TypeId} {v : Value} {xs : List Value} (h : w.ownsRow base e size v n xs) (hb : Below w.heap.size w w') : w'.ownsRow base e size v n xs := by
  refine ⟨h.1, ?_⟩
  rcases h.2 with h2 | ⟨g, cap, cur, h1, h2, h3, h4⟩
  · exact .inl h2
  · exact .inr ⟨g, cap, cur, h1, h2, blk_later h3 hb, h4⟩
theorem tal_info : (Try.prog.info? 29).map (fun i => (i.zero, i.size, i.bytes)) = some (some (.agg #[.int .i64 0, .int .i64 0, .int .i64 0, .int .i64 0]), 4, 32) := by kernel_rfl
theorem four_cells (w : World) (a b c d : Value) (t : TypeId) : ∀ j u, [a, b, c, d][j]? = some u → (w.alloc (.cells #[a, b, c, d] t)).cell? ((⟨w.heap.size, 0, none⟩ : Addr).add j) = some u := by
  intro j u hu
  have hj : j < 4 := by
    rcases Nat.lt_or_ge j 4 with h | h
    · exact h
    · rw [List.getElem?_eq_none (by simpa using h)] at hu; cases hu
  have e : (⟨w.heap.size, 0, none⟩ : Addr).add j = ⟨w.heap.size, j, none⟩ := by unfold Addr.add; split <;> simp_all
  rw [e]
  refine cell_blk (blk_new w _) j u ?_
  simpa using hu

def OnlyRel (l : Nat → Tal) (p : Nat → Bool) (n : Nat) (w : World) (v5 v10 : Value) (wr : World) : Prop :=
  ∃ k : Nat, k ≤ n ∧ v10 = .int .i64 k ∧ wr.ownsRow w.heap.size 29 4 v5 (filt l p k).length ((filt l p k).flatMap tcells) ∧ Below w.heap.size w wr

set_option maxHeartbeats 400000 in
theorem conf1_any (t c f n need : Int) (z : Nat) (w : World) (hz : w.heap[z]? = some (.cells #[.int .i64 need] 3 (0, 0))) :
    Calls Try.prog 17 #[.agg #[.int .i64 t, .int .i64 c, .int .i64 f, .int .i64 n], .pointer (some ⟨z, 0, none⟩)] w (Ret (.bool (decide (need ≤ n))) w) := by
  have B : St w w [(z, #[.int .i64 need], 3)] := ⟨Below.refl _ _, hz, trivial⟩
  have R := B.rules
  simp only [Rules] at R
  go_enter Try.func17, Try.ntmps17
  go_wp2
  go_ret
  exact ⟨rfl, by go_grown⟩

set_option maxRecDepth 100000 in
set_option maxHeartbeats 2000000 in
theorem only16_any (A : Option Addr) (n c : Nat) (l : Nat → Tal) (p : Nat → Bool) (z : Nat) (w : World) (hs : TalsAt w A n l) (hn : n ≤ 1000)
    (hF : ∀ (W : World) (i : Nat), Below w.heap.size w W → i < n → Calls Try.prog 17 #[.agg #[.int .i64 (l i).t, .int .i64 (l i).c, .int .i64 (l i).f, .int .i64 (l i).n], .pointer (some ⟨z, 0, none⟩)] W (Ret (.bool (p i)) W)) :
    Calls Try.prog 16 #[.slice A n c, .func (.func 17) #[] #[.pointer (some ⟨z, 0, none⟩)]] w fun e w' => ∃ v, e = .returned v ∧ w'.ownsRow w.heap.size 29 4 v (filt l p n).length ((filt l p n).flatMap tcells) ∧ Below w.heap.size w w' := by
  have C := Lib.hid hF
  clear hF
  obtain ⟨i0, hi0, hz0, hz1, hz2⟩ := info_parts tal_info
  go_enter Try.func16, Try.ntmps16
  go_wp2_with fail
  go_loopw [5, 10] (OnlyRel l p n w) (fun _ v _ => n - (intOf v).toNat)
  case atStart => exact ⟨0, by omega, rfl, World.ownsRow_nil _ _ _ _, Below.refl _ _⟩
  case round =>
    obtain ⟨k, hk, rfl, hown, hbel⟩ := hrel
    by_cases hlt : k < n
    rotate_left
    · obtain rfl : k = n := by omega
      have HO := Lib.hid hown
      clear hown
      go_wp2
      go_ret
      exact ⟨_, rfl, HO.out, hbel⟩
    obtain ⟨ad, rfl, hblt, c0, c1, c2, c3⟩ := (hs.later hbel) k hlt
    have hlt' : (k : Int) < n := by omega
    have HO := Lib.hid hown
    have HL := Lib.hid (filt_len l p k)
    clear hown
    have C1 := Lib.hid (fun W h => C.out W k h hlt)
    have HS := Lib.hid (filt_succ l p k)
    generalize l k = y at c0 c1 c2 c3 C1 HS
    obtain ⟨t, cc, f, m⟩ := y
    dsimp only at c0 c1 c2 c3 C1
    go_wp2_with fail
    generalize hX : World.alloc _ _ = X
    have hb2 : Below wr.heap.size wr X := by rw [← hX]; exact (Below.refl _ _).alloc (Nat.le_refl _) _
    have B := St.cast hX ((St.start wr).alloc _ _)
    clear hX
    refine (C1.out _ (below_step hbel (Nat.le_refl _) hb2)).mono ?_
    rintro e' w1 ⟨rfl, h⟩
    have HO1 := Lib.hid (own_later HO.out (below_step hb2 (Nat.le_refl _) h))
    replace B := B.later h
    have R := B.rules
    simp only [Rules] at R
    have hbw := below_step hbel (Nat.le_refl _) B.below
    clear h hb2 c0 c1 c2 c3 hblt HO
    cases hp : p k with
    | false =>
      rw [hp] at HS
      go_wp2
      exact ⟨⟨k + 1, by omega, by go_num, by rw [HS.out]; simpa using HO1.out, hbw⟩, by simp [intOf]; omega⟩
    | true =>
      rw [hp] at HS
      have hlen := HL.out
      go_wp2_with (at_builtin; refine wpList_append_own _ rfl _ _ 22 rfl w.heap.size 29 i0 _ 4 32 Try.underlying22 hi0 hz0 hz1 hz2 rfl (by decide) _ _ _ rfl (HO1.out.alloc _) ⟨w1.heap.size, 0, none⟩ 1 1 [.int .i64 t, .int .i64 cc, .int .i64 f, .int .i64 m] rfl rfl (four_cells _ _ _ _ _ _) (by intro u hu; simp at hu; rcases hu with rfl | rfl | rfl | rfl <;> rfl) (by simp only [maxLen]; omega) (by omega) (by have := hbw.size; simp; omega) ?_; intro v' w2 hown' hgrow _; clear B R)
      have hb3 : Below w.heap.size w w2 := (hbw.alloc hbw.size _).grown hgrow (by have := hbw.size; simp; omega) (fun g hg => ((HO1.out).lt g hg).1)
      clear hgrow
      have HN := Lib.hid hown'
      clear hown'
      go_wp2
      exact ⟨⟨k + 1, by omega, by go_num, by rw [HS.out]; simpa [tcells, List.flatMap_append] using HN.out, hb3⟩, by simp [intOf]; omega⟩

set_option maxRecDepth 100000 in
set_option maxHeartbeats 2000000 in
theorem only19_any (A : Option Addr) (n c : Nat) (l : Nat → Tal) (p : Nat → Bool) (z : Nat) (w : World) (hs : TalsAt w A n l) (hn : n ≤ 1000)
    (hF : ∀ (W : World) (i : Nat), Below w.heap.size w W → i < n → Calls Try.prog 20 #[.agg #[.int .i64 (l i).t, .int .i64 (l i).c, .int .i64 (l i).f, .int .i64 (l i).n], .pointer (some ⟨z, 0, none⟩)] W (Ret (.bool (p i)) W)) :
    Calls Try.prog 19 #[.slice A n c, .func (.func 20) #[] #[.pointer (some ⟨z, 0, none⟩)]] w fun e w' => ∃ v, e = .returned v ∧ w'.ownsRow w.heap.size 29 4 v (filt l p n).length ((filt l p n).flatMap tcells) ∧ Below w.heap.size w w' := by
  have C := Lib.hid hF
  clear hF
  obtain ⟨i0, hi0, hz0, hz1, hz2⟩ := info_parts tal_info
  go_enter Try.func19, Try.ntmps19
  go_wp2_with fail
  go_loopw [5, 10] (OnlyRel l p n w) (fun _ v _ => n - (intOf v).toNat)
  case atStart => exact ⟨0, by omega, rfl, World.ownsRow_nil _ _ _ _, Below.refl _ _⟩
  case round =>
    obtain ⟨k, hk, rfl, hown, hbel⟩ := hrel
    by_cases hlt : k < n
    rotate_left
    · obtain rfl : k = n := by omega
      have HO := Lib.hid hown
      clear hown
      go_wp2
      go_ret
      exact ⟨_, rfl, HO.out, hbel⟩
    obtain ⟨ad, rfl, hblt, c0, c1, c2, c3⟩ := (hs.later hbel) k hlt
    have hlt' : (k : Int) < n := by omega
    have HO := Lib.hid hown
    have HL := Lib.hid (filt_len l p k)
    clear hown
    have C1 := Lib.hid (fun W h => C.out W k h hlt)
    have HS := Lib.hid (filt_succ l p k)
    generalize l k = y at c0 c1 c2 c3 C1 HS
    obtain ⟨t, cc, f, m⟩ := y
    dsimp only at c0 c1 c2 c3 C1
    go_wp2_with fail
    generalize hX : World.alloc _ _ = X
    have hb2 : Below wr.heap.size wr X := by rw [← hX]; exact (Below.refl _ _).alloc (Nat.le_refl _) _
    have B := St.cast hX ((St.start wr).alloc _ _)
    clear hX
    refine (C1.out _ (below_step hbel (Nat.le_refl _) hb2)).mono ?_
    rintro e' w1 ⟨rfl, h⟩
    have HO1 := Lib.hid (own_later HO.out (below_step hb2 (Nat.le_refl _) h))
    replace B := B.later h
    have R := B.rules
    simp only [Rules] at R
    have hbw := below_step hbel (Nat.le_refl _) B.below
    clear h hb2 c0 c1 c2 c3 hblt HO
    cases hp : p k with
    | false =>
      rw [hp] at HS
      go_wp2
      exact ⟨⟨k + 1, by omega, by go_num, by rw [HS.out]; simpa using HO1.out, hbw⟩, by simp [intOf]; omega⟩
    | true =>
      rw [hp] at HS
      have hlen := HL.out
      go_wp2_with (at_builtin; refine wpList_append_own _ rfl _ _ 22 rfl w.heap.size 29 i0 _ 4 32 Try.underlying22 hi0 hz0 hz1 hz2 rfl (by decide) _ _ _ rfl (HO1.out.alloc _) ⟨w1.heap.size, 0, none⟩ 1 1 [.int .i64 t, .int .i64 cc, .int .i64 f, .int .i64 m] rfl rfl (four_cells _ _ _ _ _ _) (by intro u hu; simp at hu; rcases hu with rfl | rfl | rfl | rfl <;> rfl) (by simp only [maxLen]; omega) (by omega) (by have := hbw.size; simp; omega) ?_; intro v' w2 hown' hgrow _; clear B R)
      have hb3 : Below w.heap.size w w2 := (hbw.alloc hbw.size _).grown hgrow (by have := hbw.size; simp; omega) (fun g hg => ((HO1.out).lt g hg).1)
      clear hgrow
      have HN := Lib.hid hown'
      clear hown'
      go_wp2
      exact ⟨⟨k + 1, by omega, by go_num, by rw [HS.out]; simpa [tcells, List.flatMap_append] using HN.out, hb3⟩, by simp [intOf]; omega⟩

end Go.Proofs.Ytilfebopeeimnaa
