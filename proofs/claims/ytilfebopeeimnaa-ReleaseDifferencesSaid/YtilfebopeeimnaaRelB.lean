/-
  Lists of tallies: when they are valid. No conditions but those in each statement.
-/
import Derived.Test.YtilfebopeeimnaaRelA
import Derived.IntWalk
namespace Go.Proofs.Ytilfebopeeimnaa
open Go.RowKit

/-- The four cells of a tally at an address. -/
def TalAt (w : World) (p : Addr) (x : Tal) : Prop :=
  p.block < w.heap.size ∧ w.cell? p = some (.int .i64 x.t) ∧ w.cell? ⟨p.block, p.off + 1, none⟩ = some (.int .i64 x.c) ∧ w.cell? ⟨p.block, p.off + 2, none⟩ = some (.int .i64 x.f) ∧ w.cell? ⟨p.block, p.off + 3, none⟩ = some (.int .i64 x.n)
theorem TalAt.later {w w' : World} {p : Addr} {x : Tal} (h : TalAt w p x) (hb : Below w.heap.size w w') : TalAt w' p x := by
  obtain ⟨h0, h1, h2, h3, h4⟩ := h
  have := hb.size
  exact ⟨by omega, by rw [hb.cell h0]; exact h1, by rw [hb.cell (p := ⟨p.block, p.off + 1, none⟩) h0]; exact h2, by rw [hb.cell (p := ⟨p.block, p.off + 2, none⟩) h0]; exact h3, by rw [hb.cell (p := ⟨p.block, p.off + 3, none⟩) h0]; exact h4⟩
/-- Where the tallies of a list lie. -/
def TalsAt (w : World) (A : Option Addr) (n : Nat) (l : Nat → Tal) : Prop := ∀ i, i < n → ∃ ad, A = some ad ∧ TalAt w (ad.add (i * 4)) (l i)
theorem TalsAt.later {w w' : World} {A : Option Addr} {n : Nat} {l : Nat → Tal} (h : TalsAt w A n l) (hb : Below w.heap.size w w') : TalsAt w' A n l := by
  intro i hi
  obtain ⟨ad, rfl, h1⟩ := h i hi
  exact ⟨ad, rfl, h1.later hb⟩

theorem okT_le {l : Nat → Tal} {k n : Nat} (h : okT l n = true) (hk : k ≤ n) : okT l k = true := by
  induction n with
  | zero =>
    have : k = 0 := by omega
    rw [this]; exact h
  | succ m ih =>
    by_cases e : k = m + 1
    · rw [e]; exact h
    · simp only [okT, Bool.and_eq_true] at h
      exact ih h.1.1.1.1 (by omega)
theorem talB_bad {l : Nat → Tal} {k n : Nat} (hk : k < n) (h : okT l (k + 1) = false) : talB l n = false := by
  cases e : talB l n with
  | false => rfl
  | true =>
    simp only [talB, Bool.and_eq_true] at e
    rw [okT_le e.1 hk] at h
    cases h

def TalRel (l : Nat → Tal) (n : Nat) (w : World) (v7 : Value) (wr : World) : Prop := ∃ k : Nat, k ≤ n ∧ v7 = .int .i64 k ∧ okT l k = true ∧ Below w.heap.size w wr

set_option maxRecDepth 100000 in
set_option maxHeartbeats 4000000 in
theorem tallies_any (A : Option Addr) (n c : Nat) (l : Nat → Tal) (w : World) (hs : TalsAt w A n l) (hn : n ≤ maxLen) :
    Calls Try.prog 15 #[.slice A n c] w (Ret (.bool (talB l n)) w) := by
  unfold maxLen at hn
  go_enter Try.func15, Try.ntmps15
  go_wp2_with fail
  go_loopw [7] (TalRel l n w) (fun v _ => n - (intOf v).toNat)
  case atStart => exact ⟨0, by omega, rfl, rfl, Below.refl _ _⟩
  case round =>
    obtain ⟨k, hk, rfl, hok, hbel⟩ := hrel
    by_cases hlt : k < n
    rotate_left
    · obtain rfl : k = n := by omega
      have Hq := Lib.hid (show talB l k = decide ((k : Int) ≤ 1000) from by
        simp only [talB, hok, Bool.true_and]
        rw [Bool.eq_iff_iff]
        simp only [decide_eq_true_eq]
        omega)
      clear hok
      go_wp2
      go_ret
      exact ⟨by rw [Hq.out]; rfl, hbel⟩
    have Hbad := Lib.hid (fun h => talB_bad (l := l) hlt h)
    have Hgood : (okT l (k + 1)) = (exB (l k) && decide (1 ≤ (l k).n) && decide ((l k).n ≤ 1000) && (k == 0 || decide (cmpP (l (k - 1)) (l k) < 0))) := by
      simp only [okT, hok, Bool.true_and]
    have HG := Lib.hid Hgood
    have HK := Lib.hid hok
    clear Hgood hok
    obtain ⟨ad, rfl, hblt, c0, c1, c2, c3⟩ := (hs.later hbel) k hlt
    have hj2 : 0 < k → k - 1 < n := fun h => by omega
    have HP := Lib.hid (fun h : 0 < k => (hs.later hbel) (k - 1) (hj2 h))
    have hlt' : (k : Int) < n := by omega
    have HE := Lib.hid (fun h : 0 < k => (okT_at HK.out (k := k - 1) (by omega)).1)
    generalize hx : l k = x at c0 c1 c2 c3 HG
    clear hx
    obtain ⟨t, cc, f, m⟩ := x
    dsimp only at c0 c1 c2 c3
    cases e1 : exB ⟨t, cc, f, m⟩ with
    | false =>
      have Hq := Lib.hid (Hbad.out (by rw [HG.out, e1]; rfl))
      have C24 := Lib.hid (fun W => e1 ▸ exists_any t cc f m W)
      clear HG hs
      go_wp2_with fail
      generalize hX : World.alloc _ _ = X
      have B := St.cast hX ((St.start wr).alloc _ _)
      clear hX
      replace c0 := c0
      have R := B.rules
      simp only [Rules] at R
      refine wp_region_later (by kernel_rfl) (by kernel_rfl) ?_
      repeat (go_big_quiet_step (first | (go_at_call 23; exact Later.call (at_any _ _ _ _ _)) | (go_at_call 24; exact Later.call (C24.out _))))
      refine wpQuiet_nil ?_
      rintro _ ⟨⟨wq, hq⟩, rfl⟩
      replace B := B.later hq
      go_wp2
      go_ret
      exact ⟨by rw [Hq.out]; rfl, below_step hbel (Nat.le_refl _) B.below⟩
    | true =>
      have C24 := Lib.hid (fun W => e1 ▸ exists_any t cc f m W)
      by_cases e2 : m < 1
      · have Hq := Lib.hid (Hbad.out (by rw [HG.out]; simp; omega))
        clear HG hs
        go_wp2_with fail
        generalize hX : World.alloc _ _ = X
        have B := St.cast hX ((St.start wr).alloc _ _)
        clear hX
        replace c0 := c0
        have R := B.rules
        simp only [Rules] at R
        refine wp_region_later (by kernel_rfl) (by kernel_rfl) ?_
        repeat (go_big_quiet_step (first | (go_at_call 23; exact Later.call (at_any _ _ _ _ _)) | (go_at_call 24; exact Later.call (C24.out _))))
        refine wpQuiet_nil ?_
        rintro _ ⟨⟨wq, hq⟩, rfl⟩
        replace B := B.later hq
        go_wp2
        go_ret
        exact ⟨by rw [Hq.out]; rfl, below_step hbel (Nat.le_refl _) B.below⟩
      have e2d : decide (m < 1) = false := by simpa using e2
      by_cases e3 : 1000 < m
      · have Hq := Lib.hid (Hbad.out (by rw [HG.out]; simp; omega))
        clear HG hs
        go_wp2_with fail
        generalize hX : World.alloc _ _ = X
        have B := St.cast hX ((St.start wr).alloc _ _)
        clear hX
        replace c0 := c0
        have R := B.rules
        simp only [Rules] at R
        refine wp_region_later (by kernel_rfl) (by kernel_rfl) ?_
        repeat (go_big_quiet_step (first | (go_at_call 23; exact Later.call (at_any _ _ _ _ _)) | (go_at_call 24; exact Later.call (C24.out _))))
        refine wpQuiet_nil ?_
        rintro _ ⟨⟨wq, hq⟩, rfl⟩
        replace B := B.later hq
        go_wp2
        go_ret
        exact ⟨by rw [Hq.out]; rfl, below_step hbel (Nat.le_refl _) B.below⟩
      have e3d : decide (1000 < m) = false := by simpa using e3
      by_cases e4 : 0 < k
      rotate_left
      · have e4' : ¬ (0 : Int) < k := by omega
        have Hn := Lib.hid (show okT l (k + 1) = true from by rw [HG.out, e1]; have hk0 : k = 0 := (by omega); subst hk0; simp; omega)
        have e4d : decide ((0 : Int) < k) = false := by simpa using e4'
        have e4n : decide (0 < k) = false := by simpa using e4
        clear HG hs e4
        go_wp2_with fail
        generalize hX : World.alloc _ _ = X
        have B := St.cast hX ((St.start wr).alloc _ _)
        clear hX
        replace c0 := c0
        have R := B.rules
        simp only [Rules] at R
        refine wp_region_later (by kernel_rfl) (by kernel_rfl) ?_
        repeat (go_big_quiet_step (first | (go_at_call 23; exact Later.call (at_any _ _ _ _ _)) | (go_at_call 24; exact Later.call (C24.out _))))
        refine wpQuiet_nil ?_
        rintro _ ⟨⟨wq, hq⟩, rfl⟩
        replace B := B.later hq
        go_wp2
        exact ⟨⟨k + 1, by omega, by go_num, Hn.out, below_step hbel (Nat.le_refl _) B.below⟩, by simp [intOf]; omega⟩
      have e4' : (0 : Int) < k := by omega
      have e4n : decide (0 < k) = true := by simpa using e4
      have hjn := hj2 e4
      obtain ⟨ad2, hae, hT⟩ := HP.out e4
      obtain rfl : ad = ad2 := by injection hae
      have h1 := HE.out e4
      have HG2 := Lib.hid (show okT l (k + 1) = (decide (1 ≤ m) && decide (m ≤ 1000) && decide (cmpP (l (k - 1)) ⟨t, cc, f, m⟩ < 0)) from by
        rw [HG.out, e1]
        have : (k == 0) = false := by simp; omega
        simp [this])
      generalize l (k - 1) = y at hT h1 HG2
      obtain ⟨t', cc', f', m'⟩ := y
      have HT := Lib.hid hT
      clear hT
      have C25 := Lib.hid (fun W => compare_any t' cc' f' m' t cc f m W h1 e1)
      generalize cmpP ⟨t', cc', f', m'⟩ ⟨t, cc, f, m⟩ = r at C25 HG2
      clear HP HE hj2 hae hs HG h1 e4
      have hj0 : (0 : Int) ≤ (k : Int) - 1 := by omega
      have hjn' : (k : Int) - 1 < n := by omega
      by_cases e5 : r < 0
      · have e5' : ¬ (0 : Int) ≤ r := by omega
        have e5d : decide ((0 : Int) ≤ r) = false := by simpa using e5'
        have Hn := Lib.hid (show okT l (k + 1) = true from by rw [HG2.out]; simp; omega)
        go_wp2_with fail
        generalize hX : World.alloc _ _ = X
        have B := St.cast hX ((St.start wr).alloc _ _)
        clear hX
        replace c0 := c0
        have R := B.rules
        simp only [Rules] at R
        obtain ⟨hb2, g0, g1, g2, g3⟩ := HT.out.later B.below
        dsimp only at g0 g1 g2 g3
        refine wp_region_later (by kernel_rfl) (by kernel_rfl) ?_
        repeat (go_big_quiet_step (first | (go_at_call 23; exact Later.call (at_any _ _ _ _ _)) | (go_at_call 24; exact Later.call (C24.out _)) | (go_at_call 25; exact Later.call (C25.out _))))
        refine wpQuiet_nil ?_
        rintro _ ⟨⟨wq, hq⟩, rfl⟩
        replace B := B.later hq
        go_wp2
        exact ⟨⟨k + 1, by omega, by go_num, Hn.out, below_step hbel (Nat.le_refl _) B.below⟩, by simp [intOf]; omega⟩
      · have e5' : (0 : Int) ≤ r := by omega
        have Hq := Lib.hid (Hbad.out (by rw [HG2.out]; simp; omega))
        go_wp2_with fail
        generalize hX : World.alloc _ _ = X
        have B := St.cast hX ((St.start wr).alloc _ _)
        clear hX
        replace c0 := c0
        have R := B.rules
        simp only [Rules] at R
        obtain ⟨hb2, g0, g1, g2, g3⟩ := HT.out.later B.below
        dsimp only at g0 g1 g2 g3
        refine wp_region_later (by kernel_rfl) (by kernel_rfl) ?_
        repeat (go_big_quiet_step (first | (go_at_call 23; exact Later.call (at_any _ _ _ _ _)) | (go_at_call 24; exact Later.call (C24.out _)) | (go_at_call 25; exact Later.call (C25.out _))))
        refine wpQuiet_nil ?_
        rintro _ ⟨⟨wq, hq⟩, rfl⟩
        replace B := B.later hq
        go_wp2
        go_ret
        exact ⟨by rw [Hq.out]; rfl, below_step hbel (Nat.le_refl _) B.below⟩

end Go.Proofs.Ytilfebopeeimnaa
