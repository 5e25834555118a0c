/-
  Debts and payments: when they are valid. No conditions but those in each statement.
-/
import Derived.Test.YtilfebopeeimnaaRelA
import Derived.IntWalk
namespace Go.Proofs.Ytilfebopeeimnaa
open Go.RowKit

/-- The cells of a debt, of a payment at an address. -/
def DbtAt (w : World) (p : Addr) (x : Dbt) : Prop :=
  p.block < w.heap.size ∧ w.cell? p = some (.int .i64 x.k) ∧ w.cell? ⟨p.block, p.off + 1, none⟩ = some (.int .i64 x.t) ∧ w.cell? ⟨p.block, p.off + 2, none⟩ = some (.int .i64 x.f) ∧ w.cell? ⟨p.block, p.off + 3, none⟩ = some (.int .i64 x.lo) ∧ w.cell? ⟨p.block, p.off + 4, none⟩ = some (.int .i64 x.hi) ∧ w.cell? ⟨p.block, p.off + 5, none⟩ = some (.int .i64 x.p)
theorem DbtAt.later {w w' : World} {p : Addr} {x : Dbt} (h : DbtAt w p x) (hb : Below w.heap.size w w') : DbtAt w' p x := by
  obtain ⟨h0, h1, h2, h3, h4, h5, h6⟩ := h
  have := hb.size
  exact ⟨by omega, by rw [hb.cell h0]; exact h1, by rw [hb.cell (p := ⟨p.block, p.off + 1, none⟩) h0]; exact h2, by rw [hb.cell (p := ⟨p.block, p.off + 2, none⟩) h0]; exact h3, by rw [hb.cell (p := ⟨p.block, p.off + 3, none⟩) h0]; exact h4, by rw [hb.cell (p := ⟨p.block, p.off + 4, none⟩) h0]; exact h5, by rw [hb.cell (p := ⟨p.block, p.off + 5, none⟩) h0]; exact h6⟩
def DbtsAt (w : World) (A : Option Addr) (n : Nat) (D : Nat → Dbt) : Prop := ∀ i, i < n → ∃ ad, A = some ad ∧ DbtAt w (ad.add (i * 6)) (D i)
theorem DbtsAt.later {w w' : World} {A : Option Addr} {n : Nat} {D : Nat → Dbt} (h : DbtsAt w A n D) (hb : Below w.heap.size w w') : DbtsAt w' A n D := by
  intro i hi
  obtain ⟨ad, rfl, h1⟩ := h i hi
  exact ⟨ad, rfl, h1.later hb⟩
def PayAt (w : World) (p : Addr) (x : Pay) : Prop :=
  p.block < w.heap.size ∧ w.cell? p = some (.int .i64 x.k) ∧ w.cell? ⟨p.block, p.off + 1, none⟩ = some (.int .i64 x.t) ∧ w.cell? ⟨p.block, p.off + 2, none⟩ = some (.int .i64 x.f) ∧ w.cell? ⟨p.block, p.off + 3, none⟩ = some (.int .i64 x.a)
theorem PayAt.later {w w' : World} {p : Addr} {x : Pay} (h : PayAt w p x) (hb : Below w.heap.size w w') : PayAt w' p x := by
  obtain ⟨h0, h1, h2, h3, h4⟩ := h
  have := hb.size
  exact ⟨by omega, by rw [hb.cell h0]; exact h1, by rw [hb.cell (p := ⟨p.block, p.off + 1, none⟩) h0]; exact h2, by rw [hb.cell (p := ⟨p.block, p.off + 2, none⟩) h0]; exact h3, by rw [hb.cell (p := ⟨p.block, p.off + 3, none⟩) h0]; exact h4⟩
def PaysAt (w : World) (A : Option Addr) (n : Nat) (P : Nat → Pay) : Prop := ∀ i, i < n → ∃ ad, A = some ad ∧ PayAt w (ad.add (i * 4)) (P i)
theorem PaysAt.later {w w' : World} {A : Option Addr} {n : Nat} {P : Nat → Pay} (h : PaysAt w A n P) (hb : Below w.heap.size w w') : PaysAt w' A n P := by
  intro i hi
  obtain ⟨ad, rfl, h1⟩ := h i hi
  exact ⟨ad, rfl, h1.later hb⟩

theorem allTo_bad {f : Nat → Bool} {n k : Nat} (hk : k < n) (h : f k = false) : allTo f n = false := by
  cases e : allTo f n with
  | false => rfl
  | true => rw [allTo_iff.1 e k hk] at h; cases h
def VRel (f : Nat → Bool) (n : Nat) (w : World) (v : Value) (wr : World) : Prop := ∃ k : Nat, k ≤ n ∧ v = .int .i64 k ∧ allTo f k = true ∧ Below w.heap.size w wr

set_option maxRecDepth 100000 in
set_option maxHeartbeats 4000000 in
theorem valid_any (A : Option Addr) (nd c : Nat) (D : Nat → Dbt) (B0 : Option Addr) (np d : Nat) (P : Nat → Pay) (m : Int) (w : World) (hd : DbtsAt w A nd D) (hp : PaysAt w B0 np P) :
    Calls Try.prog 29 #[.slice A nd c, .slice B0 np d, .int .i64 m] w (Ret (.bool (validB D nd P np m)) w) := by
  by_cases a1 : (1000 : Int) < nd
  · have Hq := Lib.hid (show validB D nd P np m = false from by
      have : ¬ nd ≤ 1000 := by omega
      simp [validB, this])
    clear hd hp
    go_enter Try.func29, Try.ntmps29
    go_wp2
    go_ret
    exact ⟨by rw [Hq.out]; rfl, by go_grown⟩
  have a1d : decide ((1000 : Int) < nd) = false := by simpa using a1
  by_cases a2 : (1000 : Int) < np
  · have Hq := Lib.hid (show validB D nd P np m = false from by
      have : ¬ np ≤ 1000 := by omega
      simp [validB, this])
    clear hd hp
    go_enter Try.func29, Try.ntmps29
    go_wp2
    go_ret
    exact ⟨by rw [Hq.out]; rfl, by go_grown⟩
  have a2d : decide ((1000 : Int) < np) = false := by simpa using a2
  have C0 := Lib.hid (fun W => within_any m 0 38399 W)
  cases a3 : inR m 0 38399 with
  | false =>
    rw [a3] at C0
    have Hq := Lib.hid (show validB D nd P np m = false from by simp [validB, a3])
    clear hd hp
    go_enter Try.func29, Try.ntmps29
    go_wp2_with fail
    refine (C0.out _).mono ?_
    rintro e' w1 ⟨rfl, h⟩
    go_wp2
    go_ret
    exact ⟨by rw [Hq.out]; rfl, h⟩
  | true =>
    rw [a3] at C0
    have HV := Lib.hid (show validB D nd P np m = (allTo (fun i => dbtB (D i)) nd && allTo (fun i => payB (P i)) np) from by
      have b1 : nd ≤ 1000 := by omega
      have b2 : np ≤ 1000 := by omega
      simp [validB, a3, b1, b2])
    go_enter Try.func29, Try.ntmps29
    go_wp2_with fail
    refine (C0.out _).mono ?_
    rintro e' w0 ⟨rfl, h0⟩
    go_wp2_with fail
    go_loopw [26] (VRel (fun i => dbtB (D i)) nd w) (fun v _ => nd - (intOf v).toNat)
    case atStart => exact ⟨0, by omega, rfl, rfl, h0⟩
    case round =>
      clear h0
      obtain ⟨k, hk, rfl, hall, hbel⟩ := hrel
      have HA := Lib.hid hall
      clear hall
      by_cases hlt : k < nd
      · have HB := Lib.hid (fun h : dbtB (D k) = false => HV.out.trans (by rw [allTo_bad (f := fun i => dbtB (D i)) hlt h, Bool.false_and]))
        have HN := Lib.hid (fun h : dbtB (D k) = true => (show allTo (fun i => dbtB (D i)) (k + 1) = true from by simp only [allTo, HA.out, h]; rfl))
        obtain ⟨ad, rfl, hb0, c0, c1, c2, c3, c4, c5⟩ := (hd.later hbel) k hlt
        have hlt' : (k : Int) < nd := by omega
        clear hd hp
        generalize D k = x at c0 c1 c2 c3 c4 c5 HB HN
        obtain ⟨kk, t, f, lo, hi, p⟩ := x
        dsimp only at c0 c1 c2 c3 c4 c5
        cases e1 : clsB kk t f with
        | false =>
          have C1 := Lib.hid (fun W => e1 ▸ cls_any kk t f W)
          have Hq := Lib.hid (HB.out (by simp [dbtB, e1]))
          clear HB HN
          go_wp2_with fail
          generalize hX : World.alloc _ _ = X
          have hbx : Below wr.heap.size wr X := by rw [← hX]; exact (Below.refl _ _).alloc (Nat.le_refl _) _
          have B := St.cast hX ((St.start wr).alloc _ _)
          clear hX
          refine (C1.out _).mono ?_
          rintro e' w1 ⟨rfl, h⟩
          replace B := B.later h
          have R := B.rules
          simp only [Rules] at R
          clear h
          go_wp2
          go_ret
          exact ⟨by rw [Hq.out]; rfl, below_step hbel (Nat.le_refl _) B.below⟩
        | true =>
          have C1 := Lib.hid (fun W => e1 ▸ cls_any kk t f W)
          cases e2 : inR p 0 63 with
          | false =>
            have C2 := Lib.hid (fun W => e2 ▸ within_any p 0 63 W)
            have Hq := Lib.hid (HB.out (by simp [dbtB, e2]))
            clear HB HN
            go_wp2_with fail
            generalize hX : World.alloc _ _ = X
            have hbx : Below wr.heap.size wr X := by rw [← hX]; exact (Below.refl _ _).alloc (Nat.le_refl _) _
            have B := St.cast hX ((St.start wr).alloc _ _)
            clear hX
            refine (C1.out _).mono ?_
            rintro e' w1 ⟨rfl, h⟩
            replace B := B.later h
            have R := B.rules
            simp only [Rules] at R
            clear h
            go_wp2_with fail
            refine (C2.out _).mono ?_
            rintro e' w2 ⟨rfl, h⟩
            replace B := B.later h
            replace R := B.rules
            simp only [Rules] at R
            clear h
            go_wp2
            go_ret
            exact ⟨by rw [Hq.out]; rfl, below_step hbel (Nat.le_refl _) B.below⟩
          | true =>
            have C2 := Lib.hid (fun W => e2 ▸ within_any p 0 63 W)
            by_cases e3 : lo < -1000
            · have Hq := Lib.hid (HB.out (by
                have : dbtB ⟨kk, t, f, lo, hi, p⟩ = false := by
                  rw [← Bool.not_eq_true]
                  simp only [dbtB, Bool.and_eq_true, decide_eq_true_eq]
                  omega
                exact this))
              clear HB HN
              go_wp2_with fail
              generalize hX : World.alloc _ _ = X
              have hbx : Below wr.heap.size wr X := by rw [← hX]; exact (Below.refl _ _).alloc (Nat.le_refl _) _
              have B := St.cast hX ((St.start wr).alloc _ _)
              clear hX
              refine (C1.out _).mono ?_
              rintro e' w1 ⟨rfl, h⟩
              replace B := B.later h
              have R := B.rules
              simp only [Rules] at R
              clear h
              go_wp2_with fail
              refine (C2.out _).mono ?_
              rintro e' w2 ⟨rfl, h⟩
              replace B := B.later h
              replace R := B.rules
              simp only [Rules] at R
              clear h
              go_wp2
              go_ret
              exact ⟨by rw [Hq.out]; rfl, below_step hbel (Nat.le_refl _) B.below⟩
            have e3d : decide (lo < -1000) = false := by simpa using e3
            by_cases e4 : 39399 < hi
            · have Hq := Lib.hid (HB.out (by
                have : dbtB ⟨kk, t, f, lo, hi, p⟩ = false := by
                  rw [← Bool.not_eq_true]
                  simp only [dbtB, Bool.and_eq_true, decide_eq_true_eq]
                  omega
                exact this))
              clear HB HN
              go_wp2_with fail
              generalize hX : World.alloc _ _ = X
              have hbx : Below wr.heap.size wr X := by rw [← hX]; exact (Below.refl _ _).alloc (Nat.le_refl _) _
              have B := St.cast hX ((St.start wr).alloc _ _)
              clear hX
              refine (C1.out _).mono ?_
              rintro e' w1 ⟨rfl, h⟩
              replace B := B.later h
              have R := B.rules
              simp only [Rules] at R
              clear h
              go_wp2_with fail
              refine (C2.out _).mono ?_
              rintro e' w2 ⟨rfl, h⟩
              replace B := B.later h
              replace R := B.rules
              simp only [Rules] at R
              clear h
              go_wp2
              go_ret
              exact ⟨by rw [Hq.out]; rfl, below_step hbel (Nat.le_refl _) B.below⟩
            have e4d : decide (39399 < hi) = false := by simpa using e4
            by_cases e5 : hi < lo
            · have Hq := Lib.hid (HB.out (by
                have : dbtB ⟨kk, t, f, lo, hi, p⟩ = false := by
                  rw [← Bool.not_eq_true]
                  simp only [dbtB, Bool.and_eq_true, decide_eq_true_eq]
                  omega
                exact this))
              clear HB HN
              go_wp2_with fail
              generalize hX : World.alloc _ _ = X
              have hbx : Below wr.heap.size wr X := by rw [← hX]; exact (Below.refl _ _).alloc (Nat.le_refl _) _
              have B := St.cast hX ((St.start wr).alloc _ _)
              clear hX
              refine (C1.out _).mono ?_
              rintro e' w1 ⟨rfl, h⟩
              replace B := B.later h
              have R := B.rules
              simp only [Rules] at R
              clear h
              go_wp2_with fail
              refine (C2.out _).mono ?_
              rintro e' w2 ⟨rfl, h⟩
              replace B := B.later h
              replace R := B.rules
              simp only [Rules] at R
              clear h
              go_wp2
              go_ret
              exact ⟨by rw [Hq.out]; rfl, below_step hbel (Nat.le_refl _) B.below⟩
            have e5d : decide (hi < lo) = false := by simpa using e5
            have Hn := Lib.hid (HN.out (by
              simp only [dbtB, e1, e2, Bool.true_and, Bool.and_eq_true, decide_eq_true_eq]
              omega))
            clear HB HN
            go_wp2_with fail
            generalize hX : World.alloc _ _ = X
            have hbx : Below wr.heap.size wr X := by rw [← hX]; exact (Below.refl _ _).alloc (Nat.le_refl _) _
            have B := St.cast hX ((St.start wr).alloc _ _)
            clear hX
            refine (C1.out _).mono ?_
            rintro e' w1 ⟨rfl, h⟩
            replace B := B.later h
            have R := B.rules
            simp only [Rules] at R
            clear h
            go_wp2_with fail
            refine (C2.out _).mono ?_
            rintro e' w2 ⟨rfl, h⟩
            replace B := B.later h
            replace R := B.rules
            simp only [Rules] at R
            clear h
            go_wp2
            exact ⟨⟨k + 1, by omega, by go_num, Hn.out, below_step hbel (Nat.le_refl _) B.below⟩, by simp [intOf]; omega⟩
      · obtain rfl : k = nd := by omega
        have HV2 := Lib.hid (HV.out.trans (by rw [HA.out, Bool.true_and]))
        clear hd HV
        go_wp2_with fail
        go_loopw [65] (VRel (fun i => payB (P i)) np w) (fun v _ => np - (intOf v).toNat)
        case atStart => exact ⟨0, by omega, rfl, rfl, hbel⟩
        case round =>
          clear hbel
          obtain ⟨j, hj, rfl, hall, hbel⟩ := hrel
          have HA2 := Lib.hid hall
          clear hall
          by_cases hlt : j < np
          · have HB := Lib.hid (fun h : payB (P j) = false => HV2.out.trans (allTo_bad (f := fun i => payB (P i)) hlt h))
            have HN := Lib.hid (fun h : payB (P j) = true => (show allTo (fun i => payB (P i)) (j + 1) = true from by simp only [allTo, HA2.out, h]; rfl))
            obtain ⟨ad, rfl, hb0, c0, c1, c2, c3⟩ := (hp.later hbel) j hlt
            have hlt' : (j : Int) < np := by omega
            clear hp
            generalize P j = x at c0 c1 c2 c3 HB HN
            obtain ⟨kk, t, f, a⟩ := x
            dsimp only at c0 c1 c2 c3
            cases e1 : clsB kk t f with
            | false =>
              have C1 := Lib.hid (fun W => e1 ▸ cls_any kk t f W)
              have Hq := Lib.hid (HB.out (by simp [payB, e1]))
              clear HB HN
              go_wp2_with fail
              generalize hX : World.alloc _ _ = X
              have hbx : Below wr.heap.size wr X := by rw [← hX]; exact (Below.refl _ _).alloc (Nat.le_refl _) _
              have B := St.cast hX ((St.start wr).alloc _ _)
              clear hX
              refine (C1.out _).mono ?_
              rintro e' w1 ⟨rfl, h⟩
              replace B := B.later h
              have R := B.rules
              simp only [Rules] at R
              clear h
              go_wp2
              go_ret
              exact ⟨by rw [Hq.out]; rfl, below_step hbel (Nat.le_refl _) B.below⟩
            | true =>
              have C1 := Lib.hid (fun W => e1 ▸ cls_any kk t f W)
              cases e2 : inR a 0 38399 with
              | false =>
                have C2 := Lib.hid (fun W => e2 ▸ within_any a 0 38399 W)
                have Hq := Lib.hid (HB.out (by simp [payB, e2]))
                clear HB HN
                go_wp2_with fail
                generalize hX : World.alloc _ _ = X
                have hbx : Below wr.heap.size wr X := by rw [← hX]; exact (Below.refl _ _).alloc (Nat.le_refl _) _
                have B := St.cast hX ((St.start wr).alloc _ _)
                clear hX
                refine (C1.out _).mono ?_
                rintro e' w1 ⟨rfl, h⟩
                replace B := B.later h
                have R := B.rules
                simp only [Rules] at R
                clear h
                go_wp2_with fail
                refine (C2.out _).mono ?_
                rintro e' w2 ⟨rfl, h⟩
                replace B := B.later h
                replace R := B.rules
                simp only [Rules] at R
                clear h
                go_wp2
                go_ret
                exact ⟨by rw [Hq.out]; rfl, below_step hbel (Nat.le_refl _) B.below⟩
              | true =>
                have C2 := Lib.hid (fun W => e2 ▸ within_any a 0 38399 W)
                have Hn := Lib.hid (HN.out (by simp [payB, e1, e2]))
                clear HB HN
                go_wp2_with fail
                generalize hX : World.alloc _ _ = X
                have hbx : Below wr.heap.size wr X := by rw [← hX]; exact (Below.refl _ _).alloc (Nat.le_refl _) _
                have B := St.cast hX ((St.start wr).alloc _ _)
                clear hX
                refine (C1.out _).mono ?_
                rintro e' w1 ⟨rfl, h⟩
                replace B := B.later h
                have R := B.rules
                simp only [Rules] at R
                clear h
                go_wp2_with fail
                refine (C2.out _).mono ?_
                rintro e' w2 ⟨rfl, h⟩
                replace B := B.later h
                replace R := B.rules
                simp only [Rules] at R
                clear h
                go_wp2
                exact ⟨⟨j + 1, by omega, by go_num, Hn.out, below_step hbel (Nat.le_refl _) B.below⟩, by simp [intOf]; omega⟩
          · obtain rfl : j = np := by omega
            have Hq := Lib.hid (HV2.out.trans HA2.out)
            go_wp2
            go_ret
            exact ⟨by rw [Hq.out]; rfl, hbel⟩

end Go.Proofs.Ytilfebopeeimnaa
