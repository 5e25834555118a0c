/-
  ReleaseDifferences: for every two lists of tallies the law returns true. No conditions.
-/
import Derived.Test.YtilfebopeeimnaaRelR
namespace Go.Proofs.Ytilfebopeeimnaa
open Go.ChangeShapes Go.WideShapes Go.ChangeAt Go.RowKit

theorem lack_succ (b : Nat → Tal) (k : Nat) (a : Nat → Tal) (n : Nat) : lackL b (k + 1) a n = lackL b k a n ++ (if !hasP a n (b k) then [b k] else []) := by
  simp only [lackL, List.range_succ, List.map_append, List.filter_append]
  congr 1
  cases h : hasP a n (b k) <;> simp [h]
theorem lack_pre (b : Nat → Tal) (a : Nat → Tal) (n k : Nat) : ∀ d, ∃ t, lackL b (k + d) a n = lackL b k a n ++ t
  | 0 => ⟨[], by simp⟩
  | d + 1 => by
    obtain ⟨t, h⟩ := lack_pre b a n k d
    exact ⟨t ++ (if !hasP a n (b (k + d)) then [b (k + d)] else []), by rw [← Nat.add_assoc, lack_succ, h, List.append_assoc]⟩
theorem lack_at {a b : Nat → Tal} {n m k : Nat} (hk : k < m) (h : (!hasP a n (b k)) = true) : (lackL b k a n).length < (lackL b m a n).length ∧ nth (lackL b m a n) (lackL b k a n).length = b k := by
  obtain ⟨t, e⟩ := lack_pre b a n (k + 1) (m - (k + 1))
  rw [show k + 1 + (m - (k + 1)) = m by omega, lack_succ, if_pos h] at e
  rw [e]
  constructor
  · simp
  · simp [nth]
theorem lack_le (b : Nat → Tal) (k : Nat) (a : Nat → Tal) (n : Nat) : (lackL b k a n).length ≤ k := by
  have := filt_len b (fun i => !hasP a n (b i)) k
  rwa [filt_lack] at this
theorem eqT_self (t c f n : Int) : eqT ⟨t, c, f, n⟩ ⟨t, c, f, n⟩ = true := by simp [eqT]

def DRel (a b : Nat → Tal) (n m : Nat) (w : World) (v9 v10 : Value) (wr : World) : Prop :=
  ∃ k : Nat, k ≤ m ∧ v10 = .int .i64 k ∧ v9 = .int .i64 (lackL b k a n).length ∧ Below w.heap.size w wr

set_option maxRecDepth 100000 in
set_option maxHeartbeats 4000000 in
theorem differences_walk (W : World) (A : Option Addr) (n c : Nat) (a : Nat → Tal) (hsa : TalsAt W A n a) (hna : n ≤ maxLen) (B0 : Option Addr) (m d : Nat) (b : Nat → Tal) (hsb : TalsAt W B0 m b) (hnb : m ≤ maxLen) :
    Calls Try.prog 3 #[.slice A n c, .slice B0 m d] W (Ret (.bool true) W) := by
  have HA := Lib.hid hsa
  have HB := Lib.hid hsb
  have HNa := Lib.hid hna
  have HNb := Lib.hid hnb
  clear hsa hsb hna hnb
  by_cases h1 : (30 : Int) < n
  · have h1d : decide ((30 : Int) < n) = true := by simpa using h1
    go_enter Try.func3, Try.ntmps3
    go_wp2_with fail
    refine (head_any _).mono ?_
    rintro e' w1 ⟨rfl, h⟩
    go_wp2
    go_ret
    exact ⟨rfl, h⟩
  have h1d : decide ((30 : Int) < n) = false := by simpa using h1
  by_cases h2 : (30 : Int) < m
  · go_enter Try.func3, Try.ntmps3
    go_wp2_with fail
    refine (head_any _).mono ?_
    rintro e' w1 ⟨rfl, h⟩
    go_wp2
    go_ret
    exact ⟨rfl, h⟩
  have hn : n ≤ 30 := by omega
  have hm : m ≤ 30 := by omega
  go_enter Try.func3, Try.ntmps3
  go_wp2_with fail
  refine (head_any _).mono ?_
  rintro e' w1 ⟨rfl, h0⟩
  have HA1 := Lib.hid (HA.out.later h0)
  have HB1 := Lib.hid (HB.out.later h0)
  clear HA HB
  go_wp2_with fail
  refine (diff_any A n c a B0 m d b w1 HA1.out HB1.out HNa.out HNb.out).mono ?_
  rintro e' w2 ⟨h, ⟨ho, rfl⟩ | ⟨hv, x, y, rfl, hx, hy⟩⟩
  · clear ho
    go_wp2
    go_ret
    exact ⟨rfl, below_step h0 (Nat.le_refl _) h⟩
  · obtain ⟨Ax, cx, rfl, hx, _⟩ := tals_of_row hx
    obtain ⟨Ay, cy, rfl, hy, _⟩ := tals_of_row hy
    have HX := Lib.hid hx
    have HY := Lib.hid hy
    have HA2 := Lib.hid (HA1.out.later h)
    have HB2 := Lib.hid (HB1.out.later h)
    have hb2 := below_step h0 (Nat.le_refl _) h
    have HV := Lib.hid hv
    have lx := lack_le b m a n
    have ly := lack_le a n b m
    have HL := Lib.hid (show (n : Int) - (lackL a n b m).length + (lackL b m a n).length = m from by
      simp only [talB, Bool.and_eq_true] at hv
      exact lens hv.1.1 hv.2.1)
    clear h hx hy hv h0 HA1 HB1
    go_wp2_with fail
    go_loopw [9, 10] (DRel a b n m w2) (fun _ v _ => m - (intOf v).toNat)
    case atStart => exact ⟨0, by omega, rfl, rfl, Below.refl _ _⟩
    case round =>
      obtain ⟨k, hk, rfl, rfl, hbel⟩ := hrel
      by_cases hlt : k < m
      · obtain ⟨bd, rfl, hb0, e0, e1, e2, e3⟩ := (HB2.out.later hbel) k hlt
        have hlt' : (k : Int) < m := by omega
        have hle := lack_le b k a n
        have HAt := Lib.hid (fun h => lack_at (a := a) (b := b) (n := n) hlt h)
        have HSc := Lib.hid (lack_succ b k a n)
        have HF := Lib.hid (fnd_has (l := a) (x := b k) (n := n))
        have CF := Lib.hid (fun W (h : Below w2.heap.size w2 W) => find_any _ n c a (b k).t (b k).c (b k).f (b k).n W (HA2.out.later h) HNa.out)
        generalize b k = y at e0 e1 e2 e3 HAt HSc HF CF
        obtain ⟨t, cc, f, q⟩ := y
        dsimp only at e0 e1 e2 e3 CF
        go_wp2_with fail
        refine (CF.out _ hbel).mono ?_
        rintro e' w3 ⟨rfl, h⟩
        generalize fnd a ⟨t, cc, f, q⟩ n 0 = r at HF ⊢
        by_cases hr : r < 0
        · have hp : (!hasP a n ⟨t, cc, f, q⟩) = true := by rw [← HF.out]; simpa using hr
          obtain ⟨q1, q2⟩ := HAt.out hp
          have hn9 := HSc.out
          rw [if_pos hp] at hn9
          have HN := Lib.hid (show (lackL b (k + 1) a n).length = (lackL b k a n).length + 1 from by rw [hn9]; simp)
          clear hn9 HSc HAt HF hp
          generalize (lackL b k a n).length = cnt at q1 q2 HN hle ⊢
          have hbw := below_step hbel (Nat.le_refl _) h
          obtain ⟨xd, ex, hx0, x0, x1, x2, x3⟩ := (HX.out.later hbw) cnt q1
          rw [q2] at x0 x1 x2 x3
          dsimp only at x0 x1 x2 x3
          have q1' : (cnt : Int) < (lackL b m a n).length := by omega
          have q1d : decide (((lackL b m a n).length : Int) ≤ cnt) = false := by simpa using q1
          have q1n : decide ((lackL b m a n).length ≤ cnt) = false := by simpa using q1
          subst ex
          obtain ⟨k1, k2⟩ := bcell h
          have hsz := h.size
          have hy0 := Nat.lt_of_lt_of_le hb0 h.size
          have y0 := (h.cell hb0).trans e0
          have y1 := (h.cell (p := ⟨(bd.add (k * 4)).block, (bd.add (k * 4)).off + 1, none⟩) hb0).trans e1
          have y2 := (h.cell (p := ⟨(bd.add (k * 4)).block, (bd.add (k * 4)).off + 2, none⟩) hb0).trans e2
          have y3 := (h.cell (p := ⟨(bd.add (k * 4)).block, (bd.add (k * 4)).off + 3, none⟩) hb0).trans e3
          clear q2 e0 e1 e2 e3 h k1 k2
          have heq := eqT_self t cc f q
          go_wp2_with fail
          refine wp_region_later (by kernel_rfl) (by kernel_rfl) ?_
          repeat (go_big_quiet_step (fail))
          refine wpQuiet_nil ?_
          rintro _ ⟨⟨wq, hq⟩, rfl⟩
          go_wp2
          exact ⟨⟨k + 1, by omega, by go_num, by rw [HN.out]; go_num, below_step hbw (Nat.le_refl _) hq⟩, by simp [intOf]; omega⟩
        · have hp : (!hasP a n ⟨t, cc, f, q⟩) = false := by rw [← HF.out]; simpa using hr
          have hn9 := HSc.out
          rw [if_neg (by rw [hp]; simp), List.append_nil] at hn9
          have HN := Lib.hid hn9
          clear hn9 HSc HAt HF hp
          go_wp2
          exact ⟨⟨k + 1, by omega, by go_num, by rw [HN.out], below_step hbel (Nat.le_refl _) h⟩, by simp [intOf]; omega⟩
      · obtain rfl : m = k := by omega
        have HC1 := Lib.hid hbel
        clear hbel
        go_wp2_with fail
        go_loopw [11, 12] (DRel b a m n w2) (fun _ v _ => n - (intOf v).toNat)
        case atStart => exact ⟨0, by omega, rfl, rfl, HC1.out⟩
        case round =>
          obtain ⟨k, hk, rfl, rfl, hbel⟩ := hrel
          by_cases hlt : k < n
          · obtain ⟨bd, rfl, hb0, e0, e1, e2, e3⟩ := (HA2.out.later hbel) k hlt
            have hlt' : (k : Int) < n := by omega
            have hle := lack_le a k b m
            have HAt := Lib.hid (fun h => lack_at (a := b) (b := a) (n := m) hlt h)
            have HSc := Lib.hid (lack_succ a k b m)
            have HF := Lib.hid (fnd_has (l := b) (x := a k) (n := m))
            have CF := Lib.hid (fun W (h : Below w2.heap.size w2 W) => find_any _ m d b (a k).t (a k).c (a k).f (a k).n W (HB2.out.later h) HNb.out)
            generalize a k = y at e0 e1 e2 e3 HAt HSc HF CF
            obtain ⟨t, cc, f, q⟩ := y
            dsimp only at e0 e1 e2 e3 CF
            go_wp2_with fail
            refine (CF.out _ hbel).mono ?_
            rintro e' w3 ⟨rfl, h⟩
            generalize fnd b ⟨t, cc, f, q⟩ m 0 = r at HF ⊢
            by_cases hr : r < 0
            · have hp : (!hasP b m ⟨t, cc, f, q⟩) = true := by rw [← HF.out]; simpa using hr
              obtain ⟨q1, q2⟩ := HAt.out hp
              have hn9 := HSc.out
              rw [if_pos hp] at hn9
              have HN := Lib.hid (show (lackL a (k + 1) b m).length = (lackL a k b m).length + 1 from by rw [hn9]; simp)
              clear hn9 HSc HAt HF hp
              generalize (lackL a k b m).length = cnt at q1 q2 HN hle ⊢
              have hbw := below_step hbel (Nat.le_refl _) h
              obtain ⟨xd, ex, hx0, x0, x1, x2, x3⟩ := (HY.out.later hbw) cnt q1
              rw [q2] at x0 x1 x2 x3
              dsimp only at x0 x1 x2 x3
              have q1' : (cnt : Int) < (lackL a n b m).length := by omega
              have q1d : decide (((lackL a n b m).length : Int) ≤ cnt) = false := by simpa using q1
              have q1n : decide ((lackL a n b m).length ≤ cnt) = false := by simpa using q1
              subst ex
              obtain ⟨k1, k2⟩ := bcell h
              have hsz := h.size
              have hy0 := Nat.lt_of_lt_of_le hb0 h.size
              have y0 := (h.cell hb0).trans e0
              have y1 := (h.cell (p := ⟨(bd.add (k * 4)).block, (bd.add (k * 4)).off + 1, none⟩) hb0).trans e1
              have y2 := (h.cell (p := ⟨(bd.add (k * 4)).block, (bd.add (k * 4)).off + 2, none⟩) hb0).trans e2
              have y3 := (h.cell (p := ⟨(bd.add (k * 4)).block, (bd.add (k * 4)).off + 3, none⟩) hb0).trans e3
              clear q2 e0 e1 e2 e3 h k1 k2
              have heq := eqT_self t cc f q
              go_wp2_with fail
              refine wp_region_later (by kernel_rfl) (by kernel_rfl) ?_
              repeat (go_big_quiet_step (fail))
              refine wpQuiet_nil ?_
              rintro _ ⟨⟨wq, hq⟩, rfl⟩
              go_wp2
              exact ⟨⟨k + 1, by omega, by go_num, by rw [HN.out]; go_num, below_step hbw (Nat.le_refl _) hq⟩, by simp [intOf]; omega⟩
            · have hp : (!hasP b m ⟨t, cc, f, q⟩) = false := by rw [← HF.out]; simpa using hr
              have hn9 := HSc.out
              rw [if_neg (by rw [hp]; simp), List.append_nil] at hn9
              have HN := Lib.hid hn9
              clear hn9 HSc HAt HF hp
              go_wp2
              exact ⟨⟨k + 1, by omega, by go_num, by rw [HN.out], below_step hbel (Nat.le_refl _) h⟩, by simp [intOf]; omega⟩
          · obtain rfl : n = k := by omega
            have HC2 := Lib.hid hbel
            clear hbel
            go_wp2_with fail
            refine (diff_any A n c a A n c a _ (HA2.out.later HC2.out) (HA2.out.later HC2.out) HNa.out HNa.out).mono ?_
            rintro e' w5 ⟨h, ⟨ho, _⟩ | ⟨_, u, v, rfl, hu, hv⟩⟩
            · have := HV.out
              rw [Bool.and_eq_true] at this
              rw [this.1] at ho
              simp at ho
            rw [lack_self] at hu hv
            obtain ⟨Au, cu, rfl, _, _⟩ := tals_of_row hu
            obtain ⟨Av, cv, rfl, _, _⟩ := tals_of_row hv
            have hl := HL.out
            have HB5 := Lib.hid (below_step hb2 (Nat.le_refl _) (below_step HC2.out (Nat.le_refl _) h))
            clear hu hv h
            go_wp2
            go_ret
            exact ⟨rfl, HB5.out⟩

set_option maxRecDepth 100000 in
theorem releaseDifferences_lifted (os : Os) (started : os.Started) (H : Type) (enc : TypeId × Value → H) :
    ReturnsInHanded {} Try.checked os 3 .any (Rows.releaseDifferencesSpec.pre6 enc Try.prog Try.f3 Rows.releaseDifferencesRow.domain false) (Rows.releaseDifferencesSpec.post enc Try.prog Try.f3 false true false false) := by
  refine returnsInHanded_of_change (C := Try.checked) own started (by kernel_rfl) Try.func3
    (ChangeSpec.witness6 (enc := enc) (C := Try.checked) false ⟨#[], #[.slice none 0 0, .slice none 0 0], []⟩ 8 (by kernel_rfl) (by kernel_rfl) (by kernel_rfl) (by kernel_rfl)) ?_
  intro W base args ds gs before hval0 hW _ _
  have hval : ∀ (j : Nat) t v, Try.f3.params[j]? = some t → args[j]? = some v → Value.okWide Try.prog W .any base t v := hval0
  have hW' := hW
  obtain ⟨p, q, hA0, hV, _, _, _⟩ := hW
  have hA : DataW.TrodAll enc Try.prog W 0 (fun _ => true) true Try.f3.params.toList args.toList ds p := hA0
  rw [Try.params3] at hA hval
  obtain ⟨v0, vs0, d0, ds0, p0, q0, hargs, rfl, _, h0, r0⟩ := trodAll_cons hA
  obtain ⟨v1, vs1, d1, ds1, p1, q1, rfl, rfl, rfl, h1, r1⟩ := trodAll_cons r0
  obtain ⟨rfl, rfl, rfl⟩ := trodAll_nil r1
  obtain rfl : args = #[v0, v1] := by cases args; simp_all
  obtain ⟨rfl, rfl⟩ := trodVars_none hV
  obtain ⟨A, n, c, a, hsA, hsn, rfl⟩ := open22 (hval 0 22 v0 rfl rfl) h0
  obtain ⟨B0, m, d, b, hsB, hsm, rfl⟩ := open22 (hval 1 22 v1 rfl rfl) h1
  exact law_post (f := 3) laidOut (by kernel_rfl) rfl Try.underlying4 rfl hW' rfl (differences_walk W A n c a hsA hsn B0 m d b hsB hsm)

/-- The statement. -/
theorem releaseDifferences_holds : Rows.ReleaseDifferencesSaid :=
  OpenClaim.holds_of_wide 3 Try.f3 rfl rfl rfl rfl rfl rfl rfl ⟨rfl, rfl, rfl, rfl, rfl⟩ rfl rfl rfl rfl rfl (by kernel_rfl) Try.func3 (by kernel_rfl)
    (of_decide_eq_true (by kernel_rfl)) (by unfold Func.isWrapper; rw [if_neg (of_decide_eq_false (by kernel_rfl))]; exact ⟨rfl, rfl⟩)
    (fun os started H enc _ => releaseDifferences_lifted os started H enc)

#print axioms releaseDifferences_holds

end Go.Proofs.Ytilfebopeeimnaa
