/-
  Difference: what the call returns. No conditions but those in each statement.
-/
import Derived.Test.YtilfebopeeimnaaRelF
namespace Go.Proofs.Ytilfebopeeimnaa
open Go.RowKit

theorem filt_lack (l : Nat → Tal) (n : Nat) (o : Nat → Tal) (m : Nat) : filt l (fun i => !hasP o m (l i)) n = lackL l n o m := by
  simp only [filt, lackL, List.filter_map]
  rfl
theorem talB_parts {l : Nat → Tal} {n : Nat} (h : talB l n = true) : okT l n = true ∧ n ≤ 1000 ∧ ∀ i, i < n → exB (l i) = true := by
  simp only [talB, Bool.and_eq_true, decide_eq_true_eq] at h
  exact ⟨h.1, h.2, fun i hi => (okT_at h.1 hi).1⟩
/-- What Difference returns. -/
def DiffPost (a b : Nat → Tal) (n m : Nat) (w : World) (e : Ending) (w' : World) : Prop :=
  Below w.heap.size w w' ∧ (((talB a n && talB b m) = false ∧ e = .returned (.tuple #[.slice none 0 0, .slice none 0 0, .int .i64 1])) ∨
    ((talB a n && talB b m) = true ∧ ∃ x y, e = .returned (.tuple #[x, y, .int .i64 0]) ∧ w'.ownsRow w.heap.size 29 4 x (lackL b m a n).length ((lackL b m a n).flatMap tcells) ∧ w'.ownsRow w.heap.size 29 4 y (lackL a n b m).length ((lackL a n b m).flatMap tcells)))
def DiffRel (a b : Nat → Tal) (n m : Nat) (w : World) (L : List (Nat × Array Value × TypeId)) (v15 : Value) (wr : World) : Prop :=
  ∃ k : Nat, k ≤ 2 ∧ v15 = .int .i64 k ∧ (0 < k → talB a n = true) ∧ (1 < k → talB b m = true) ∧ St w wr L

set_option maxRecDepth 100000 in
set_option maxHeartbeats 2000000 in
theorem diff_any (A : Option Addr) (n c : Nat) (a : Nat → Tal) (B0 : Option Addr) (m d : Nat) (b : Nat → Tal) (w : World) (ha : TalsAt w A n a) (hb : TalsAt w B0 m b) (hn : n ≤ maxLen) (hm : m ≤ maxLen) :
    Calls Try.prog 6 #[.slice A n c, .slice B0 m d] w (DiffPost a b n m w) := by
  go_enter Try.func6, Try.ntmps6
  have B := St.start w
  go_wp2_with fail
  generalize hX : World.alloc _ _ = X
  replace B := St.cast hX (B.alloc _ _)
  clear hX
  go_loopw [15] (DiffRel a b n m w [(w.heap.size, #[.slice A n c, .slice B0 m d], 22)]) (fun v _ => 2 - (intOf v).toNat)
  case atStart => exact ⟨0, by omega, rfl, fun h => absurd h (by omega), fun h => absurd h (by omega), B⟩
  case round =>
    clear B
    obtain ⟨k, hk, rfl, h1, h2, B⟩ := hrel
    have R := B.rules
    simp only [Rules] at R
    have H1 := Lib.hid h1
    have H2 := Lib.hid h2
    clear h1 h2
    have e : k = 0 ∨ k = 1 ∨ k = 2 := by omega
    rcases e with rfl | rfl | rfl
    · go_wp2_with fail
      refine (confirmed_any A n c a wr (ha.later B.below) hn).mono ?_
      rintro e' w1 ⟨v, rfl, h⟩
      replace B := B.later h
      clear h R
      cases ht : talB a n with
      | false =>
        go_wp2
        refine bodyPost_ret (v := .tuple #[.slice none 0 0, .slice none 0 0, .int .i64 1]) (by simp [results, Try.results6, go_sem, *]) rfl ⟨B.below, .inl ⟨by simp [ht], rfl⟩⟩
      | true =>
        have HT := Lib.hid ht
        go_wp2
        exact ⟨⟨1, by omega, by go_num, fun _ => HT.out, fun h => absurd h (by omega), B⟩, by simp [intOf]⟩
    · go_wp2_with fail
      refine (confirmed_any B0 m d b wr (hb.later B.below) hm).mono ?_
      rintro e' w1 ⟨v, rfl, h⟩
      replace B := B.later h
      clear h R
      cases ht : talB b m with
      | false =>
        go_wp2
        refine bodyPost_ret (v := .tuple #[.slice none 0 0, .slice none 0 0, .int .i64 1]) (by simp [results, Try.results6, go_sem, *]) rfl ⟨B.below, .inl ⟨by simp [ht], rfl⟩⟩
      | true =>
        have HT := Lib.hid ht
        go_wp2
        exact ⟨⟨2, by omega, by go_num, fun _ => H1.out (by omega), fun _ => HT.out, B⟩, by simp [intOf]⟩
    · have ta := Lib.hid (H1.out (by omega))
      have tb := Lib.hid (H2.out (by omega))
      have pa := talB_parts ta.out
      have pb := talB_parts tb.out
      have PA := Lib.hid pa
      have PB := Lib.hid pb
      clear pa pb
      go_wp2_with fail
      refine (missing_any B0 m d b A n c a wr (hb.later B.below) (ha.later B.below) PB.out.2.1 PA.out.2.1 PB.out.2.2 PA.out.2.2).mono ?_
      rintro e' w1 ⟨x, rfl, hx, h⟩
      have HX := Lib.hid (own_base hx B.below.size)
      replace B := B.later h
      clear hx h R
      go_wp2_with fail
      refine (missing_any A n c a B0 m d b w1 (ha.later B.below) (hb.later B.below) PA.out.2.1 PB.out.2.1 PA.out.2.2 PB.out.2.2).mono ?_
      rintro e' w2 ⟨y, rfl, hy, h⟩
      have HY := Lib.hid (own_base hy B.below.size)
      have HX2 := Lib.hid (own_later HX.out h)
      replace B := B.later h
      clear hy h
      rw [filt_lack] at HX2 HY
      go_wp2
      refine bodyPost_ret (v := .tuple #[x, y, .int .i64 0]) (by simp [results, Try.results6, go_sem, *]) rfl ⟨B.below, .inr ⟨by rw [ta.out, tb.out]; rfl, x, y, rfl, HX2.out, HY.out⟩⟩

end Go.Proofs.Ytilfebopeeimnaa
