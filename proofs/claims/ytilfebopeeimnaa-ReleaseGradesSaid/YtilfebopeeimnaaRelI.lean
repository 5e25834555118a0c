/-
  Owe: the debts of a frame. No conditions but those in each statement.
-/
import Derived.Test.YtilfebopeeimnaaRelH
import Derived.Test.YtilfebopeeimnaaTail
namespace Go.Proofs.Ytilfebopeeimnaa
open Go.RowKit

def fraC (x : Fra) (ti r0 r1 r2 r3 : Value) : Array Value := #[.int .i64 x.a, .int .i64 x.t, .int .i64 x.p, ti, .int .i64 x.f, r0, r1, r2, r3]
set_option maxHeartbeats 1000000 in
theorem owe1_any (k g be af : Int) (a t p f : Int) (ti r0 r1 r2 r3 : Value) (z : Nat) (w : World) (hz : w.heap[z]? = some (.cells #[.int .i64 a, .int .i64 t, .int .i64 p, ti, .int .i64 f, r0, r1, r2, r3] 46 (0, 0)))
    (a0 : 0 ≤ a) (a1 : a ≤ 38399) (b0 : 0 ≤ be) (b1 : be ≤ 1000) (c0 : 0 ≤ af) (c1 : af ≤ 1000) :
    Calls Try.prog 28 #[.int .i64 k, .int .i64 g, .int .i64 be, .int .i64 af, .pointer (some ⟨z, 0, none⟩)] w (Ret (.agg #[.int .i64 k, .int .i64 t, .int .i64 g, .int .i64 (a - be), .int .i64 (a + af), .int .i64 p]) w) := by
  have B : St w w [(z, #[.int .i64 a, .int .i64 t, .int .i64 p, ti, .int .i64 f, r0, r1, r2, r3], 46)] := ⟨Below.refl _ _, hz, trivial⟩
  have R := B.rules
  simp only [Rules] at R
  go_enter Try.func28, Try.ntmps28
  go_wp2
  refine bodyPost_ret (v := .agg #[.int .i64 k, .int .i64 t, .int .i64 g, .int .i64 (a - be), .int .i64 (a + af), .int .i64 p]) (by simp [results, Try.results28, go_sem, *]) rfl ⟨rfl, ?_⟩
  go_grown

/-- What Owe returns. -/
def OwePost (x : Fra) (w : World) (e : Ending) (w' : World) : Prop :=
  Below w.heap.size w w' ∧ ((oweB x = false ∧ e = .returned (.tuple #[.slice none 0 0, .int .i64 1])) ∨
    (oweB x = true ∧ ∃ b : Nat, e = .returned (.tuple #[.slice (some ⟨b, 0, none⟩) 3 3, .int .i64 0]) ∧ DbtsAt w' (some ⟨b, 0, none⟩) 3 (debt x)))
theorem add_mul (b i : Nat) : (⟨b, 0, none⟩ : Addr).add i = ⟨b, i, none⟩ := by
  unfold Addr.add
  split <;> simp_all
theorem dbts_of_blk {w : World} {b : Nat} {t : TypeId} {D : Nat → Dbt} {cs : Array Value} {n : Nat} (h : w.heap[b]? = some (.cells cs t (0, 0)))
    (hc : ∀ i, i < n → cs[i * 6]? = some (.int .i64 (D i).k) ∧ cs[i * 6 + 1]? = some (.int .i64 (D i).t) ∧ cs[i * 6 + 2]? = some (.int .i64 (D i).f) ∧ cs[i * 6 + 3]? = some (.int .i64 (D i).lo) ∧ cs[i * 6 + 4]? = some (.int .i64 (D i).hi) ∧ cs[i * 6 + 5]? = some (.int .i64 (D i).p)) :
    DbtsAt w (some ⟨b, 0, none⟩) n D := by
  intro i hi
  obtain ⟨h0, h1, h2, h3, h4, h5⟩ := hc i hi
  refine ⟨_, rfl, ?_⟩
  rw [add_mul]
  exact ⟨lt_of_block h, cell_blk h _ _ h0, cell_blk h _ _ h1, cell_blk h _ _ h2, cell_blk h _ _ h3, cell_blk h _ _ h4, cell_blk h _ _ h5⟩

set_option maxRecDepth 100000 in
set_option maxHeartbeats 2000000 in
theorem owe_any (a t p f : Int) (ti r0 r1 r2 r3 : Value) (w : World) :
    Calls Try.prog 21 #[.agg #[.int .i64 a, .int .i64 t, .int .i64 p, ti, .int .i64 f, r0, r1, r2, r3]] w (OwePost ⟨a, t, p, f⟩ w) := by
  cases e1 : inR a 0 38399 with
  | false =>
    have C1 := Lib.hid (fun W => e1 ▸ within_any a 0 38399 W)
    have HQ := Lib.hid (show oweB ⟨a, t, p, f⟩ = false from by simp [oweB, e1])
    go_enter Try.func21, Try.ntmps21
    have B := St.start w
    go_wp2_with fail
    generalize hX : World.alloc _ _ = X
    replace B := St.cast hX (B.alloc _ _)
    clear hX
    refine (C1.out _).mono ?_
    rintro e' w1 ⟨rfl, h⟩
    replace B := B.later h
    have R := B.rules
    simp only [Rules] at R
    clear h
    go_wp2
    refine bodyPost_ret (v := .tuple #[.slice none 0 0, .int .i64 1]) (by simp [results, Try.results21, go_sem, *]) rfl ⟨B.below, .inl ⟨HQ.out, rfl⟩⟩
  | true =>
    have C1 := Lib.hid (fun W => e1 ▸ within_any a 0 38399 W)
    cases e2 : inR p 0 63 with
    | false =>
      have C2 := Lib.hid (fun W => e2 ▸ within_any p 0 63 W)
      have HQ := Lib.hid (show oweB ⟨a, t, p, f⟩ = false from by simp [oweB, e2])
      go_enter Try.func21, Try.ntmps21
      have B := St.start w
      go_wp2_with fail
      generalize hX : World.alloc _ _ = X
      replace B := St.cast hX (B.alloc _ _)
      clear hX
      refine (C1.out _).mono ?_
      rintro e' w1 ⟨rfl, h⟩
      replace B := B.later h
      have R := B.rules
      simp only [Rules] at R
      clear h
      go_wp2_with fail
      refine (C2.out _).mono ?_
      rintro e' w2 ⟨rfl, h⟩
      replace B := B.later h
      replace R := B.rules
      simp only [Rules] at R
      clear h
      go_wp2
      refine bodyPost_ret (v := .tuple #[.slice none 0 0, .int .i64 1]) (by simp [results, Try.results21, go_sem, *]) rfl ⟨B.below, .inl ⟨HQ.out, rfl⟩⟩
    | true =>
      have C2 := Lib.hid (fun W => e2 ▸ within_any p 0 63 W)
      cases e3 : clsB 2 t f with
      | false =>
        have C3 := Lib.hid (fun W => e3 ▸ cls_any 2 t f W)
        have HQ := Lib.hid (show oweB ⟨a, t, p, f⟩ = false from by simp [oweB, e3])
        go_enter Try.func21, Try.ntmps21
        have B := St.start w
        go_wp2_with fail
        generalize hX : World.alloc _ _ = X
        replace B := St.cast hX (B.alloc _ _)
        clear hX
        refine (C1.out _).mono ?_
        rintro e' w1 ⟨rfl, h⟩
        replace B := B.later h
        have R := B.rules
        simp only [Rules] at R
        clear h
        go_wp2_with fail
        refine (C2.out _).mono ?_
        rintro e' w2 ⟨rfl, h⟩
        replace B := B.later h
        replace R := B.rules
        simp only [Rules] at R
        clear h
        go_wp2_with fail
        refine (C3.out _).mono ?_
        rintro e' w3 ⟨rfl, h⟩
        replace B := B.later h
        replace R := B.rules
        simp only [Rules] at R
        clear h
        go_wp2
        refine bodyPost_ret (v := .tuple #[.slice none 0 0, .int .i64 1]) (by simp [results, Try.results21, go_sem, *]) rfl ⟨B.below, .inl ⟨HQ.out, rfl⟩⟩
      | true =>
        have C3 := Lib.hid (fun W => e3 ▸ cls_any 2 t f W)
        have HQ := Lib.hid (show oweB ⟨a, t, p, f⟩ = true from by simp [oweB, e1, e2, e3])
        have hab : 0 ≤ a ∧ a ≤ 38399 := by
          simp only [inR, Bool.and_eq_true, decide_eq_true_eq] at e1
          exact e1
        go_enter Try.func21, Try.ntmps21
        have B := St.start w
        go_wp2_with fail
        generalize hX : World.alloc _ _ = X
        replace B := St.cast hX (B.alloc _ _)
        clear hX
        refine (C1.out _).mono ?_
        rintro e' w1 ⟨rfl, h⟩
        replace B := B.later h
        have R := B.rules
        simp only [Rules] at R
        clear h
        go_wp2_with fail
        refine (C2.out _).mono ?_
        rintro e' w2 ⟨rfl, h⟩
        replace B := B.later h
        replace R := B.rules
        simp only [Rules] at R
        clear h
        go_wp2_with fail
        refine (C3.out _).mono ?_
        rintro e' w3 ⟨rfl, h⟩
        replace B := B.later h
        replace R := B.rules
        simp only [Rules] at R
        clear h
        go_wp2_with fail
        refine wp_region_later_tail 10 (by kernel_rfl) (by kernel_rfl) ?_
        simp only [List.take_succ_cons, List.take_zero, List.drop_succ_cons, List.drop_zero]
        repeat (go_big_quiet_step (first | (go_at_call 28; exact Later.call (owe1_any _ _ _ _ a t p f ti r0 r1 r2 r3 _ _ (blk_later B.blks.1 (Later.ok _)) hab.1 hab.2 (by omega) (by omega) (by omega) (by omega)))))
        refine wpQuiet_nil ?_
        rintro w9 ⟨⟨wq, hq⟩, rfl⟩
        replace B := B.later hq
        go_wp2
        refine bodyPost_ret (v := .tuple #[.slice (some ⟨w9.heap.size, 0, none⟩) 3 3, .int .i64 0]) (by simp [results, Try.results21, go_sem, *]) rfl ⟨B.below.alloc B.below.size _, .inr ⟨HQ.out, _, rfl, ?_⟩⟩
        refine dbts_of_blk (blk_new _ _) (fun i hi => ?_)
        have e : i = 0 ∨ i = 1 ∨ i = 2 := by omega
        rcases e with rfl | rfl | rfl <;> simp [debt]


end Go.Proofs.Ytilfebopeeimnaa
