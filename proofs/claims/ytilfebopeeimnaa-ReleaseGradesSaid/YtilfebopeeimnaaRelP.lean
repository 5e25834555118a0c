/-
  Paid and Grade: what each call returns. No conditions but those in each statement.
-/
import Derived.Test.YtilfebopeeimnaaRelO
namespace Go.Proofs.Ytilfebopeeimnaa
open Go.RowKit Go.Maps

def PRel (o : Nat → Int) (n : Nat) (w : World) (X : Nat) (cs : Array Value) (v33 : Value) (wr : World) : Prop :=
  ∃ k : Nat, k ≤ n ∧ v33 = .int .i64 k ∧ (∀ x, x < k → 0 ≤ o x) ∧ Below w.heap.size w wr ∧ wr.heap[X]? = some (.cells cs 3 (0, 0))
theorem paidB_of {x : Fra} {P : Nat → Pay} {np : Nat} {m : Int} {o : Nat → Int} (h1 : oweB x = true) (h2 : validB (debt x) 3 P np m = true)
    (h : ∀ i, i < 3 → decide (0 ≤ o i) = anyTo (fun k => setB (debt x i) (P k) m) np) (h3 : ∀ i, i < 3 → 0 ≤ o i) : paidB x P np m = true := by
  unfold paidB
  rw [h1, h2, Bool.true_and, Bool.true_and, allTo_iff]
  intro i hi
  rw [← h i hi]
  simpa using h3 i hi
theorem paidB_not {x : Fra} {P : Nat → Pay} {np : Nat} {m : Int} {o : Nat → Int} 
    (h : ∀ i, i < 3 → decide (0 ≤ o i) = anyTo (fun k => setB (debt x i) (P k) m) np) {k : Nat} (hk : k < 3) (h3 : o k < 0) : paidB x P np m = false := by
  cases e : paidB x P np m with
  | false => rfl
  | true =>
    unfold paidB at e
    rw [Bool.and_eq_true, allTo_iff] at e
    have h5 := h k hk
    rw [e.2 k hk] at h5
    have : 0 ≤ o k := by simpa using h5
    omega

set_option maxRecDepth 100000 in
set_option maxHeartbeats 2000000 in
theorem paid_any (a t p f : Int) (ti r0 r1 r2 r3 : Value) (B0 : Option Addr) (np d : Nat) (P : Nat → Pay) (m : Int) (w : World) (hp : PaysAt w B0 np P) :
    Calls Try.prog 14 #[.agg #[.int .i64 a, .int .i64 t, .int .i64 p, ti, .int .i64 f, r0, r1, r2, r3], .slice B0 np d, .int .i64 m] w (Ret (.tuple #[.bool (paidB ⟨a, t, p, f⟩ P np m), .int .i64 (paidE ⟨a, t, p, f⟩ P np m)]) w) := by
  have HP := Lib.hid hp
  clear hp
  go_enter Try.func14, Try.ntmps14
  have B := St.start w
  go_wp2_with fail
  generalize hX : World.alloc _ _ = X
  replace B := St.cast hX (B.alloc _ _)
  clear hX
  have R := B.rules
  simp only [Rules] at R
  refine (owe_any a t p f ti r0 r1 r2 r3 _).mono ?_
  rintro e' w1 ⟨h, ⟨ho, rfl⟩ | ⟨ho, b, rfl, hd⟩⟩
  · replace B := B.later h
    replace R := B.rules
    simp only [Rules] at R
    have Hb := Lib.hid (show paidB ⟨a, t, p, f⟩ P np m = false from by simp [paidB, ho])
    have He := Lib.hid (show paidE ⟨a, t, p, f⟩ P np m = 1 from by simp [paidE, ho])
    clear h ho
    go_wp2
    refine bodyPost_ret (v := .tuple #[.bool false, .int .i64 1]) (by simp [results, Try.results14, go_sem, *]) rfl ⟨by rw [Hb.out, He.out], B.below⟩
  · replace B := B.later h
    replace R := B.rules
    simp only [Rules] at R
    have HO := Lib.hid ho
    clear h ho
    go_wp2_with fail
    refine (settle_any _ 3 3 _ B0 np d P m _ hd (HP.out.later B.below)).mono ?_
    rintro e' w2 ⟨h, ⟨hv, rfl⟩ | ⟨hv, X2, cs, o, rfl, hcs, hout, hall⟩⟩
    · replace B := B.later h
      replace R := B.rules
      simp only [Rules] at R
      have Hb := Lib.hid (show paidB ⟨a, t, p, f⟩ P np m = false from by simp [paidB, hv])
      have He := Lib.hid (show paidE ⟨a, t, p, f⟩ P np m = 1 from by simp [paidE, hv])
      clear h hv hd
      go_wp2
      refine bodyPost_ret (v := .tuple #[.bool false, .int .i64 1]) (by simp [results, Try.results14, go_sem, *]) rfl ⟨by rw [Hb.out, He.out], B.below⟩
    · replace B := B.later h
      have HV := Lib.hid hv
      have HA := Lib.hid hall
      have HU := Lib.hid hout
      have He := Lib.hid (show paidE ⟨a, t, p, f⟩ P np m = 0 from by simp [paidE, hv, HO.out])
      have HC := Lib.hid hcs
      clear h hv hall hout hcs R hd
      go_wp2_with fail
      go_loopw [33] (PRel o 3 w X2 cs) (fun v _ => 3 - (intOf v).toNat)
      case atStart => exact ⟨0, by omega, rfl, fun x hx => absurd hx (by omega), B.below, HC.out⟩
      case round =>
        clear B
        obtain ⟨k, hk, rfl, hz, hbel, hcs⟩ := hrel
        have HZ := Lib.hid hz
        clear hz
        by_cases hlt : k < 3
        · have hci := HU.out.2 k hlt
          have R := blk_rules hcs
          have hlt' : (k : Int) < 3 := by omega
          have HC2 := Lib.hid hcs
          clear hcs
          by_cases ho : o k < 0
          · have Hb := Lib.hid (paidB_not HA.out hlt ho)
            go_wp2
            refine bodyPost_ret (v := .tuple #[.bool false, .int .i64 0]) (by simp [results, Try.results14, go_sem, *]) rfl ⟨by rw [Hb.out, He.out], hbel⟩
          · have ho' : 0 ≤ o k := by omega
            go_wp2
            exact ⟨⟨k + 1, by omega, by go_num, fun x hx => by
              by_cases e : x = k
              · rw [e]; exact ho'
              · exact HZ.out x (by omega), hbel, HC2.out⟩, by simp [intOf]; omega⟩
        · obtain rfl : k = 3 := by omega
          have Hb := Lib.hid (paidB_of HO.out HV.out HA.out HZ.out)
          clear hcs
          go_wp2
          refine bodyPost_ret (v := .tuple #[.bool true, .int .i64 0]) (by simp [results, Try.results14, go_sem, *]) rfl ⟨by rw [Hb.out, He.out], hbel⟩

set_option maxRecDepth 100000 in
set_option maxHeartbeats 2000000 in
theorem grade_any (c0 c1 c2 c3 c4 : Value) (B0 : Option Addr) (np d : Nat) (c6 e0 e1 e2 e3 : Value) (m : Int) (e5 : Value) (a t p f : Int) (ti r0 r1 r2 r3 : Value) (P : Nat → Pay) (w : World) (hp : PaysAt w B0 np P) :
    Calls Try.prog 9 #[.agg #[c0, c1, c2, c3, c4, .slice B0 np d, c6], .agg #[e0, e1, e2, e3, .int .i64 m, e5], .agg #[.int .i64 a, .int .i64 t, .int .i64 p, ti, .int .i64 f, r0, r1, r2, r3]] w (Ret (.tuple #[.bool (paidB ⟨a, t, p, f⟩ P np m), .int .i64 (paidE ⟨a, t, p, f⟩ P np m)]) w) := by
  have HP := Lib.hid hp
  clear hp
  go_enter Try.func9, Try.ntmps9
  have B := St.start w
  go_wp2_with fail
  generalize hX : World.alloc _ _ = X
  replace B := St.cast hX (((B.alloc _ _).alloc _ _).alloc _ _)
  try simp only [World.size_alloc] at B
  clear hX
  have R := B.rules
  simp only [Rules] at R
  refine (paid_any a t p f ti r0 r1 r2 r3 B0 np d P m _ (HP.out.later B.below)).mono ?_
  rintro e' w1 ⟨rfl, h⟩
  replace B := B.later h
  replace R := B.rules
  simp only [Rules] at R
  clear h
  go_wp2
  refine bodyPost_ret (v := .tuple #[.bool (paidB ⟨a, t, p, f⟩ P np m), .int .i64 (paidE ⟨a, t, p, f⟩ P np m)]) (by simp [results, Try.results9, go_sem, *]) rfl ⟨rfl, B.below⟩
end Go.Proofs.Ytilfebopeeimnaa
