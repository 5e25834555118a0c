/-
  ReleaseGrades: for every script, two releases and frame the law returns true. No conditions.
-/
import Derived.Test.YtilfebopeeimnaaRelR
import Derived.Test.YtilfebopeeimnaaRelJ
namespace Go.Proofs.Ytilfebopeeimnaa
open Go.ChangeShapes Go.WideShapes Go.ChangeAt Go.RowKit

/-- What the law asks of the two answers. -/
def gradesB (a b : Bool) (e g : Int) : Bool := (decide (e ≠ 0) && !a) || (decide (g ≠ 0) && !b) || !a || b
theorem grades_true {x : Fra} {P : Nat → Pay} {np : Nat} {m m' : Int} (hm : m ≤ m') : gradesB (paidB x P np m) (paidB x P np m') (paidE x P np m) (paidE x P np m') = true := by
  unfold gradesB
  by_cases h1 : paidE x P np m = 0
  · by_cases h2 : paidE x P np m' = 0
    · cases h3 : paidB x P np m with
      | false => simp
      | true => rw [paid_later h3 hm h2]; simp
    · rw [paid_no h2]; simp [h2]
  · rw [paid_no h1]; simp

set_option maxRecDepth 100000 in
set_option maxHeartbeats 4000000 in
theorem grades_walk (w : World) (x y : Value) (A1 A2 A3 A4 A5 : Option Addr) (n1 n2 n3 n4 n5 c1 c2 c3 c4 c5 : Nat) (P : Nat → Pay) (hP : PaysAt w A4 n4 P)
    (s0 s1 : ByteArray) (i2 : Int) (As : Option Addr) (ns cs : Nat) (m i5 : Int) (t0 t1 : ByteArray) (j2 : Int) (At : Option Addr) (nt ct : Nat) (m' j5 : Int) (a t q : Int) (ti : Value) (f : Int) (r0 r1 r2 r3 : Value) :
    Calls Try.prog 4 #[.agg #[x, y, .slice A1 n1 c1, .slice A2 n2 c2, .slice A3 n3 c3, .slice A4 n4 c4, .slice A5 n5 c5], .agg #[.string s0, .string s1, .int .i64 i2, .slice As ns cs, .int .i64 m, .int .i64 i5], .agg #[.string t0, .string t1, .int .i64 j2, .slice At nt ct, .int .i64 m', .int .i64 j5], .agg #[.int .i64 a, .int .i64 t, .int .i64 q, ti, .int .i64 f, r0, r1, r2, r3]] w (Ret (.bool true) w) := by
  have HP := Lib.hid hP
  clear hP
  have C1 := Lib.hid (fun W => fewscript_any x y A1 A2 A3 A4 A5 n1 n2 n3 n4 n5 c1 c2 c3 c4 c5 W)
  cases hf : fewB n1 n2 n3 n4 n5 with
  | false =>
    rw [hf] at C1
    go_enter Try.func4, Try.ntmps4
    have B := St.start w
    go_wp2_with fail
    generalize hX : World.alloc _ _ = X
    replace B := St.cast hX ((((B.alloc _ _).alloc _ _).alloc _ _).alloc _ _)
    try simp only [World.size_alloc] at B
    clear hX
    refine (head_any _).mono ?_
    rintro e' w1 ⟨rfl, h⟩
    replace B := B.later h
    have R := B.rules
    simp only [Rules] at R
    clear h
    go_wp2_with fail
    refine (C1.out _).mono ?_
    rintro e' w2 ⟨rfl, h⟩
    replace B := B.later h
    clear h R
    go_wp2
    go_ret
    exact ⟨rfl, B.below⟩
  | true =>
    rw [hf] at C1
    clear hf
    by_cases hmm : m' < m
    · have HG := Lib.hid (grades_true (x := ⟨a, t, q, f⟩) (P := P) (np := n4) (m := m') (m' := m) (by omega))
      go_enter Try.func4, Try.ntmps4
      have B := St.start w
      go_wp2_with fail
      generalize hX : World.alloc _ _ = X
      replace B := St.cast hX ((((B.alloc _ _).alloc _ _).alloc _ _).alloc _ _)
      try simp only [World.size_alloc] at B
      clear hX
      refine (head_any _).mono ?_
      rintro e' w1 ⟨rfl, h⟩
      replace B := B.later h
      have R := B.rules
      simp only [Rules] at R
      clear h
      go_wp2_with fail
      refine (C1.out _).mono ?_
      rintro e' w2 ⟨rfl, h⟩
      replace B := B.later h
      clear h
      replace R := B.rules
      simp only [Rules] at R
      go_wp2_with fail
      generalize hX : World.setCell _ _ _ = X
      replace B := St.cast hX ((((((((((((B.set (w.heap.size + 1) 0 _ (by omega)).set (w.heap.size + 1) 1 _ (by omega)).set (w.heap.size + 1) 2 _ (by omega)).set (w.heap.size + 1) 3 _ (by omega)).set (w.heap.size + 1) 4 _ (by omega)).set (w.heap.size + 1) 5 _ (by omega)).set (w.heap.size + 1 + 1) 0 _ (by omega)).set (w.heap.size + 1 + 1) 1 _ (by omega)).set (w.heap.size + 1 + 1) 2 _ (by omega)).set (w.heap.size + 1 + 1) 3 _ (by omega)).set (w.heap.size + 1 + 1) 4 _ (by omega)).set (w.heap.size + 1 + 1) 5 _ (by omega))
      have n1 : ¬ w.heap.size = w.heap.size + 1 := by omega
      have n2 : ¬ w.heap.size = w.heap.size + 1 + 1 := by omega
      have n3 : ¬ w.heap.size + 1 = w.heap.size + 1 + 1 := by omega
      have n4 : ¬ w.heap.size + 1 + 1 = w.heap.size + 1 := by omega
      have n5 : ¬ w.heap.size + 1 + 1 + 1 = w.heap.size + 1 := by omega
      have n6 : ¬ w.heap.size + 1 + 1 + 1 = w.heap.size + 1 + 1 := by omega
      simp only [setIn, if_true, if_neg n1, if_neg n2, if_neg n3, if_neg n4, if_neg n5, if_neg n6, List.setIfInBounds_toArray, List.set_cons_zero, List.set_cons_succ] at B
      clear hX n1 n2 n3 n4 n5 n6
      replace R := B.rules
      simp only [Rules] at R
      refine (grade_any _ _ _ _ _ A4 n4 c4 _ _ _ _ _ m' _ a t q f ti r0 r1 r2 r3 P _ (HP.out.later B.below)).mono ?_
      rintro e' w3 ⟨rfl, h⟩
      replace B := B.later h
      clear h
      replace R := B.rules
      simp only [Rules] at R
      go_wp2_with fail
      refine (grade_any _ _ _ _ _ A4 n4 c4 _ _ _ _ _ m _ a t q f ti r0 r1 r2 r3 P _ (HP.out.later B.below)).mono ?_
      rintro e' w4 ⟨rfl, h⟩
      replace B := B.later h
      clear h R
      generalize paidB ⟨a, t, q, f⟩ P n4 m' = pa at HG ⊢
      generalize paidB ⟨a, t, q, f⟩ P n4 m = pb at HG ⊢
      generalize paidE ⟨a, t, q, f⟩ P n4 m' = pe at HG ⊢
      generalize paidE ⟨a, t, q, f⟩ P n4 m = pg at HG ⊢
      go_wp2
      all_goals
        go_ret
        exact ⟨by have h9 := HG.out; simp_all [gradesB], B.below⟩
    · have HG := Lib.hid (grades_true (x := ⟨a, t, q, f⟩) (P := P) (np := n4) (m := m) (m' := m') (by omega))
      go_enter Try.func4, Try.ntmps4
      have B := St.start w
      go_wp2_with fail
      generalize hX : World.alloc _ _ = X
      replace B := St.cast hX ((((B.alloc _ _).alloc _ _).alloc _ _).alloc _ _)
      try simp only [World.size_alloc] at B
      clear hX
      refine (head_any _).mono ?_
      rintro e' w1 ⟨rfl, h⟩
      replace B := B.later h
      have R := B.rules
      simp only [Rules] at R
      clear h
      go_wp2_with fail
      refine (C1.out _).mono ?_
      rintro e' w2 ⟨rfl, h⟩
      replace B := B.later h
      clear h
      replace R := B.rules
      simp only [Rules] at R
      go_wp2_with fail
      refine (grade_any _ _ _ _ _ A4 n4 c4 _ _ _ _ _ m _ a t q f ti r0 r1 r2 r3 P _ (HP.out.later B.below)).mono ?_
      rintro e' w3 ⟨rfl, h⟩
      replace B := B.later h
      clear h
      replace R := B.rules
      simp only [Rules] at R
      go_wp2_with fail
      refine (grade_any _ _ _ _ _ A4 n4 c4 _ _ _ _ _ m' _ a t q f ti r0 r1 r2 r3 P _ (HP.out.later B.below)).mono ?_
      rintro e' w4 ⟨rfl, h⟩
      replace B := B.later h
      clear h R
      generalize paidB ⟨a, t, q, f⟩ P n4 m = pa at HG ⊢
      generalize paidB ⟨a, t, q, f⟩ P n4 m' = pb at HG ⊢
      generalize paidE ⟨a, t, q, f⟩ P n4 m = pe at HG ⊢
      generalize paidE ⟨a, t, q, f⟩ P n4 m' = pg at HG ⊢
      go_wp2
      all_goals
        go_ret
        exact ⟨by have h9 := HG.out; simp_all [gradesB], B.below⟩

set_option maxHeartbeats 4000000 in
set_option maxRecDepth 100000 in
theorem releaseGrades_lifted (os : Os) (started : os.Started) (H : Type) (enc : TypeId × Value → H) :
    ReturnsInHanded {} Try.checked os 4 .any (Rows.releaseGradesSpec.pre6 enc Try.prog Try.f4 Rows.releaseGradesRow.domain false) (Rows.releaseGradesSpec.post enc Try.prog Try.f4 false true false false) := by
  refine returnsInHanded_of_change (C := Try.checked) own started (by kernel_rfl) Try.func4
    (ChangeSpec.witness6 (enc := enc) (C := Try.checked) false ⟨#[], #[.agg #[.int .i64 0, .int .i64 0, .slice none 0 0, .slice none 0 0, .slice none 0 0, .slice none 0 0, .slice none 0 0], .agg #[.string ⟨#[]⟩, .string ⟨#[]⟩, .int .i64 0, .slice none 0 0, .int .i64 0, .int .i64 0], .agg #[.string ⟨#[]⟩, .string ⟨#[]⟩, .int .i64 0, .slice none 0 0, .int .i64 0, .int .i64 0], .agg #[.int .i64 0, .int .i64 0, .int .i64 0, .int .i64 0, .int .i64 0, .int .i64 0, .int .i64 0, .int .i64 0, .int .i64 0]], []⟩ 8 (by kernel_rfl) (by kernel_rfl) (by kernel_rfl) (by kernel_rfl)) ?_
  intro W base args ds gs before hval0 hW _ _
  have hval : ∀ (j : Nat) t v, Try.f4.params[j]? = some t → args[j]? = some v → Value.okWide Try.prog W .any base t v := hval0
  have hW' := hW
  obtain ⟨p, q, hA0, hV, _, _, _⟩ := hW
  have hA : DataW.TrodAll enc Try.prog W 0 (fun _ => true) true Try.f4.params.toList args.toList ds p := hA0
  rw [Try.params4] at hA hval
  obtain ⟨v0, vs0, d0, ds0, p0, q0, hargs, rfl, _, h0, r0⟩ := trodAll_cons hA
  obtain ⟨v1, vs1, d1, ds1, p1, q1, rfl, rfl, rfl, h1, r1⟩ := trodAll_cons r0
  obtain ⟨v2, vs2, d2, ds2, p2, q2, rfl, rfl, rfl, h2, r2⟩ := trodAll_cons r1
  obtain ⟨v3, vs3, d3, ds3, p3, q3, rfl, rfl, rfl, h3, r3⟩ := trodAll_cons r2
  obtain ⟨rfl, rfl, rfl⟩ := trodAll_nil r3
  obtain rfl : args = #[v0, v1, v2, v3] := by cases args; simp_all
  obtain ⟨rfl, rfl⟩ := trodVars_none hV
  obtain ⟨x, y, A1, A2, A3, A4, A5, n1, n2, n3, n4, n5, c1, c2, c3, c4, c5, P, hP, rfl⟩ := open37 (hval 0 37 v0 rfl rfl) h0
  obtain ⟨s0, s1, i2, As, ns, cs, m, i5, rfl⟩ := open42 (hval 1 42 v1 rfl rfl) h1
  obtain ⟨t0, t1, j2, At, nt, ct, m', j5, rfl⟩ := open42 (hval 2 42 v2 rfl rfl) h2
  obtain ⟨a, t, q, ti, f, z0, z1, z2, z3, rfl⟩ := open46 (hval 3 46 v3 rfl rfl) h3
  exact law_post (f := 4) laidOut (by kernel_rfl) rfl Try.underlying4 rfl hW' rfl (grades_walk W x y A1 A2 A3 A4 A5 n1 n2 n3 n4 n5 c1 c2 c3 c4 c5 P hP s0 s1 i2 As ns cs m i5 t0 t1 j2 At nt ct m' j5 a t q ti f z0 z1 z2 z3)

/-- The statement. -/
theorem releaseGrades_holds : Rows.ReleaseGradesSaid :=
  OpenClaim.holds_of_wide 4 Try.f4 rfl rfl rfl rfl rfl rfl rfl ⟨rfl, rfl, rfl, rfl, rfl⟩ rfl rfl rfl rfl rfl (by kernel_rfl) Try.func4 (by kernel_rfl)
    (of_decide_eq_true (by kernel_rfl)) (by unfold Func.isWrapper; rw [if_neg (of_decide_eq_false (by kernel_rfl))]; exact ⟨rfl, rfl⟩)
    (fun os started H enc _ => releaseGrades_lifted os started H enc)

#print axioms releaseGrades_holds

end Go.Proofs.Ytilfebopeeimnaa
