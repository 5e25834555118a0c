/-
  The head of the statements: it returns true. No conditions but those in each statement.
-/
import Derived.Test.YtilfebopeeimnaaRelP
import Derived.Test.YtilfebopeeimnaaRelG
import Derived.Deep.RegionWith
namespace Go.Proofs.Ytilfebopeeimnaa
open Go.RowKit Go.Maps

/-- A list as a function. -/
def nth (L : List Tal) (i : Nat) : Tal := L.getD i ⟨0, 0, 0, 0⟩
theorem tals_of_cells {w : World} {b off n : Nat} {l : Nat → Tal} (hb : b < w.heap.size)
    (hc : ∀ i, i < n → w.cell? ⟨b, off + i * 4, none⟩ = some (.int .i64 (l i).t) ∧ w.cell? ⟨b, off + i * 4 + 1, none⟩ = some (.int .i64 (l i).c) ∧ w.cell? ⟨b, off + i * 4 + 2, none⟩ = some (.int .i64 (l i).f) ∧ w.cell? ⟨b, off + i * 4 + 3, none⟩ = some (.int .i64 (l i).n)) :
    TalsAt w (some ⟨b, off, none⟩) n l := by
  intro i hi
  obtain ⟨h0, h1, h2, h3⟩ := hc i hi
  have e : (⟨b, off, none⟩ : Addr).add (i * 4) = ⟨b, off + i * 4, none⟩ := by unfold Addr.add; split <;> simp_all
  refine ⟨_, rfl, ?_⟩
  rw [e]
  exact ⟨hb, h0, h1, h2, h3⟩
theorem flat_at {L : List Tal} : ∀ {i : Nat}, i < L.length → (L.flatMap tcells)[i * 4]? = some (.int .i64 (nth L i).t) ∧ (L.flatMap tcells)[i * 4 + 1]? = some (.int .i64 (nth L i).c) ∧ (L.flatMap tcells)[i * 4 + 2]? = some (.int .i64 (nth L i).f) ∧ (L.flatMap tcells)[i * 4 + 3]? = some (.int .i64 (nth L i).n) := by
  induction L with
  | nil => intro i hi; simp at hi
  | cons x L ih =>
    intro i hi
    rcases i with _ | i
    · simp [tcells, nth]
    · have h := ih (i := i) (by simpa using hi)
      have e : ∀ j, ((x :: L).flatMap tcells)[j + 4]? = (L.flatMap tcells)[j]? := fun j => by simp [tcells]
      have e0 : (i + 1) * 4 = i * 4 + 4 := by omega
      refine ⟨?_, ?_, ?_, ?_⟩
      · rw [e0, e]; exact h.1
      · rw [e0, show i * 4 + 4 + 1 = i * 4 + 1 + 4 by omega, e]; exact h.2.1
      · rw [e0, show i * 4 + 4 + 2 = i * 4 + 2 + 4 by omega, e]; exact h.2.2.1
      · rw [e0, show i * 4 + 4 + 3 = i * 4 + 3 + 4 by omega, e]; exact h.2.2.2
theorem tals_of_row {w : World} {base : Nat} {v : Value} {L : List Tal} (h : w.ownsRow base 29 4 v L.length (L.flatMap tcells)) : ∃ A cap, v = .slice A L.length cap ∧ TalsAt w A L.length (nth L) ∧ L.length ≤ maxLen := by
  rcases h.2 with ⟨f1, f2⟩ | ⟨g, cap, cur, f1, f2, f3, f4, f5, f6, f7⟩
  · rw [f2]
    exact ⟨none, 0, f1, fun i hi => absurd hi (by omega), by simp [maxLen]⟩
  · refine ⟨some ⟨g, 0, none⟩, cap, f1, tals_of_cells (lt_of_block f3) fun i hi => ?_, by omega⟩
    have hc : ∀ j, j < L.length * 4 → w.cell? ⟨g, j, none⟩ = (L.flatMap tcells)[j]? := fun j hj => World.ownsRow.cellAt (f1 ▸ h) j hj
    obtain ⟨q0, q1, q2, q3⟩ := flat_at hi
    simp only [Nat.zero_add]
    exact ⟨(hc _ (by omega)).trans q0, (hc _ (by omega)).trans q1, (hc _ (by omega)).trans q2, (hc _ (by omega)).trans q3⟩

def headA : Nat → Tal := nth [⟨7, 0, 1, 2⟩, ⟨9, 0, 1, 1⟩]
def headB : Nat → Tal := nth [⟨7, 0, 1, 5⟩, ⟨8, 0, 0, 1⟩]
def headC : Nat → Tal := nth [⟨9, 0, 1, 1⟩, ⟨7, 0, 1, 2⟩]
def headP (i : Nat) : Pay := if i = 0 then ⟨1, 0, -1, 0⟩ else if i = 1 then ⟨2, 0, 0, 12⟩ else ⟨3, 0, 0, 30⟩
theorem head1 : (talB headA 2 && talB headB 2) = true := by decide
theorem head2 : (talB headC 2 && talB headC 0) = false := by decide
theorem head3 : lackL headB 2 headA 2 = [⟨8, 0, 0, 1⟩] := by decide +kernel
theorem head4 : lackL headA 2 headB 2 = [⟨9, 0, 1, 1⟩] := by decide +kernel
theorem head5 : paidB ⟨12, 0, 0, 0⟩ headP 3 30 = true := by decide +kernel
theorem head6 : paidB ⟨12, 0, 0, 0⟩ headP 3 29 = false := by decide +kernel
theorem head7 : paidE ⟨12, 0, 0, 0⟩ headP 3 30 = 0 ∧ paidE ⟨12, 0, 0, 0⟩ headP 3 29 = 0 := by decide +kernel

theorem tals2 {w : World} {b : Nat} {t0 c0 f0 n0 t1 c1 f1 n1 : Int} {t : TypeId} {l : Nat → Tal} (h : w.heap[b]? = some (.cells #[.int .i64 t0, .int .i64 c0, .int .i64 f0, .int .i64 n0, .int .i64 t1, .int .i64 c1, .int .i64 f1, .int .i64 n1] t (0, 0)))
    (h0 : l 0 = ⟨t0, c0, f0, n0⟩) (h1 : l 1 = ⟨t1, c1, f1, n1⟩) : TalsAt w (some ⟨b, 0, none⟩) 2 l :=
  tals_of_cells (lt_of_block h) fun i hi => by
    have e : i = 0 ∨ i = 1 := by omega
    rcases e with rfl | rfl
    · rw [h0]
      exact ⟨cell_blk h _ _ rfl, cell_blk h _ _ rfl, cell_blk h _ _ rfl, cell_blk h _ _ rfl⟩
    · rw [h1]
      exact ⟨cell_blk h _ _ rfl, cell_blk h _ _ rfl, cell_blk h _ _ rfl, cell_blk h _ _ rfl⟩
theorem tals1 {w : World} {b : Nat} {t0 c0 f0 n0 t1 c1 f1 n1 : Int} {t : TypeId} {l : Nat → Tal} (h : w.heap[b]? = some (.cells #[.int .i64 t0, .int .i64 c0, .int .i64 f0, .int .i64 n0, .int .i64 t1, .int .i64 c1, .int .i64 f1, .int .i64 n1] t (0, 0)))
    (h1 : l 0 = ⟨t1, c1, f1, n1⟩) : TalsAt w (some ⟨b, 4, none⟩) 1 l :=
  tals_of_cells (lt_of_block h) fun i hi => by
    have e : i = 0 := by omega
    subst e
    rw [h1]
    exact ⟨cell_blk h _ _ rfl, cell_blk h _ _ rfl, cell_blk h _ _ rfl, cell_blk h _ _ rfl⟩

theorem diffC (b : Nat) (w : World) (h : w.heap[b]? = some (.cells #[.int .i64 9, .int .i64 0, .int .i64 1, .int .i64 1, .int .i64 7, .int .i64 0, .int .i64 1, .int .i64 2] 29 (0, 0))) :
    Calls Try.prog 6 #[.slice (some ⟨b, 0, none⟩) 2 2, .slice none 0 0] w (Ret (.tuple #[.slice none 0 0, .slice none 0 0, .int .i64 1]) w) := by
  refine (diff_any _ 2 2 headC _ 0 0 headC w (tals2 h rfl rfl) (fun i hi => absurd hi (by omega)) (by unfold maxLen; omega) (by unfold maxLen; omega)).mono ?_
  rintro e' w1 ⟨h, ⟨_, rfl⟩ | ⟨ho, _⟩⟩
  · exact ⟨rfl, h⟩
  · rw [head2] at ho; cases ho
theorem pays3 {w : World} {b : Nat} {t : TypeId} (h : w.heap[b]? = some (.cells #[.int .i64 1, .int .i64 0, .int .i64 (-1), .int .i64 0, .int .i64 2, .int .i64 0, .int .i64 0, .int .i64 12, .int .i64 3, .int .i64 0, .int .i64 0, .int .i64 30] t (0, 0))) : PaysAt w (some ⟨b, 0, none⟩) 3 headP := by
  intro i hi
  refine ⟨_, rfl, ?_⟩
  rw [add_mul]
  have e : i = 0 ∨ i = 1 ∨ i = 2 := by omega
  rcases e with rfl | rfl | rfl
  all_goals exact ⟨lt_of_block h, cell_blk h _ _ rfl, cell_blk h _ _ rfl, cell_blk h _ _ rfl, cell_blk h _ _ rfl⟩
set_option maxRecDepth 100000 in
set_option maxHeartbeats 4000000 in
theorem head_any (w : World) : Calls Try.prog 5 #[] w (Ret (.bool true) w) := by
  go_enter Try.func5, Try.ntmps5
  have B := St.start w
  go_wp2_with fail
  generalize hX : World.alloc _ _ = X
  replace B := St.cast hX ((B.alloc _ _).alloc _ _)
  try simp only [World.size_alloc] at B
  clear hX
  have TA : TalsAt X (some ⟨w.heap.size, 0, none⟩) 2 headA := tals2 B.blks.2.1 rfl rfl
  have TB : TalsAt X (some ⟨w.heap.size + 1, 0, none⟩) 2 headB := tals2 B.blks.1 rfl rfl
  have HB := Lib.hid B.blks
  have R := B.rules
  simp only [Rules] at R
  refine (diff_any _ 2 2 headA _ 2 2 headB X TA TB (by unfold maxLen; omega) (by unfold maxLen; omega)).mono ?_
  rintro e' w1 ⟨h, ⟨ho, _⟩ | ⟨_, x, y, rfl, hx, hy⟩⟩
  · rw [head1] at ho; cases ho
  rw [head3] at hx
  rw [head4] at hy
  obtain ⟨Ax, cx, rfl, hx, _⟩ := tals_of_row hx
  obtain ⟨Ay, cy, rfl, hy, _⟩ := tals_of_row hy
  replace B := B.later h
  replace R := B.rules
  simp only [Rules] at R
  clear h TA TB HB
  go_wp2_with fail
  go_region_with (go_at_call 6; refine (diffC _ _ (by exact blk_at _ _ _ rfl)).mono ?_; rintro e' w2 ⟨rfl, h2⟩)
  all_goals
    have S1 := ((St.start w1).drew.alloc _ _).later h2
    have hx2 := hx.later S1.below
    have hy2 := hy.later S1.below
    replace B := B.later S1.below
    clear h2 hx hy
    replace R := B.rules
    simp only [Rules] at R
    go_wp2_with fail
    generalize hX : World.alloc _ _ = X
    replace B := St.cast hX (((B.alloc _ _).alloc _ _).alloc _ _)
    try simp only [World.size_alloc] at B
    have HXw := Lib.hid (show Below w2.heap.size w2 X from by rw [← hX]; exact ((((Below.refl _ _).alloc (Nat.le_refl _) _).alloc (by simp) _).alloc (by simp; omega) _))
    clear hX
    have SX := St.start_with B.blks
    have hx3 := hx2.later HXw.out
    have hy3 := hy2.later HXw.out
    clear hx2 hy2 S1 HXw
    have HP : PaysAt X (some ⟨w2.heap.size, 0, none⟩) 3 headP := pays3 B.blks.2.2.1
    replace R := B.rules
    simp only [Rules] at R
    refine (grade_any _ _ _ _ _ _ 3 3 _ _ _ _ _ 30 _ 12 0 0 0 _ _ _ _ _ headP X HP).mono ?_
    rintro e' w3 ⟨rfl, h⟩
    rw [head5, head7.1]
    replace HP := HP.later h
    replace B := B.later h
    have S2 := Below.refl X.heap.size X |>.trans h
    clear h SX
    replace R := B.rules
    simp only [Rules] at R
    go_wp2_with fail
    refine (grade_any _ _ _ _ _ _ 3 3 _ _ _ _ _ 29 _ 12 0 0 0 _ _ _ _ _ headP w3 HP).mono ?_
    rintro e' w4 ⟨rfl, h⟩
    rw [head6, head7.2]
    have S3 := below_step S2 (Nat.le_refl _) h
    have hx4 := Lib.hid (hx3.later S3)
    have hy4 := Lib.hid (hy3.later S3)
    replace B := B.later h
    clear h hx3 hy3 S2 S3 HP
    replace R := B.rules
    simp only [Rules] at R
    go_wp2_with fail
    refine (samel_any Ax _ 1 1 cx 1 (nth [⟨8, 0, 0, 1⟩]) (nth [⟨8, 0, 0, 1⟩]) w4 hx4.out (tals1 B.blks.2.2.2.1 rfl) (by unfold maxLen; omega) (by unfold maxLen; omega)).mono ?_
    rintro e' w5 ⟨rfl, h⟩
    have hy5 := Lib.hid (hy4.out.later h)
    replace B := B.later h
    clear h hx4 hy4
    replace R := B.rules
    simp only [Rules] at R
    rw [show sameL (nth [⟨8, 0, 0, 1⟩]) (nth [⟨8, 0, 0, 1⟩]) 1 1 = true from by decide]
    go_wp2_with fail
    refine (samel_any Ay _ 1 1 cy 1 (nth [⟨9, 0, 1, 1⟩]) (nth [⟨9, 0, 1, 1⟩]) w5 hy5.out (tals1 B.blks.2.2.2.2.1 rfl) (by unfold maxLen; omega) (by unfold maxLen; omega)).mono ?_
    rintro e' w6 ⟨rfl, h⟩
    replace B := B.later h
    clear h hy5 R
    rw [show sameL (nth [⟨9, 0, 1, 1⟩]) (nth [⟨9, 0, 1, 1⟩]) 1 1 = true from by decide]
    go_wp2
    go_ret
    exact ⟨rfl, B.below⟩
end Go.Proofs.Ytilfebopeeimnaa
