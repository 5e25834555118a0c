/-
  The leaf functions of the packages detector and observatoryref15: what each call returns. No conditions but those in each statement.
-/
import Derived.Test.YteghionkljbggaaRows
import Derived.Test.YteghionkljbggaaKit
namespace Go.Proofs.Yteghionkljbggaa
open Go.RowKit

/-- n is in [lo, hi]. -/
def inB (lo n hi : Int) : Bool := decide (lo ≤ n) && decide (n ≤ hi)

set_option maxHeartbeats 400000 in
theorem within_any (n lo hi : Int) (w : World) :
    Calls Try.prog 20 #[.int .i64 n, .int .i64 lo, .int .i64 hi] w fun e w' => e = .returned (.bool (inB lo n hi)) ∧ w = w' := by
  by_cases h1 : lo ≤ n
  · have hr : inB lo n hi = decide (n ≤ hi) := by simp [inB, h1]
    have Hr := Lib.hid hr; clear hr
    go_enter Try.func20, Try.ntmps20
    go_wp2
    all_goals
      go_ret
      exact ⟨by rw [Hr.out]; simp [*], rfl⟩
  · have hr : inB lo n hi = false := by simp [inB, h1]
    have Hr := Lib.hid hr; clear hr
    go_enter Try.func20, Try.ntmps20
    go_wp2
    all_goals
      go_ret
      exact ⟨by rw [Hr.out]; rfl, rfl⟩

set_option maxHeartbeats 400000 in
theorem within25_any (n lo hi : Int) (w : World) :
    Calls Try.prog 25 #[.int .i64 n, .int .i64 lo, .int .i64 hi] w fun e w' => e = .returned (.bool (inB lo n hi)) ∧ w = w' := by
  by_cases h1 : n ≤ hi
  · have hr : inB lo n hi = decide (lo ≤ n) := by simp [inB, h1]
    have Hr := Lib.hid hr; clear hr
    by_cases h2 : lo ≤ n
    all_goals
      go_enter Try.func25, Try.ntmps25
      go_wp2
      go_ret
      exact ⟨by rw [Hr.out]; simp [*], rfl⟩
  · have hr : inB lo n hi = false := by simp [inB, h1]
    have Hr := Lib.hid hr; clear hr
    by_cases h2 : lo ≤ n
    all_goals
      go_enter Try.func25, Try.ntmps25
      go_wp2
      go_ret
      exact ⟨by rw [Hr.out]; rfl, rfl⟩


/-- A detector's value. -/
def detV (g b k f e : Int) : Value := .agg #[.int .i64 g, .int .i64 b, .int .i64 k, .int .i64 f, .int .i64 e]
def detC (g b k f e : Int) : Obj := .cells #[.int .i64 g, .int .i64 b, .int .i64 k, .int .i64 f, .int .i64 e] 23

def validB (g b k f e : Int) : Bool := inB 1 g 10000 && inB 0 b 1000 && inB 0 k 1000 && inB 1 f 65535 && inB 0 e 1000

set_option maxHeartbeats 400000 in
theorem valid_any (g b k f e : Int) (w : World) :
    Calls Try.prog 16 #[.agg #[.int .i64 g, .int .i64 b, .int .i64 k, .int .i64 f, .int .i64 e]] w fun r w' => r = .returned (.bool (validB g b k f e)) ∧ w.alloc (.cells #[.int .i64 g, .int .i64 b, .int .i64 k, .int .i64 f, .int .i64 e] 23) = w' := by
  go_enter Try.func16, Try.ntmps16
  go_wp2_with (go_at_call 20; refine (within_any _ _ _ _).mono ?_; rintro e w' ⟨rfl, rfl⟩)
  all_goals
    go_ret
    exact ⟨by simp [validB, *], rfl⟩


set_option maxHeartbeats 400000 in
theorem valid17_any (g b k f e : Int) (w : World) :
    Calls Try.prog 17 #[.agg #[.int .i64 g, .int .i64 b, .int .i64 k, .int .i64 f, .int .i64 e]] w fun r w' => r = .returned (.bool (validB g b k f e)) ∧ w.alloc (.cells #[.int .i64 g, .int .i64 b, .int .i64 k, .int .i64 f, .int .i64 e] 23) = w' := by
  go_enter Try.func17, Try.ntmps17
  go_wp2_with (go_at_call 25; refine (within25_any _ _ _ _).mono ?_; rintro e w' ⟨rfl, rfl⟩)
  all_goals
    go_ret
    exact ⟨by simp [validB, *], rfl⟩

/-- All four numbers are in [0, hi]. -/
def allB (hi a b c d : Int) : Bool := inB 0 a hi && inB 0 b hi && inB 0 c hi && inB 0 d hi

set_option maxHeartbeats 400000 in
theorem all_any (a b c d hi : Int) (w : World) :
    Calls Try.prog 31 #[.agg #[.int .i64 a, .int .i64 b, .int .i64 c, .int .i64 d], .int .i64 hi] w fun r w' => r = .returned (.bool (allB hi a b c d)) ∧ w.alloc (.cells #[.int .i64 a, .int .i64 b, .int .i64 c, .int .i64 d] 25) = w' := by
  go_enter Try.func31, Try.ntmps31
  go_wp2_with (go_at_call 25; refine (within25_any _ _ _ _).mono ?_; rintro e w' ⟨rfl, rfl⟩)
  all_goals
    go_ret
    exact ⟨by simp [allB, *], rfl⟩

/-- A number held to [0, hi], as the code does it. -/
def clip (hi a : Int) : Int := max 0 (min a hi)

def fourG (a b c d : Int) (i : Nat) : Int := [a, b, c, d].getD i 0

theorem cell4 {w : World} {x : Nat} {a b c d : Int} {t : TypeId} (hx : w.heap[x]? = some (.cells #[.int .i64 a, .int .i64 b, .int .i64 c, .int .i64 d] t)) {i : Nat} (hi4 : i < 4) :
    w.cell? ⟨x, i, none⟩ = some (.int .i64 (fourG a b c d i)) := by
  have : i = 0 ∨ i = 1 ∨ i = 2 ∨ i = 3 := by omega
  rcases this with rfl | rfl | rfl | rfl <;> simp [World.cell?, hx, fourG]

set_option maxHeartbeats 400000 in
theorem clipped1_any (i : Nat) (hi a b c d : Int) (x y : Nat) (hi4 : i < 4) (w : World)
    (hx : w.heap[x]? = some (.cells #[.int .i64 a, .int .i64 b, .int .i64 c, .int .i64 d] 25)) (hy : w.cell? ⟨y, 0, none⟩ = some (.int .i64 hi)) :
    Calls Try.prog 30 #[.int .i64 i, .pointer (some ⟨x, 0, none⟩), .pointer (some ⟨y, 0, none⟩)] w (Qui (.int .i64 (clip hi (fourG a b c d i))) w) := by
  have hc := cell4 hx hi4
  generalize fourG a b c d i = z at *
  have h1 : (0 : Int) ≤ (i : Int) := by omega
  have h2 : (i : Int) < 4 := by omega
  clear hx
  go_enter Try.func30, Try.ntmps30
  go_wp2
  go_quiet (fail)
  go_wp2
  all_goals
    go_ret
    exact ⟨ret_int (by simp only [clip]; omega), _, rfl⟩

/-- The first k of four numbers; 0 behind them. -/
def firsts (k : Nat) (g : Nat → Int) : Array Value := #[.int .i64 (if 0 < k then g 0 else 0), .int .i64 (if 1 < k then g 1 else 0), .int .i64 (if 2 < k then g 2 else 0), .int .i64 (if 3 < k then g 3 else 0)]
theorem firsts_set (k : Nat) (g : Nat → Int) (h : k < 4) : (firsts k g).setIfInBounds k (.int .i64 (g k)) = firsts (k + 1) g := by
  have : k = 0 ∨ k = 1 ∨ k = 2 ∨ k = 3 := by omega
  rcases this with rfl | rfl | rfl | rfl <;> simp [firsts]
theorem firsts_get (k : Nat) (g : Nat → Int) (h : k < 4) : ∃ n, (firsts k g)[k]? = some (.int .i64 n) := by
  have : k = 0 ∨ k = 1 ∨ k = 2 ∨ k = 3 := by omega
  rcases this with rfl | rfl | rfl | rfl <;> exact ⟨_, rfl⟩

def CellsAt (g : Nat → Int) (w : World) (v : Value) (wr : World) : Prop :=
  ∃ k : Nat, k ≤ 4 ∧ v = .int .i64 k ∧ Below w.heap.size w wr ∧ wr.heap[w.heap.size]? = some (.cells #[.int .i64 0, .int .i64 0, .int .i64 0, .int .i64 0] 25) ∧ wr.heap[w.heap.size + 1]? = some (.cells (firsts k g) 25)

set_option maxHeartbeats 400000 in
theorem cells_any (K : Nat) (caps : Array Value) (g : Nat → Int) (w : World) (hcall : ∀ args W, (callFunc K args).run Try.prog W = .ok (.enter K args) W)
    (hf : ∀ i : Nat, i < 4 → ∀ w1, Below w.heap.size w w1 → Calls Try.prog K (#[.int .i64 i] ++ caps) w1 (Ret (.int .i64 (g i)) w1)) :
    Calls Try.prog 21 #[.func (.func K) #[] caps] w (Ret (.agg #[.int .i64 (g 0), .int .i64 (g 1), .int .i64 (g 2), .int .i64 (g 3)]) w) := by
  have Hf := Lib.hid hf
  clear hf
  go_enter Try.func21, Try.ntmps21
  go_wp2
  go_loopw [5] (CellsAt g w) (fun v _ => 4 - (intOf v).toNat)
  case atStart =>
    refine ⟨0, by omega, rfl, by go_grown, ?_, ?_⟩
    · exact blk_old (blk_new _ _) _
    · have := blk_new (w.alloc (.cells #[.int .i64 0, .int .i64 0, .int .i64 0, .int .i64 0] 25)) (.cells #[.int .i64 0, .int .i64 0, .int .i64 0, .int .i64 0] 25)
      simpa [firsts] using this
  case round =>
    obtain ⟨k, hk, rfl, hb, hr, ho⟩ := hrel
    by_cases hlt : k < 4
    · go_wp2_with fail
      refine (Hf.out k hlt _ hb).mono ?_
      rintro e w1 ⟨rfl, hb1⟩
      have hr1 := (hb1.block w.heap.size (lt_of_block hr)).trans hr
      have ho1 := (hb1.block (w.heap.size + 1) (lt_of_block ho)).trans ho
      obtain ⟨n, hn⟩ := firsts_get k g hlt
      have c1 := cell_blk ho1 k _ hn
      have f1 := free_blk ho1 k
      have hb2 : Below w.heap.size w w1 := hb.trans (hb1.mono hb.size)
      have Hr1 := Lib.hid hr1
      have Ho1 := Lib.hid ho1
      have Hn := Lib.hid hn
      clear hr1 ho1 hr ho hn hb1
      go_wp2
      refine ⟨⟨k + 1, by omega, by go_num, hb2.setCell (by simp) _, ?_, ?_⟩, by simp [intOf]; omega⟩
      · exact blk_set_other Hr1.out _ _ (by simp)
      · rw [set_blk Ho1.out, firsts_set k g hlt]
    · obtain rfl : k = 4 := by omega
      have f0 := free_blk hr 0
      have f1 := free_blk hr 1
      have f2 := free_blk hr 2
      have f3 := free_blk hr 3
      have c0 := cell_blk hr 0 _ rfl
      have c1 := cell_blk hr 1 _ rfl
      have c2 := cell_blk hr 2 _ rfl
      have c3 := cell_blk hr 3 _ rfl
      have d0 := cell_blk ho 0 (.int .i64 (g 0)) rfl
      have d1 := cell_blk ho 1 (.int .i64 (g 1)) rfl
      have d2 := cell_blk ho 2 (.int .i64 (g 2)) rfl
      have d3 := cell_blk ho 3 (.int .i64 (g 3)) rfl
      clear hr ho
      go_wp2
      exact bodyPost_ret (v := .agg #[.int .i64 (g 0), .int .i64 (g 1), .int .i64 (g 2), .int .i64 (g 3)]) (by simp [results, Try.results21, go_sem, *]) rfl ⟨rfl, by go_grown⟩

end Go.Proofs.Yteghionkljbggaa
