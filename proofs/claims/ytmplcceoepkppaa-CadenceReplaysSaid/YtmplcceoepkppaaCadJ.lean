/-
  The example of the laws' head; head returns true. No conditions but those in each statement.
-/
import Derived.Test.YtmplcceoepkppaaCadI
namespace Go.Proofs.Ytmplcceoepkppaa
open Go.RowKit

def eqS (a b a' b' : Int) : Bool := a == a' && b == b'
theorem eq36g (n : Nat) (a b a' b' : Int) (w : World) :
    (Op.equalIn (n + 2) 36 (.agg #[.int .i64 a, .int .i64 b]) (.agg #[.int .i64 a', .int .i64 b'])).run Try.prog w = .ok (eqS a b a' b') w := by
  rw [Op.equalIn]
  simp [run_underlying Try.underlying36, go_sem, List.forIn_cons, eqS]
  by_cases h1 : a = a' <;> by_cases h2 : b = b' <;> simp [*]
@[go_sem ↓ high] theorem eq36 (a b a' b' : Int) (w : World) :
    (Op.equalIn 10000 36 (.agg #[.int .i64 a, .int .i64 b]) (.agg #[.int .i64 a', .int .i64 b'])).run Try.prog w = .ok (eqS a b a' b') w :=
  eq36g 9998 a b a' b' w
@[go_sem] theorem eqS_same (a b : Int) : eqS a b a b = true := by simp [eqS]
@[go_sem] theorem eqC_same (a b c : Int) (d : Bool) : eqC a b c d a b c d = true := by simp [eqC]

/-- The example's sequence. -/
def exS : Sq := ⟨2, fun i => if i = 0 then 2 else 5, fun i => if i = 0 then 10 else 3, fun i => if i = 0 then 10 else 6, 2⟩

theorem ints_of_blk {w : World} {b : Nat} {t : TypeId} (l : List Int) (h : w.heap[b]? = some (.cells (l.map (Value.int .i64)).toArray t (0, 0))) : IntsAt w (some ⟨b, 0, none⟩) l.length (fun i => l.getD i 0) := by
  intro i hi
  refine ⟨_, rfl, ?_, ?_⟩
  · rw [Go.ChangeShapes.block_add]
    exact lt_of_block h
  · rw [Go.WideShapes.add_plain, Nat.zero_add]
    refine cell_blk h i _ ?_
    simp [hi]

theorem steps_of_blk {w : World} {b : Nat} {t : TypeId} {s : Sq} {cs : Array Value} (h : w.heap[b]? = some (.cells cs t (0, 0)))
    (hc : ∀ i, i < s.n → cs[i * 3]? = some (.int .i64 (s.F i)) ∧ cs[i * 3 + 1]? = some (.int .i64 (s.L i)) ∧ cs[i * 3 + 2]? = some (.int .i64 (s.M i))) : StepsAt w (some ⟨b, 0, none⟩) s := by
  intro i hi
  obtain ⟨h0, h1, h2⟩ := hc i hi
  refine ⟨_, rfl, ?_⟩
  rw [Go.WideShapes.add_plain, Nat.zero_add]
  exact ⟨lt_of_block h, cell_blk h _ _ h0, cell_blk h _ _ h1, cell_blk h _ _ h2⟩

set_option maxHeartbeats 1000000 in
theorem example_any (w : World) : Calls Try.prog 22 #[] w fun e w' => ∃ b : Nat, e = .returned (.agg #[.slice (some ⟨b, 0, none⟩) 2 2, .int .i64 2]) ∧ Below w.heap.size w w' ∧ StepsAt w' (some ⟨b, 0, none⟩) exS := by
  go_enter Try.func22, Try.ntmps22
  go_wp2
  refine bodyPost_ret (v := .agg #[.slice (some ⟨w.heap.size + 1, 0, none⟩) 2 2, .int .i64 2]) (by simp [results, Try.results22, go_sem, *]) rfl ⟨_, rfl, by go_grown, ?_⟩
  refine steps_of_blk (t := 44) (cs := #[.int .i64 2, .int .i64 10, .int .i64 10, .int .i64 5, .int .i64 3, .int .i64 6]) (blk_at _ _ _ (by simp)) ?_
  intro i hi
  have h2 : i = 0 ∨ i = 1 := by have : i < 2 := hi; omega
  rcases h2 with rfl | rfl <;> exact ⟨rfl, rfl, rfl⟩

theorem none_steps {w : World} {s : Sq} (h : s.n = 0) : StepsAt w none s := fun i hi => by omega

set_option maxRecDepth 100000 in
set_option maxHeartbeats 8000000 in
theorem head_any (w : World) : Calls Try.prog 9 #[] w (Ret (.bool true) w) := by
  go_enter Try.func9, Try.ntmps9
  go_wp2_with fail
  refine (example_any _).mono ?_
  rintro e' w1 ⟨b, rfl, hb, hs⟩
  have H1 := Lib.hid (fun (W : World) (h : Below w1.heap.size w1 W) => (show winV exS ⟨0, 0, 0, false⟩ = Value.tuple #[.agg #[.int .i64 0, .int .i64 38399], .int .i64 0] from by rfl) ▸ win_any (some ⟨b, 0, none⟩) 2 exS 0 0 0 false W (hs.later h) (by decide))
  have H2 := Lib.hid (fun (W : World) (h : Below w1.heap.size w1 W) => (show advV exS ⟨0, 0, 0, false⟩ 100 = Value.tuple #[.agg #[.int .i64 1, .int .i64 0, .int .i64 100, .bool false], .int .i64 0] from by rfl) ▸ advance_any (some ⟨b, 0, none⟩) 2 exS 0 0 0 false 100 W (hs.later h) (by decide))
  have H3 := Lib.hid (fun (W : World) (h : Below w1.heap.size w1 W) => (show winV exS ⟨1, 0, 100, false⟩ = Value.tuple #[.agg #[.int .i64 103, .int .i64 106], .int .i64 0] from by rfl) ▸ win_any (some ⟨b, 0, none⟩) 2 exS 1 0 100 false W (hs.later h) (by decide))
  have H7 := Lib.hid (fun (W : World) (h : Below w1.heap.size w1 W) => (show Value.int .i64 (readyE exS ⟨1, 0, 100, false⟩ 102) = Value.int .i64 16 from by rfl) ▸ ready_any (some ⟨b, 0, none⟩) 2 exS 1 0 100 false 102 W (hs.later h) (by decide))
  have H8 := Lib.hid (fun (W : World) (h : Below w1.heap.size w1 W) => (show Value.int .i64 (readyE exS ⟨1, 0, 100, false⟩ 107) = Value.int .i64 17 from by rfl) ▸ ready_any (some ⟨b, 0, none⟩) 2 exS 1 0 100 false 107 W (hs.later h) (by decide))
  have H4 := Lib.hid (fun (W : World) (h : Below w1.heap.size w1 W) (q : Nat) (hq : W.heap[q]? = some (Obj.cells #[.int .i64 100, .int .i64 104, .int .i64 114, .int .i64 120] 3 (0, 0))) => (show repV (repR exS (fun i => ([100, 104, 114, 120] : List Int).getD i 0) 4) = Value.tuple #[.agg #[.int .i64 0, .int .i64 2, .int .i64 120, .bool true], .int .i64 4, .int .i64 0] from by rfl) ▸ replay_any (some ⟨b, 0, none⟩) 2 exS (some ⟨q, 0, none⟩) 4 4 _ W (hs.later h) (by decide) (ints_of_blk [100, 104, 114, 120] hq) (by decide))
  have H5 := Lib.hid (fun (W : World) (h : Below w1.heap.size w1 W) (q : Nat) (hq : W.heap[q]? = some (Obj.cells #[.int .i64 100, .int .i64 104, .int .i64 113] 3 (0, 0))) => (show repV (repR exS (fun i => ([100, 104, 113] : List Int).getD i 0) 3) = Value.tuple #[.agg #[.int .i64 0, .int .i64 0, .int .i64 0, .bool false], .int .i64 2, .int .i64 16] from by rfl) ▸ replay_any (some ⟨b, 0, none⟩) 2 exS (some ⟨q, 0, none⟩) 3 3 _ W (hs.later h) (by decide) (ints_of_blk [100, 104, 113] hq) (by decide))
  have H6 := Lib.hid (fun (W : World) (h : Below w1.heap.size w1 W) (q : Nat) (hq : W.heap[q]? = some (Obj.cells #[.int .i64 100, .int .i64 104, .int .i64 114, .int .i64 120, .int .i64 130] 3 (0, 0))) => (show repV (repR exS (fun i => ([100, 104, 114, 120, 130] : List Int).getD i 0) 5) = Value.tuple #[.agg #[.int .i64 0, .int .i64 0, .int .i64 0, .bool false], .int .i64 4, .int .i64 11] from by rfl) ▸ replay_any (some ⟨b, 0, none⟩) 2 exS (some ⟨q, 0, none⟩) 5 5 _ W (hs.later h) (by decide) (ints_of_blk [100, 104, 114, 120, 130] hq) (by decide))
  have H9 := Lib.hid (fun (W : World) => (show sqB ⟨0, fun _ => 0, fun _ => 0, fun _ => 0, 0⟩ = false from by rfl) ▸ valid_any none 0 ⟨0, fun _ => 0, fun _ => 0, fun _ => 0, 0⟩ W (none_steps rfl) (by decide))
  have B := St.start w1
  have R := B.rules
  clear hs
  go_wp2_with fail
  generalize hX : World.alloc _ _ = X
  replace B := St.cast hX (B.alloc _ _)
  clear hX
  refine (H1.out _ B.below).mono ?_
  rintro e' w2 ⟨rfl, h⟩
  replace B := B.later h
  replace R := B.rules
  simp only [Rules] at R
  clear h
  go_wp2_with fail
  generalize hX : World.alloc _ _ = X
  replace B := St.cast hX (B.alloc _ _)
  clear hX
  refine (H2.out _ B.below).mono ?_
  rintro e' w3 ⟨rfl, h⟩
  replace B := B.later h
  replace R := B.rules
  simp only [Rules] at R
  clear h
  go_wp2_with fail
  generalize hX : World.alloc _ _ = X
  replace B := St.cast hX (B.alloc _ _)
  clear hX
  refine (H3.out _ B.below).mono ?_
  rintro e' w4 ⟨rfl, h⟩
  replace B := B.later h
  replace R := B.rules
  simp only [Rules] at R
  clear h
  go_wp2_with fail
  generalize hX : World.alloc _ _ = X
  replace B := St.cast hX ((B.alloc _ _).alloc _ _)
  try simp only [World.size_alloc] at B
  clear hX
  refine (H4.out _ B.below _ B.blks.1).mono ?_
  rintro e' w5 ⟨rfl, h⟩
  replace B := B.later h
  replace R := B.rules
  simp only [Rules] at R
  clear h
  go_wp2_with fail
  generalize hX : World.alloc _ _ = X
  replace B := St.cast hX ((B.alloc _ _).alloc _ _)
  try simp only [World.size_alloc] at B
  clear hX
  refine (H5.out _ B.below _ B.blks.1).mono ?_
  rintro e' w6 ⟨rfl, h⟩
  replace B := B.later h
  replace R := B.rules
  simp only [Rules] at R
  clear h
  go_wp2_with fail
  generalize hX : World.alloc _ _ = X
  replace B := St.cast hX ((B.alloc _ _).alloc _ _)
  try simp only [World.size_alloc] at B
  clear hX
  refine (H6.out _ B.below _ B.blks.1).mono ?_
  rintro e' w7 ⟨rfl, h⟩
  replace B := B.later h
  replace R := B.rules
  simp only [Rules] at R
  clear h
  go_wp2_with fail
  generalize hX : World.alloc _ _ = X
  replace B := St.cast hX (B.alloc _ _)
  clear hX
  refine (H7.out _ B.below).mono ?_
  rintro e' w8 ⟨rfl, h⟩
  replace B := B.later h
  replace R := B.rules
  simp only [Rules] at R
  clear h
  go_wp2_with fail
  refine (H8.out _ B.below).mono ?_
  rintro e' w9 ⟨rfl, h⟩
  replace B := B.later h
  replace R := B.rules
  simp only [Rules] at R
  clear h
  go_wp2_with fail
  refine (H9.out _).mono ?_
  rintro e' w10 ⟨rfl, h⟩
  replace B := B.later h
  replace R := B.rules
  simp only [Rules] at R
  clear h
  go_wp2
  go_ret
  exact ⟨rfl, below_step hb (Nat.le_refl _) B.below⟩

end Go.Proofs.Ytmplcceoepkppaa
