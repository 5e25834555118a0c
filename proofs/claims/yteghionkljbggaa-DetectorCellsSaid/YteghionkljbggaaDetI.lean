/-
  The check 'head' of the statements' package returns true.
-/
import Derived.Test.YteghionkljbggaaDetD
import Derived.Test.YteghionkljbggaaDetF
import Derived.Test.YteghionkljbggaaSt
namespace Go.Proofs.Yteghionkljbggaa
open Go.RowKit

theorem head_e1 (w : World) : Calls Try.prog 10 #[.agg #[.int .i64 500, .int .i64 100, .int .i64 20, .int .i64 1000, .int .i64 100], .agg #[.int .i64 0, .int .i64 1000, .int .i64 3000, .int .i64 7], .agg #[.int .i64 0, .int .i64 0, .int .i64 0, .int .i64 1], .int .i64 5, .agg #[.bool true, .bool false, .bool false, .bool false]] w
    (Ret (.tuple #[.agg #[.int .i64 0, .int .i64 625, .int .i64 1000, .int .i64 129], .int .i64 0]) w) :=
  (expose_any _ _ _ _ _ _ _ _ _ _ _ _ _ _ _ _ _ _ w).mono fun _ _ h => h.val (by kernel_rfl)
theorem head_e2 (w : World) : Calls Try.prog 10 #[.agg #[.int .i64 500, .int .i64 100, .int .i64 20, .int .i64 1000, .int .i64 100], .agg #[.int .i64 0, .int .i64 0, .int .i64 0, .int .i64 0], .agg #[.int .i64 0, .int .i64 0, .int .i64 0, .int .i64 0], .int .i64 51, .agg #[.bool true, .bool false, .bool false, .bool false]] w
    (Ret (.tuple #[.agg #[.int .i64 0, .int .i64 0, .int .i64 0, .int .i64 0], .int .i64 1]) w) :=
  (expose_any _ _ _ _ _ _ _ _ _ _ _ _ _ _ _ _ _ _ w).mono fun _ _ h => h.val (by kernel_rfl)
theorem head_g1 (w : World) : Calls Try.prog 12 #[.agg #[.int .i64 500, .int .i64 100, .int .i64 20, .int .i64 1000, .int .i64 100], .agg #[.int .i64 0, .int .i64 625, .int .i64 1000, .int .i64 129]] w
    (Ret (.tuple #[.agg #[.int .i64 0, .int .i64 0, .int .i64 100, .int .i64 0], .int .i64 0]) w) :=
  (ghost_any _ _ _ _ _ _ _ _ _ w).mono fun _ _ h => h.val (by kernel_rfl)
theorem head_g2 (w : World) : Calls Try.prog 12 #[.agg #[.int .i64 500, .int .i64 100, .int .i64 20, .int .i64 1000, .int .i64 100], .agg #[.int .i64 1001, .int .i64 0, .int .i64 0, .int .i64 0]] w
    (Ret (.tuple #[.agg #[.int .i64 0, .int .i64 0, .int .i64 0, .int .i64 0], .int .i64 1]) w) :=
  (ghost_any _ _ _ _ _ _ _ _ _ w).mono fun _ _ h => h.val (by kernel_rfl)
theorem head_r (w : World) : Calls Try.prog 14 #[.agg #[.int .i64 500, .int .i64 100, .int .i64 20, .int .i64 1000, .int .i64 100], .agg #[.int .i64 0, .int .i64 625, .int .i64 1000, .int .i64 129], .agg #[.bool true, .bool false, .bool false, .bool false]] w
    (Ret (.tuple #[.agg #[.int .i64 0, .int .i64 1010, .int .i64 0, .int .i64 18], .agg #[.bool false, .bool true, .bool false, .bool true], .int .i64 0]) w) :=
  (reduce_any _ _ _ _ _ _ _ _ _ _ _ _ _ w).mono fun _ _ h => h.val (by kernel_rfl)
theorem head_v1 (w : World) : Calls Try.prog 16 #[.agg #[.int .i64 500, .int .i64 100, .int .i64 20, .int .i64 1000, .int .i64 100]] w (Ret (.bool true) w) :=
  (valid_ret _ _ _ _ _ w).mono fun _ _ h => h.val (by kernel_rfl)
theorem head_v2 (w : World) : Calls Try.prog 16 #[.agg #[.int .i64 0, .int .i64 0, .int .i64 0, .int .i64 0, .int .i64 0]] w (Ret (.bool false) w) :=
  (valid_ret _ _ _ _ _ w).mono fun _ _ h => h.val (by kernel_rfl)

set_option maxHeartbeats 1000000 in
theorem example_any (w : World) : Calls Try.prog 18 #[] w (Ret (.agg #[.int .i64 500, .int .i64 100, .int .i64 20, .int .i64 1000, .int .i64 100]) w) := by
  go_enter Try.func18, Try.ntmps18
  go_wp2
  exact bodyPost_ret (v := .agg #[.int .i64 500, .int .i64 100, .int .i64 20, .int .i64 1000, .int .i64 100]) (by simp [results, Try.results18, go_sem]) rfl ⟨rfl, by go_grown⟩

set_option maxRecDepth 100000 in
set_option maxHeartbeats 4000000 in
theorem head_any (w : World) : Calls Try.prog 9 #[] w (Ret (.bool true) w) := by
  go_enter Try.func9, Try.ntmps9
  go_wp2_with fail
  have B := St.start w
  have R := B.rules
  refine (example_any _).mono ?_
  rintro e w1 ⟨rfl, h⟩
  replace B := B.later h
  clear h
  go_wp2_with fail
  generalize hX : World.alloc _ _ = X
  replace B := St.cast hX ((B.alloc _ _).alloc _ _)
  try simp only [World.size_alloc] at B
  clear hX
  refine (head_e1 _).mono ?_
  rintro e w2 ⟨rfl, h⟩
  replace B := B.later h
  replace R := B.rules
  simp only [Rules] at R
  clear h
  go_wp2_with fail
  generalize hX : World.alloc _ _ = X
  replace B := St.cast hX (B.alloc _ _)
  try simp only [World.size_alloc] at B
  clear hX
  refine (head_g1 _).mono ?_
  rintro e w3 ⟨rfl, h⟩
  replace B := B.later h
  replace R := B.rules
  simp only [Rules] at R
  clear h
  go_wp2_with fail
  generalize hX : World.alloc _ _ = X
  replace B := St.cast hX (B.alloc _ _)
  try simp only [World.size_alloc] at B
  clear hX
  refine (head_r _).mono ?_
  rintro e w4 ⟨rfl, h⟩
  replace B := B.later h
  replace R := B.rules
  simp only [Rules] at R
  clear h
  go_wp2_with fail
  generalize hX : World.alloc _ _ = X
  replace B := St.cast hX ((B.alloc _ _).alloc _ _)
  try simp only [World.size_alloc] at B
  clear hX
  refine (head_e2 _).mono ?_
  rintro e w5 ⟨rfl, h⟩
  replace B := B.later h
  replace R := B.rules
  simp only [Rules] at R
  clear h
  go_wp2_with fail
  generalize hX : World.alloc _ _ = X
  replace B := St.cast hX (B.alloc _ _)
  try simp only [World.size_alloc] at B
  clear hX
  refine (head_g2 _).mono ?_
  rintro e w6 ⟨rfl, h⟩
  replace B := B.later h
  replace R := B.rules
  simp only [Rules] at R
  clear h
  go_wp2_with fail
  generalize hX : World.alloc _ _ = X
  replace B := St.cast hX (B.alloc _ _)
  clear hX
  refine (head_v1 _).mono ?_
  rintro e w7 ⟨rfl, h⟩
  replace B := B.later h
  clear h R
  go_wp2_with fail
  refine (head_v2 _).mono ?_
  rintro e w8 ⟨rfl, h⟩
  replace B := B.later h
  clear h
  go_wp2
  go_ret
  exact ⟨rfl, B.below⟩

end Go.Proofs.Yteghionkljbggaa
