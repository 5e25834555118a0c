/-
  The functions of the packages detector and observatoryref15 that call the leaves: clipped, light, counts, Light, Raw.
-/
import Derived.Test.YteghionkljbggaaDetE
namespace Go.Proofs.Yteghionkljbggaa
open Go.RowKit
attribute [local go_sem ↓] Go.wp_at_zero Go.wp_at_succ

/-- Four numbers, each held to [0, hi]. -/
def clipV (hi a b c d : Int) : Value := .agg #[.int .i64 (clip hi a), .int .i64 (clip hi b), .int .i64 (clip hi c), .int .i64 (clip hi d)]

set_option maxHeartbeats 400000 in
theorem clipped_any (a b c d hi : Int) (w : World) :
    Calls Try.prog 23 #[.agg #[.int .i64 a, .int .i64 b, .int .i64 c, .int .i64 d], .int .i64 hi] w (Ret (.agg #[.int .i64 (clip hi a), .int .i64 (clip hi b), .int .i64 (clip hi c), .int .i64 (clip hi d)]) w) := by
  go_enter Try.func23, Try.ntmps23
  go_wp2_with fail
  refine (cells_any 30 _ (fun i => clip hi (fourG a b c d i)) _ Try.call30 ?_).mono ?_
  · intro i hi4 w1 hb
    refine (clipped1_any i hi a b c d _ _ hi4 w1 ?_ ?_).mono fun e w' h => h.ret
    · refine (hb.block _ (by simp; omega)).trans ?_
      repeat (first | exact blk_at _ _ _ (by simp; done) | refine blk_old ?_ _)
    · refine cell_blk (cs := #[.int .i64 hi]) (t := 3) (f := (0, 0)) ((hb.block _ (by simp)).trans ?_) 0 _ rfl
      repeat (first | exact blk_at _ _ _ (by simp; done) | refine blk_old ?_ _)
  rintro e w1 ⟨rfl, hb⟩
  have hr : w1.heap[w.heap.size + 1 + 1]? = some (.cells #[.int .i64 0, .int .i64 0, .int .i64 0, .int .i64 0] 25) := by
    refine (hb.block _ (by simp)).trans ?_
    repeat (first | exact blk_at _ _ _ (by simp; done) | refine blk_old ?_ _)
  have hb2 : Below w.heap.size w w1 := (show Below w.heap.size w _ from by go_grown).trans (hb.mono (by simp; omega))
  have f0 := free_blk hr 0
  have f1 := free_blk hr 1
  have f2 := free_blk hr 2
  have f3 := free_blk hr 3
  have c0 := cell_blk hr 0 _ rfl
  have c1 := cell_blk hr 1 _ rfl
  have c2 := cell_blk hr 2 _ rfl
  have c3 := cell_blk hr 3 _ rfl
  clear hr hb
  go_wp2
  exact bodyPost_ret (v := .agg #[.int .i64 (clip hi a), .int .i64 (clip hi b), .int .i64 (clip hi c), .int .i64 (clip hi d)]) (by simp [results, Try.results23, go_sem, *, fourG]) rfl ⟨rfl, by go_grown⟩


set_option maxHeartbeats 1000000 in
theorem light_any (a b c d : Int) (w : World) :
    Calls Try.prog 19 #[.agg #[.int .i64 a, .int .i64 b, .int .i64 c, .int .i64 d]] w (Ret (.bool (allB 1000000 a b c d)) w) := by
  go_enter Try.func19, Try.ntmps19
  go_wp2_with fail
  refine wp_region_later (by kernel_rfl) (by kernel_rfl) ?_
  repeat (go_big_quiet_step ((go_at_call 23; exact Later.call (clipped_any _ _ _ _ _ _))))
  refine wpQuiet_nil ?_
  rintro _ ⟨⟨w2, hb⟩, rfl⟩
  go_wp2
  go_ret
  exact ⟨by rw [← eq4_clip _ _ _ _ _ (by omega)]; rfl, below_step (by go_grown) (by simp) hb⟩

theorem valid_ret (g b k f e : Int) (w : World) :
    Calls Try.prog 16 #[.agg #[.int .i64 g, .int .i64 b, .int .i64 k, .int .i64 f, .int .i64 e]] w (Ret (.bool (validB g b k f e)) w) :=
  (valid_any g b k f e w).mono fun _ _ ⟨h1, h2⟩ => ⟨h1, by rw [← h2]; go_grown⟩
theorem valid_true (g b k f e : Int) (w : World) (h : validB g b k f e = true) :
    Calls Try.prog 16 #[.agg #[.int .i64 g, .int .i64 b, .int .i64 k, .int .i64 f, .int .i64 e]] w (Ret (.bool true) w) :=
  (valid_any g b k f e w).mono fun _ _ ⟨h1, h2⟩ => ⟨by rw [h1, h], by rw [← h2]; go_grown⟩
theorem valid_false (g b k f e : Int) (w : World) (h : validB g b k f e = false) :
    Calls Try.prog 16 #[.agg #[.int .i64 g, .int .i64 b, .int .i64 k, .int .i64 f, .int .i64 e]] w (Ret (.bool false) w) :=
  (valid_any g b k f e w).mono fun _ _ ⟨h1, h2⟩ => ⟨by rw [h1, h], by rw [← h2]; go_grown⟩

/-- Raw counts that a detector can have. -/
def rawB (g b k f e p q r s : Int) : Bool := validB g b k f e && allB f p q r s

theorem valid_full {g b k f e : Int} (h : validB g b k f e = true) : 0 ≤ f := by
  simp [validB, inB] at h
  omega

set_option maxHeartbeats 1000000 in
theorem counts_any (g b k f e p q r s : Int) (w : World) :
    Calls Try.prog 26 #[.agg #[.int .i64 g, .int .i64 b, .int .i64 k, .int .i64 f, .int .i64 e], .agg #[.int .i64 p, .int .i64 q, .int .i64 r, .int .i64 s]] w (Ret (.bool (rawB g b k f e p q r s)) w) := by
  by_cases hv : validB g b k f e = true
  · have hfull := valid_full hv
    have Hv := Lib.hid hv
    clear hv
    go_enter Try.func26, Try.ntmps26
    go_wp2_with fail
    refine wp_region_later (by kernel_rfl) (by kernel_rfl) ?_
    repeat (go_big_quiet_step ((first | (go_at_call 16; exact Later.call (valid_true _ _ _ _ _ _ Hv.out)) | (go_at_call 23; exact Later.call (clipped_any _ _ _ _ _ _)))))
    refine wpQuiet_nil ?_
    rintro _ ⟨⟨w2, hb⟩, rfl⟩
    go_wp2
    go_ret
    exact ⟨by rw [rawB, Hv.out, Bool.true_and, ← eq4_clip _ _ _ _ _ hfull]; rfl, below_step (by go_grown) (by simp) hb⟩
  · have Hv := Lib.hid (show validB g b k f e = false by simpa using hv)
    clear hv
    go_enter Try.func26, Try.ntmps26
    go_wp2_with fail
    refine wp_region_later (by kernel_rfl) (by kernel_rfl) ?_
    repeat (go_big_quiet_step ((go_at_call 16; exact Later.call (valid_false _ _ _ _ _ _ Hv.out))))
    refine wpQuiet_nil ?_
    rintro _ ⟨⟨w2, hb⟩, rfl⟩
    go_wp2
    go_ret
    exact ⟨by rw [rawB, Hv.out, Bool.false_and]; rfl, below_step (by go_grown) (by simp) hb⟩


set_option maxHeartbeats 1000000 in
theorem light24_any (a b c d : Int) (w : World) :
    Calls Try.prog 24 #[.agg #[.int .i64 a, .int .i64 b, .int .i64 c, .int .i64 d]] w (Ret (.bool (allB 1000000 a b c d)) w) := by
  go_enter Try.func24, Try.ntmps24
  go_wp2_with (go_at_call 31; refine (all_any _ _ _ _ _ _).mono ?_; rintro e w' ⟨rfl, rfl⟩)
  go_ret
  exact ⟨rfl, by go_grown⟩

set_option maxHeartbeats 1000000 in
theorem raw_any (g b k f e p q r s : Int) (w : World) :
    Calls Try.prog 28 #[.agg #[.int .i64 g, .int .i64 b, .int .i64 k, .int .i64 f, .int .i64 e], .agg #[.int .i64 p, .int .i64 q, .int .i64 r, .int .i64 s]] w (Ret (.bool (rawB g b k f e p q r s)) w) := by
  go_enter Try.func28, Try.ntmps28
  go_wp2_with (first | (go_at_call 17; refine (valid17_any _ _ _ _ _ _).mono ?_; rintro e w' ⟨rfl, rfl⟩) | (go_at_call 31; refine (all_any _ _ _ _ _ _).mono ?_; rintro e w' ⟨rfl, rfl⟩))
  all_goals
    go_ret
    exact ⟨ret_bool (by simp [rawB, *]), by go_grown⟩

end Go.Proofs.Yteghionkljbggaa
