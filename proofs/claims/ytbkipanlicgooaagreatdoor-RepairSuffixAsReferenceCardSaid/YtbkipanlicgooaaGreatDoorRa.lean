/-
  The reference's moment and before. No conditions but those in each statement.
-/
import Derived.Test.YtbkipanlicgooaaGreatDoorLh
namespace Go.Proofs.YtbkipanlicgooaaGreatDoor
open Go.RowKit

theorem rmoment_any (n : Int) (w : World) : Calls Tryz.prog 17 #[.int .i64 n] w (fun e w' => e = .returned (.bool (momB n)) ∧ w' = w) := by
  by_cases h1 : 0 ≤ n
  · have hr : momB n = decide (n ≤ 38399) := by simp [momB, h1]
    have Hr := Lib.hid hr; clear hr
    go_enter Tryz.func17, Tryz.ntmps17
    go_wp2
    all_goals
      go_ret
      exact ⟨by rw [Hr.out]; simp [*], rfl⟩
  · have hr : momB n = false := by simp [momB, h1]
    have Hr := Lib.hid hr; clear hr
    go_enter Tryz.func17, Tryz.ntmps17
    go_wp2
    all_goals
      go_ret
      exact ⟨by rw [Hr.out]; rfl, rfl⟩
instance (p q : Pay) : Decidable (plt p q) := by unfold plt; infer_instance
set_option maxRecDepth 100000 in
set_option maxHeartbeats 4000000 in
theorem before_any (p q : Pay) (w : World) : Calls Tryz.prog 28 #[payV p, payV q] w (Ret (.bool (decide (plt p q))) w) := by
  unfold payV
  by_cases h0 : p.k = q.k
  · by_cases h1 : p.t = q.t
    · by_cases h2 : p.f = q.f
      · have Hr := Lib.hid (show decide (plt p q) = decide (p.a < q.a) from by simp [plt, h0, h1, h2])
        go_enter Tryz.func28, Tryz.ntmps28
        go_wp2
        go_ret
        exact ⟨by rw [Hr.out]; rfl, by go_grown⟩
      · have Hr := Lib.hid (show decide (plt p q) = decide (p.f < q.f) from by simp [plt, h0, h1, h2])
        go_enter Tryz.func28, Tryz.ntmps28
        go_wp2
        go_ret
        exact ⟨by rw [Hr.out]; rfl, by go_grown⟩
    · have Hr := Lib.hid (show decide (plt p q) = decide (p.t < q.t) from by simp [plt, h0, h1])
      go_enter Tryz.func28, Tryz.ntmps28
      go_wp2
      go_ret
      exact ⟨by rw [Hr.out]; rfl, by go_grown⟩
  · have Hr := Lib.hid (show decide (plt p q) = decide (p.k < q.k) from by simp [plt, h0])
    go_enter Tryz.func28, Tryz.ntmps28
    go_wp2
    go_ret
    exact ⟨by rw [Hr.out]; rfl, by go_grown⟩
end Go.Proofs.YtbkipanlicgooaaGreatDoor
namespace Go.Proofs.YtbkipanlicgooaaGreatDoor
open Go.RowKit

/-- A payment put at its place, if it is not there. -/
def insP (p : Pay) : List Pay → List Pay
  | [] => [p]
  | q :: l => if plt q p then q :: insP p l else if q = p then q :: l else p :: q :: l
/-- How many stand ahead of it. -/
def kI (p : Pay) : List Pay → Nat
  | [] => 0
  | q :: l => if plt q p then kI p l + 1 else 0
theorem kI_le (p : Pay) : ∀ l : List Pay, kI p l ≤ l.length
  | [] => Nat.le_refl _
  | q :: l => by
    rw [kI]
    split
    · have := kI_le p l; simp; exact this
    · exact Nat.zero_le _
theorem kI_ahead (p : Pay) : ∀ (l : List Pay) (i : Nat), i < kI p l → ∃ q, l[i]? = some q ∧ plt q p
  | [], i, h => by simp [kI] at h
  | q :: l, i, h => by
    rw [kI] at h
    split at h
    · rename_i hq
      cases i with
      | zero => exact ⟨q, rfl, hq⟩
      | succ i => exact kI_ahead p l i (by omega)
    · omega
theorem kI_at (p : Pay) : ∀ (l : List Pay) (q : Pay), l[kI p l]? = some q → ¬ plt q p
  | [], q, h => by simp at h
  | x :: l, q, h => by
    rw [kI] at h
    split at h
    · exact kI_at p l q (by simpa using h)
    · rename_i hx
      have : x = q := by simpa using h
      rw [← this]
      exact hx
theorem insP_eq (p : Pay) : ∀ l : List Pay, insP p l = if l[kI p l]? = some p then l else l.take (kI p l) ++ p :: l.drop (kI p l)
  | [] => by simp [insP, kI]
  | q :: l => by
    rw [insP, kI]
    by_cases hq : plt q p
    · rw [if_pos hq, if_pos hq, insP_eq p l]
      simp only [List.getElem?_cons_succ]
      split
      · rfl
      · simp
    · rw [if_neg hq, if_neg hq]
      by_cases e : q = p
      · simp [e]
      · simp [e]
theorem insP_mem (p z : Pay) : ∀ l : List Pay, z ∈ insP p l ↔ z = p ∨ z ∈ l
  | [] => by simp [insP]
  | q :: l => by
    rw [insP]
    split
    · rw [List.mem_cons, insP_mem p z l, List.mem_cons]
      constructor
      · rintro (h | h | h)
        · exact .inr (.inl h)
        · exact .inl h
        · exact .inr (.inr h)
      · rintro (h | h | h)
        · exact .inr (.inl h)
        · exact .inl h
        · exact .inr (.inr h)
    · split
      · rename_i e
        subst e
        simp
      · simp
theorem insP_sorted (p : Pay) : ∀ l : List Pay, l.Pairwise plt → (insP p l).Pairwise plt
  | [], _ => by simp [insP]
  | q :: l, h => by
    rw [List.pairwise_cons] at h
    rw [insP]
    split
    · rename_i hq
      rw [List.pairwise_cons]
      refine ⟨fun z hz => ?_, insP_sorted p l h.2⟩
      rcases (insP_mem p z l).1 hz with e | e
      · rw [e]; exact hq
      · exact h.1 z e
    · rename_i hq
      split
      · rw [List.pairwise_cons]; exact h
      · rename_i hne
        have hpq : plt p q := ple_ne hq (fun e => hne e.symm)
        rw [List.pairwise_cons, List.pairwise_cons]
        refine ⟨fun z hz => ?_, h⟩
        rcases List.mem_cons.1 hz with e | e
        · rw [e]; exact hpq
        · exact plt_trans hpq (h.1 z e)
/-- The reference's payments. -/
def refP (u at_ m : Int) (l : List Pay) : List Pay := if u < m then [] else (l.filter (inW u at_ m)).foldl (fun o p => insP p o) []
theorem fold_ins : ∀ (l o : List Pay), o.Pairwise plt → (l.foldl (fun o p => insP p o) o).Pairwise plt ∧ ∀ z, z ∈ l.foldl (fun o p => insP p o) o ↔ z ∈ o ∨ z ∈ l
  | [], o, h => ⟨h, fun z => by simp⟩
  | p :: l, o, h => by
    obtain ⟨h1, h2⟩ := fold_ins l (insP p o) (insP_sorted p o h)
    refine ⟨h1, fun z => ?_⟩
    rw [List.foldl_cons, h2, insP_mem, List.mem_cons]
    constructor
    · rintro ((h | h) | h)
      · exact .inr (.inl h)
      · exact .inl h
      · exact .inr (.inr h)
    · rintro (h | h | h)
      · exact .inl (.inr h)
      · exact .inl (.inl h)
      · exact .inr h
theorem refP_eq (u at_ m : Int) (l : List Pay) : refP u at_ m l = payS u at_ m l := by
  refine strict_ext _ _ ?_ (payS_sorted _ _ _ _) fun z => ?_
  · unfold refP
    split
    · exact List.Pairwise.nil
    · exact (fold_ins _ [] List.Pairwise.nil).1
  · rw [payS_mem]
    unfold refP
    split
    · constructor
      · intro h; cases h
      · intro h; omega
    · rw [(fold_ins _ [] List.Pairwise.nil).2, List.mem_filter]
      constructor
      · rintro (h | h)
        · cases h
        · exact ⟨by omega, h⟩
      · intro h
        exact .inr h.2
end Go.Proofs.YtbkipanlicgooaaGreatDoor
namespace Go.Proofs.YtbkipanlicgooaaGreatDoor
open Go.RowKit

set_option maxRecDepth 100000 in
set_option maxHeartbeats 4000000 in
theorem rsuffix_err0 (d : Scr) (A1 A2 A3 A4 A5 : Option Addr) (c1 c2 c3 c4 c5 : Nat) (s1 s2 : ByteArray) (ver : Int) (RB : Option Addr) (rn rc : Nat) (at_ need m : Int) (w : World) (h0 : momB d.f = false) :
    Calls Tryz.prog 9 #[scrV d A1 A2 A3 A4 A5 c1 c2 c3 c4 c5, relV s1 s2 ver RB rn rc at_ need, .int .i64 m] w (Ret (.tuple #[scrZ, .int .i64 1]) w) := by
  have C0 := Lib.hid (fun W => rmoment_any d.f W)
  rw [h0] at C0
  clear h0
  unfold scrV relV scrZ
  go_enter Tryz.func9, Tryz.ntmps9
  go_wp2_with (first | (go_at_call 17; (with_reducible refine (C0.out _).mono ?_); rintro e' w1 ⟨rfl, rfl⟩))
  refine bodyPost_ret (v := .tuple #[.agg #[.int .i64 0, .int .i64 0, .slice none 0 0, .slice none 0 0, .slice none 0 0, .slice none 0 0, .slice none 0 0], .int .i64 1]) ?_ rfl ⟨rfl, ?_⟩
  · simp [results, Tryz.results9, go_sem]
  · go_grown
set_option maxRecDepth 100000 in
set_option maxHeartbeats 4000000 in
theorem rsuffix_err1 (d : Scr) (A1 A2 A3 A4 A5 : Option Addr) (c1 c2 c3 c4 c5 : Nat) (s1 s2 : ByteArray) (ver : Int) (RB : Option Addr) (rn rc : Nat) (at_ need m : Int) (w : World) (h0 : momB d.f = true) (h1 : momB d.u = false) :
    Calls Tryz.prog 9 #[scrV d A1 A2 A3 A4 A5 c1 c2 c3 c4 c5, relV s1 s2 ver RB rn rc at_ need, .int .i64 m] w (Ret (.tuple #[scrZ, .int .i64 1]) w) := by
  have C0 := Lib.hid (fun W => rmoment_any d.f W)
  rw [h0] at C0
  clear h0
  have C1 := Lib.hid (fun W => rmoment_any d.u W)
  rw [h1] at C1
  clear h1
  unfold scrV relV scrZ
  go_enter Tryz.func9, Tryz.ntmps9
  go_wp2_with (first | (go_at_call 17; (with_reducible refine (C0.out _).mono ?_); rintro e' w1 ⟨rfl, rfl⟩) | (go_at_call 17; (with_reducible refine (C1.out _).mono ?_); rintro e' w1 ⟨rfl, rfl⟩))
  refine bodyPost_ret (v := .tuple #[.agg #[.int .i64 0, .int .i64 0, .slice none 0 0, .slice none 0 0, .slice none 0 0, .slice none 0 0, .slice none 0 0], .int .i64 1]) ?_ rfl ⟨rfl, ?_⟩
  · simp [results, Tryz.results9, go_sem]
  · go_grown
set_option maxRecDepth 100000 in
set_option maxHeartbeats 4000000 in
theorem rsuffix_err2 (d : Scr) (A1 A2 A3 A4 A5 : Option Addr) (c1 c2 c3 c4 c5 : Nat) (s1 s2 : ByteArray) (ver : Int) (RB : Option Addr) (rn rc : Nat) (at_ need m : Int) (w : World) (h0 : momB d.f = true) (h1 : momB d.u = true) (h2 : d.u < d.f) :
    Calls Tryz.prog 9 #[scrV d A1 A2 A3 A4 A5 c1 c2 c3 c4 c5, relV s1 s2 ver RB rn rc at_ need, .int .i64 m] w (Ret (.tuple #[scrZ, .int .i64 1]) w) := by
  have C0 := Lib.hid (fun W => rmoment_any d.f W)
  rw [h0] at C0
  rw [momB_iff] at h0
  have C1 := Lib.hid (fun W => rmoment_any d.u W)
  rw [h1] at C1
  rw [momB_iff] at h1
  unfold scrV relV scrZ
  go_enter Tryz.func9, Tryz.ntmps9
  go_wp2_with (first | (go_at_call 17; (with_reducible refine (C0.out _).mono ?_); rintro e' w1 ⟨rfl, rfl⟩) | (go_at_call 17; (with_reducible refine (C1.out _).mono ?_); rintro e' w1 ⟨rfl, rfl⟩))
  refine bodyPost_ret (v := .tuple #[.agg #[.int .i64 0, .int .i64 0, .slice none 0 0, .slice none 0 0, .slice none 0 0, .slice none 0 0, .slice none 0 0], .int .i64 1]) ?_ rfl ⟨rfl, ?_⟩
  · simp [results, Tryz.results9, go_sem]
  · go_grown
set_option maxRecDepth 100000 in
set_option maxHeartbeats 4000000 in
theorem rsuffix_err3 (d : Scr) (A1 A2 A3 A4 A5 : Option Addr) (c1 c2 c3 c4 c5 : Nat) (s1 s2 : ByteArray) (ver : Int) (RB : Option Addr) (rn rc : Nat) (at_ need m : Int) (w : World) (h0 : momB d.f = true) (h1 : momB d.u = true) (h2 : ¬ (d.u < d.f)) (h3 : m < d.f) :
    Calls Tryz.prog 9 #[scrV d A1 A2 A3 A4 A5 c1 c2 c3 c4 c5, relV s1 s2 ver RB rn rc at_ need, .int .i64 m] w (Ret (.tuple #[scrZ, .int .i64 1]) w) := by
  have C0 := Lib.hid (fun W => rmoment_any d.f W)
  rw [h0] at C0
  rw [momB_iff] at h0
  have C1 := Lib.hid (fun W => rmoment_any d.u W)
  rw [h1] at C1
  rw [momB_iff] at h1
  unfold scrV relV scrZ
  go_enter Tryz.func9, Tryz.ntmps9
  go_wp2_with (first | (go_at_call 17; (with_reducible refine (C0.out _).mono ?_); rintro e' w1 ⟨rfl, rfl⟩) | (go_at_call 17; (with_reducible refine (C1.out _).mono ?_); rintro e' w1 ⟨rfl, rfl⟩))
  refine bodyPost_ret (v := .tuple #[.agg #[.int .i64 0, .int .i64 0, .slice none 0 0, .slice none 0 0, .slice none 0 0, .slice none 0 0, .slice none 0 0], .int .i64 1]) ?_ rfl ⟨rfl, ?_⟩
  · simp [results, Tryz.results9, go_sem]
  · go_grown
set_option maxRecDepth 100000 in
set_option maxHeartbeats 4000000 in
theorem rsuffix_err4 (d : Scr) (A1 A2 A3 A4 A5 : Option Addr) (c1 c2 c3 c4 c5 : Nat) (s1 s2 : ByteArray) (ver : Int) (RB : Option Addr) (rn rc : Nat) (at_ need m : Int) (w : World) (h0 : momB d.f = true) (h1 : momB d.u = true) (h2 : ¬ (d.u < d.f)) (h3 : ¬ (m < d.f)) (h4 : d.u + 1 < m) :
    Calls Tryz.prog 9 #[scrV d A1 A2 A3 A4 A5 c1 c2 c3 c4 c5, relV s1 s2 ver RB rn rc at_ need, .int .i64 m] w (Ret (.tuple #[scrZ, .int .i64 1]) w) := by
  have C0 := Lib.hid (fun W => rmoment_any d.f W)
  rw [h0] at C0
  rw [momB_iff] at h0
  have C1 := Lib.hid (fun W => rmoment_any d.u W)
  rw [h1] at C1
  rw [momB_iff] at h1
  unfold scrV relV scrZ
  go_enter Tryz.func9, Tryz.ntmps9
  go_wp2_with (first | (go_at_call 17; (with_reducible refine (C0.out _).mono ?_); rintro e' w1 ⟨rfl, rfl⟩) | (go_at_call 17; (with_reducible refine (C1.out _).mono ?_); rintro e' w1 ⟨rfl, rfl⟩))
  refine bodyPost_ret (v := .tuple #[.agg #[.int .i64 0, .int .i64 0, .slice none 0 0, .slice none 0 0, .slice none 0 0, .slice none 0 0, .slice none 0 0], .int .i64 1]) ?_ rfl ⟨rfl, ?_⟩
  · simp [results, Tryz.results9, go_sem]
  · go_grown
set_option maxRecDepth 100000 in
set_option maxHeartbeats 4000000 in
theorem rsuffix_err5 (d : Scr) (A1 A2 A3 A4 A5 : Option Addr) (c1 c2 c3 c4 c5 : Nat) (s1 s2 : ByteArray) (ver : Int) (RB : Option Addr) (rn rc : Nat) (at_ need m : Int) (w : World) (h0 : momB d.f = true) (h1 : momB d.u = true) (h2 : ¬ (d.u < d.f)) (h3 : ¬ (m < d.f)) (h4 : ¬ (d.u + 1 < m)) (h5 : momB at_ = false) :
    Calls Tryz.prog 9 #[scrV d A1 A2 A3 A4 A5 c1 c2 c3 c4 c5, relV s1 s2 ver RB rn rc at_ need, .int .i64 m] w (Ret (.tuple #[scrZ, .int .i64 1]) w) := by
  have C0 := Lib.hid (fun W => rmoment_any d.f W)
  rw [h0] at C0
  rw [momB_iff] at h0
  have C1 := Lib.hid (fun W => rmoment_any d.u W)
  rw [h1] at C1
  rw [momB_iff] at h1
  have C2 := Lib.hid (fun W => rmoment_any at_ W)
  rw [h5] at C2
  clear h5
  unfold scrV relV scrZ
  go_enter Tryz.func9, Tryz.ntmps9
  go_wp2_with (first | (go_at_call 17; (with_reducible refine (C0.out _).mono ?_); rintro e' w1 ⟨rfl, rfl⟩) | (go_at_call 17; (with_reducible refine (C1.out _).mono ?_); rintro e' w1 ⟨rfl, rfl⟩) | (go_at_call 17; (with_reducible refine (C2.out _).mono ?_); rintro e' w1 ⟨rfl, rfl⟩))
  refine bodyPost_ret (v := .tuple #[.agg #[.int .i64 0, .int .i64 0, .slice none 0 0, .slice none 0 0, .slice none 0 0, .slice none 0 0, .slice none 0 0], .int .i64 1]) ?_ rfl ⟨rfl, ?_⟩
  · simp [results, Tryz.results9, go_sem]
  · go_grown
end Go.Proofs.YtbkipanlicgooaaGreatDoor
