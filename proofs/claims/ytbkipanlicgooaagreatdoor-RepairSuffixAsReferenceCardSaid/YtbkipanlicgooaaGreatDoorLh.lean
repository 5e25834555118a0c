/-
  repair.Suffix: its beginning, where it is asked for what it must not be. No conditions but those in each statement.
-/
import Derived.Test.YtbkipanlicgooaaGreatDoorLc
import Derived.Test.YtbkipanlicgooaaGreatDoorLd
import Derived.Test.YtbkipanlicgooaaGreatDoorLf
import Derived.Test.YtbkipanlicgooaaGreatDoorLg
namespace Go.Proofs.YtbkipanlicgooaaGreatDoor
open Go.RowKit

/-- A release as a value. -/
def relV (s1 s2 : ByteArray) (ver : Int) (B : Option Addr) (n c : Nat) (at_ need : Int) : Value :=
  .agg #[.string s1, .string s2, .int .i64 ver, .slice B n c, .int .i64 at_, .int .i64 need]
def scrZ : Value := .agg #[.int .i64 0, .int .i64 0, .slice none 0 0, .slice none 0 0, .slice none 0 0, .slice none 0 0, .slice none 0 0]
theorem momB_iff (n : Int) : momB n = true ↔ 0 ≤ n ∧ n ≤ 38399 := by simp [momB]
set_option maxRecDepth 100000 in
set_option maxHeartbeats 4000000 in
theorem suffix_err0 (d : Scr) (A1 A2 A3 A4 A5 : Option Addr) (c1 c2 c3 c4 c5 : Nat) (s1 s2 : ByteArray) (ver : Int) (RB : Option Addr) (rn rc : Nat) (at_ need m : Int) (w : World) (h0 : momB d.f = false) :
    Calls Tryz.prog 8 #[scrV d A1 A2 A3 A4 A5 c1 c2 c3 c4 c5, relV s1 s2 ver RB rn rc at_ need, .int .i64 m] w (Ret (.tuple #[scrZ, .int .i64 1]) w) := by
  have C0 := Lib.hid (fun W => moment_any d.f W)
  rw [h0] at C0
  clear h0
  unfold scrV relV scrZ
  go_enter Tryz.func8, Tryz.ntmps8
  go_wp2_with (first | (go_at_call 14; (with_reducible refine (C0.out _).mono ?_); rintro e' w1 ⟨rfl, rfl⟩))
  refine bodyPost_ret (v := .tuple #[.agg #[.int .i64 0, .int .i64 0, .slice none 0 0, .slice none 0 0, .slice none 0 0, .slice none 0 0, .slice none 0 0], .int .i64 1]) ?_ rfl ⟨rfl, ?_⟩
  · simp [results, Tryz.results8, go_sem]
  · go_grown
set_option maxRecDepth 100000 in
set_option maxHeartbeats 4000000 in
theorem suffix_err1 (d : Scr) (A1 A2 A3 A4 A5 : Option Addr) (c1 c2 c3 c4 c5 : Nat) (s1 s2 : ByteArray) (ver : Int) (RB : Option Addr) (rn rc : Nat) (at_ need m : Int) (w : World) (h0 : momB d.f = true) (h1 : momB d.u = false) :
    Calls Tryz.prog 8 #[scrV d A1 A2 A3 A4 A5 c1 c2 c3 c4 c5, relV s1 s2 ver RB rn rc at_ need, .int .i64 m] w (Ret (.tuple #[scrZ, .int .i64 1]) w) := by
  have C0 := Lib.hid (fun W => moment_any d.f W)
  rw [h0] at C0
  clear h0
  have C1 := Lib.hid (fun W => moment_any d.u W)
  rw [h1] at C1
  clear h1
  unfold scrV relV scrZ
  go_enter Tryz.func8, Tryz.ntmps8
  go_wp2_with (first | (go_at_call 14; (with_reducible refine (C0.out _).mono ?_); rintro e' w1 ⟨rfl, rfl⟩) | (go_at_call 14; (with_reducible refine (C1.out _).mono ?_); rintro e' w1 ⟨rfl, rfl⟩))
  refine bodyPost_ret (v := .tuple #[.agg #[.int .i64 0, .int .i64 0, .slice none 0 0, .slice none 0 0, .slice none 0 0, .slice none 0 0, .slice none 0 0], .int .i64 1]) ?_ rfl ⟨rfl, ?_⟩
  · simp [results, Tryz.results8, go_sem]
  · go_grown
set_option maxRecDepth 100000 in
set_option maxHeartbeats 4000000 in
theorem suffix_err2 (d : Scr) (A1 A2 A3 A4 A5 : Option Addr) (c1 c2 c3 c4 c5 : Nat) (s1 s2 : ByteArray) (ver : Int) (RB : Option Addr) (rn rc : Nat) (at_ need m : Int) (w : World) (h0 : momB d.f = true) (h1 : momB d.u = true) (h2 : d.u < d.f) :
    Calls Tryz.prog 8 #[scrV d A1 A2 A3 A4 A5 c1 c2 c3 c4 c5, relV s1 s2 ver RB rn rc at_ need, .int .i64 m] w (Ret (.tuple #[scrZ, .int .i64 1]) w) := by
  have C0 := Lib.hid (fun W => moment_any d.f W)
  rw [h0] at C0
  rw [momB_iff] at h0
  have C1 := Lib.hid (fun W => moment_any d.u W)
  rw [h1] at C1
  rw [momB_iff] at h1
  unfold scrV relV scrZ
  go_enter Tryz.func8, Tryz.ntmps8
  go_wp2_with (first | (go_at_call 14; (with_reducible refine (C0.out _).mono ?_); rintro e' w1 ⟨rfl, rfl⟩) | (go_at_call 14; (with_reducible refine (C1.out _).mono ?_); rintro e' w1 ⟨rfl, rfl⟩))
  refine bodyPost_ret (v := .tuple #[.agg #[.int .i64 0, .int .i64 0, .slice none 0 0, .slice none 0 0, .slice none 0 0, .slice none 0 0, .slice none 0 0], .int .i64 1]) ?_ rfl ⟨rfl, ?_⟩
  · simp [results, Tryz.results8, go_sem]
  · go_grown
set_option maxRecDepth 100000 in
set_option maxHeartbeats 4000000 in
theorem suffix_err3 (d : Scr) (A1 A2 A3 A4 A5 : Option Addr) (c1 c2 c3 c4 c5 : Nat) (s1 s2 : ByteArray) (ver : Int) (RB : Option Addr) (rn rc : Nat) (at_ need m : Int) (w : World) (h0 : momB d.f = true) (h1 : momB d.u = true) (h2 : ¬ (d.u < d.f)) (h3 : m < d.f) :
    Calls Tryz.prog 8 #[scrV d A1 A2 A3 A4 A5 c1 c2 c3 c4 c5, relV s1 s2 ver RB rn rc at_ need, .int .i64 m] w (Ret (.tuple #[scrZ, .int .i64 1]) w) := by
  have C0 := Lib.hid (fun W => moment_any d.f W)
  rw [h0] at C0
  rw [momB_iff] at h0
  have C1 := Lib.hid (fun W => moment_any d.u W)
  rw [h1] at C1
  rw [momB_iff] at h1
  unfold scrV relV scrZ
  go_enter Tryz.func8, Tryz.ntmps8
  go_wp2_with (first | (go_at_call 14; (with_reducible refine (C0.out _).mono ?_); rintro e' w1 ⟨rfl, rfl⟩) | (go_at_call 14; (with_reducible refine (C1.out _).mono ?_); rintro e' w1 ⟨rfl, rfl⟩))
  refine bodyPost_ret (v := .tuple #[.agg #[.int .i64 0, .int .i64 0, .slice none 0 0, .slice none 0 0, .slice none 0 0, .slice none 0 0, .slice none 0 0], .int .i64 1]) ?_ rfl ⟨rfl, ?_⟩
  · simp [results, Tryz.results8, go_sem]
  · go_grown
set_option maxRecDepth 100000 in
set_option maxHeartbeats 4000000 in
theorem suffix_err4 (d : Scr) (A1 A2 A3 A4 A5 : Option Addr) (c1 c2 c3 c4 c5 : Nat) (s1 s2 : ByteArray) (ver : Int) (RB : Option Addr) (rn rc : Nat) (at_ need m : Int) (w : World) (h0 : momB d.f = true) (h1 : momB d.u = true) (h2 : ¬ (d.u < d.f)) (h3 : ¬ (m < d.f)) (h4 : d.u + 1 < m) :
    Calls Tryz.prog 8 #[scrV d A1 A2 A3 A4 A5 c1 c2 c3 c4 c5, relV s1 s2 ver RB rn rc at_ need, .int .i64 m] w (Ret (.tuple #[scrZ, .int .i64 1]) w) := by
  have C0 := Lib.hid (fun W => moment_any d.f W)
  rw [h0] at C0
  rw [momB_iff] at h0
  have C1 := Lib.hid (fun W => moment_any d.u W)
  rw [h1] at C1
  rw [momB_iff] at h1
  unfold scrV relV scrZ
  go_enter Tryz.func8, Tryz.ntmps8
  go_wp2_with (first | (go_at_call 14; (with_reducible refine (C0.out _).mono ?_); rintro e' w1 ⟨rfl, rfl⟩) | (go_at_call 14; (with_reducible refine (C1.out _).mono ?_); rintro e' w1 ⟨rfl, rfl⟩))
  refine bodyPost_ret (v := .tuple #[.agg #[.int .i64 0, .int .i64 0, .slice none 0 0, .slice none 0 0, .slice none 0 0, .slice none 0 0, .slice none 0 0], .int .i64 1]) ?_ rfl ⟨rfl, ?_⟩
  · simp [results, Tryz.results8, go_sem]
  · go_grown
set_option maxRecDepth 100000 in
set_option maxHeartbeats 4000000 in
theorem suffix_err5 (d : Scr) (A1 A2 A3 A4 A5 : Option Addr) (c1 c2 c3 c4 c5 : Nat) (s1 s2 : ByteArray) (ver : Int) (RB : Option Addr) (rn rc : Nat) (at_ need m : Int) (w : World) (h0 : momB d.f = true) (h1 : momB d.u = true) (h2 : ¬ (d.u < d.f)) (h3 : ¬ (m < d.f)) (h4 : ¬ (d.u + 1 < m)) (h5 : momB at_ = false) :
    Calls Tryz.prog 8 #[scrV d A1 A2 A3 A4 A5 c1 c2 c3 c4 c5, relV s1 s2 ver RB rn rc at_ need, .int .i64 m] w (Ret (.tuple #[scrZ, .int .i64 1]) w) := by
  have C0 := Lib.hid (fun W => moment_any d.f W)
  rw [h0] at C0
  rw [momB_iff] at h0
  have C1 := Lib.hid (fun W => moment_any d.u W)
  rw [h1] at C1
  rw [momB_iff] at h1
  have C2 := Lib.hid (fun W => moment_any at_ W)
  rw [h5] at C2
  clear h5
  unfold scrV relV scrZ
  go_enter Tryz.func8, Tryz.ntmps8
  go_wp2_with (first | (go_at_call 14; (with_reducible refine (C0.out _).mono ?_); rintro e' w1 ⟨rfl, rfl⟩) | (go_at_call 14; (with_reducible refine (C1.out _).mono ?_); rintro e' w1 ⟨rfl, rfl⟩) | (go_at_call 14; (with_reducible refine (C2.out _).mono ?_); rintro e' w1 ⟨rfl, rfl⟩))
  refine bodyPost_ret (v := .tuple #[.agg #[.int .i64 0, .int .i64 0, .slice none 0 0, .slice none 0 0, .slice none 0 0, .slice none 0 0, .slice none 0 0], .int .i64 1]) ?_ rfl ⟨rfl, ?_⟩
  · simp [results, Tryz.results8, go_sem]
  · go_grown
end Go.Proofs.YtbkipanlicgooaaGreatDoor
namespace Go.Proofs.YtbkipanlicgooaaGreatDoor
open Go.RowKit

/-! ### The order of payments -/
/-- p stands ahead of q. -/
def plt (p q : Pay) : Prop := p.k < q.k ∨ p.k = q.k ∧ (p.t < q.t ∨ p.t = q.t ∧ (p.f < q.f ∨ p.f = q.f ∧ p.a < q.a))
theorem cmpI_neg (a b : Int) : cmpI a b < 0 ↔ a < b := by
  unfold cmpI; split
  · simp_all
  · split <;> simp_all
theorem cmpI_zero (a b : Int) : cmpI a b = 0 ↔ a = b := by
  unfold cmpI; split
  · constructor
    · intro h; cases h
    · omega
  · split
    · constructor
      · intro h; cases h
      · omega
    · constructor
      · intro; omega
      · intro; rfl
theorem pcmp_lt (p q : Pay) : pcmp p q < 0 ↔ plt p q := by
  unfold pcmp or4 plt
  have e0 : pD p q 0 = cmpI p.k q.k := rfl
  have e1 : pD p q 1 = cmpI p.t q.t := rfl
  have e2 : pD p q 2 = cmpI p.f q.f := rfl
  have e3 : pD p q 3 = cmpI p.a q.a := rfl
  rw [e0, e1, e2, e3]
  have z0 := cmpI_zero p.k q.k
  have z1 := cmpI_zero p.t q.t
  have z2 := cmpI_zero p.f q.f
  have n0 := cmpI_neg p.k q.k
  have n1 := cmpI_neg p.t q.t
  have n2 := cmpI_neg p.f q.f
  have n3 := cmpI_neg p.a q.a
  by_cases h0 : cmpI p.k q.k = 0
  · rw [if_neg (fun h => h h0)]
    have := z0.1 h0
    by_cases h1 : cmpI p.t q.t = 0
    · rw [if_neg (fun h => h h1)]
      have := z1.1 h1
      by_cases h2 : cmpI p.f q.f = 0
      · rw [if_neg (fun h => h h2), n3]
        have := z2.1 h2
        omega
      · rw [if_pos h2, n2]
        have : ¬ p.f = q.f := fun h => h2 (z2.2 h)
        omega
    · rw [if_pos h1, n1]
      have : ¬ p.t = q.t := fun h => h1 (z1.2 h)
      omega
  · rw [if_pos h0, n0]
    have : ¬ p.k = q.k := fun h => h0 (z0.2 h)
    omega
def ple (p q : Pay) : Prop := ¬ plt q p
theorem plt_trans {p q r : Pay} (h1 : plt p q) (h2 : plt q r) : plt p r := by unfold plt at *; omega
theorem ple_trans {p q r : Pay} (h1 : ple p q) (h2 : ple q r) : ple p r := by unfold ple plt at *; omega
theorem plt_irrefl (p : Pay) : ¬ plt p p := by unfold plt; omega
theorem ple_of_lt {p q : Pay} (h : plt p q) : ple p q := by unfold ple plt at *; omega
theorem ple_ne {p q : Pay} (h : ple p q) (hn : p ≠ q) : plt p q := by
  obtain ⟨a, b, c, d⟩ := p
  obtain ⟨a', b', c', d'⟩ := q
  have : ¬ (a = a' ∧ b = b' ∧ c = c' ∧ d = d') := fun ⟨h1, h2, h3, h4⟩ => hn (by rw [h1, h2, h3, h4])
  unfold ple plt at *
  simp only at *
  omega

/-! ### The insertion sort -/
theorem swap_get {l : List Pay} {j : Nat} {x y : Pay} (hx : l[j + 1]? = some x) (hy : l[j]? = some y) (i : Nat) :
    ((l.set (j + 1) y).set j x)[i]? = if i = j then some x else if i = j + 1 then some y else l[i]? := by
  have h1 : j + 1 < l.length := by
    rcases Nat.lt_or_ge (j + 1) l.length with h | h
    · exact h
    · rw [List.getElem?_eq_none h] at hx; cases hx
  rw [List.getElem?_set, List.length_set, List.getElem?_set]
  by_cases e : i = j
  · subst e
    rw [if_pos rfl, if_pos rfl, if_pos (by omega)]
  · rw [if_neg (fun h => e h.symm), if_neg e]
    by_cases e' : i = j + 1
    · subst e'
      rw [if_pos rfl, if_pos rfl, if_pos h1]
    · rw [if_neg (fun h => e' h.symm), if_neg e']
theorem swap_mem {l : List Pay} {j : Nat} {x y : Pay} (hx : l[j + 1]? = some x) (hy : l[j]? = some y) (z : Pay) : z ∈ (l.set (j + 1) y).set j x ↔ z ∈ l := by
  rw [List.mem_iff_getElem?, List.mem_iff_getElem?]
  constructor
  · rintro ⟨i, hi⟩
    rw [swap_get hx hy] at hi
    split at hi
    · exact ⟨j + 1, by rw [hx, hi]⟩
    · split at hi
      · exact ⟨j, by rw [hy, hi]⟩
      · exact ⟨i, hi⟩
  · rintro ⟨i, hi⟩
    by_cases e : i = j
    · exact ⟨j + 1, by rw [swap_get hx hy, if_neg (by omega), if_pos rfl, ← hy, ← e, hi]⟩
    · by_cases e' : i = j + 1
      · exact ⟨j, by rw [swap_get hx hy, if_pos rfl, ← hx, ← e', hi]⟩
      · exact ⟨i, by rw [swap_get hx hy, if_neg e, if_neg e', hi]⟩
theorem ins_mem : ∀ (j : Nat) (l : List Pay) (z : Pay), z ∈ ins j l ↔ z ∈ l
  | 0, _, _ => Iff.rfl
  | j + 1, l, z => by
    rw [ins]
    split
    · rename_i x y hx hy
      split
      · rw [ins_mem j, swap_mem hx hy]
      · exact Iff.rfl
    · exact Iff.rfl
theorem ins_sorted : ∀ (j n : Nat) (l : List Pay), j ≤ n → n < l.length → (∀ i k x y, i < k → k ≤ n → k ≠ j → l[i]? = some x → l[k]? = some y → ple x y) →
    ∀ i k x y, i < k → k ≤ n → (ins j l)[i]? = some x → (ins j l)[k]? = some y → ple x y
  | 0, n, l, _, _, H, i, k, x, y, hik, hk, hx, hy => H i k x y hik hk (by omega) hx hy
  | j + 1, n, l, hj, hn, H, i, k, p, q, hik, hk, hp, hq => by
    rw [ins] at hp hq
    have hx : l[j + 1]? = some (l[j + 1]'(by omega)) := List.getElem?_eq_getElem _
    have hy : l[j]? = some (l[j]'(by omega)) := List.getElem?_eq_getElem _
    generalize l[j + 1]'(by omega) = x at hx
    generalize l[j]'(by omega) = y at hy
    rw [hx, hy] at hp hq
    simp only at hp hq
    by_cases hc : pcmp x y < 0
    · rw [if_pos hc] at hp hq
      rw [pcmp_lt] at hc
      refine ins_sorted j n _ (by omega) (by rw [List.length_set, List.length_set]; exact hn) ?_ i k p q hik hk hp hq
      intro i k p q hik hk hkj hp hq
      rw [swap_get hx hy] at hp hq
      rw [if_neg hkj] at hq
      by_cases ek : k = j + 1
      · rw [if_pos ek] at hq
        cases hq
        by_cases ei : i = j
        · rw [if_pos ei] at hp
          cases hp
          exact ple_of_lt hc
        · rw [if_neg ei, if_neg (by omega)] at hp
          exact H i j p y (by omega) (by omega) (by omega) hp hy
      · rw [if_neg ek] at hq
        by_cases ei : i = j
        · rw [if_pos ei] at hp
          cases hp
          exact H (j + 1) k x q (by omega) hk ek hx hq
        · rw [if_neg ei] at hp
          by_cases ei' : i = j + 1
          · rw [if_pos ei'] at hp
            cases hp
            exact H j k y q (by omega) hk ek hy hq
          · rw [if_neg ei'] at hp
            exact H i k p q hik hk ek hp hq
    · rw [if_neg hc] at hp hq
      rw [pcmp_lt] at hc
      by_cases ek : k = j + 1
      · subst ek
        rw [hx] at hq
        cases hq
        by_cases ei : i = j
        · subst ei
          rw [hy] at hp
          cases hp
          exact hc
        · exact ple_trans (H i j p y (by omega) (by omega) (by omega) hp hy) hc
      · exact H i k p q hik hk ek hp hq
theorem srt_mem (l : List Pay) : ∀ (i : Nat) (z : Pay), z ∈ srt l i ↔ z ∈ l
  | 0, _ => Iff.rfl
  | i + 1, z => by rw [srt, ins_mem, srt_mem l i]
theorem srt_sorted (l : List Pay) : ∀ n, n < l.length → ∀ i k x y, i < k → k ≤ n → (srt l n)[i]? = some x → (srt l n)[k]? = some y → ple x y
  | 0, _, i, k, _, _, hik, hk, _, _ => by omega
  | n + 1, hn, i, k, x, y, hik, hk, hx, hy => by
    refine ins_sorted (n + 1) (n + 1) (srt l n) (Nat.le_refl _) (by rw [srt_len]; exact hn) ?_ i k x y hik hk hx hy
    intro i k x y hik hk hne hx hy
    exact srt_sorted l n (by omega) i k x y hik (by omega) hx hy

/-! ### Each one once -/
theorem dd_mem (s : List Pay) : ∀ (k : Nat) (z : Pay), z ∈ dd s k ↔ z ∈ s.take k
  | 0, z => by simp [dd]
  | k + 1, z => by
    rw [dd, List.take_add_one, List.mem_append, List.mem_append, dd_mem s k]
    by_cases hn : newAt s k = true
    · rw [if_pos hn]
    · rw [if_neg hn]
      have h1 : k ≠ 0 ∧ s[k]? = s[k - 1]? := by simpa [newAt] using hn
      constructor
      · rintro (h | h)
        · exact .inl h
        · cases h
      · rintro (h | h)
        · exact .inl h
        · refine .inl ?_
          rw [h1.2] at h
          rw [List.mem_iff_getElem?]
          refine ⟨k - 1, ?_⟩
          rw [List.getElem?_take, if_pos (by omega)]
          simpa [Option.mem_toList] using h
theorem dd_sorted (s : List Pay) (hs : ∀ (i k : Nat) (x y : Pay), i < k → s[i]? = some x → s[k]? = some y → ple x y) : ∀ k, (dd s k).Pairwise plt
  | 0 => List.Pairwise.nil
  | k + 1 => by
    rw [dd, List.pairwise_append]
    refine ⟨dd_sorted s hs k, ?_, ?_⟩
    · split
      · cases s[k]? <;> simp
      · exact List.Pairwise.nil
    · intro z hz q hq
      split at hq
      · rename_i hn
        have hq' : s[k]? = some q := by simpa [Option.mem_toList] using hq
        rw [dd_mem, List.mem_iff_getElem?] at hz
        obtain ⟨i, hi⟩ := hz
        rw [List.getElem?_take] at hi
        split at hi
        · rename_i hik
          have hk0 : k ≠ 0 := by omega
          have hd : s[k]? ≠ s[k - 1]? := by simpa [newAt, hk0] using hn
          have hl : k < s.length := by
            rcases Nat.lt_or_ge k s.length with h | h
            · exact h
            · rw [List.getElem?_eq_none h] at hq'; cases hq'
          have hp : s[k - 1]? = some (s[k - 1]'(by omega)) := List.getElem?_eq_getElem _
          generalize s[k - 1]'(by omega) = p at hp
          have h2 : plt p q := ple_ne (hs (k - 1) k p q (by omega) hp hq') (fun e => hd (by rw [hq', hp, e]))
          by_cases e : i = k - 1
          · rw [← e, hi] at hp
            cases hp
            exact h2
          · have h1 := hs i (k - 1) z p (by omega) hi hp
            unfold ple at h1
            unfold plt at *
            omega
        · cases hi
      · cases hq
/-- Strictly ordered lists with the same elements are the same. -/
theorem strict_ext : ∀ (l m : List Pay), l.Pairwise plt → m.Pairwise plt → (∀ z, z ∈ l ↔ z ∈ m) → l = m
  | [], [], _, _, _ => rfl
  | [], y :: m, _, _, h => by have := (h y).2 List.mem_cons_self; cases this
  | x :: l, [], _, _, h => by have := (h x).1 List.mem_cons_self; cases this
  | x :: l, y :: m, h1, h2, h => by
    rw [List.pairwise_cons] at h1 h2
    have hxy : x = y := by
      rcases List.mem_cons.1 ((h x).1 List.mem_cons_self) with e | e
      · exact e
      · rcases List.mem_cons.1 ((h y).2 List.mem_cons_self) with e' | e'
        · exact e'.symm
        · exact absurd (plt_trans (h1.1 y e') (h2.1 x e)) (plt_irrefl x)
    subst hxy
    refine congrArg (x :: ·) (strict_ext l m h1.2 h2.2 fun z => ?_)
    constructor
    · intro hz
      rcases List.mem_cons.1 ((h z).1 (List.mem_cons_of_mem _ hz)) with e | e
      · subst e; exact absurd (h1.1 z hz) (plt_irrefl z)
      · exact e
    · intro hz
      rcases List.mem_cons.1 ((h z).2 (List.mem_cons_of_mem _ hz)) with e | e
      · subst e; exact absurd (h2.1 z hz) (plt_irrefl z)
      · exact e

/-! ### The payments of a rest -/
theorem payS_mem (u at_ m : Int) (l : List Pay) (z : Pay) : z ∈ payS u at_ m l ↔ m ≤ u ∧ z ∈ l ∧ inW u at_ m z = true := by
  unfold payS
  split
  · constructor
    · intro h; cases h
    · intro h; omega
  · rw [dd_mem, List.take_of_length_le (by rw [srt_len]; exact Nat.le_refl _), srt_mem, List.mem_filter]
    constructor
    · intro h; exact ⟨by omega, h⟩
    · intro h; exact h.2
theorem payS_sorted (u at_ m : Int) (l : List Pay) : (payS u at_ m l).Pairwise plt := by
  unfold payS
  split
  · exact List.Pairwise.nil
  · refine dd_sorted _ ?_ _
    intro i k x y hik hx hy
    have hk : k < (l.filter (inW u at_ m)).length := by
      rcases Nat.lt_or_ge k (l.filter (inW u at_ m)).length with h | h
      · exact h
      · rw [List.getElem?_eq_none (by rw [srt_len]; exact h)] at hy; cases hy
    exact srt_sorted _ _ (by omega) i k x y hik (by omega) hx hy
theorem payS_len (u at_ m : Int) (l : List Pay) : (payS u at_ m l).length ≤ (l.filter (inW u at_ m)).length := by
  have key : ∀ (s : List Pay) k, (dd s k).length ≤ k := fun s k => by
    induction k with
    | zero => simp [dd]
    | succ k ih =>
      rw [dd, List.length_append]
      split
      · have : (s[k]?).toList.length ≤ 1 := by cases s[k]? <;> simp
        omega
      · simp only [List.length_nil]; omega
  unfold payS
  split
  · simp
  · exact key _ _
end Go.Proofs.YtbkipanlicgooaaGreatDoor
namespace Go.Proofs.YtbkipanlicgooaaGreatDoor
open Go.RowKit

/-! ### Rests of rests, element for element -/
/-- Is a rest asked for as it must be? -/
def sufB (d : Scr) (at_ m : Int) : Bool := momB d.f && (momB d.u && (decide (d.f ≤ d.u) && (decide (d.f ≤ m) && (decide (m ≤ d.u + 1) && momB at_))))
/-- The rest of a script. -/
def sufS (d : Scr) (at_ m : Int) : Scr := ⟨mn m d.u, d.u, spS d.u m d.sp, ovS d.u m d.ov, dfS d.u at_ m d.df, payS d.u at_ m d.py, d.fo⟩
theorem sufB_iff (d : Scr) (at_ m : Int) : sufB d at_ m = true ↔ (0 ≤ d.f ∧ d.f ≤ 38399) ∧ (0 ≤ d.u ∧ d.u ≤ 38399) ∧ d.f ≤ d.u ∧ d.f ≤ m ∧ m ≤ d.u + 1 ∧ 0 ≤ at_ ∧ at_ ≤ 38399 := by
  simp only [sufB, Bool.and_eq_true, momB_iff, decide_eq_true_eq]
end Go.Proofs.YtbkipanlicgooaaGreatDoor
namespace Go.Proofs.YtbkipanlicgooaaGreatDoor
open Go.RowKit

/-- A row of the call's own, as blocks. -/
theorem own_ext {α : Type} {W : World} {base sz c b : Nat} {e : TypeId} {A : Option Addr} {g : α → Nat → Int} {l : List α} {x : Array Value × TypeId} {L : List (Nat × Array Value × TypeId)} (hsz : 0 < sz) (h : W.ownsRow base e sz (.slice A l.length c) l.length (rowL g sz l)) (hno : NoOwn (.slice A l.length c) ((b, x) :: L)) :
    ∃ E, Blks W E ∧ HasRow E A sz g l ∧ (∀ p ∈ (b, x) :: L, NotIn p.1 E) := by
  obtain ⟨A', c', he, _, hr⟩ := own_rows hsz h
  cases he
  obtain ⟨E, h1, h2, h3, _⟩ := row_blk hr (own_plain h)
  refine ⟨E, h1, h2, fun p hp => h3 _ fun i y hy ad hA => ?_⟩
  have key : ∀ {L : List (Nat × Array Value × TypeId)}, NoOwn (.slice A l.length c) L → p ∈ L → (Value.slice A l.length c).ownBlock ≠ some p.1 := by
    intro L
    induction L with
    | nil => intro _ h; cases h
    | cons q L ih =>
      intro h1 h2
      rcases List.mem_cons.1 h2 with e | e
      · rw [e]; exact h1.1
      · exact ih h1.2 e
  have := key hno hp
  subst hA
  have hb : (ad.add (i * sz)).block = ad.block := by unfold Addr.add; split <;> rfl
  rw [hb]
  intro e'
  apply this
  rw [← e']
  rfl
theorem St.ext {w W : World} {p p0 p1 p2 : Nat × Array Value × TypeId} {E E1 : List (Nat × Array Value × TypeId)} (B : St w W (p :: p0 :: p1 :: p2 :: E)) (h : Blks W E1) : St w W (p :: p0 :: p1 :: p2 :: (E1 ++ E)) :=
  ⟨B.below, B.blks.1, B.blks.2.1, B.blks.2.2.1, B.blks.2.2.2.1, h.app B.blks.2.2.2.2⟩
theorem HasRow.ext {α : Type} {E E1 : List (Nat × Array Value × TypeId)} {A : Option Addr} {sz : Nat} {g : α → Nat → Int} {l : List α} (h : HasRow E A sz g l) : HasRow (E1 ++ E) A sz g l := fun W hW => h W hW.snd
theorem HasRow.new {α : Type} {E E1 : List (Nat × Array Value × TypeId)} {A : Option Addr} {sz : Nat} {g : α → Nat → Int} {l : List α} (h : HasRow E1 A sz g l) : HasRow (E1 ++ E) A sz g l := fun W hW => h W hW.fst
set_option maxRecDepth 100000 in
set_option maxHeartbeats 8000000 in
theorem suffix_ok (d : Scr) (A1 A2 A3 A4 A5 : Option Addr) (c1 c2 c3 c4 c5 : Nat) (s1 s2 : ByteArray) (ver : Int) (RB : Option Addr) (rn rc : Nat) (at_ need m : Int) (w : World) (hB : sufB d at_ m = true)
    (n1 : d.sp.length ≤ 100) (n2 : d.ov.length ≤ 100) (n3 : d.df.length ≤ 100) (n4 : d.py.length ≤ 100) (n5 : d.fo.length ≤ 100) (hf : (d.py.filter (inW d.u at_ m)).length ≤ 12) (hS : ScrAt w d A1 A2 A3 A4 A5) {R : Ending → World → Prop}
    (hR : ∀ X1 X2 X3 X4 X5 k1 k2 k3 k4 k5 w', ScrAt w' (sufS d at_ m) X1 X2 X3 X4 X5 → Below w.heap.size w w' →
      R (.returned (.tuple #[.agg #[.int .i64 (mn m d.u), .int .i64 d.u, .slice X1 (spS d.u m d.sp).length k1, .slice X2 (ovS d.u m d.ov).length k2, .slice X3 (dfS d.u at_ m d.df).length k3, .slice X4 (payS d.u at_ m d.py).length k4, .slice X5 d.fo.length k5], .int .i64 0])) w') :
    Calls Tryz.prog 8 #[scrV d A1 A2 A3 A4 A5 c1 c2 c3 c4 c5, relV s1 s2 ver RB rn rc at_ need, .int .i64 m] w R := by
  rw [sufB_iff] at hB
  obtain ⟨⟨hf0, hf1⟩, ⟨hu0, hu1⟩, hfu, hfm, hmu, ha0, ha1⟩ := hB
  have h2 : ¬ (d.u < d.f) := by omega
  have h3 : ¬ (m < d.f) := by omega
  have h4 : ¬ (d.u + 1 < m) := by omega
  have C0 := Lib.hid (fun W => moment_any d.f W)
  have C1 := Lib.hid (fun W => moment_any d.u W)
  have C2 := Lib.hid (fun W => moment_any at_ W)
  rw [(momB_iff d.f).2 ⟨hf0, hf1⟩] at C0
  rw [(momB_iff d.u).2 ⟨hu0, hu1⟩] at C1
  rw [(momB_iff at_).2 ⟨ha0, ha1⟩] at C2
  have HS := Lib.hid hS
  have HF := Lib.hid hf
  have HR := Lib.hid hR
  clear hS hf hR
  unfold scrV relV
  go_enter Tryz.func8, Tryz.ntmps8
  go_wp2_with (first | (go_at_call 14; (with_reducible refine (C0.out _).mono ?_); rintro e' w1 ⟨rfl, rfl⟩) | (go_at_call 14; (with_reducible refine (C1.out _).mono ?_); rintro e' w1 ⟨rfl, rfl⟩) | (go_at_call 14; (with_reducible refine (C2.out _).mono ?_); rintro e' w1 ⟨rfl, rfl⟩))
  clear C0 C1 C2
  have B : St w _ [(w.heap.size, #[.int .i64 d.f, .int .i64 d.u, .slice A1 d.sp.length c1, .slice A2 d.ov.length c2, .slice A3 d.df.length c3, .slice A4 d.py.length c4, .slice A5 d.fo.length c5], 28), (w.heap.size + 1, #[.string s1, .string s2, .int .i64 ver, .slice RB rn rc, .int .i64 at_, .int .i64 need], 33), (w.heap.size + 1 + 1, #[.int .i64 0, .int .i64 0, .slice none 0 0, .slice none 0 0, .slice none 0 0, .slice none 0 0, .slice none 0 0], 28)] := (let z := (((St.start w).alloc #[.int .i64 d.f, .int .i64 d.u, .slice A1 d.sp.length c1, .slice A2 d.ov.length c2, .slice A3 d.df.length c3, .slice A4 d.py.length c4, .slice A5 d.fo.length c5] 28).alloc #[.string s1, .string s2, .int .i64 ver, .slice RB rn rc, .int .i64 at_, .int .i64 need] 33).alloc #[.int .i64 0, .int .i64 0, .slice none 0 0, .slice none 0 0, .slice none 0 0, .slice none 0 0, .slice none 0 0] 28; ⟨z.below, by simpa using z.blks.2.2.1, by simpa using z.blks.2.1, by simpa using z.blks.1, trivial⟩)
  generalize World.alloc _ _ = X at B ⊢
  refine suf_reg3 d A1 A2 A3 A4 A5 c1 c2 c3 c4 c5 at_ m (by omega) (by omega) hu0 hu1 n4 HF.out n5 w #[.string s1, .string s2, .int .i64 ver, .slice RB rn rc, .int .i64 at_, .int .i64 need] #[.int .i64 0, .int .i64 0, .slice none 0 0, .slice none 0 0, .slice none 0 0, .slice none 0 0, .slice none 0 0] rfl HS.out.r4 HS.out.r5 _ _ _ _ _ _ _ _ _ _ _ _ _ _ _ _ _ _ _ _ _ _ _ _ _ _ _ _ _ _ _ _ _ _ _ _ _ _ _ _ _ _ _ _ _ _ _ _ _ _ _ _ _ _ _ _ _ _ _ _ _ _ _ _ _ _ _ _ _ _ _ _ _ _ _ _ _ _ _ _ _ _ _ _ _ _ _ _ _ _ _ _ _ _ _ _ _ _ _ _ _ _ _ _ _ _ _ _ _ _ _ _ _ _ _ _ _ _ _ _ _ _ _ _ _ _ _ _ _ _ _ _ _ _ _ _ _ _ _ _ _ _ _ _ _ _ _ _ _ _ _ _ _ _ _ _ _ _ _ _ _ _ _ _ _ _ _ _ _ _ _ _ _ _ _ _ _ X B ?_
  clear B HF
  intro z52 z53 z54 z55 z56 z57 z58 z59 z60 z61 z62 z63 z64 z65 z66 b X4 X5 k4 k5 w3 E3 hb hz hE B g4 g5
  dsimp only
  have R3 := B.rules
  simp only [Rules] at R3
  generalize hF : mn m d.u = F at B R3 HR
  go_wp2_with fail
  refine suf_loop0 d A1 A2 A3 A4 A5 c1 c2 c3 c4 c5 m F n1 w #[.string s1, .string s2, .int .i64 ver, .slice RB rn rc, .int .i64 at_, .int .i64 need] #[.int .i64 0, .int .i64 0, .slice none 0 0, .slice none 0 0, .slice none 0 0, .slice none 0 0, .slice none 0 0] b hb E3 hE _ _ HS.out.r1 _ _ _ _ _ _ _ _ _ _ _ _ _ _ _ _ _ _ _ _ _ _ _ _ _ _ _ _ _ _ _ _ _ _ _ _ _ _ _ _ _ _ _ _ _ _ _ _ _ _ _ _ _ _ _ _ _ _ _ _ _ _ _ _ _ _ _ _ _ _ _ _ _ _ _ _ _ _ _ _ _ _ _ _ _ _ _ _ _ _ _ _ _ _ _ _ _ _ _ _ _ _ _ _ _ _ _ _ _ _ _ _ _ _ _ _ _ _ _ _ _ _ _ _ _ _ _ _ _ _ _ _ _ _ _ _ _ _ _ _ _ _ _ _ _ _ _ _ _ _ _ _ _ _ _ _ _ _ _ _ _ _ _ _ _ _ _ _ _ _ _ _ _ _ w3 B ?_
  clear B R3
  intro y0 y1 y2 y3 y4 y5 y6 y7 y8 y9 y10 y11 y12 y13 y14 y15 y16 y17 y18 y19 y20 y21 y22 y23 y24 y25 y26 v4 w4 hown hno B
  obtain ⟨X1, k1, rfl⟩ := own_slice hown
  obtain ⟨E4, o1, g1, o2⟩ := own_ext (Nat.succ_pos 4) hown hno
  replace B := B.ext o1
  replace g4 := g4.ext (E1 := E4)
  replace g5 := g5.ext (E1 := E4)
  replace g1 := g1.new (E := E3)
  replace hE := (o2 _ List.mem_cons_self).app hE
  replace hz := (o2 _ (List.mem_cons_of_mem _ (List.mem_cons_of_mem _ (List.mem_cons_of_mem _ List.mem_cons_self)))).app hz
  clear hown hno o1 o2
  generalize E4 ++ E3 = E5 at B g4 g5 g1 hE hz
  dsimp only
  have R3 := B.rules
  simp only [Rules] at R3
  go_wp2_with fail
  refine suf_loop1 d A1 A2 A3 A4 A5 c1 c2 c3 c4 c5 m F n2 w #[.string s1, .string s2, .int .i64 ver, .slice RB rn rc, .int .i64 at_, .int .i64 need] #[.int .i64 0, .int .i64 0, .slice none 0 0, .slice none 0 0, .slice none 0 0, .slice none 0 0, .slice none 0 0] b hb E5 hE _ _ _ HS.out.r2 _ _ _ _ _ _ _ _ _ _ _ _ _ _ _ _ _ _ _ _ _ _ _ _ _ _ _ _ _ _ _ _ _ _ _ _ _ _ _ _ _ _ _ _ _ _ _ _ _ _ _ _ _ _ _ _ _ _ _ _ _ _ _ _ _ _ _ _ _ _ _ _ _ _ _ _ _ _ _ _ _ _ _ _ _ _ _ _ _ _ _ _ _ _ _ _ _ _ _ _ _ _ _ _ _ _ _ _ _ _ _ _ _ _ _ _ _ _ _ _ _ _ _ _ _ _ _ _ _ _ _ _ _ _ _ _ _ _ _ _ _ _ _ _ _ _ _ _ _ _ _ _ _ _ _ _ _ _ _ _ _ _ _ _ _ _ _ _ _ _ _ _ _ _ w4 B ?_
  clear B R3
  intro x0 x1 x2 x3 x4 x5 x6 x7 x8 x9 x10 x11 x12 x13 x14 x15 x16 x17 x18 x19 x20 x21 x22 x23 x24 x25 x26 x27 x28 x29 v5 w5 hown hno B
  obtain ⟨X2, k2, rfl⟩ := own_slice hown
  obtain ⟨E6, o1, g2, o2⟩ := own_ext (Nat.succ_pos 6) hown hno
  replace B := B.ext o1
  replace g4 := g4.ext (E1 := E6)
  replace g5 := g5.ext (E1 := E6)
  replace g1 := g1.ext (E1 := E6)
  replace g2 := g2.new (E := E5)
  replace hE := (o2 _ List.mem_cons_self).app hE
  replace hz := (o2 _ (List.mem_cons_of_mem _ (List.mem_cons_of_mem _ (List.mem_cons_of_mem _ List.mem_cons_self)))).app hz
  clear hown hno o1 o2
  generalize E6 ++ E5 = E7 at B g4 g5 g1 g2 hE hz
  dsimp only
  have R3 := B.rules
  simp only [Rules] at R3
  go_wp2_with fail
  refine suf_loop2 d A1 A2 A3 A4 A5 c1 c2 c3 c4 c5 m F at_ n3 w #[.string s1, .string s2, .int .i64 ver, .slice RB rn rc, .int .i64 at_, .int .i64 need] #[.int .i64 0, .int .i64 0, .slice none 0 0, .slice none 0 0, .slice none 0 0, .slice none 0 0, .slice none 0 0] rfl b hb E7 hE _ _ _ _ HS.out.r3 _ _ _ _ _ _ _ _ _ _ _ _ _ _ _ _ _ _ _ _ _ _ _ _ _ _ _ _ _ _ _ _ _ _ _ _ _ _ _ _ _ _ _ _ _ _ _ _ _ _ _ _ _ _ _ _ _ _ _ _ _ _ _ _ _ _ _ _ _ _ _ _ _ _ _ _ _ _ _ _ _ _ _ _ _ _ _ _ _ _ _ _ _ _ _ _ _ _ _ _ _ _ _ _ _ _ _ _ _ _ _ _ _ _ _ _ _ _ _ _ _ _ _ _ _ _ _ _ _ _ _ _ _ _ _ _ _ _ _ _ _ _ _ _ _ _ _ _ _ _ _ _ _ _ _ _ _ _ _ _ _ _ _ _ _ _ _ _ _ _ _ _ _ w5 B ?_
  clear B R3
  intro q0 q1 q2 q3 q4 q5 q6 q7 q8 q9 q10 q11 q12 q13 q14 q15 q16 q17 q18 q19 q20 q21 q22 q23 q24 q25 q26 q27 q28 q29 q30 q31 q32 q33 q34 q35 q36 q37 q38 q39 q40 q41 q42 q43 q44 q45 v6 w6 hown hno B
  obtain ⟨X3, k3, rfl⟩ := own_slice hown
  obtain ⟨E8, o1, g3, o2⟩ := own_ext (Nat.succ_pos 4) hown hno
  replace B := B.ext o1
  replace g4 := g4.ext (E1 := E8)
  replace g5 := g5.ext (E1 := E8)
  replace g1 := g1.ext (E1 := E8)
  replace g2 := g2.ext (E1 := E8)
  replace g3 := g3.new (E := E7)
  replace hz := (o2 _ (List.mem_cons_of_mem _ (List.mem_cons_of_mem _ (List.mem_cons_of_mem _ List.mem_cons_self)))).app hz
  clear hown hno o1 o2 hE
  generalize E8 ++ E7 = E9 at B g4 g5 g1 g2 g3 hz
  dsimp only
  have R3 := B.rules
  simp only [Rules] at R3
  go_wp2_with fail
  clear R3
  have B' : St w w6 ((w.heap.size + 1 + 1, #[.int .i64 0, .int .i64 0, .slice none 0 0, .slice none 0 0, .slice none 0 0, .slice none 0 0, .slice none 0 0], 28) :: E9) := ⟨B.below, B.blks.2.2.2.1, B.blks.2.2.2.2⟩
  have Bf := B'.put7 (by omega) hz (.int .i64 F) (.int .i64 d.u) (.slice X1 (spS d.u m d.sp).length k1) (.slice X2 (ovS d.u m d.ov).length k2) (.slice X3 (dfS d.u at_ m d.df).length k3) (.slice X4 (payS d.u at_ m d.py).length k4) (.slice X5 d.fo.length k5)
  clear B B'
  generalize World.setCell _ _ _ = Wf at Bf ⊢
  have Rf := Bf.rules
  simp only [Rules] at Rf
  have Rc := Rf.1.1
  clear Rf
  refine bodyPost_ret (v := .tuple #[.agg #[.int .i64 F, .int .i64 d.u, .slice X1 (spS d.u m d.sp).length k1, .slice X2 (ovS d.u m d.ov).length k2, .slice X3 (dfS d.u at_ m d.df).length k3, .slice X4 (payS d.u at_ m d.py).length k4, .slice X5 d.fo.length k5], .int .i64 0]) ?_ rfl (HR.out X1 X2 X3 X4 X5 k1 k2 k3 k4 k5 Wf ⟨g1 _ Bf.blks.2, g2 _ Bf.blks.2, g3 _ Bf.blks.2, g4 _ Bf.blks.2, g5 _ Bf.blks.2⟩ Bf.below)
  simp [results, Tryz.results8, go_sem, Rc]
/-- Suffix: the rest of the script, or an error. -/
theorem suffix_no (d : Scr) (A1 A2 A3 A4 A5 : Option Addr) (c1 c2 c3 c4 c5 : Nat) (s1 s2 : ByteArray) (ver : Int) (RB : Option Addr) (rn rc : Nat) (at_ need m : Int) (w : World) (hB : sufB d at_ m = false) :
    Calls Tryz.prog 8 #[scrV d A1 A2 A3 A4 A5 c1 c2 c3 c4 c5, relV s1 s2 ver RB rn rc at_ need, .int .i64 m] w (Ret (.tuple #[scrZ, .int .i64 1]) w) := by
  cases h0 : momB d.f with
  | false => exact suffix_err0 d A1 A2 A3 A4 A5 c1 c2 c3 c4 c5 s1 s2 ver RB rn rc at_ need m w h0
  | true =>
  cases h1 : momB d.u with
  | false => exact suffix_err1 d A1 A2 A3 A4 A5 c1 c2 c3 c4 c5 s1 s2 ver RB rn rc at_ need m w h0 h1
  | true =>
  by_cases h2 : d.u < d.f
  · exact suffix_err2 d A1 A2 A3 A4 A5 c1 c2 c3 c4 c5 s1 s2 ver RB rn rc at_ need m w h0 h1 h2
  by_cases h3 : m < d.f
  · exact suffix_err3 d A1 A2 A3 A4 A5 c1 c2 c3 c4 c5 s1 s2 ver RB rn rc at_ need m w h0 h1 h2 h3
  by_cases h4 : d.u + 1 < m
  · exact suffix_err4 d A1 A2 A3 A4 A5 c1 c2 c3 c4 c5 s1 s2 ver RB rn rc at_ need m w h0 h1 h2 h3 h4
  cases h5 : momB at_ with
  | false => exact suffix_err5 d A1 A2 A3 A4 A5 c1 c2 c3 c4 c5 s1 s2 ver RB rn rc at_ need m w h0 h1 h2 h3 h4 h5
  | true =>
    exfalso
    have : sufB d at_ m = true := by
      rw [sufB_iff]
      rw [momB_iff] at h0 h1 h5
      omega
    rw [this] at hB
    cases hB
end Go.Proofs.YtbkipanlicgooaaGreatDoor
