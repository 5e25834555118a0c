/-
  Windows of courses; the checks of Ready. No conditions but those in each statement.
-/
import Derived.Test.YtmplcceoepkppaaCadB
import Derived.Deep.DeepCutAuto
namespace Go.Proofs.Ytmplcceoepkppaa
open Go.RowKit

@[go_sem] theorem field36_0 (a b : Int) (w : World) : (Instr.field 36 (.agg #[.int .i64 a, .int .i64 b]) 0).run Try.prog w = .ok (.int .i64 a) w := by kernel_rfl
@[go_sem] theorem field36_1 (a b : Int) (w : World) : (Instr.field 36 (.agg #[.int .i64 a, .int .i64 b]) 1).run Try.prog w = .ok (.int .i64 b) w := by kernel_rfl
@[go_sem] theorem run_store_func {P : Program} {w : World} {p : Addr} {md : Mode} (f : Fn) (xs ys : Array Value) : (store p (.func f xs ys) md).run P w = stored P w p (.func f xs ys) md := run_store P w p _ md rfl

set_option maxHeartbeats 2000000 in
theorem window_any (A : Option Addr) (c : Nat) (s : Sq) (nx rd la : Int) (ov : Bool) (w : World) (hs : StepsAt w A s) (_hn : s.n ≤ maxLen) (hc : courseB s ⟨nx, rd, la, ov⟩ = true) (ho : ov = false) :
    Calls Try.prog 24 #[.agg #[.slice A s.n c, .int .i64 s.r], .agg #[.int .i64 nx, .int .i64 rd, .int .i64 la, .bool ov]] w (Ret (.agg #[.int .i64 (fromOf s ⟨nx, rd, la, ov⟩), .int .i64 (untilOf s ⟨nx, rd, la, ov⟩)]) w) := by
  obtain ⟨x1, x2, x3, x4, x5, x6⟩ := course_open hc ho
  have hq := course_valid hc
  obtain ⟨⟨n1, n2⟩, ⟨r1, r2⟩, _⟩ := sqB_parts hq
  simp only at x1 x2 x3 x4 x5 x6
  subst ho
  obtain ⟨k, rfl⟩ : ∃ k : Nat, nx = k := ⟨nx.toNat, by omega⟩
  have hk : k < s.n := by omega
  obtain ⟨l0, l1, m1⟩ := step_parts hq hk
  clear hc hq x1
  by_cases hz : (k : Int) + rd = 0
  · have hf : fromOf s ⟨k, rd, la, false⟩ = 0 := by simp [fromOf, hz]
    have hu : untilOf s ⟨k, rd, la, false⟩ = 38399 := by simp [untilOf, hz]
    rw [hf, hu]
    clear hf hu
    go_enter Try.func24, Try.ntmps24
    go_wp2
    exact bodyPost_ret (v := .agg #[.int .i64 0, .int .i64 38399]) (by simp [results, Try.results24, go_sem, *]) rfl ⟨rfl, by go_grown⟩
  · have hf : fromOf s ⟨k, rd, la, false⟩ = la + s.L k := by simp [fromOf, hz]
    have hu : untilOf s ⟨k, rd, la, false⟩ = min (la + s.M k) 38399 := by simp [untilOf, hz]
    rw [hf, hu]
    clear hf hu
    go_enter Try.func24, Try.ntmps24
    have B := St.start w
    go_upto_region 3 with (fail)
    generalize hX : World.alloc _ _ = X
    replace B := St.cast hX (((B.alloc _ _).alloc _ _).alloc _ _)
    try simp only [World.size_alloc] at B
    clear hX
    have R := B.rules
    simp only [Rules] at R
    obtain ⟨ad, rfl, hblt, c0, c1, c2⟩ := (hs.later B.below) k hk
    clear hs
    go_wp2
    all_goals
      refine bodyPost_ret (v := .agg #[.int .i64 (la + s.L k), .int .i64 (min (la + s.M k) 38399)]) (by simp [results, Try.results24, go_sem, *] <;> omega) rfl ⟨rfl, ?_⟩
      have bw := B.below.size
      refine ((B.below.setCell ?_ _).setCell ?_ _).alloc ?_ _
      all_goals (first | omega | (simp; done) | (simp; omega))

/-- The three boxes that the checks of Ready capture. -/
def Boxes (w : World) (A : Option Addr) (c : Nat) (s : Sq) (k : Crs) (m : Int) (x y z : Nat) : Prop :=
  w.heap[x]? = some (.cells #[.slice A s.n c, .int .i64 s.r] 24 (0, 0)) ∧ w.heap[y]? = some (.cells #[.int .i64 k.nx, .int .i64 k.rd, .int .i64 k.la, .bool k.ov] 26 (0, 0)) ∧ w.heap[z]? = some (.cells #[.int .i64 m] 3 (0, 0))
theorem Boxes.later {w w' : World} {A : Option Addr} {c : Nat} {s : Sq} {k : Crs} {m : Int} {x y z : Nat} (h : Boxes w A c s k m x y z) (hb : Below w.heap.size w w') : Boxes w' A c s k m x y z :=
  ⟨blk_later h.1 hb, blk_later h.2.1 hb, blk_later h.2.2 hb⟩

set_option maxHeartbeats 2000000 in
theorem chk1_any (A : Option Addr) (c : Nat) (s : Sq) (nx rd la : Int) (ov : Bool) (m : Int) (x y z : Nat) (w : World) (hs : StepsAt w A s) (hn : s.n ≤ maxLen) (hb : Boxes w A c s ⟨nx, rd, la, ov⟩ m x y z) :
    Calls Try.prog 27 #[.pointer (some ⟨x, 0, none⟩), .pointer (some ⟨y, 0, none⟩), .pointer (some ⟨z, 0, none⟩)] w (Ret (.bool (courseB s ⟨nx, rd, la, ov⟩ && inB 0 m 38399)) w) := by
  have B : St w w [(x, #[.slice A s.n c, .int .i64 s.r], 24), (y, #[.int .i64 nx, .int .i64 rd, .int .i64 la, .bool ov], 26), (z, #[.int .i64 m], 3)] := ⟨Below.refl _ _, hb.1, hb.2.1, hb.2.2, trivial⟩
  have R := B.rules
  simp only [Rules] at R
  cases hc : courseB s ⟨nx, rd, la, ov⟩ with
  | false =>
    go_enter Try.func27, Try.ntmps27
    go_wp2_with fail
    refine (course_any A c s nx rd la ov _ (hs.later B.below) hn).mono ?_
    rw [hc]
    rintro e' w1 ⟨rfl, h⟩
    replace B := B.later h
    replace R := B.rules
    simp only [Rules] at R
    clear h
    go_wp2
    go_ret
    exact ⟨rfl, B.below⟩
  | true =>
    go_enter Try.func27, Try.ntmps27
    go_wp2_with fail
    refine (course_any A c s nx rd la ov _ (hs.later B.below) hn).mono ?_
    rw [hc]
    rintro e' w1 ⟨rfl, h⟩
    replace B := B.later h
    replace R := B.rules
    simp only [Rules] at R
    clear h
    go_wp2_with (go_at_call 26; refine (within_any _ _ _ _).mono ?_; rintro e' w' ⟨rfl, rfl⟩)
    go_ret
    exact ⟨ret_bool (by simp), B.below⟩

set_option maxHeartbeats 1000000 in
theorem chk2_any (A : Option Addr) (c : Nat) (s : Sq) (nx rd la : Int) (ov : Bool) (m : Int) (x y z : Nat) (w : World) (hb : Boxes w A c s ⟨nx, rd, la, ov⟩ m x y z) :
    Calls Try.prog 28 #[.pointer (some ⟨y, 0, none⟩)] w (Ret (.bool (!ov)) w) := by
  have B : St w w [(x, #[.slice A s.n c, .int .i64 s.r], 24), (y, #[.int .i64 nx, .int .i64 rd, .int .i64 la, .bool ov], 26), (z, #[.int .i64 m], 3)] := ⟨Below.refl _ _, hb.1, hb.2.1, hb.2.2, trivial⟩
  have R := B.rules
  simp only [Rules] at R
  go_enter Try.func28, Try.ntmps28
  go_wp2
  go_ret
  exact ⟨rfl, B.below⟩

set_option maxHeartbeats 2000000 in
theorem chk3_any (A : Option Addr) (c : Nat) (s : Sq) (nx rd la : Int) (ov : Bool) (m : Int) (x y z : Nat) (w : World) (hs : StepsAt w A s) (hn : s.n ≤ maxLen) (hb : Boxes w A c s ⟨nx, rd, la, ov⟩ m x y z) (hc : courseB s ⟨nx, rd, la, ov⟩ = true) (ho : ov = false) :
    Calls Try.prog 29 #[.pointer (some ⟨z, 0, none⟩), .pointer (some ⟨x, 0, none⟩), .pointer (some ⟨y, 0, none⟩)] w (Ret (.bool (decide (fromOf s ⟨nx, rd, la, ov⟩ ≤ m))) w) := by
  subst ho
  have C := Lib.hid (fun W (h : Below w.heap.size w W) => window_any A c s nx rd la false W (hs.later h) hn hc rfl)
  generalize fromOf s _ = v1 at *
  generalize untilOf s _ = v2 at *
  clear hc
  have B : St w w [(x, #[.slice A s.n c, .int .i64 s.r], 24), (y, #[.int .i64 nx, .int .i64 rd, .int .i64 la, .bool false], 26), (z, #[.int .i64 m], 3)] := ⟨Below.refl _ _, hb.1, hb.2.1, hb.2.2, trivial⟩
  have R := B.rules
  simp only [Rules] at R
  go_enter Try.func29, Try.ntmps29
  go_wp2_with fail
  refine wp_region_later (by kernel_rfl) (by kernel_rfl) ?_
  repeat (go_big_quiet_step ((first | (go_at_call 24; exact Later.call (C.out _ (Later.ok _))))))
  refine wpQuiet_nil ?_
  rintro _ ⟨⟨wq, hq⟩, rfl⟩
  replace B := B.later hq
  go_wp2
  go_ret
  exact ⟨rfl, B.below⟩

set_option maxHeartbeats 2000000 in
theorem chk4_any (A : Option Addr) (c : Nat) (s : Sq) (nx rd la : Int) (ov : Bool) (m : Int) (x y z : Nat) (w : World) (hs : StepsAt w A s) (hn : s.n ≤ maxLen) (hb : Boxes w A c s ⟨nx, rd, la, ov⟩ m x y z) (hc : courseB s ⟨nx, rd, la, ov⟩ = true) (ho : ov = false) :
    Calls Try.prog 30 #[.pointer (some ⟨z, 0, none⟩), .pointer (some ⟨x, 0, none⟩), .pointer (some ⟨y, 0, none⟩)] w (Ret (.bool (decide (m ≤ untilOf s ⟨nx, rd, la, ov⟩))) w) := by
  subst ho
  have C := Lib.hid (fun W (h : Below w.heap.size w W) => window_any A c s nx rd la false W (hs.later h) hn hc rfl)
  generalize fromOf s _ = v1 at *
  generalize untilOf s _ = v2 at *
  clear hc
  have B : St w w [(x, #[.slice A s.n c, .int .i64 s.r], 24), (y, #[.int .i64 nx, .int .i64 rd, .int .i64 la, .bool false], 26), (z, #[.int .i64 m], 3)] := ⟨Below.refl _ _, hb.1, hb.2.1, hb.2.2, trivial⟩
  have R := B.rules
  simp only [Rules] at R
  go_enter Try.func30, Try.ntmps30
  go_wp2_with fail
  refine wp_region_later (by kernel_rfl) (by kernel_rfl) ?_
  repeat (go_big_quiet_step ((first | (go_at_call 24; exact Later.call (C.out _ (Later.ok _))))))
  refine wpQuiet_nil ?_
  rintro _ ⟨⟨wq, hq⟩, rfl⟩
  replace B := B.later hq
  go_wp2
  go_ret
  exact ⟨rfl, B.below⟩

/-- The checks that have been passed before number k. -/
def FirstRel (b1 b2 b3 b4 : Bool) (w0 : World) (v : Value) (wr : World) : Prop :=
  ∃ k : Nat, k ≤ 4 ∧ v = .int .i64 k ∧ Below w0.heap.size w0 wr ∧ (1 ≤ k → b1 = true) ∧ (2 ≤ k → b2 = true) ∧ (3 ≤ k → b3 = true) ∧ (4 ≤ k → b4 = true)

def firstE (b1 b2 b3 b4 : Bool) : Int := if b1 then if b2 then if b3 then if b4 then 0 else 17 else 16 else 11 else 1
theorem ready_first (s : Sq) (c : Crs) (m : Int) : readyE s c m = firstE (courseB s c && inB 0 m 38399) (!c.ov) (decide (fromOf s c ≤ m)) (decide (m ≤ untilOf s c)) := by
  unfold readyE firstE
  cases courseB s c && inB 0 m 38399 <;> cases c.ov <;> simp

set_option maxHeartbeats 4000000 in
theorem first_any (A : Option Addr) (c : Nat) (s : Sq) (nx rd la : Int) (ov : Bool) (m : Int) (x y z q t : Nat) (w : World) (hs : StepsAt w A s) (hn : s.n ≤ maxLen) (hb : Boxes w A c s ⟨nx, rd, la, ov⟩ m x y z) (hq : w.heap[q]? = some (.cells #[.int .i64 1, .func (.func 27) #[] #[.pointer (some ⟨x, 0, none⟩), .pointer (some ⟨y, 0, none⟩), .pointer (some ⟨z, 0, none⟩)], .int .i64 11, .func (.func 28) #[] #[.pointer (some ⟨y, 0, none⟩)], .int .i64 16, .func (.func 29) #[] #[.pointer (some ⟨z, 0, none⟩), .pointer (some ⟨x, 0, none⟩), .pointer (some ⟨y, 0, none⟩)], .int .i64 17, .func (.func 30) #[] #[.pointer (some ⟨z, 0, none⟩), .pointer (some ⟨x, 0, none⟩), .pointer (some ⟨y, 0, none⟩)]] t (0, 0))) :
    Calls Try.prog 31 #[.slice (some ⟨q, 0, none⟩) 4 4] w (Ret (.int .i64 (readyE s ⟨nx, rd, la, ov⟩ m)) w) := by
  rw [ready_first]
  have E := Lib.hid (firstE.eq_1)
  have C1 := Lib.hid (fun W (h : Below w.heap.size w W) => chk1_any A c s nx rd la ov m x y z W (hs.later h) hn (hb.later h))
  have C2 := Lib.hid (fun W (h : Below w.heap.size w W) => chk2_any A c s nx rd la ov m x y z W (hb.later h))
  have C3 := Lib.hid (fun W (h : Below w.heap.size w W) hc ho => chk3_any A c s nx rd la ov m x y z W (hs.later h) hn (hb.later h) hc ho)
  have C4 := Lib.hid (fun W (h : Below w.heap.size w W) hc ho => chk4_any A c s nx rd la ov m x y z W (hs.later h) hn (hb.later h) hc ho)
  have hand : (courseB s ⟨nx, rd, la, ov⟩ && inB 0 m 38399) = true → courseB s ⟨nx, rd, la, ov⟩ = true := fun h => by simp only [Bool.and_eq_true] at h; exact h.1
  have hnot : (!ov) = true → ov = false := fun h => by simpa using h
  dsimp only
  generalize decide (fromOf s ⟨nx, rd, la, ov⟩ ≤ m) = b3 at *
  generalize decide (m ≤ untilOf s ⟨nx, rd, la, ov⟩) = b4 at *
  generalize (courseB s ⟨nx, rd, la, ov⟩ && inB 0 m 38399) = b1 at *
  generalize hb2 : (!ov) = b2 at *
  have HA := Lib.hid hand
  have HN := Lib.hid hnot
  clear hand hnot hb2 hs hn hb
  have B : St w w [(q, #[.int .i64 1, .func (.func 27) #[] #[.pointer (some ⟨x, 0, none⟩), .pointer (some ⟨y, 0, none⟩), .pointer (some ⟨z, 0, none⟩)], .int .i64 11, .func (.func 28) #[] #[.pointer (some ⟨y, 0, none⟩)], .int .i64 16, .func (.func 29) #[] #[.pointer (some ⟨z, 0, none⟩), .pointer (some ⟨x, 0, none⟩), .pointer (some ⟨y, 0, none⟩)], .int .i64 17, .func (.func 30) #[] #[.pointer (some ⟨z, 0, none⟩), .pointer (some ⟨x, 0, none⟩), .pointer (some ⟨y, 0, none⟩)]], t)] := ⟨Below.refl _ _, hq, trivial⟩
  clear hq
  go_enter Try.func31, Try.ntmps31
  go_wp2_with fail
  go_loopw [7] (FirstRel b1 b2 b3 b4 w) (fun v _ => 4 - (intOf v).toNat)
  case atStart => exact ⟨0, by omega, rfl, Below.refl _ _, by omega, by omega, by omega, by omega⟩
  case round =>
    obtain ⟨k, hk, rfl, hbl, k1, k2, k3, k4⟩ := hrel
    replace B := B.later hbl
    have R := B.rules
    simp only [Rules] at R
    have h5 : k = 0 ∨ k = 1 ∨ k = 2 ∨ k = 3 ∨ k = 4 := by omega
    rcases h5 with rfl | rfl | rfl | rfl | rfl
    · go_wp2_with fail
      refine (C1.out _ (B.alloc _ _).below).mono ?_
      rintro e' w1 ⟨rfl, h⟩
      replace B := (B.alloc _ _).later h
      replace R := B.rules
      simp only [Rules] at R
      clear h
      cases b1 with
      | false =>
        go_wp2
        go_ret
        exact ⟨rfl, B.below⟩
      | true =>
        go_wp2
        exact ⟨⟨1, by omega, by go_num, B.below, fun _ => rfl, by omega, by omega, by omega⟩, by simp [intOf]⟩
    · have g1 := k1 (by omega)
      subst g1
      go_wp2_with fail
      refine (C2.out _ (B.alloc _ _).below).mono ?_
      rintro e' w1 ⟨rfl, h⟩
      replace B := (B.alloc _ _).later h
      replace R := B.rules
      simp only [Rules] at R
      clear h
      cases b2 with
      | false =>
        go_wp2
        go_ret
        exact ⟨rfl, B.below⟩
      | true =>
        go_wp2
        exact ⟨⟨2, by omega, by go_num, B.below, fun _ => rfl, fun _ => rfl, by omega, by omega⟩, by simp [intOf]⟩
    · have g1 := k1 (by omega)
      subst g1
      have g2 := k2 (by omega)
      subst g2
      go_wp2_with fail
      refine (C3.out _ (B.alloc _ _).below (HA.out (by trivial)) (HN.out (by trivial))).mono ?_
      rintro e' w1 ⟨rfl, h⟩
      replace B := (B.alloc _ _).later h
      replace R := B.rules
      simp only [Rules] at R
      clear h
      cases b3 with
      | false =>
        go_wp2
        go_ret
        exact ⟨rfl, B.below⟩
      | true =>
        go_wp2
        exact ⟨⟨3, by omega, by go_num, B.below, fun _ => rfl, fun _ => rfl, fun _ => rfl, by omega⟩, by simp [intOf]⟩
    · have g1 := k1 (by omega)
      subst g1
      have g2 := k2 (by omega)
      subst g2
      have g3 := k3 (by omega)
      subst g3
      go_wp2_with fail
      refine (C4.out _ (B.alloc _ _).below (HA.out (by trivial)) (HN.out (by trivial))).mono ?_
      rintro e' w1 ⟨rfl, h⟩
      replace B := (B.alloc _ _).later h
      replace R := B.rules
      simp only [Rules] at R
      clear h
      cases b4 with
      | false =>
        go_wp2
        go_ret
        exact ⟨rfl, B.below⟩
      | true =>
        go_wp2
        exact ⟨⟨4, by omega, by go_num, B.below, fun _ => rfl, fun _ => rfl, fun _ => rfl, fun _ => rfl⟩, by simp [intOf]⟩
    · have g1 := k1 (by omega)
      subst g1
      have g2 := k2 (by omega)
      subst g2
      have g3 := k3 (by omega)
      subst g3
      have g4 := k4 (by omega)
      subst g4
      go_wp2
      go_ret
      exact ⟨rfl, B.below⟩

set_option maxHeartbeats 2000000 in
theorem ready_any (A : Option Addr) (c : Nat) (s : Sq) (nx rd la : Int) (ov : Bool) (m : Int) (w : World) (hs : StepsAt w A s) (hn : s.n ≤ maxLen) :
    Calls Try.prog 19 #[.agg #[.slice A s.n c, .int .i64 s.r], .agg #[.int .i64 nx, .int .i64 rd, .int .i64 la, .bool ov], .int .i64 m] w (Ret (.int .i64 (readyE s ⟨nx, rd, la, ov⟩ m)) w) := by
  go_enter Try.func19, Try.ntmps19
  have B := St.start w
  go_wp2_with fail
  generalize hX : World.alloc _ _ = X
  replace B := St.cast hX ((((B.alloc _ _).alloc _ _).alloc _ _).alloc _ _)
  try simp only [World.size_alloc] at B
  clear hX
  refine (first_any A c s nx rd la ov m _ _ _ _ _ _ (hs.later B.below) hn ⟨B.blks.2.2.2.1, B.blks.2.2.1, B.blks.2.1⟩ B.blks.1).mono ?_
  rintro e' w1 ⟨rfl, h⟩
  replace B := B.later h
  go_wp2
  go_ret
  exact ⟨rfl, B.below⟩

end Go.Proofs.Ytmplcceoepkppaa
