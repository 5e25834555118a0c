/-
  SameScript, FewScript, moment, reach: what each call returns. No conditions but those in each statement.
-/
import Derived.Test.YtbkipanlicgooaaGreatDoorLb
import Derived.Test.YtbkipanlicgooaaGreatDoorLa
import Derived.Maps.AppendAt
import Derived.Deep.AppendLies
import Derived.Laws.OwnMore
import Derived.OwnWalk
namespace Go.Proofs.YtbkipanlicgooaaGreatDoor
open Go.RowKit

theorem alloc_size (w : World) (o : Obj) : (w.alloc o).heap.size = w.heap.size + 1 := by simp
/-- A script as a value. -/
def scrV (d : Scr) (A1 A2 A3 A4 A5 : Option Addr) (c1 c2 c3 c4 c5 : Nat) : Value :=
  .agg #[.int .i64 d.f, .int .i64 d.u, .slice A1 d.sp.length c1, .slice A2 d.ov.length c2, .slice A3 d.df.length c3, .slice A4 d.py.length c4, .slice A5 d.fo.length c5]
set_option maxRecDepth 100000 in
set_option maxHeartbeats 4000000 in
theorem same_any (d : Scr) (hb : ScrB d) (A1 A2 A3 A4 A5 : Option Addr) (c1 c2 c3 c4 c5 : Nat) (X1 X2 X3 X4 X5 : Option Addr) (k1 k2 k3 k4 k5 : Nat) (w : World) (h1 : ScrAt w d A1 A2 A3 A4 A5) (h2 : ScrAt w d X1 X2 X3 X4 X5) :
    Calls Tryz.prog 10 #[scrV d A1 A2 A3 A4 A5 c1 c2 c3 c4 c5, scrV d X1 X2 X3 X4 X5 k1 k2 k3 k4 k5] w (Ret (.bool true) w) := by
  have C := Lib.hid (fun W v (hv : v = scrV d A1 A2 A3 A4 A5 c1 c2 c3 c4 c5 ∨ v = scrV d X1 X2 X3 X4 X5 k1 k2 k3 k4 k5) (h : Below w.heap.size w W) => (by
    rcases hv with rfl | rfl
    · exact script_any d A1 A2 A3 A4 A5 c1 c2 c3 c4 c5 hb W (h1.later h)
    · exact script_any d X1 X2 X3 X4 X5 k1 k2 k3 k4 k5 hb W (h2.later h) : Calls Tryz.prog 19 #[v] W (Ret (.string (scrS d)) W)))
  clear h1 h2 hb
  unfold scrV at *
  generalize scrS d = s at C
  go_enter Tryz.func10, Tryz.ntmps10
  have B := St.start w
  go_wp2_with fail
  generalize hX : World.alloc _ _ = X
  replace B := St.cast hX ((B.alloc _ _).alloc _ _)
  clear hX
  simp only [alloc_size] at B
  have R := B.rules
  simp only [Rules] at R
  refine wp_region_later (by kernel_rfl) (by kernel_rfl) ?_
  repeat (go_big_quiet_step (first | (go_at_call 19; exact Later.call (C.out _ _ (by first | exact .inl rfl | exact .inr rfl) (below_step B.below (Nat.le_refl _) (Later.ok _))))))
  refine wpQuiet_nil ?_
  rintro _ ⟨⟨wq, hq⟩, rfl⟩
  replace B := B.later hq
  go_wp2
  go_ret
  exact ⟨by simp, B.below⟩
def fewB (d : Scr) : Bool := decide (d.sp.length ≤ 8) && (decide (d.ov.length ≤ 8) && (decide (d.df.length ≤ 8) && (decide (d.py.length ≤ 12) && decide (d.fo.length ≤ 8))))
set_option maxRecDepth 100000 in
set_option maxHeartbeats 4000000 in
theorem few_any (d : Scr) (A1 A2 A3 A4 A5 : Option Addr) (c1 c2 c3 c4 c5 : Nat) (w : World) :
    Calls Tryz.prog 7 #[scrV d A1 A2 A3 A4 A5 c1 c2 c3 c4 c5] w (Ret (.bool (fewB d)) w) := by
  have Hq := Lib.hid (show fewB d = (decide (d.sp.length ≤ 8) && (decide (d.ov.length ≤ 8) && (decide (d.df.length ≤ 8) && (decide (d.py.length ≤ 12) && decide (d.fo.length ≤ 8))))) from rfl)
  generalize fewB d = q at Hq
  unfold scrV
  generalize d.sp.length = n1 at Hq
  generalize d.ov.length = n2 at Hq
  generalize d.df.length = n3 at Hq
  generalize d.py.length = n4 at Hq
  generalize d.fo.length = n5 at Hq
  by_cases h1 : n1 ≤ 8
  rotate_left
  · have Hp := Lib.hid (show q = false from by rw [Hq.out]; simp [h1])
    go_enter Tryz.func7, Tryz.ntmps7
    go_wp2
    go_ret
    exact ⟨by rw [Hp.out]; rfl, by go_grown⟩
  by_cases h2 : n2 ≤ 8
  rotate_left
  · have Hp := Lib.hid (show q = false from by rw [Hq.out]; simp [h2])
    go_enter Tryz.func7, Tryz.ntmps7
    go_wp2
    go_ret
    exact ⟨by rw [Hp.out]; rfl, by go_grown⟩
  by_cases h3 : n3 ≤ 8
  rotate_left
  · have Hp := Lib.hid (show q = false from by rw [Hq.out]; simp [h3])
    go_enter Tryz.func7, Tryz.ntmps7
    go_wp2
    go_ret
    exact ⟨by rw [Hp.out]; rfl, by go_grown⟩
  by_cases h4 : n4 ≤ 12
  rotate_left
  · have Hp := Lib.hid (show q = false from by rw [Hq.out]; simp [h4])
    go_enter Tryz.func7, Tryz.ntmps7
    go_wp2
    go_ret
    exact ⟨by rw [Hp.out]; rfl, by go_grown⟩
  by_cases h5 : n5 ≤ 8
  rotate_left
  · have Hp := Lib.hid (show q = false from by rw [Hq.out]; simp [h5])
    go_enter Tryz.func7, Tryz.ntmps7
    go_wp2
    go_ret
    exact ⟨by rw [Hp.out]; simp; omega, by go_grown⟩
  have Hp := Lib.hid (show q = true from by rw [Hq.out]; simp [h1, h2, h3, h4, h5])
  go_enter Tryz.func7, Tryz.ntmps7
  go_wp2
  go_ret
  exact ⟨by rw [Hp.out]; simp; omega, by go_grown⟩

/-- A moment. -/
def momB (n : Int) : Bool := decide (0 ≤ n) && decide (n ≤ 38399)
theorem moment_any (n : Int) (w : World) : Calls Tryz.prog 14 #[.int .i64 n] w (fun e w' => e = .returned (.bool (momB n)) ∧ w' = w) := by
  by_cases h1 : 0 ≤ n
  · have hr : momB n = decide (n ≤ 38399) := by simp [momB, h1]
    have Hr := Lib.hid hr; clear hr
    go_enter Tryz.func14, Tryz.ntmps14
    go_wp2
    all_goals
      go_ret
      exact ⟨by rw [Hr.out]; simp [*], rfl⟩
  · have hr : momB n = false := by simp [momB, h1]
    have Hr := Lib.hid hr; clear hr
    go_enter Tryz.func14, Tryz.ntmps14
    go_wp2
    all_goals
      go_ret
      exact ⟨by rw [Hr.out]; rfl, rfl⟩
/-- The moments of payments of a kind that can matter. -/
def loR (k m : Int) : Int := if k = 1 then m - 96 else if k = 3 then m else m - 288
def hiR (k u : Int) : Int := if k = 1 then u + 96 else if k = 3 then u + 48 else u + 288
set_option maxHeartbeats 1000000 in
theorem reach_any (k m u : Int) (hm0 : 0 ≤ m) (hm : m ≤ 40000) (hu0 : 0 ≤ u) (hu : u ≤ 40000) (w : World) : Calls Tryz.prog 23 #[.int .i64 k, .int .i64 m, .int .i64 u] w (fun e w' => e = .returned (.tuple #[.int .i64 (loR k m), .int .i64 (hiR k u)]) ∧ w' = w) := by
  by_cases h1 : k = 1
  · have Hr := Lib.hid (show loR k m = m - 96 ∧ hiR k u = u + 96 from by simp [loR, hiR, h1])
    subst h1
    go_enter Tryz.func23, Tryz.ntmps23
    go_wp2
    refine bodyPost_ret (v := .tuple #[.int .i64 (m - 96), .int .i64 (u + 96)]) (by simp [results, Tryz.results23, go_sem, *]) rfl ⟨by rw [Hr.out.1, Hr.out.2], rfl⟩
  · by_cases h3 : k = 3
    · have Hr := Lib.hid (show loR k m = m ∧ hiR k u = u + 48 from by simp [loR, hiR, h3])
      subst h3
      go_enter Tryz.func23, Tryz.ntmps23
      go_wp2
      refine bodyPost_ret (v := .tuple #[.int .i64 m, .int .i64 (u + 48)]) (by simp [results, Tryz.results23, go_sem, *]) rfl ⟨by rw [Hr.out.1, Hr.out.2], rfl⟩
    · have Hr := Lib.hid (show loR k m = m - 288 ∧ hiR k u = u + 288 from by simp [loR, hiR, h1, h3])
      have e1 : (k == 1) = false := by simpa using h1
      have e3 : (k == 3) = false := by simpa using h3
      go_enter Tryz.func23, Tryz.ntmps23
      go_wp2
      refine bodyPost_ret (v := .tuple #[.int .i64 (m - 288), .int .i64 (u + 288)]) (by simp [results, Tryz.results23, go_sem, *]) rfl ⟨by rw [Hr.out.1, Hr.out.2], rfl⟩
end Go.Proofs.YtbkipanlicgooaaGreatDoor
namespace Go.Proofs.YtbkipanlicgooaaGreatDoor
open Go.RowKit

def cmpI (a b : Int) : Int := if a < b then -1 else if b < a then 1 else 0
set_option maxHeartbeats 1000000 in
theorem cmp_any (a b : Int) (w : World) : Calls Tryz.prog 27 #[.int .i64 a, .int .i64 b] w (Ret (.int .i64 (cmpI a b)) w) := by
  by_cases h1 : a < b
  · have Hr := Lib.hid (show cmpI a b = -1 from by simp [cmpI, h1])
    go_enter Tryz.func27, Tryz.ntmps27
    go_wp2
    all_goals
      go_ret
      exact Ret.same (by rw [Hr.out]; rfl) rfl
  · by_cases h2 : b < a
    · have Hr := Lib.hid (show cmpI a b = 1 from by simp [cmpI, h1, h2])
      go_enter Tryz.func27, Tryz.ntmps27
      go_wp2
      all_goals
        go_ret
        exact Ret.same (by rw [Hr.out]; rfl) rfl
    · have Hr := Lib.hid (show cmpI a b = 0 from by simp [cmpI, h1, h2])
      go_enter Tryz.func27, Tryz.ntmps27
      go_wp2
      all_goals
        go_ret
        exact Ret.same (by rw [Hr.out]; rfl) rfl

/-- What cmp.Or returns of four numbers. -/
def or4 (D : Nat → Int) : Int := if D 0 ≠ 0 then D 0 else if D 1 ≠ 0 then D 1 else if D 2 ≠ 0 then D 2 else D 3
def OrRel (D : Nat → Int) (w : World) (v8 : Value) (wr : World) : Prop := ∃ k : Nat, k ≤ 4 ∧ v8 = .int .i64 k ∧ (∀ i, i < k → D i = 0) ∧ Below w.heap.size w wr
set_option maxHeartbeats 1000000 in
theorem or_any (b : Nat) (D : Nat → Int) (w : World) (h : ∀ i, i < 4 → w.cell? ⟨b, i, none⟩ = some (.int .i64 (D i))) (hb : b < w.heap.size) :
    Calls Tryz.prog 26 #[.slice (some ⟨b, 0, none⟩) 4 4] w (Ret (.int .i64 (or4 D)) w) := by
  have H := Lib.hid h
  clear h
  go_enter Tryz.func26, Tryz.ntmps26
  go_wp2_with fail
  go_loopw [8] (OrRel D w) (fun v _ => 4 - (intOf v).toNat)
  case atStart => exact ⟨0, by omega, rfl, fun i hi => absurd hi (by omega), Below.refl _ _⟩
  case round =>
    obtain ⟨k, hk, rfl, hz, hbel⟩ := hrel
    have Hz := Lib.hid hz
    clear hz
    by_cases hlt : k < 4
    · have c0 : wr.cell? ⟨b, k, none⟩ = some (.int .i64 (D k)) := (hbel.cell (p := ⟨b, k, none⟩) hb).trans (H.out k hlt)
      have hlt' : (k : Int) < 4 := by omega
      by_cases h0 : D k = 0
      · have Hk := Lib.hid h0
        go_wp2
        exact ⟨⟨k + 1, by omega, by go_num, fun i hi => by
          by_cases e : i = k
          · rw [e]; exact Hk.out
          · exact Hz.out i (by omega), hbel⟩, by simp [intOf]; omega⟩
      · have Hq := Lib.hid (show or4 D = D k from by
          have hz := Hz.out
          have e : k = 0 ∨ k = 1 ∨ k = 2 ∨ k = 3 := by omega
          unfold or4
          rcases e with rfl | rfl | rfl | rfl
          · rw [if_pos h0]
          · rw [if_neg (by simp [hz 0 (by omega)]), if_pos h0]
          · rw [if_neg (by simp [hz 0 (by omega)]), if_neg (by simp [hz 1 (by omega)]), if_pos h0]
          · rw [if_neg (by simp [hz 0 (by omega)]), if_neg (by simp [hz 1 (by omega)]), if_neg (by simp [hz 2 (by omega)])])
        go_wp2
        go_ret
        exact ⟨by rw [Hq.out]; rfl, hbel⟩
    · obtain rfl : k = 4 := by omega
      have Hq := Lib.hid (show or4 D = 0 from by
        have hz := Hz.out
        simp [or4, hz 0 (by omega), hz 1 (by omega), hz 2 (by omega), hz 3 (by omega)])
      go_wp2
      go_ret
      exact ⟨by rw [Hq.out]; rfl, hbel⟩

/-- The order of payments. -/
def pD (p q : Pay) (i : Nat) : Int := if i = 0 then cmpI p.k q.k else if i = 1 then cmpI p.t q.t else if i = 2 then cmpI p.f q.f else cmpI p.a q.a
def pcmp (p q : Pay) : Int := or4 (pD p q)
def payV (p : Pay) : Value := .agg #[.int .i64 p.k, .int .i64 p.t, .int .i64 p.f, .int .i64 p.a]
set_option maxRecDepth 100000 in
set_option maxHeartbeats 4000000 in
theorem pcmp_any (p q : Pay) (w : World) : Calls Tryz.prog 25 #[payV p, payV q] w (Ret (.int .i64 (pcmp p q)) w) := by
  have HD : pD p q 0 = cmpI p.k q.k ∧ pD p q 1 = cmpI p.t q.t ∧ pD p q 2 = cmpI p.f q.f ∧ pD p q 3 = cmpI p.a q.a := ⟨rfl, rfl, rfl, rfl⟩
  have HD := Lib.hid HD
  unfold pcmp payV
  generalize pD p q = D at HD
  obtain ⟨k, t, f, a⟩ := p
  obtain ⟨k', t', f', a'⟩ := q
  dsimp only at HD
  have C := Lib.hid (fun a b W => cmp_any a b W)
  go_enter Tryz.func25, Tryz.ntmps25
  have B := St.start w
  go_wp2_with fail
  generalize hX : World.alloc _ _ = X
  replace B := St.cast hX ((B.alloc _ _).alloc _ _)
  clear hX
  simp only [alloc_size] at B
  have R := B.rules
  simp only [Rules] at R
  refine wp_region_later_tail 20 (by kernel_rfl) (by kernel_rfl) ?_
  simp only [List.take_succ_cons, List.take_zero, List.drop_succ_cons, List.drop_zero]
  repeat (go_big_quiet_step (first | (go_at_call 27; exact Later.call (C.out _ _ _))))
  refine wpQuiet_nil ?_
  rintro _ ⟨⟨wq, hq⟩, rfl⟩
  replace B := B.later hq
  clear R
  go_wp2_with fail
  generalize hX : World.alloc _ _ = X
  replace B := St.cast hX (B.alloc _ _)
  clear hX
  have hh := B.blks.1
  refine (or_any _ D _ (fun i hi => ?_) (lt_of_block hh)).mono ?_
  · have e : i = 0 ∨ i = 1 ∨ i = 2 ∨ i = 3 := by omega
    rcases e with rfl | rfl | rfl | rfl
    · rw [HD.out.1]; exact cell_blk hh 0 _ rfl
    · rw [HD.out.2.1]; exact cell_blk hh 1 _ rfl
    · rw [HD.out.2.2.1]; exact cell_blk hh 2 _ rfl
    · rw [HD.out.2.2.2]; exact cell_blk hh 3 _ rfl
  rintro e' w1 ⟨rfl, h⟩
  replace B := B.later h
  go_wp2
  go_ret
  exact ⟨rfl, B.below⟩
end Go.Proofs.YtbkipanlicgooaaGreatDoor
namespace Go.Proofs.YtbkipanlicgooaaGreatDoor
open Go.RowKit

/-- The elements' cells lie in these cells, from the first one on. -/
def FlatP (cs : Array Value) (l : List Pay) : Prop := ∀ i x, l[i]? = some x → cs[i * 4]? = some (.int .i64 x.k) ∧ cs[i * 4 + 1]? = some (.int .i64 x.t) ∧ cs[i * 4 + 2]? = some (.int .i64 x.f) ∧ cs[i * 4 + 3]? = some (.int .i64 x.a)
/-- One round of the insertion sort: the element at j goes down. -/
def ins : Nat → List Pay → List Pay
  | 0, l => l
  | j + 1, l => match l[j + 1]?, l[j]? with
    | some x, some y => if pcmp x y < 0 then ins j ((l.set (j + 1) y).set j x) else l
    | _, _ => l
theorem ins_len : ∀ (j : Nat) (l : List Pay), (ins j l).length = l.length
  | 0, l => rfl
  | j + 1, l => by
    unfold ins
    split
    · split
      · rw [ins_len j]
        simp
      · rfl
    · rfl
def srt (l : List Pay) : Nat → List Pay
  | 0 => l
  | i + 1 => ins (i + 1) (srt l i)
theorem srt_len (l : List Pay) : ∀ i, (srt l i).length = l.length
  | 0 => rfl
  | i + 1 => by rw [srt, ins_len, srt_len l i]
def NotIn (y : Nat) : List (Nat × Array Value × TypeId) → Prop
  | [] => True
  | p :: L => p.1 ≠ y ∧ NotIn y L
theorem setIn_not {y i : Nat} {v : Value} : ∀ {L : List (Nat × Array Value × TypeId)}, NotIn y L → setIn y i v L = L
  | [], _ => rfl
  | p :: L, h => by rw [setIn, if_neg h.1, setIn_not h.2]
theorem St.put {w W : World} {L : List (Nat × Array Value × TypeId)} {y : Nat} {cs : Array Value} {t : TypeId} (h : St w W ((y, cs, t) :: L)) (hy : w.heap.size ≤ y) (hL : NotIn y L) (i : Nat) (v : Value) :
    St w (W.setCell ⟨y, i, none⟩ v) ((y, cs.setIfInBounds i v, t) :: L) := by
  have h4 := h.set y i v hy
  simpa only [setIn, if_true, setIn_not hL] using h4
def put4 (cs : Array Value) (o : Nat) (x : Pay) : Array Value := (((cs.setIfInBounds o (.int .i64 x.k)).setIfInBounds (o + 1) (.int .i64 x.t)).setIfInBounds (o + 2) (.int .i64 x.f)).setIfInBounds (o + 3) (.int .i64 x.a)

theorem St.put4 {w W : World} {L : List (Nat × Array Value × TypeId)} {y : Nat} {cs : Array Value} {t : TypeId} (h : St w W ((y, cs, t) :: L)) (hy : w.heap.size ≤ y) (hL : NotIn y L) (o : Nat) (x : Pay) :
    St w ((((W.setCell ⟨y, o, none⟩ (.int .i64 x.k)).setCell ⟨y, o + 1, none⟩ (.int .i64 x.t)).setCell ⟨y, o + 2, none⟩ (.int .i64 x.f)).setCell ⟨y, o + 3, none⟩ (.int .i64 x.a)) ((y, YtbkipanlicgooaaGreatDoor.put4 cs o x, t) :: L) :=
  (((h.put hy hL _ _).put hy hL _ _).put hy hL _ _).put hy hL _ _
theorem put4_other (cs : Array Value) (o : Nat) (x : Pay) (i : Nat) (h : i < o ∨ o + 4 ≤ i) : (put4 cs o x)[i]? = cs[i]? := by
  unfold put4
  rw [Array.getElem?_setIfInBounds_ne (by omega), Array.getElem?_setIfInBounds_ne (by omega), Array.getElem?_setIfInBounds_ne (by omega), Array.getElem?_setIfInBounds_ne (by omega)]
theorem put4_at (cs : Array Value) (o : Nat) (x : Pay) (h : o + 3 < cs.size) : (put4 cs o x)[o]? = some (.int .i64 x.k) ∧ (put4 cs o x)[o + 1]? = some (.int .i64 x.t) ∧ (put4 cs o x)[o + 2]? = some (.int .i64 x.f) ∧ (put4 cs o x)[o + 3]? = some (.int .i64 x.a) := by
  unfold put4
  refine ⟨?_, ?_, ?_, ?_⟩
  · rw [Array.getElem?_setIfInBounds_ne (by omega), Array.getElem?_setIfInBounds_ne (by omega), Array.getElem?_setIfInBounds_ne (by omega), Array.getElem?_setIfInBounds_self_of_lt (by omega)]
  · rw [Array.getElem?_setIfInBounds_ne (by omega), Array.getElem?_setIfInBounds_ne (by omega), Array.getElem?_setIfInBounds_self_of_lt (by simp; omega)]
  · rw [Array.getElem?_setIfInBounds_ne (by omega), Array.getElem?_setIfInBounds_self_of_lt (by simp; omega)]
  · rw [Array.getElem?_setIfInBounds_self_of_lt (by simp; omega)]
theorem FlatP.set {cs : Array Value} {l : List Pay} (h : FlatP cs l) {j : Nat} (hj : j < l.length) (x : Pay) : FlatP (put4 cs (j * 4) x) (l.set j x) := by
  have hs : j * 4 + 3 < cs.size := by
    obtain ⟨_, _, _, h3⟩ := h j _ (List.getElem?_eq_getElem hj)
    rcases Nat.lt_or_ge (j * 4 + 3) cs.size with h | h
    · exact h
    · rw [Array.getElem?_eq_none h] at h3; cases h3
  intro i y hy
  by_cases e : i = j
  · subst e
    rw [List.getElem?_set_self hj] at hy
    cases hy
    exact put4_at cs (i * 4) x hs
  · rw [List.getElem?_set_ne (by omega)] at hy
    obtain ⟨q0, q1, q2, q3⟩ := h i y hy
    exact ⟨(put4_other _ _ _ _ (by omega)).trans q0, (put4_other _ _ _ _ (by omega)).trans q1, (put4_other _ _ _ _ (by omega)).trans q2, (put4_other _ _ _ _ (by omega)).trans q3⟩

/-- Behind the rounds of the inner loop: what is still to come makes what the whole loop makes. -/
def InRel (w : World) (g : Nat) (L : List (Nat × Array Value × TypeId)) (n : Nat) (fin : List Pay) (v9 : Value) (wr : World) : Prop :=
  ∃ (j : Nat) (cur : List Pay) (cs : Array Value), v9 = .int .i64 j ∧ j < n ∧ cur.length = n ∧ FlatP cs cur ∧ ins j cur = fin ∧ St w wr ((g, cs, 45) :: L)
def OutRel (w : World) (g : Nat) (L : List (Nat × Array Value × TypeId)) (l : List Pay) (v8 _v9 : Value) (wr : World) : Prop :=
  ∃ (i : Nat) (cs : Array Value), v8 = .int .i64 (i + 1 : Nat) ∧ (i + 1 ≤ l.length ∨ i = 0) ∧ FlatP cs (srt l i) ∧ St w wr ((g, cs, 45) :: L)
set_option maxRecDepth 100000 in
set_option maxHeartbeats 4000000 in
theorem isort_any (w : World) (g : Nat) (hg : w.heap.size ≤ g) (L : List (Nat × Array Value × TypeId)) (hL : NotIn g L) (l : List Pay) (hn : l.length ≤ 12) (c : Nat) (cs : Array Value) (hc : FlatP cs l) (W : World) (B : St w W ((g, cs, 45) :: L)) :
    Calls Tryz.prog 114 #[.slice (some ⟨g, 0, none⟩) l.length c, .int .i64 0, .int .i64 l.length, .func (.func 25) #[] #[]] W
      (fun e W' => e = .returned (.tuple #[]) ∧ ∃ cs', FlatP cs' (srt l (l.length - 1)) ∧ St w W' ((g, cs', 45) :: L)) := by
  have C := Lib.hid pcmp_any
  have Hc := Lib.hid hc
  clear hc
  go_enter Tryz.func114, Tryz.ntmps114
  go_wp2_with fail
  go_loopw [8] (fun v8 wr => OutRel w g L l v8 undef wr) (fun v _ => l.length + 1 - (intOf v).toNat)
  case atStart => exact ⟨0, cs, rfl, .inr rfl, Hc.out, B⟩
  case round =>
    clear B Hc
    obtain ⟨i, cs, rfl, hi, hc, B⟩ := hrel
    have Hc := Lib.hid hc
    clear hc
    by_cases hlt : i + 1 < l.length
    · have hlt' : ((i + 1 : Nat) : Int) < l.length := by omega
      go_wp2_with fail
      go_loopw [9] (InRel w g L l.length (srt l (i + 1))) (fun v _ => (intOf v).toNat)
      case atStart => exact ⟨i + 1, srt l i, cs, rfl, hlt, srt_len l i, Hc.out, rfl, B⟩
      case round =>
        clear B Hc
        obtain ⟨j, cur, cs, rfl, hj, hlen, hc, hfin, B⟩ := hrel
        have Hc := Lib.hid hc
        have Hf := Lib.hid hfin
        have Hlen := Lib.hid hlen
        clear hc hfin hlen
        have R := B.rules
        simp only [Rules] at R
        rcases j with _ | m
        · go_wp2_with fail
          refine wp_region_later (by kernel_rfl) (by kernel_rfl) ?_
          repeat (go_big_quiet_step (fail))
          refine wpQuiet_nil ?_
          rintro _ ⟨⟨wq, hq⟩, rfl⟩
          replace B := B.later hq
          go_wp2
          have hf := Hf.out
          simp only [ins] at hf
          exact ⟨⟨i + 1, cs, by go_num, .inl (by omega), hf ▸ Hc.out, B⟩, by simp [intOf]; omega⟩
        · have hx : cur[m + 1]? = some (cur[m + 1]'(by rw [Hlen.out]; exact hj)) := List.getElem?_eq_getElem _
          have hy : cur[m]? = some (cur[m]'(by rw [Hlen.out]; omega)) := List.getElem?_eq_getElem _
          generalize cur[m + 1]'(by rw [Hlen.out]; exact hj) = x at hx
          generalize cur[m]'(by rw [Hlen.out]; omega) = y at hy
          obtain ⟨x0, x1, x2, x3⟩ := Hc.out _ _ hx
          obtain ⟨y0, y1, y2, y3⟩ := Hc.out _ _ hy
          have Hs := Lib.hid (show ins (m + 1) cur = if pcmp x y < 0 then ins m ((cur.set (m + 1) y).set m x) else cur from by rw [ins, hx, hy])
          have CC := Lib.hid (fun W => C.out x y W)
          clear hx hy
          generalize hp : pcmp x y = p at Hs CC
          obtain ⟨xk, xt, xf, xa⟩ := x
          obtain ⟨yk, yt, yf, ya⟩ := y
          dsimp only at x0 x1 x2 x3 y0 y1 y2 y3
          simp only [payV] at CC
          clear hp
          go_wp2_with fail
          refine wp_region_later (by kernel_rfl) (by kernel_rfl) ?_
          repeat (go_big_quiet_step (first | (go_at_call 25; exact Later.call (CC.out _))))
          refine wpQuiet_nil ?_
          rintro _ ⟨⟨wq, hq⟩, rfl⟩
          replace B := B.later hq
          clear R hq CC
          have R := B.rules
          simp only [Rules] at R
          by_cases hp : p < 0
          · go_wp2_with fail
            go_region
            go_wp2
            have hl := Hlen.out
            refine ⟨⟨m, (cur.set (m + 1) ⟨yk, yt, yf, ya⟩).set m ⟨xk, xt, xf, xa⟩, _, rfl, by omega, by simp [hl], (Hc.out.set (by omega) _).set (by simp; omega) _, ?_, ((B.put4 hg hL ((m + 1) * 4) ⟨yk, yt, yf, ya⟩).put4 hg hL (m * 4) ⟨xk, xt, xf, xa⟩).drew⟩, by simp [intOf]⟩
            rw [← Hf.out, Hs.out, if_pos hp]
          · go_wp2
            have hf := Hf.out
            rw [Hs.out, if_neg hp] at hf
            exact ⟨⟨i + 1, cs, by go_num, .inl (by omega), hf ▸ Hc.out, B⟩, by simp [intOf]; omega⟩
    · go_wp2
      go_end0
      have e : i = l.length - 1 := by omega
      exact ⟨rfl, cs, e ▸ Hc.out, B⟩
end Go.Proofs.YtbkipanlicgooaaGreatDoor
namespace Go.Proofs.YtbkipanlicgooaaGreatDoor
open Go.RowKit

set_option maxRecDepth 100000 in
set_option maxHeartbeats 4000000 in
theorem pdq_any (w : World) (g : Nat) (hg : w.heap.size ≤ g) (L : List (Nat × Array Value × TypeId)) (hL : NotIn g L) (l : List Pay) (hn : l.length ≤ 12) (c : Nat) (cs : Array Value) (hc : FlatP cs l) (lim : Int) (W : World) (B : St w W ((g, cs, 45) :: L)) :
    Calls Tryz.prog 53 #[.slice (some ⟨g, 0, none⟩) l.length c, .int .i64 0, .int .i64 l.length, .int .i64 lim, .func (.func 25) #[] #[]] W
      (fun e W' => e = .returned (.tuple #[]) ∧ ∃ cs', FlatP cs' (srt l (l.length - 1)) ∧ St w W' ((g, cs', 45) :: L)) := by
  have C := Lib.hid (isort_any w g hg L hL l hn c cs hc W B)
  clear hc B
  generalize srt l (l.length - 1) = s at C
  generalize l.length = n at hn C
  go_enter Tryz.func53, Tryz.ntmps53
  go_wp2_with fail
  go_loopw [1, 2, 3, 10, 11] (fun v1 v2 v3 v10 v11 wr => v1 = .int .i64 0 ∧ v2 = .int .i64 n ∧ v3 = .int .i64 lim ∧ v10 = .bool true ∧ v11 = .bool true ∧ wr = W) (fun _ _ _ _ _ _ => 0)
  case atStart => exact ⟨rfl, rfl, rfl, rfl, rfl, rfl⟩
  case round =>
    obtain ⟨rfl, rfl, rfl, rfl, rfl, rfl⟩ := hrel
    go_wp2_with fail
    refine C.out.mono ?_
    rintro e' w1 ⟨rfl, cs', h1, h2⟩
    go_wp2
    exact bodyPost_ret (v := .tuple #[]) (by simp [results, Tryz.results53, go_sem]) rfl ⟨rfl, cs', h1, h2⟩

set_option maxRecDepth 100000 in
set_option maxHeartbeats 4000000 in
theorem len_any (n : Nat) (hn : n ≤ 12) (W : World) : Calls Tryz.prog 54 #[.int .u64 n] W (fun e w' => ∃ k : Int, e = .returned (.int .i64 k) ∧ w' = W) := by
  have e : n = 0 ∨ n = 1 ∨ n = 2 ∨ n = 3 ∨ n = 4 ∨ n = 5 ∨ n = 6 ∨ n = 7 ∨ n = 8 ∨ n = 9 ∨ n = 10 ∨ n = 11 ∨ n = 12 := by omega
  rcases e with rfl | rfl | rfl | rfl | rfl | rfl | rfl | rfl | rfl | rfl | rfl | rfl | rfl
  all_goals
    go_enter Tryz.func54, Tryz.ntmps54
    go_wp2
    go_ret
    exact ⟨_, rfl, rfl⟩
set_option maxRecDepth 100000 in
set_option maxHeartbeats 4000000 in
theorem sort_any (w : World) (g : Nat) (hg : w.heap.size ≤ g) (L : List (Nat × Array Value × TypeId)) (hL : NotIn g L) (l : List Pay) (hn : l.length ≤ 12) (c : Nat) (cs : Array Value) (hc : FlatP cs l) (W : World) (B : St w W ((g, cs, 45) :: L)) :
    Calls Tryz.prog 24 #[.slice (some ⟨g, 0, none⟩) l.length c, .func (.func 25) #[] #[]] W
      (fun e W' => e = .returned (.tuple #[]) ∧ ∃ cs', FlatP cs' (srt l (l.length - 1)) ∧ St w W' ((g, cs', 45) :: L)) := by
  have C := Lib.hid (fun lim => pdq_any w g hg L hL l hn c cs hc lim W B)
  have CL := Lib.hid (len_any l.length hn W)
  clear hc B
  generalize srt l (l.length - 1) = s at C
  generalize l.length = n at hn C CL
  go_enter Tryz.func24, Tryz.ntmps24
  go_wp2_with fail
  refine CL.out.mono ?_
  rintro e' w1 ⟨k, rfl, rfl⟩
  go_wp2_with fail
  refine (C.out k).mono ?_
  rintro e' w2 ⟨rfl, cs', h1, h2⟩
  go_wp2
  go_end0
  exact ⟨rfl, cs', h1, h2⟩
end Go.Proofs.YtbkipanlicgooaaGreatDoor
namespace Go.Proofs.YtbkipanlicgooaaGreatDoor
open Go.RowKit

/-- None of these blocks is the row's. -/
def NoOwn (v : Value) : List (Nat × Array Value × TypeId) → Prop
  | [] => True
  | p :: L => v.ownBlock ≠ some p.1 ∧ NoOwn v L
theorem NoOwn.nil : ∀ {L : List (Nat × Array Value × TypeId)}, NoOwn (.slice none 0 0) L
  | [] => trivial
  | _ :: _ => ⟨by simp [Value.ownBlock], NoOwn.nil⟩
theorem Blks.kept {W W' : World} {v : Value} (hg : W.grownBy W' v.ownBlock) : ∀ {L : List (Nat × Array Value × TypeId)}, NoOwn v L → Blks W L → Blks W' L
  | [], _, _ => trivial
  | p :: _L, ho, hb => ⟨(hg.block p.1 (lt_of_block hb.1) (fun he => ho.1 he.symm)).trans hb.1, hb.2.kept hg ho.2⟩
theorem NoOwn.step {W : World} {v v' : Value} (h : v'.ownBlock = v.ownBlock ∨ v'.ownBlock = some W.heap.size) : ∀ {L : List (Nat × Array Value × TypeId)}, NoOwn v L → Blks W L → NoOwn v' L
  | [], _, _ => trivial
  | p :: L, ho, hb => ⟨by
      rcases h with h | h
      · rw [h]; exact ho.1
      · rw [h]
        have := lt_of_block hb.1
        intro e
        have e := Option.some.inj e
        omega, ho.2.step h hb.2⟩
section
variable {P : Program}
/-- append of one element that lies at the head of a block. -/
theorem wpList_push {w W : World} {L : List (Nat × Array Value × TypeId)} (B : St w W L) {ops : Array Oper} {rest : List Oper} {o : Oper} {a : Act} {Q : Exit → Act → World → Prop} (hgd : o.guard = none) (s x : Operand) {t e : TypeId}
    (hop : o.op = .call { callee := .builtin .append, args := #[s, x], argTypes := #[t, t] }) {i : TypeInfo} {z : Value} {size bytes : Nat} (ht : P.underlying t = some (.slice e)) (hi : P.info? e = some i) (hz : i.zero = some z)
    (hsize : i.size = size) (hby : i.bytes = bytes) (hzs : z.cells.size = size) (hsz : 0 < size) {v : Value} {n : Nat} {xs : List Value} (hs : a.eval s = v) (hown : W.ownsRow w.heap.size e size v n xs) (hno : NoOwn v L)
    {b c : Nat} {news : List Value} (hx : a.eval x = .slice (some ⟨b, 0, none⟩) 1 c) (hl : news.length = size) (hb : ∀ j u, news[j]? = some u → W.cell? ⟨b, j, none⟩ = some u) (h1 : ∀ u ∈ news, u.oneCell' = true) (h63 : n + 1 ≤ maxLen) (hbytes : (n + 1) * bytes ≤ 140737488355328)
    (h : ∀ v' W', W'.ownsRow w.heap.size e size v' (n + 1) (xs ++ news) → NoOwn v' L → St w W' L → wpList P ops Q rest (a.put o.dst v') W') : wpList P ops Q (o :: rest) a W := by
  refine wpList_plain hgd fun _ hK => ?_
  obtain ⟨v', W', hr, h2, h3, _, h5⟩ := run_append_own_at (P := P) W w.heap.size t o.type e i z size bytes ht hi hz hsize hby hzs hsz v n xs hown ⟨b, 0, none⟩ 1 c news (by rw [hl, Nat.one_mul])
    (fun j u hu => by
      have e : (⟨b, 0, none⟩ : Addr).add j = ⟨b, j, none⟩ := by unfold Addr.add; split <;> simp_all
      rw [e]
      exact hb j u hu) h1 h63 hbytes B.below.size
  unfold Oper.wp execOp
  simp only [hop, resolve, invoke, builtin, Sem.run_bind, Sem.run_pure, Result.andThen_ok, List.map_toArray, List.map_cons, List.map_nil, hs, hx, hr]
  exact hK _ _ (h v' W' h2 (hno.step h5 B.blks) ⟨B.below.grown h3 B.below.size fun g hv => (hown.lt g hv).1, B.blks.kept h3 hno⟩)
end
theorem own_keep {W W' : World} {base e size n : Nat} {v : Value} {xs : List Value} (hk : ∀ (b : Nat) (o : Obj), W.heap[b]? = some o → W'.heap[b]? = some o) (h : W.ownsRow base e size v n xs) : W'.ownsRow base e size v n xs := by
  obtain ⟨h1, h2 | ⟨g, cap, cur, r1, r2, r3, r4⟩⟩ := h
  · exact ⟨h1, .inl h2⟩
  · exact ⟨h1, .inr ⟨g, cap, cur, r1, r2, hk _ _ r3, r4⟩⟩
theorem own_alloc {W : World} {base e size n : Nat} {v : Value} {xs : List Value} (h : W.ownsRow base e size v n xs) (o : Obj) : (W.alloc o).ownsRow base e size v n xs := own_keep (fun _ _ hb => blk_old hb o) h
theorem own_later {W W' : World} {base e size n : Nat} {v : Value} {xs : List Value} (h : W.ownsRow base e size v n xs) (hb : Below W.heap.size W W') : W'.ownsRow base e size v n xs := own_keep (fun _ _ hk => blk_later hk hb) h
/-- The row of a list of payments. -/
def payC (p : Pay) : List Value := [.int .i64 p.k, .int .i64 p.t, .int .i64 p.f, .int .i64 p.a]
def payL (l : List Pay) : List Value := l.flatMap payC
theorem info45 : (Tryz.prog.info? 45).map (fun i => (i.zero, i.size, i.bytes)) = some (some (.agg #[.int .i64 0, .int .i64 0, .int .i64 0, .int .i64 0]), 4, 32) := by kernel_rfl
theorem cells_new (W : World) (cs : List Value) (t : TypeId) : ∀ j u, cs[j]? = some u → (W.alloc (.cells cs.toArray t)).cell? ⟨W.heap.size, j, none⟩ = some u := fun j u h => cell_blk (blk_new W _) j u (by simpa using h)
theorem one_cells {l : List Value} (h : l.all (fun u => match u with | .int _ _ => true | _ => false) = true) : ∀ u ∈ l, u.oneCell' = true := by
  intro u hu
  have := List.all_eq_true.1 h u hu
  cases u <;> first | rfl | cases this
/-- The payments that can matter from a moment on. -/
def inW (u at_ m : Int) (p : Pay) : Bool := decide (p.a ≤ at_) && (decide (loR p.k m ≤ p.a) && decide (p.a ≤ hiR p.k u))
theorem filt_succ {α : Type} {q : α → Bool} {l : List α} {k : Nat} {x : α} (h : l[k]? = some x) : (l.take (k + 1)).filter q = (l.take k).filter q ++ (if q x then [x] else []) := by
  rw [List.take_add_one, h, List.filter_append]
  congr 1
  simp [List.filter_cons]
def P1 (w : World) (L : List (Nat × Array Value × TypeId)) (q : Pay → Bool) (l : List Pay) (v7 v22 : Value) (wr : World) : Prop :=
  ∃ k : Nat, k ≤ l.length ∧ v22 = .int .i64 k ∧ wr.ownsRow w.heap.size 45 4 v7 ((l.take k).filter q).length (payL ((l.take k).filter q)) ∧ NoOwn v7 L ∧ St w wr L
end Go.Proofs.YtbkipanlicgooaaGreatDoor
