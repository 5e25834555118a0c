/-
  CadenceReplays: for every sequence, moments, further moment and number the law returns true. No conditions.
-/
import Derived.Test.YtmplcceoepkppaaLaw
import Derived.Test.YtmplcceoepkppaaApp
import Derived.Deep.RegionHeld3
import Derived.Deep.DeepCutAuto
import Derived.IntWalk
import Derived.WalkMore
import Derived.Maps.RangeWalk
namespace Go.Proofs.Ytmplcceoepkppaa
open Go.ChangeShapes Go.WideShapes Go.ChangeAt Go.RowKit

theorem rep_three (s : Sq) (M : Nat → Int) (N : Nat) : (∃ (n e : Int), repR s M N = (zeroC, n, e) ∧ ¬ e = 0 ∧ 0 ≤ n ∧ n ≤ N) ∨ (sqB s = true ∧ okTo s M N ∧ repR s M N = (runC s M N, (N : Int), 0)) := by
  rcases repR_cases s M N with ⟨_, h⟩ | h | ⟨_, i, h2, _, h4, h5⟩
  · exact .inl ⟨_, _, h, by omega, by omega, by omega⟩
  · exact .inr h
  · exact .inl ⟨_, _, h5, h4, by omega, by omega⟩


theorem gen1 {w : World} {A : Option Addr} {N : Nat} {M : Nat → Int} (h : IntsAt w A N M) : GenAt w A (N * 1) (fun i => .int .i64 (M i)) := by
  rw [Nat.mul_one]
  exact h
/-- A block of one cell. -/
def One (w : World) (b : Nat) (x : Value) : Prop := b < w.heap.size ∧ w.cell? ⟨b, 0, none⟩ = some x
theorem One.fresh (w : World) (x : Value) (t : TypeId) (b : Nat) (h : b = w.heap.size) : One (w.alloc (.cells #[x] t)) b x := by
  subst h
  exact ⟨by simp, cell_blk (blk_new w (.cells #[x] t)) 0 x rfl⟩
theorem One.alloc {w : World} {b : Nat} {x : Value} (h : One w b x) (o : Obj) : One (w.alloc o) b x :=
  ⟨by have := h.1; simp; omega, (World.cell?_alloc_lt w o ⟨b, 0, none⟩ h.1).trans h.2⟩
theorem One.drew {w : World} {b : Nat} {x : Value} (h : One w b x) : One w.drew b x := h
theorem One.grown {w w' : World} {b g : Nat} {x : Value} (h : One w b x) (hg : w.grownBy w' (some g)) (hn : b ≠ g) : One w' b x :=
  ⟨by have := hg.size; have := h.1; omega, hg.cell h.2 (by simpa using hn)⟩
theorem gen_of_one {w : World} {b : Nat} {x : Value} (h : One w b x) : GenAt w (some ⟨b, 0, none⟩) (1 * 1) (fun _ => x) := by
  intro i hi
  obtain rfl : i = 0 := by omega
  exact ⟨_, rfl, by simpa [Addr.add] using h.1, by simpa [Addr.add] using h.2⟩
theorem St.al {w W : World} {L : List (Nat × Array Value × TypeId)} (h : St w W L) :
    St w (W.alloc (.cells #[.int .i64 0, .int .i64 0, .int .i64 0, .bool false] 26)) ((W.heap.size, #[.int .i64 0, .int .i64 0, .int .i64 0, .bool false], 26) :: L) := h.alloc _ _
theorem St.bs {w W : World} {L : List (Nat × Array Value × TypeId)} (h : St w W L) (cs : Array Value) : St w (W.alloc (.cells cs 3)) L := h.skip _
theorem step_at (W : World) {P : Program} {ops : Array Oper} {o : Oper} {a : Act} {K : Act → World → Prop} {Q : Exit → Act → World → Prop} {E : Prop} (h : if Region.wanted o (yielded ops a.tmps) = true then Oper.wp P o a W K Q else E) :
    if Region.wanted o (yielded ops a.tmps) = true then Oper.wp P o a W K Q else E := h
theorem call_at (W : World) {P : Program} {f : FuncId} {args : Array Value} {Q : Ending → World → Prop} (h : Calls P f args W Q) : Calls P f args W Q := h
theorem keep_dr {w : World} {p : Addr} {v : Value} (h : w.cell? p = some v) : w.drew.cell? p = some v := h
theorem keep_al {w : World} {p : Addr} {v : Value} {o : Obj} (h : w.cell? p = some v) : (w.alloc o).cell? p = some v :=
  (World.cell?_alloc_lt w o p (World.block_lt_of_cell? _ _ h)).trans h
def NotIn (y : Nat) : List (Nat × Array Value × TypeId) → Prop
  | [] => True
  | p :: L => p.1 ≠ y ∧ NotIn y L
theorem setIn_not {y i : Nat} {v : Value} : ∀ {L : List (Nat × Array Value × TypeId)}, NotIn y L → setIn y i v L = L
  | [], _ => rfl
  | p :: L, h => by rw [setIn, if_neg h.1, setIn_not h.2]
theorem St.put4 {w W : World} {L : List (Nat × Array Value × TypeId)} {y : Nat} {p q r t : Value} (h : St w W ((y, #[p, q, r, t], 26) :: L)) (hy : w.heap.size ≤ y) (hL : NotIn y L) (a b c d : Value) :
    St w ((((W.setCell ⟨y, 0, none⟩ a).setCell ⟨y, 1, none⟩ b).setCell ⟨y, 2, none⟩ c).setCell ⟨y, 3, none⟩ d) ((y, #[a, b, c, d], 26) :: L) := by
  have h4 := (((h.set y 0 a hy).set y 1 b hy).set y 2 c hy).set y 3 d hy
  simpa only [setIn, if_true, setIn_not hL, put4_0, put4_1, put4_2, put4_3] using h4


theorem cut_a {W : World} {MA : Option Addr} {N f : Nat} {M : Nat → Int} (h : IntsAt W MA N M) (hf : f ≤ N) : IntsAt W MA f M := fun i hi => h i (by omega)
theorem cut_b {W : World} {MA : Option Addr} {N f : Nat} {M : Nat → Int} (h : IntsAt W MA N M) (hf : f ≤ N) : IntsAt W (MA.map fun x => x.add 0) f M := by
  intro i hi
  obtain ⟨ad, rfl, h0, h1⟩ := h i (by omega)
  exact ⟨ad, by simp [Addr.add], h0, h1⟩
theorem cut_c {W : World} {MA : Option Addr} {N f mc : Nat} {M : Nat → Int} (h : IntsAt W MA N M) (hf : f ≤ N) : IntsAt W (if mc = 0 then MA else MA.map fun x => x.add 0) f M := by
  split
  · exact cut_a h hf
  · exact cut_b h hf

theorem run_grow {P : Program} {w W : World} {L : List (Nat × Array Value × TypeId)} (B : St w W L) {t ty e : TypeId} {i : TypeInfo} {z : Value} {size bytes : Nat} (ht : P.underlying t = some (.slice e)) (hi : P.info? e = some i) (hz : i.zero = some z)
    (hsize : i.size = size) (hby : i.bytes = bytes) (hzs : z.cells.size = size) (hsz : 0 < size) {v : Value} {n k : Nat} {f : Nat → Value} (hown : W.ownsRow w.heap.size e size v n ((List.range k).map f)) (ho : Other e L)
    {A : Option Addr} {m c : Nat} {g : Nat → Value} (hsrc : GenAt W A (m * size) g) (h1 : ∀ i, (g i).oneCell' = true) (h63 : n + m ≤ maxLen) (hbytes : (n + m) * bytes ≤ 140737488355328)
    (F : Nat → Value) (hF1 : ∀ i, i < k → F i = f i) (hF2 : ∀ i, i < m * size → F (k + i) = g i) :
    ∃ v' W', (Builtin.append_ #[t, t] ty #[v, .slice A m c]).run P W = .ok v' W' ∧ W'.ownsRow w.heap.size e size v' (n + m) ((List.range (k + m * size)).map F) ∧ St w W' L ∧ W.grownBy W' v.ownBlock := by
  rcases A with _ | ad
  · have hm : m = 0 := by
      rcases Nat.eq_zero_or_pos (m * size) with h0 | h0
      · rcases Nat.mul_eq_zero.1 h0 with h | h <;> omega
      · obtain ⟨_, h, _⟩ := hsrc 0 h0
        cases h
    subst hm
    refine ⟨v, W, run_append_nothing W w.heap.size t ty e i size ht hi v n _ hown c, ?_, B, World.grownBy.refl W _⟩
    rw [← range_app hF1 hF2]
    simpa using hown
  · obtain ⟨v', W', hr, h2, h3, _, _⟩ := run_append_own_at (P := P) W w.heap.size t ty e i z size bytes ht hi hz hsize hby hzs hsz v n _ hown ad m c ((List.range (m * size)).map g) (by simp)
      (fun j u hu => by
        have hj : j < m * size := by
          rcases Nat.lt_or_ge j (m * size) with h | h
          · exact h
          · rw [List.getElem?_eq_none (by simpa using h)] at hu; cases hu
        obtain ⟨ad', he, _, hc⟩ := hsrc j hj
        obtain rfl : ad = ad' := by injection he
        rw [hc]
        simpa [hj] using hu)
      (fun u hu => by
        obtain ⟨j, _, rfl⟩ := List.mem_map.1 hu
        exact h1 j) h63 hbytes B.below.size
    exact ⟨v', W', hr, by rw [← range_app hF1 hF2]; exact h2, B.grown hown h3 ho, h3⟩

/-- append in a region that draws its order; the row alone is written. -/
theorem step_grow {P : Program} {w W : World} {L : List (Nat × Array Value × TypeId)} (B : St w W L) {ops : Array Oper} {o : Oper} {a : Act} {K : Act → World → Prop} {Q : Exit → Act → World → Prop} {E : Prop} (hgd : o.guard = none) (s x : Operand) {t e : TypeId}
    (hop : o.op = .call { callee := .builtin .append, args := #[s, x], argTypes := #[t, t] }) {i : TypeInfo} {z : Value} {size bytes : Nat} (ht : P.underlying t = some (.slice e)) (hi : P.info? e = some i) (hz : i.zero = some z)
    (hsize : i.size = size) (hby : i.bytes = bytes) (hzs : z.cells.size = size) (hsz : 0 < size) {v : Value} {n k : Nat} {f : Nat → Value} (hs : a.eval s = v) (hown : W.ownsRow w.heap.size e size v n ((List.range k).map f)) (ho : Other e L)
    {A : Option Addr} {m c : Nat} {g : Nat → Value} (hx : a.eval x = .slice A m c) (hsrc : GenAt W A (m * size) g) (h1 : ∀ i, (g i).oneCell' = true) (h63 : n + m ≤ maxLen) (hbytes : (n + m) * bytes ≤ 140737488355328)
    (F : Nat → Value) (hF1 : ∀ i, i < k → F i = f i) (hF2 : ∀ i, i < m * size → F (k + i) = g i)
    (h : ∀ v' W', W'.ownsRow w.heap.size e size v' (n + m) ((List.range (k + m * size)).map F) → St w W' L → W.grownBy W' v.ownBlock → K (a.put o.dst v') W') :
    if Region.wanted o (yielded ops a.tmps) = true then Oper.wp P o a W K Q else E := by
  have hw : Region.wanted o (yielded ops a.tmps) = true := by simp [Region.wanted, hgd]
  rw [if_pos hw]
  obtain ⟨v', W', hr, h2, h3, h4⟩ := run_grow (P := P) (ty := o.type) B ht hi hz hsize hby hzs hsz hown ho (c := c) hsrc h1 h63 hbytes F hF1 hF2
  unfold Oper.wp execOp
  simp only [hop, resolve, invoke, builtin, Sem.run_bind, Sem.run_pure, Result.andThen_ok, List.map_toArray, List.map_cons, List.map_nil, hs, hx, hr]
  exact h v' W' h2 h3 h4

/-- Behind the call of Replay for the first moments. -/
def PartRel (w : World) (L : List (Nat × Array Value × TypeId)) (f : Nat) (v15 v16 : Value) (wr : World) : Prop := v15 = .int .i64 f ∧ v16 = .int .i64 0 ∧ St w wr L
/-- At the head of the law's loop. -/
def GapRel (w : World) (L : List (Nat × Array Value × TypeId)) (N : Nat) (v17 : Value) (wr : World) : Prop := ∃ k : Nat, (k = 0 ∨ k + 1 ≤ N) ∧ v17 = .int .i64 (k + 1 : Nat) ∧ St w wr L
/-- Behind the call of Replay for all moments. -/
def AllRel (w : World) (L : List (Nat × Array Value × TypeId)) (D : Crs) (n e : Int) (v22 v23 v24 : Value) (wr : World) : Prop :=
  ∃ y : Nat, v22 = .pointer (some ⟨y, 0, none⟩) ∧ v23 = .int .i64 n ∧ v24 = .int .i64 e ∧ St w wr ((y, crsC D, 26) :: L)

set_option maxRecDepth 100000 in
set_option maxHeartbeats 40000000 in
theorem replays_walk (w : World) (A : Option Addr) (c : Nat) (s : Sq) (hs : StepsAt w A s) (hn : s.n ≤ maxLen) (_hcap : s.n ≤ c)
    (MA : Option Addr) (N mc : Nat) (M : Nat → Int) (hM : IntsAt w MA N M) (_hN : N ≤ maxLen) (hmc : N ≤ mc) (fu : Int) (ra : Int) (ra0 : 0 ≤ ra) (ra1 : ra ≤ 255) :
    Calls Try.prog 6 #[.agg #[.slice A s.n c, .int .i64 s.r], .slice MA N mc, .int .i64 fu, .int .u8 ra] w (Ret (.bool true) w) := by
  have C1 := Lib.hid (fun W => few_any A c s W hn)
  clear _hcap _hN
  by_cases hf : (s.n : Int) ≤ 50
  rotate_left
  · have hfd : decide ((s.n : Int) ≤ 50) = false := by simpa using hf
    rw [hfd] at C1
    clear hf hfd hs hM
    go_enter Try.func6, Try.ntmps6
    have B := St.start w
    have R := B.rules
    go_wp2_with fail
    generalize hX : World.alloc _ _ = X
    replace B := St.cast hX (B.alloc _ _)
    clear hX
    refine (head_any _).mono ?_
    rintro e' w1 ⟨rfl, h⟩
    replace B := B.later h
    replace R := B.rules
    simp only [Rules] at R
    clear h
    go_wp2_with fail
    refine (C1.out _).mono ?_
    rintro e' w2 ⟨rfl, h⟩
    replace B := B.later h
    replace R := B.rules
    simp only [Rules] at R
    clear h
    go_wp2
    go_ret
    exact ⟨rfl, B.below⟩
  · have hfd : decide ((s.n : Int) ≤ 50) = true := by simpa using hf
    rw [hfd] at C1
    clear hf hfd
    by_cases hl : (200 : Int) < N
    · clear hs hM
      go_enter Try.func6, Try.ntmps6
      have B := St.start w
      have R := B.rules
      go_wp2_with fail
      generalize hX : World.alloc _ _ = X
      replace B := St.cast hX (B.alloc _ _)
      clear hX
      refine (head_any _).mono ?_
      rintro e' w1 ⟨rfl, h⟩
      replace B := B.later h
      replace R := B.rules
      simp only [Rules] at R
      clear h
      go_wp2_with fail
      refine (C1.out _).mono ?_
      rintro e' w2 ⟨rfl, h⟩
      replace B := B.later h
      replace R := B.rules
      simp only [Rules] at R
      clear h
      go_wp2
      go_ret
      exact ⟨rfl, B.below⟩
    · have C := Lib.hid (fun W (h : Below w.heap.size w W) => replay_any A c s MA N mc M W (hs.later h) hn (hM.later h) (by omega))
      rcases rep_three s M N with ⟨n, e, h1, he, p0, p1⟩ | ⟨hq, hok, h1⟩
      · rw [h1] at C
        simp only [repV, zeroC] at C
        have he1 : (e != 0) = true := by simpa using he
        have he2 : (e == 0) = false := by simpa using he
        clear hs hM h1
        go_enter Try.func6, Try.ntmps6
        have B := St.start w
        have R := B.rules
        go_wp2_with fail
        generalize hX : World.alloc _ _ = X
        replace B := St.cast hX (B.alloc _ _)
        clear hX
        refine (head_any _).mono ?_
        rintro e' w1 ⟨rfl, h⟩
        replace B := B.later h
        replace R := B.rules
        simp only [Rules] at R
        clear h
        go_wp2_with fail
        refine (C1.out _).mono ?_
        rintro e' w2 ⟨rfl, h⟩
        replace B := B.later h
        replace R := B.rules
        simp only [Rules] at R
        clear h
        go_wp2_with fail
        refine (C.out _ B.below).mono ?_
        rintro e' w3 ⟨rfl, h⟩
        replace B := B.later h
        replace R := B.rules
        simp only [Rules] at R
        clear h
        go_wp2
        go_ret
        exact ⟨ret_bool (by simp), B.below.alloc B.below.size _⟩
      · rw [h1] at C
        clear h1
        obtain ⟨⟨n1, n2⟩, _, _⟩ := sqB_parts hq
        have hn0 : ((s.n : Int) == 0) = false := by rw [beq_eq_false_iff_ne]; omega
        obtain ⟨f, hfN, hmod⟩ : ∃ f : Nat, f ≤ N ∧ ra.tmod (N + 1) = f := by
          refine ⟨(ra.tmod (N + 1)).toNat, ?_, ?_⟩
          · have := Int.tmod_lt_of_pos ra (show (0 : Int) < N + 1 by omega)
            omega
          · have := Int.tmod_nonneg (N + 1) ra0
            omega
        have E := Lib.hid (fun W (h : Below w.heap.size w W) (A' : Option Addr) (hm : IntsAt W A' f M) => replay_any A c s A' f mc M W (hs.later h) hn hm (by omega))
        rw [repR_ok hq (okTo_le hok hfN)] at E
        simp only [repV] at C E
        generalize runC s M f = cf at E
        skip
        have h2 := repR_more hq hok (M' := fun i => if i < N then M i else fu) (fun i hi => by simp [hi])
        simp only [Nat.lt_irrefl, if_false] at h2
        obtain ⟨D, n', e', ha, hr, hcase⟩ : ∃ (D : Crs) (n e : Int), advV s (runC s M N) fu = .tuple #[.agg #[.int .i64 D.nx, .int .i64 D.rd, .int .i64 D.la, .bool D.ov], .int .i64 e] ∧
            repR s (fun i => if i < N then M i else fu) (N + 1) = (D, n, e) ∧ ((e = 0 ∧ n = N + 1) ∨ (¬ e = 0 ∧ n = N)) := by
          by_cases h0 : readyE s (runC s M N) fu = 0
          · rw [if_pos h0] at h2
            exact ⟨_, _, _, adv_out h0 rfl, h2, .inl ⟨rfl, rfl⟩⟩
          · rw [if_neg h0] at h2
            exact ⟨zeroC, _, _, advV_no (s := s) (c := runC s M N) (m := fu) rfl h0, h2, .inr ⟨h0, rfl⟩⟩
        clear h2
        have HK := Lib.hid hok
        have HC := Lib.hid hcase
        clear hok hcase hq
        generalize runC s M N = cN at C ha
        obtain ⟨x, y, z, o⟩ := cN
        dsimp only at C
        have AV := Lib.hid (fun W (h : Below w.heap.size w W) => advance_any A c s x y z o fu W (hs.later h) hn)
        rw [ha] at AV
        have G := Lib.hid (fun W (h : Below w.heap.size w W) (A' : Option Addr) (c' : Nat) (hm : IntsAt W A' (N + 1) (fun i => if i < N then M i else fu)) => replay_any A c s A' (N + 1) c' (fun i => if i < N then M i else fu) W (hs.later h) hn hm (by omega))
        rw [hr] at G
        simp only [repV] at G
        clear ha hr
        obtain ⟨i0, hi0, hz0, hz1, hz2⟩ := info_parts int_info
        go_enter Try.func6, Try.ntmps6
        have B := St.start w
        have R := B.rules
        go_wp2_with fail
        generalize hX : World.alloc _ _ = X
        replace B := St.cast hX (B.alloc _ _)
        clear hX
        refine (head_any _).mono ?_
        rintro e' w1 ⟨rfl, h⟩
        replace B := B.later h
        replace R := B.rules
        simp only [Rules] at R
        clear h
        go_wp2_with fail
        refine (C1.out _).mono ?_
        rintro e' w2 ⟨rfl, h⟩
        replace B := B.later h
        replace R := B.rules
        simp only [Rules] at R
        clear h
        go_wp2_with fail
        refine (C.out _ B.below).mono ?_
        rintro e' w3 ⟨rfl, h⟩
        replace B := B.later h
        replace R := B.rules
        simp only [Rules] at R
        clear h
        go_upto_region 8 with (fail)
        generalize hX : World.alloc _ _ = X
        replace B := St.cast hX (B.alloc _ _)
        clear hX
        replace R := B.rules
        simp only [Rules] at R
        clear C1 C
        go_cut [15, 16] (PartRel w [(w3.heap.size, #[.int .i64 x, .int .i64 y, .int .i64 z, .bool o], 26), (w.heap.size, #[.slice A s.n c, .int .i64 s.r], 24)] f)
        case first =>
          as_aux_lemma =>
            have BB := B.below
            have cs0 := R.2.1.1 0
            have cs1 := R.2.1.1 1
            simp at cs0 cs1
            have f0 : (0 : Int) ≤ f := by omega
            have f1 : (f : Int) ≤ mc := by omega
            go_region_held3 (fun W => W.cell? ⟨w.heap.size, 0, none⟩ = some (.slice A s.n c) ∧ W.cell? ⟨w.heap.size, 1, none⟩ = some (.int .i64 s.r))
              ((first | exact ⟨k0, k1⟩ | (go_keep; done) | (simp [go_sem, *]; done)))
              ((first | (go_at_call 13; refine (E.out _ ?_ _ ?_).mono ?_; (first | exact BB | exact BB.alloc BB.size _ | exact BB.drew | exact (BB.alloc BB.size _).drew); (first | exact cut_a (hM.later (by (first | exact BB | exact BB.alloc BB.size _ | exact BB.drew | exact (BB.alloc BB.size _).drew))) hfN | exact cut_b (hM.later (by (first | exact BB | exact BB.alloc BB.size _ | exact BB.drew | exact (BB.alloc BB.size _).drew))) hfN | exact cut_c (hM.later (by (first | exact BB | exact BB.alloc BB.size _ | exact BB.drew | exact (BB.alloc BB.size _).drew))) hfN); rintro e' w4 ⟨rfl, h⟩; have hw4 : Below X.heap.size X w4 := (by first | exact h | exact below_step ((Below.refl _ _).alloc (Nat.le_refl _) _) (by simp) h | exact below_step ((Below.refl _ _).drew) (by simp) h | exact below_step (((Below.refl _ _).alloc (Nat.le_refl _) _).drew) (by simp) h); have k0 := cell_later hw4 cs0; have k1 := cell_later hw4 cs1; have hcf := bcell h; have hsz := h.size; simp at hsz)))
            · go_wp2_with fail
              go_meet
              exact ⟨rfl, rfl, (B.later hw4).skip _⟩
            · go_wp2_with fail
              go_meet
              have z0 := R.1.2.2
              have z1 := R.2.1.2.2
              have B2 := St.put4 ((B.al.drew.later h)) (by omega) (by simp only [NotIn]; exact ⟨by omega, by omega, trivial⟩) (.int .i64 cf.nx) (.int .i64 cf.rd) (.int .i64 cf.la) (.bool cf.ov)
              exact ⟨rfl, rfl, B2.below, B2.blks.2⟩
        case rest =>
          clear R B E hmod hfN
          obtain ⟨rfl, rfl, B⟩ := hcut
          have R := B.rules
          simp only [Rules] at R
          go_wp2_with fail
          clear R
          go_loopw [17] (GapRel w [(w3.heap.size, #[.int .i64 x, .int .i64 y, .int .i64 z, .bool o], 26), (w.heap.size, #[.slice A s.n c, .int .i64 s.r], 24)] N) (fun v _ => N - (intOf v).toNat)
          case atStart => exact ⟨0, .inl rfl, by go_num, B⟩
          case round =>
            clear B
            obtain ⟨k, hk, rfl, B⟩ := hrel
            have R := B.rules
            simp only [Rules] at R
            by_cases hlt : k + 1 < N
            · as_aux_lemma =>
                obtain ⟨_, m0, m1, m2, m3, g2, g3⟩ := gap_ok HK.out hlt
                obtain ⟨j, hj, hjn, hmod2⟩ : ∃ j, j = (k + 1) % s.n ∧ j < s.n ∧ ((k : Int) + 1).tmod s.n = (j : Int) := ⟨_, rfl, Nat.mod_lt _ (by omega), by rw [Int.tmod_eq_emod_of_nonneg (by omega)]; simp⟩
                rw [← hj] at g2 g3
                clear hj
                obtain ⟨ad, rfl, hb, c0, c1, c2⟩ := (hs.later B.below) j hjn
                obtain ⟨am, rfl, hbm, e1⟩ := (hM.later B.below) (k + 1) hlt
                obtain ⟨am2, hae, hbm0, e0⟩ := (hM.later B.below) k (by omega)
                obtain rfl : am = am2 := by injection hae
                clear hae
                have hjn' : (j : Int) < s.n := by omega
                have hlt' : (k : Int) + 1 < N := by omega
                have t1 : ¬ M (k + 1) - M k < s.L j := by omega
                have t2 : ¬ s.M j < M (k + 1) - M k := by omega
                go_upto_region 14 with (fail)
                go_region
                skip
                generalize hX : World.drew _ = Y
                replace B := St.cast hX ((B.alloc _ _).drew)
                clear hX e0 e1 hbm hbm0 c0 c1 c2 hb
                obtain ⟨am1, ha1, hbm, e1⟩ := (hM.later B.below) (k + 1) hlt
                obtain rfl : am = am1 := by injection ha1
                obtain ⟨am2, ha2, hbm0, e0⟩ := (hM.later B.below) k (by omega)
                obtain rfl : am = am2 := by injection ha2
                clear ha1 ha2
                have ea : am.add (k + 1) = ⟨am.block, am.off + (k + 1), none⟩ := by unfold Addr.add; rw [if_neg (by omega)]
                rw [ea] at e1 hbm
                clear ea
                dsimp only at hbm
                replace R := B.rules
                simp only [Rules] at R
                go_wp2_with fail
                refine wp_region_later (by kernel_rfl) (by kernel_rfl) ?_
                repeat (go_big_quiet_step (fail))
                refine wpQuiet_nil ?_
                rintro _ ⟨⟨wq, hq⟩, rfl⟩
                replace B := B.later hq
                replace R := B.rules
                simp only [Rules] at R
                clear hq e0 e1 hbm hbm0
                go_wp2
                exact ⟨⟨k + 1, .inr (by omega), by go_num, B.below, B.blks.2⟩, by simp [intOf]; omega⟩
            · go_wp2_with fail
              refine (AV.out _ B.below).mono ?_
              rintro en w5 ⟨rfl, h⟩
              replace B := B.later h
              replace R := B.rules
              simp only [Rules] at R
              clear h AV HK hk hlt
              go_upto_region 19 with (fail)
              generalize hX : World.alloc _ _ = Y
              replace B := St.cast hX (B.alloc _ _)
              clear hX
              replace R := B.rules
              simp only [Rules] at R
              go_cut [22, 23, 24] (AllRel w [(w5.heap.size, crsC D, 26), (w3.heap.size, #[.int .i64 x, .int .i64 y, .int .i64 z, .bool o], 26), (w.heap.size, #[.slice A s.n c, .int .i64 s.r], 24)] D n' e')
              case first =>
                as_aux_lemma =>
                  have y5 := R.1.2.2
                  have y3 := R.2.1.2.2
                  have y0 := R.2.2.1.2.2
                  have k0 := R.2.2.1.1 0
                  have k1 := R.2.2.1.1 1
                  simp at k0 k1
                  clear HC hs hmc hn0 n1 n2 ra0 ra1 hn
                  have hN200 : (N : Int) ≤ 200 := by omega
                  refine wp_region_held_drew (S := fun W => W.cell? ⟨w.heap.size, 0, none⟩ = some (.slice A s.n c) ∧ W.cell? ⟨w.heap.size, 1, none⟩ = some (.int .i64 s.r)) (by kernel_rfl) ⟨keep_dr k0, keep_dr k1⟩ (fun hHeld => ?_)
                  refine wpAnyH_take (i := 0) (v := .agg #[.slice A s.n c, .int .i64 s.r]) rfl (by kernel_rfl) (by kernel_rfl) (by kernel_rfl) (fun _ _ _ h => h) (Or.inl ⟨by rfl, ?_⟩) (by assumption) ?_
                  · intro W hSw
                    (try dsimp only at hSw)
                    first | (go_simp; done) | (go_simp; with_reducible rfl)
                  try go_frame
                  refine wpAnyH_take (i := 2) (v := .slice MA N mc) rfl (by kernel_rfl) (by kernel_rfl) (by kernel_rfl) (fun _ _ _ h => h) (Or.inl ⟨by rfl, ?_⟩) (by assumption) ?_
                  · intro W hSw
                    (try dsimp only at hSw)
                    first | (go_simp; done) | (go_simp; with_reducible rfl)
                  try go_frame
                  refine wpAnyH_take (i := 4) (v := .int .i64 fu) rfl (by kernel_rfl) (by kernel_rfl) (by kernel_rfl) (fun _ _ _ h => h) (Or.inl ⟨by rfl, ?_⟩) (by assumption) ?_
                  · intro W hSw
                    (try dsimp only at hSw)
                    first | (go_simp; done) | (go_simp; with_reducible rfl)
                  try go_frame
                  refine wpAnyH_ready (rs := [1, 5, 12]) (by kernel_rfl) (by simp) ?_
                  refine AllReadyH.cons rfl (fun K hK => ?_) ?_
                  · go_simp
                    refine hK.out _ _ ⟨(keep_dr (keep_al k0)), (keep_dr (keep_al k1))⟩ (fun hHeld => ?_)
                    clear hK K
                    try go_frame
                    refine wpAnyH_ready (rs := [3, 5, 12]) (by kernel_rfl) (by simp) ?_
                    refine AllReadyH.cons rfl (fun K hK => ?_) ?_
                    · refine step_grow (((St.bs B _)).drew) rfl (.tmp 138) (.tmp 139) rfl Try.underlying27 hi0 hz0 hz1 hz2 rfl (by decide) rfl (own_of_blk (blk_at _ _ _ (by simp)) (by omega) 1 (fun i => .int .i64 (M i))) (by simp [Other]) rfl (gen1 (hM.later (((St.bs B _)).drew).below)) (fun _ => rfl) (by simp only [maxLen]; omega) (by omega) (fun i => .int .i64 (M i)) (fun _ _ => rfl) (fun i _ => by rw [Nat.zero_add]) ?_
                      intro v1 w6 hown6 B6 hg6
                      simp only [Nat.zero_add, Nat.mul_one] at hown6
                      have z6 := hg6.size
                      (try simp at z6)
                      have k0 : w6.cell? ⟨w.heap.size, 0, none⟩ = some (.slice A s.n c) := cell_blk B6.blks.2.2.1 0 _ rfl
                      have k1 : w6.cell? ⟨w.heap.size, 1, none⟩ = some (.int .i64 s.r) := cell_blk B6.blks.2.2.1 1 _ rfl
                      clear hg6
                      refine hK.out _ _ ⟨k0, k1⟩ (fun hHeld => ?_)
                      clear hK K
                      try go_frame
                      as_aux_lemma =>
                        refine wpAnyH_ready (rs := [5, 12]) (by kernel_rfl) (by simp) ?_
                        refine AllReadyH.cons rfl (fun K hK => ?_) ?_
                        · go_simp
                          refine hK.out _ _ ⟨(keep_al k0), (keep_al k1)⟩ (fun hHeld => ?_)
                          clear hK K
                          try go_frame
                          refine wpAnyH_ready (rs := [6, 12]) (by kernel_rfl) (by simp) ?_
                          refine AllReadyH.cons rfl (fun K hK => ?_) ?_
                          · refine step_grow ((St.bs B6 _)) rfl (.tmp 140) (.tmp 142) rfl Try.underlying27 hi0 hz0 hz1 hz2 rfl (by decide) rfl (hown6.alloc _) (by simp [Other]) rfl (gen_of_one (One.fresh _ _ _ _ (by simp))) (fun _ => rfl) (by simp only [maxLen]; omega) (by omega) (fun i => .int .i64 (if i < N then M i else fu)) (fun i hi => by simp [hi]) (fun i hi => by have e : i = 0 := (by omega); subst e; simp) ?_
                            intro v2 w7 hown7 B7 hg7
                            have z7 := hg7.size
                            (try simp at z7)
                            clear hg7
                            obtain ⟨A', c', rfl, _, hgen⟩ := own_gen hown7
                            have hI : IntsAt w7 A' (N + 1) (fun i => if i < N then M i else fu) := fun i hi => hgen i (by omega)
                            clear hgen hown7 hown6
                            have k0 : w7.cell? ⟨w.heap.size, 0, none⟩ = some (.slice A s.n c) := cell_blk B7.blks.2.2.1 0 _ rfl
                            have k1 : w7.cell? ⟨w.heap.size, 1, none⟩ = some (.int .i64 s.r) := cell_blk B7.blks.2.2.1 1 _ rfl
                            refine hK.out _ _ ⟨k0, k1⟩ (fun hHeld => ?_)
                            clear hK K
                            try go_frame
                            as_aux_lemma =>
                              refine wpAnyH_ready (rs := [7, 12]) (by kernel_rfl) (by simp) ?_
                              refine AllReadyH.cons rfl (fun K hK => ?_) ?_
                              · go_simp
                                refine (G.out _ (B7).below _ _ hI).mono ?_
                                rintro en w8 ⟨rfl, h⟩
                                have B8 := (B7).later h
                                have z8 := h.size
                                (try simp at z8)
                                clear h hI
                                (try simp only [World.size_alloc] at B8)
                                have k0 : w8.cell? ⟨w.heap.size, 0, none⟩ = some (.slice A s.n c) := cell_blk B8.blks.2.2.1 0 _ rfl
                                have k1 : w8.cell? ⟨w.heap.size, 1, none⟩ = some (.int .i64 s.r) := cell_blk B8.blks.2.2.1 1 _ rfl
                                have R8 := B8.rules
                                simp only [Rules] at R8
                                refine hK.out _ _ ⟨k0, k1⟩ (fun hHeld => ?_)
                                clear hK K
                                try go_frame
                                refine wpAnyH_take (i := 8) (v := .tuple #[.agg #[.int .i64 D.nx, .int .i64 D.rd, .int .i64 D.la, .bool D.ov], .int .i64 n', .int .i64 e']) rfl (by kernel_rfl) (by kernel_rfl) (by kernel_rfl) (fun _ _ _ h => h) (Or.inl ⟨by rfl, ?_⟩) (by assumption) ?_
                                · intro W hSw
                                  (try dsimp only at hSw)
                                  first | (go_simp; done) | (go_simp; with_reducible rfl)
                                try go_frame
                                refine wpAnyH_take (i := 9) (v := .agg #[.int .i64 D.nx, .int .i64 D.rd, .int .i64 D.la, .bool D.ov]) rfl (by kernel_rfl) (by kernel_rfl) (by kernel_rfl) (fun _ _ _ h => h) (Or.inl ⟨by rfl, ?_⟩) (by assumption) ?_
                                · intro W hSw
                                  (try dsimp only at hSw)
                                  first | (go_simp; done) | (go_simp; with_reducible rfl)
                                try go_frame
                                refine wpAnyH_take (i := 10) (v := .int .i64 n') rfl (by kernel_rfl) (by kernel_rfl) (by kernel_rfl) (fun _ _ _ h => h) (Or.inl ⟨by rfl, ?_⟩) (by assumption) ?_
                                · intro W hSw
                                  (try dsimp only at hSw)
                                  first | (go_simp; done) | (go_simp; with_reducible rfl)
                                try go_frame
                                refine wpAnyH_take (i := 11) (v := .int .i64 e') rfl (by kernel_rfl) (by kernel_rfl) (by kernel_rfl) (fun _ _ _ h => h) (Or.inl ⟨by rfl, ?_⟩) (by assumption) ?_
                                · intro W hSw
                                  (try dsimp only at hSw)
                                  first | (go_simp; done) | (go_simp; with_reducible rfl)
                                try go_frame
                                refine wpAnyH_ready (rs := [12]) (by kernel_rfl) (by simp) ?_
                                refine AllReadyH.cons rfl (fun K hK => ?_) ?_
                                · go_simp
                                  refine hK.out _ _ ⟨(keep_al k0), (keep_al k1)⟩ (fun hHeld => ?_)
                                  clear hK K
                                  try go_frame
                                  refine wpAnyH_ready (rs := [13]) (by kernel_rfl) (by simp) ?_
                                  refine AllReadyH.cons rfl (fun K hK => ?_) ?_
                                  · go_simp
                                    refine hK.out _ _ ⟨keep_al k0, keep_al k1⟩ (fun hHeld => ?_)
                                    clear hK K
                                    try go_frame
                                    refine wpAnyH_ready (rs := [14]) (by kernel_rfl) (by simp) ?_
                                    refine AllReadyH.cons rfl (fun K hK => ?_) ?_
                                    · go_simp
                                      refine hK.out _ _ hHeld (fun hHeld => ?_)
                                      clear hK K
                                      try go_frame
                                      refine wpAnyH_ready (rs := [15]) (by kernel_rfl) (by simp) ?_
                                      refine AllReadyH.cons rfl (fun K hK => ?_) ?_
                                      · go_simp
                                        refine hK.out _ _ hHeld (fun hHeld => ?_)
                                        clear hK K
                                        try go_frame
                                        refine wpAnyH_done (by kernel_rfl) ?_ _
                                        go_wp2_with fail
                                        go_meet
                                        exact ⟨_, rfl, rfl, rfl, B8.alloc _ _⟩
                                      exact AllReadyH.nil
                                    exact AllReadyH.nil
                                  exact AllReadyH.nil
                                exact AllReadyH.nil
                              refine AllReadyH.cons rfl (fun K hK => ?_) ?_
                              · go_simp
                                refine hK.out _ _ ⟨(keep_al k0), (keep_al k1)⟩ (fun hHeld => ?_)
                                clear hK K
                                try go_frame
                                refine wpAnyH_ready (rs := [7]) (by kernel_rfl) (by simp) ?_
                                refine AllReadyH.cons rfl (fun K hK => ?_) ?_
                                · go_simp
                                  refine (G.out _ ((St.al B7)).below _ _ (hI.later ((Below.refl _ _).alloc (Nat.le_refl _) _))).mono ?_
                                  rintro en w8 ⟨rfl, h⟩
                                  have B8 := ((St.al B7)).later h
                                  have z8 := h.size
                                  (try simp at z8)
                                  clear h hI
                                  (try simp only [World.size_alloc] at B8)
                                  have k0 : w8.cell? ⟨w.heap.size, 0, none⟩ = some (.slice A s.n c) := cell_blk B8.blks.2.2.2.1 0 _ rfl
                                  have k1 : w8.cell? ⟨w.heap.size, 1, none⟩ = some (.int .i64 s.r) := cell_blk B8.blks.2.2.2.1 1 _ rfl
                                  have R8 := B8.rules
                                  simp only [Rules] at R8
                                  refine hK.out _ _ ⟨k0, k1⟩ (fun hHeld => ?_)
                                  clear hK K
                                  try go_frame
                                  refine wpAnyH_take (i := 8) (v := .tuple #[.agg #[.int .i64 D.nx, .int .i64 D.rd, .int .i64 D.la, .bool D.ov], .int .i64 n', .int .i64 e']) rfl (by kernel_rfl) (by kernel_rfl) (by kernel_rfl) (fun _ _ _ h => h) (Or.inl ⟨by rfl, ?_⟩) (by assumption) ?_
                                  · intro W hSw
                                    (try dsimp only at hSw)
                                    first | (go_simp; done) | (go_simp; with_reducible rfl)
                                  try go_frame
                                  refine wpAnyH_take (i := 9) (v := .agg #[.int .i64 D.nx, .int .i64 D.rd, .int .i64 D.la, .bool D.ov]) rfl (by kernel_rfl) (by kernel_rfl) (by kernel_rfl) (fun _ _ _ h => h) (Or.inl ⟨by rfl, ?_⟩) (by assumption) ?_
                                  · intro W hSw
                                    (try dsimp only at hSw)
                                    first | (go_simp; done) | (go_simp; with_reducible rfl)
                                  try go_frame
                                  refine wpAnyH_take (i := 10) (v := .int .i64 n') rfl (by kernel_rfl) (by kernel_rfl) (by kernel_rfl) (fun _ _ _ h => h) (Or.inl ⟨by rfl, ?_⟩) (by assumption) ?_
                                  · intro W hSw
                                    (try dsimp only at hSw)
                                    first | (go_simp; done) | (go_simp; with_reducible rfl)
                                  try go_frame
                                  refine wpAnyH_take (i := 11) (v := .int .i64 e') rfl (by kernel_rfl) (by kernel_rfl) (by kernel_rfl) (fun _ _ _ h => h) (Or.inl ⟨by rfl, ?_⟩) (by assumption) ?_
                                  · intro W hSw
                                    (try dsimp only at hSw)
                                    first | (go_simp; done) | (go_simp; with_reducible rfl)
                                  try go_frame
                                  refine wpAnyH_ready (rs := [13]) (by kernel_rfl) (by simp) ?_
                                  refine AllReadyH.cons rfl (fun K hK => ?_) ?_
                                  · go_simp
                                    refine hK.out _ _ ⟨by first | (go_keep; done) | (simp [go_sem, *]; done), by first | (go_keep; done) | (simp [go_sem, *]; done)⟩ (fun hHeld => ?_)
                                    clear hK K
                                    try go_frame
                                    refine wpAnyH_ready (rs := [14]) (by kernel_rfl) (by simp) ?_
                                    refine AllReadyH.cons rfl (fun K hK => ?_) ?_
                                    · go_simp
                                      refine hK.out _ _ hHeld (fun hHeld => ?_)
                                      clear hK K
                                      try go_frame
                                      refine wpAnyH_ready (rs := [15]) (by kernel_rfl) (by simp) ?_
                                      refine AllReadyH.cons rfl (fun K hK => ?_) ?_
                                      · go_simp
                                        refine hK.out _ _ hHeld (fun hHeld => ?_)
                                        clear hK K
                                        try go_frame
                                        refine wpAnyH_done (by kernel_rfl) ?_ _
                                        go_wp2_with fail
                                        go_meet
                                        exact ⟨_, rfl, rfl, rfl, St.put4 B8 (by omega) (by simp only [NotIn]; exact ⟨by omega, by omega, by omega, trivial⟩) _ _ _ _⟩
                                      exact AllReadyH.nil
                                    exact AllReadyH.nil
                                  exact AllReadyH.nil
                                exact AllReadyH.nil
                              exact AllReadyH.nil
                          refine AllReadyH.cons rfl (fun K hK => ?_) ?_
                          · go_simp
                            refine hK.out _ _ ⟨(keep_al (keep_al k0)), (keep_al (keep_al k1))⟩ (fun hHeld => ?_)
                            clear hK K
                            try go_frame
                            refine wpAnyH_ready (rs := [6]) (by kernel_rfl) (by simp) ?_
                            refine AllReadyH.cons rfl (fun K hK => ?_) ?_
                            · refine step_grow ((St.al (St.bs B6 _))) rfl (.tmp 140) (.tmp 142) rfl Try.underlying27 hi0 hz0 hz1 hz2 rfl (by decide) rfl ((hown6.alloc _).alloc _) (by simp [Other]) rfl (gen_of_one (One.alloc (One.fresh _ _ _ _ (by simp)) _)) (fun _ => rfl) (by simp only [maxLen]; omega) (by omega) (fun i => .int .i64 (if i < N then M i else fu)) (fun i hi => by simp [hi]) (fun i hi => by have e : i = 0 := (by omega); subst e; simp) ?_
                              intro v2 w7 hown7 B7 hg7
                              have z7 := hg7.size
                              (try simp at z7)
                              clear hg7
                              obtain ⟨A', c', rfl, _, hgen⟩ := own_gen hown7
                              have hI : IntsAt w7 A' (N + 1) (fun i => if i < N then M i else fu) := fun i hi => hgen i (by omega)
                              clear hgen hown7 hown6
                              have k0 : w7.cell? ⟨w.heap.size, 0, none⟩ = some (.slice A s.n c) := cell_blk B7.blks.2.2.2.1 0 _ rfl
                              have k1 : w7.cell? ⟨w.heap.size, 1, none⟩ = some (.int .i64 s.r) := cell_blk B7.blks.2.2.2.1 1 _ rfl
                              refine hK.out _ _ ⟨k0, k1⟩ (fun hHeld => ?_)
                              clear hK K
                              try go_frame
                              as_aux_lemma =>
                                refine wpAnyH_ready (rs := [7]) (by kernel_rfl) (by simp) ?_
                                refine AllReadyH.cons rfl (fun K hK => ?_) ?_
                                · go_simp
                                  refine (G.out _ (B7).below _ _ hI).mono ?_
                                  rintro en w8 ⟨rfl, h⟩
                                  have B8 := (B7).later h
                                  have z8 := h.size
                                  (try simp at z8)
                                  clear h hI
                                  (try simp only [World.size_alloc] at B8)
                                  have k0 : w8.cell? ⟨w.heap.size, 0, none⟩ = some (.slice A s.n c) := cell_blk B8.blks.2.2.2.1 0 _ rfl
                                  have k1 : w8.cell? ⟨w.heap.size, 1, none⟩ = some (.int .i64 s.r) := cell_blk B8.blks.2.2.2.1 1 _ rfl
                                  have R8 := B8.rules
                                  simp only [Rules] at R8
                                  refine hK.out _ _ ⟨k0, k1⟩ (fun hHeld => ?_)
                                  clear hK K
                                  try go_frame
                                  refine wpAnyH_take (i := 8) (v := .tuple #[.agg #[.int .i64 D.nx, .int .i64 D.rd, .int .i64 D.la, .bool D.ov], .int .i64 n', .int .i64 e']) rfl (by kernel_rfl) (by kernel_rfl) (by kernel_rfl) (fun _ _ _ h => h) (Or.inl ⟨by rfl, ?_⟩) (by assumption) ?_
                                  · intro W hSw
                                    (try dsimp only at hSw)
                                    first | (go_simp; done) | (go_simp; with_reducible rfl)
                                  try go_frame
                                  refine wpAnyH_take (i := 9) (v := .agg #[.int .i64 D.nx, .int .i64 D.rd, .int .i64 D.la, .bool D.ov]) rfl (by kernel_rfl) (by kernel_rfl) (by kernel_rfl) (fun _ _ _ h => h) (Or.inl ⟨by rfl, ?_⟩) (by assumption) ?_
                                  · intro W hSw
                                    (try dsimp only at hSw)
                                    first | (go_simp; done) | (go_simp; with_reducible rfl)
                                  try go_frame
                                  refine wpAnyH_take (i := 10) (v := .int .i64 n') rfl (by kernel_rfl) (by kernel_rfl) (by kernel_rfl) (fun _ _ _ h => h) (Or.inl ⟨by rfl, ?_⟩) (by assumption) ?_
                                  · intro W hSw
                                    (try dsimp only at hSw)
                                    first | (go_simp; done) | (go_simp; with_reducible rfl)
                                  try go_frame
                                  refine wpAnyH_take (i := 11) (v := .int .i64 e') rfl (by kernel_rfl) (by kernel_rfl) (by kernel_rfl) (fun _ _ _ h => h) (Or.inl ⟨by rfl, ?_⟩) (by assumption) ?_
                                  · intro W hSw
                                    (try dsimp only at hSw)
                                    first | (go_simp; done) | (go_simp; with_reducible rfl)
                                  try go_frame
                                  refine wpAnyH_ready (rs := [13]) (by kernel_rfl) (by simp) ?_
                                  refine AllReadyH.cons rfl (fun K hK => ?_) ?_
                                  · go_simp
                                    refine hK.out _ _ ⟨by first | (go_keep; done) | (simp [go_sem, *]; done), by first | (go_keep; done) | (simp [go_sem, *]; done)⟩ (fun hHeld => ?_)
                                    clear hK K
                                    try go_frame
                                    refine wpAnyH_ready (rs := [14]) (by kernel_rfl) (by simp) ?_
                                    refine AllReadyH.cons rfl (fun K hK => ?_) ?_
                                    · go_simp
                                      refine hK.out _ _ hHeld (fun hHeld => ?_)
                                      clear hK K
                                      try go_frame
                                      refine wpAnyH_ready (rs := [15]) (by kernel_rfl) (by simp) ?_
                                      refine AllReadyH.cons rfl (fun K hK => ?_) ?_
                                      · go_simp
                                        refine hK.out _ _ hHeld (fun hHeld => ?_)
                                        clear hK K
                                        try go_frame
                                        refine wpAnyH_done (by kernel_rfl) ?_ _
                                        go_wp2_with fail
                                        go_meet
                                        exact ⟨_, rfl, rfl, rfl, St.put4 B8 (by omega) (by simp only [NotIn]; exact ⟨by omega, by omega, by omega, trivial⟩) _ _ _ _⟩
                                      exact AllReadyH.nil
                                    exact AllReadyH.nil
                                  exact AllReadyH.nil
                                exact AllReadyH.nil
                            exact AllReadyH.nil
                          exact AllReadyH.nil
                        refine AllReadyH.cons rfl (fun K hK => ?_) ?_
                        · go_simp
                          refine hK.out _ _ ⟨(keep_al k0), (keep_al k1)⟩ (fun hHeld => ?_)
                          clear hK K
                          try go_frame
                          refine wpAnyH_ready (rs := [5]) (by kernel_rfl) (by simp) ?_
                          refine AllReadyH.cons rfl (fun K hK => ?_) ?_
                          · go_simp
                            refine hK.out _ _ ⟨(keep_al (keep_al k0)), (keep_al (keep_al k1))⟩ (fun hHeld => ?_)
                            clear hK K
                            try go_frame
                            refine wpAnyH_ready (rs := [6]) (by kernel_rfl) (by simp) ?_
                            refine AllReadyH.cons rfl (fun K hK => ?_) ?_
                            · refine step_grow ((St.bs (St.al B6) _)) rfl (.tmp 140) (.tmp 142) rfl Try.underlying27 hi0 hz0 hz1 hz2 rfl (by decide) rfl ((hown6.alloc _).alloc _) (by simp [Other]) rfl (gen_of_one (One.fresh _ _ _ _ (by simp))) (fun _ => rfl) (by simp only [maxLen]; omega) (by omega) (fun i => .int .i64 (if i < N then M i else fu)) (fun i hi => by simp [hi]) (fun i hi => by have e : i = 0 := (by omega); subst e; simp) ?_
                              intro v2 w7 hown7 B7 hg7
                              have z7 := hg7.size
                              (try simp at z7)
                              clear hg7
                              obtain ⟨A', c', rfl, _, hgen⟩ := own_gen hown7
                              have hI : IntsAt w7 A' (N + 1) (fun i => if i < N then M i else fu) := fun i hi => hgen i (by omega)
                              clear hgen hown7 hown6
                              have k0 : w7.cell? ⟨w.heap.size, 0, none⟩ = some (.slice A s.n c) := cell_blk B7.blks.2.2.2.1 0 _ rfl
                              have k1 : w7.cell? ⟨w.heap.size, 1, none⟩ = some (.int .i64 s.r) := cell_blk B7.blks.2.2.2.1 1 _ rfl
                              refine hK.out _ _ ⟨k0, k1⟩ (fun hHeld => ?_)
                              clear hK K
                              try go_frame
                              as_aux_lemma =>
                                refine wpAnyH_ready (rs := [7]) (by kernel_rfl) (by simp) ?_
                                refine AllReadyH.cons rfl (fun K hK => ?_) ?_
                                · go_simp
                                  refine (G.out _ (B7).below _ _ hI).mono ?_
                                  rintro en w8 ⟨rfl, h⟩
                                  have B8 := (B7).later h
                                  have z8 := h.size
                                  (try simp at z8)
                                  clear h hI
                                  (try simp only [World.size_alloc] at B8)
                                  have k0 : w8.cell? ⟨w.heap.size, 0, none⟩ = some (.slice A s.n c) := cell_blk B8.blks.2.2.2.1 0 _ rfl
                                  have k1 : w8.cell? ⟨w.heap.size, 1, none⟩ = some (.int .i64 s.r) := cell_blk B8.blks.2.2.2.1 1 _ rfl
                                  have R8 := B8.rules
                                  simp only [Rules] at R8
                                  refine hK.out _ _ ⟨k0, k1⟩ (fun hHeld => ?_)
                                  clear hK K
                                  try go_frame
                                  refine wpAnyH_take (i := 8) (v := .tuple #[.agg #[.int .i64 D.nx, .int .i64 D.rd, .int .i64 D.la, .bool D.ov], .int .i64 n', .int .i64 e']) rfl (by kernel_rfl) (by kernel_rfl) (by kernel_rfl) (fun _ _ _ h => h) (Or.inl ⟨by rfl, ?_⟩) (by assumption) ?_
                                  · intro W hSw
                                    (try dsimp only at hSw)
                                    first | (go_simp; done) | (go_simp; with_reducible rfl)
                                  try go_frame
                                  refine wpAnyH_take (i := 9) (v := .agg #[.int .i64 D.nx, .int .i64 D.rd, .int .i64 D.la, .bool D.ov]) rfl (by kernel_rfl) (by kernel_rfl) (by kernel_rfl) (fun _ _ _ h => h) (Or.inl ⟨by rfl, ?_⟩) (by assumption) ?_
                                  · intro W hSw
                                    (try dsimp only at hSw)
                                    first | (go_simp; done) | (go_simp; with_reducible rfl)
                                  try go_frame
                                  refine wpAnyH_take (i := 10) (v := .int .i64 n') rfl (by kernel_rfl) (by kernel_rfl) (by kernel_rfl) (fun _ _ _ h => h) (Or.inl ⟨by rfl, ?_⟩) (by assumption) ?_
                                  · intro W hSw
                                    (try dsimp only at hSw)
                                    first | (go_simp; done) | (go_simp; with_reducible rfl)
                                  try go_frame
                                  refine wpAnyH_take (i := 11) (v := .int .i64 e') rfl (by kernel_rfl) (by kernel_rfl) (by kernel_rfl) (fun _ _ _ h => h) (Or.inl ⟨by rfl, ?_⟩) (by assumption) ?_
                                  · intro W hSw
                                    (try dsimp only at hSw)
                                    first | (go_simp; done) | (go_simp; with_reducible rfl)
                                  try go_frame
                                  refine wpAnyH_ready (rs := [13]) (by kernel_rfl) (by simp) ?_
                                  refine AllReadyH.cons rfl (fun K hK => ?_) ?_
                                  · go_simp
                                    refine hK.out _ _ ⟨by first | (go_keep; done) | (simp [go_sem, *]; done), by first | (go_keep; done) | (simp [go_sem, *]; done)⟩ (fun hHeld => ?_)
                                    clear hK K
                                    try go_frame
                                    refine wpAnyH_ready (rs := [14]) (by kernel_rfl) (by simp) ?_
                                    refine AllReadyH.cons rfl (fun K hK => ?_) ?_
                                    · go_simp
                                      refine hK.out _ _ hHeld (fun hHeld => ?_)
                                      clear hK K
                                      try go_frame
                                      refine wpAnyH_ready (rs := [15]) (by kernel_rfl) (by simp) ?_
                                      refine AllReadyH.cons rfl (fun K hK => ?_) ?_
                                      · go_simp
                                        refine hK.out _ _ hHeld (fun hHeld => ?_)
                                        clear hK K
                                        try go_frame
                                        refine wpAnyH_done (by kernel_rfl) ?_ _
                                        go_wp2_with fail
                                        go_meet
                                        exact ⟨_, rfl, rfl, rfl, St.put4 B8 (by omega) (by simp only [NotIn]; exact ⟨by omega, by omega, by omega, trivial⟩) _ _ _ _⟩
                                      exact AllReadyH.nil
                                    exact AllReadyH.nil
                                  exact AllReadyH.nil
                                exact AllReadyH.nil
                            exact AllReadyH.nil
                          exact AllReadyH.nil
                        exact AllReadyH.nil
                    refine AllReadyH.cons rfl (fun K hK => ?_) ?_
                    · go_simp
                      refine hK.out _ _ ⟨(keep_dr (keep_al (keep_al k0))), (keep_dr (keep_al (keep_al k1)))⟩ (fun hHeld => ?_)
                      clear hK K
                      try go_frame
                      refine wpAnyH_ready (rs := [3, 12]) (by kernel_rfl) (by simp) ?_
                      refine AllReadyH.cons rfl (fun K hK => ?_) ?_
                      · refine step_grow (((St.bs (St.bs B _) _)).drew) rfl (.tmp 138) (.tmp 139) rfl Try.underlying27 hi0 hz0 hz1 hz2 rfl (by decide) rfl (own_of_blk (blk_old (blk_at _ _ _ (by simp)) _) (by omega) 1 (fun i => .int .i64 (M i))) (by simp [Other]) rfl (gen1 (hM.later (((St.bs (St.bs B _) _)).drew).below)) (fun _ => rfl) (by simp only [maxLen]; omega) (by omega) (fun i => .int .i64 (M i)) (fun _ _ => rfl) (fun i _ => by rw [Nat.zero_add]) ?_
                        intro v1 w6 hown6 B6 hg6
                        simp only [Nat.zero_add, Nat.mul_one] at hown6
                        have z6 := hg6.size
                        (try simp at z6)
                        have k0 : w6.cell? ⟨w.heap.size, 0, none⟩ = some (.slice A s.n c) := cell_blk B6.blks.2.2.1 0 _ rfl
                        have k1 : w6.cell? ⟨w.heap.size, 1, none⟩ = some (.int .i64 s.r) := cell_blk B6.blks.2.2.1 1 _ rfl
                        have ob : One w6 (Y.heap.size + 1) (.int .i64 fu) := (One.drew (One.fresh _ _ _ _ (by simp))).grown hg6 (by first | omega | (simp; done) | (simp; omega))
                        clear hg6
                        refine hK.out _ _ ⟨k0, k1⟩ (fun hHeld => ?_)
                        clear hK K
                        try go_frame
                        as_aux_lemma =>
                          refine wpAnyH_ready (rs := [6, 12]) (by kernel_rfl) (by simp) ?_
                          refine AllReadyH.cons rfl (fun K hK => ?_) ?_
                          · refine step_grow (B6) rfl (.tmp 140) (.tmp 142) rfl Try.underlying27 hi0 hz0 hz1 hz2 rfl (by decide) rfl hown6 (by simp [Other]) rfl (gen_of_one ob) (fun _ => rfl) (by simp only [maxLen]; omega) (by omega) (fun i => .int .i64 (if i < N then M i else fu)) (fun i hi => by simp [hi]) (fun i hi => by have e : i = 0 := (by omega); subst e; simp) ?_
                            intro v2 w7 hown7 B7 hg7
                            have z7 := hg7.size
                            (try simp at z7)
                            clear hg7
                            obtain ⟨A', c', rfl, _, hgen⟩ := own_gen hown7
                            have hI : IntsAt w7 A' (N + 1) (fun i => if i < N then M i else fu) := fun i hi => hgen i (by omega)
                            clear hgen hown7 hown6
                            have k0 : w7.cell? ⟨w.heap.size, 0, none⟩ = some (.slice A s.n c) := cell_blk B7.blks.2.2.1 0 _ rfl
                            have k1 : w7.cell? ⟨w.heap.size, 1, none⟩ = some (.int .i64 s.r) := cell_blk B7.blks.2.2.1 1 _ rfl
                            refine hK.out _ _ ⟨k0, k1⟩ (fun hHeld => ?_)
                            clear hK K
                            try go_frame
                            as_aux_lemma =>
                              refine wpAnyH_ready (rs := [7, 12]) (by kernel_rfl) (by simp) ?_
                              refine AllReadyH.cons rfl (fun K hK => ?_) ?_
                              · go_simp
                                refine (G.out _ (B7).below _ _ hI).mono ?_
                                rintro en w8 ⟨rfl, h⟩
                                have B8 := (B7).later h
                                have z8 := h.size
                                (try simp at z8)
                                clear h hI
                                (try simp only [World.size_alloc] at B8)
                                have k0 : w8.cell? ⟨w.heap.size, 0, none⟩ = some (.slice A s.n c) := cell_blk B8.blks.2.2.1 0 _ rfl
                                have k1 : w8.cell? ⟨w.heap.size, 1, none⟩ = some (.int .i64 s.r) := cell_blk B8.blks.2.2.1 1 _ rfl
                                have R8 := B8.rules
                                simp only [Rules] at R8
                                refine hK.out _ _ ⟨k0, k1⟩ (fun hHeld => ?_)
                                clear hK K
                                try go_frame
                                refine wpAnyH_take (i := 8) (v := .tuple #[.agg #[.int .i64 D.nx, .int .i64 D.rd, .int .i64 D.la, .bool D.ov], .int .i64 n', .int .i64 e']) rfl (by kernel_rfl) (by kernel_rfl) (by kernel_rfl) (fun _ _ _ h => h) (Or.inl ⟨by rfl, ?_⟩) (by assumption) ?_
                                · intro W hSw
                                  (try dsimp only at hSw)
                                  first | (go_simp; done) | (go_simp; with_reducible rfl)
                                try go_frame
                                refine wpAnyH_take (i := 9) (v := .agg #[.int .i64 D.nx, .int .i64 D.rd, .int .i64 D.la, .bool D.ov]) rfl (by kernel_rfl) (by kernel_rfl) (by kernel_rfl) (fun _ _ _ h => h) (Or.inl ⟨by rfl, ?_⟩) (by assumption) ?_
                                · intro W hSw
                                  (try dsimp only at hSw)
                                  first | (go_simp; done) | (go_simp; with_reducible rfl)
                                try go_frame
                                refine wpAnyH_take (i := 10) (v := .int .i64 n') rfl (by kernel_rfl) (by kernel_rfl) (by kernel_rfl) (fun _ _ _ h => h) (Or.inl ⟨by rfl, ?_⟩) (by assumption) ?_
                                · intro W hSw
                                  (try dsimp only at hSw)
                                  first | (go_simp; done) | (go_simp; with_reducible rfl)
                                try go_frame
                                refine wpAnyH_take (i := 11) (v := .int .i64 e') rfl (by kernel_rfl) (by kernel_rfl) (by kernel_rfl) (fun _ _ _ h => h) (Or.inl ⟨by rfl, ?_⟩) (by assumption) ?_
                                · intro W hSw
                                  (try dsimp only at hSw)
                                  first | (go_simp; done) | (go_simp; with_reducible rfl)
                                try go_frame
                                refine wpAnyH_ready (rs := [12]) (by kernel_rfl) (by simp) ?_
                                refine AllReadyH.cons rfl (fun K hK => ?_) ?_
                                · go_simp
                                  refine hK.out _ _ ⟨(keep_al k0), (keep_al k1)⟩ (fun hHeld => ?_)
                                  clear hK K
                                  try go_frame
                                  refine wpAnyH_ready (rs := [13]) (by kernel_rfl) (by simp) ?_
                                  refine AllReadyH.cons rfl (fun K hK => ?_) ?_
                                  · go_simp
                                    refine hK.out _ _ ⟨keep_al k0, keep_al k1⟩ (fun hHeld => ?_)
                                    clear hK K
                                    try go_frame
                                    refine wpAnyH_ready (rs := [14]) (by kernel_rfl) (by simp) ?_
                                    refine AllReadyH.cons rfl (fun K hK => ?_) ?_
                                    · go_simp
                                      refine hK.out _ _ hHeld (fun hHeld => ?_)
                                      clear hK K
                                      try go_frame
                                      refine wpAnyH_ready (rs := [15]) (by kernel_rfl) (by simp) ?_
                                      refine AllReadyH.cons rfl (fun K hK => ?_) ?_
                                      · go_simp
                                        refine hK.out _ _ hHeld (fun hHeld => ?_)
                                        clear hK K
                                        try go_frame
                                        refine wpAnyH_done (by kernel_rfl) ?_ _
                                        go_wp2_with fail
                                        go_meet
                                        exact ⟨_, rfl, rfl, rfl, B8.alloc _ _⟩
                                      exact AllReadyH.nil
                                    exact AllReadyH.nil
                                  exact AllReadyH.nil
                                exact AllReadyH.nil
                              refine AllReadyH.cons rfl (fun K hK => ?_) ?_
                              · go_simp
                                refine hK.out _ _ ⟨(keep_al k0), (keep_al k1)⟩ (fun hHeld => ?_)
                                clear hK K
                                try go_frame
                                refine wpAnyH_ready (rs := [7]) (by kernel_rfl) (by simp) ?_
                                refine AllReadyH.cons rfl (fun K hK => ?_) ?_
                                · go_simp
                                  refine (G.out _ ((St.al B7)).below _ _ (hI.later ((Below.refl _ _).alloc (Nat.le_refl _) _))).mono ?_
                                  rintro en w8 ⟨rfl, h⟩
                                  have B8 := ((St.al B7)).later h
                                  have z8 := h.size
                                  (try simp at z8)
                                  clear h hI
                                  (try simp only [World.size_alloc] at B8)
                                  have k0 : w8.cell? ⟨w.heap.size, 0, none⟩ = some (.slice A s.n c) := cell_blk B8.blks.2.2.2.1 0 _ rfl
                                  have k1 : w8.cell? ⟨w.heap.size, 1, none⟩ = some (.int .i64 s.r) := cell_blk B8.blks.2.2.2.1 1 _ rfl
                                  have R8 := B8.rules
                                  simp only [Rules] at R8
                                  refine hK.out _ _ ⟨k0, k1⟩ (fun hHeld => ?_)
                                  clear hK K
                                  try go_frame
                                  refine wpAnyH_take (i := 8) (v := .tuple #[.agg #[.int .i64 D.nx, .int .i64 D.rd, .int .i64 D.la, .bool D.ov], .int .i64 n', .int .i64 e']) rfl (by kernel_rfl) (by kernel_rfl) (by kernel_rfl) (fun _ _ _ h => h) (Or.inl ⟨by rfl, ?_⟩) (by assumption) ?_
                                  · intro W hSw
                                    (try dsimp only at hSw)
                                    first | (go_simp; done) | (go_simp; with_reducible rfl)
                                  try go_frame
                                  refine wpAnyH_take (i := 9) (v := .agg #[.int .i64 D.nx, .int .i64 D.rd, .int .i64 D.la, .bool D.ov]) rfl (by kernel_rfl) (by kernel_rfl) (by kernel_rfl) (fun _ _ _ h => h) (Or.inl ⟨by rfl, ?_⟩) (by assumption) ?_
                                  · intro W hSw
                                    (try dsimp only at hSw)
                                    first | (go_simp; done) | (go_simp; with_reducible rfl)
                                  try go_frame
                                  refine wpAnyH_take (i := 10) (v := .int .i64 n') rfl (by kernel_rfl) (by kernel_rfl) (by kernel_rfl) (fun _ _ _ h => h) (Or.inl ⟨by rfl, ?_⟩) (by assumption) ?_
                                  · intro W hSw
                                    (try dsimp only at hSw)
                                    first | (go_simp; done) | (go_simp; with_reducible rfl)
                                  try go_frame
                                  refine wpAnyH_take (i := 11) (v := .int .i64 e') rfl (by kernel_rfl) (by kernel_rfl) (by kernel_rfl) (fun _ _ _ h => h) (Or.inl ⟨by rfl, ?_⟩) (by assumption) ?_
                                  · intro W hSw
                                    (try dsimp only at hSw)
                                    first | (go_simp; done) | (go_simp; with_reducible rfl)
                                  try go_frame
                                  refine wpAnyH_ready (rs := [13]) (by kernel_rfl) (by simp) ?_
                                  refine AllReadyH.cons rfl (fun K hK => ?_) ?_
                                  · go_simp
                                    refine hK.out _ _ ⟨by first | (go_keep; done) | (simp [go_sem, *]; done), by first | (go_keep; done) | (simp [go_sem, *]; done)⟩ (fun hHeld => ?_)
                                    clear hK K
                                    try go_frame
                                    refine wpAnyH_ready (rs := [14]) (by kernel_rfl) (by simp) ?_
                                    refine AllReadyH.cons rfl (fun K hK => ?_) ?_
                                    · go_simp
                                      refine hK.out _ _ hHeld (fun hHeld => ?_)
                                      clear hK K
                                      try go_frame
                                      refine wpAnyH_ready (rs := [15]) (by kernel_rfl) (by simp) ?_
                                      refine AllReadyH.cons rfl (fun K hK => ?_) ?_
                                      · go_simp
                                        refine hK.out _ _ hHeld (fun hHeld => ?_)
                                        clear hK K
                                        try go_frame
                                        refine wpAnyH_done (by kernel_rfl) ?_ _
                                        go_wp2_with fail
                                        go_meet
                                        exact ⟨_, rfl, rfl, rfl, St.put4 B8 (by omega) (by simp only [NotIn]; exact ⟨by omega, by omega, by omega, trivial⟩) _ _ _ _⟩
                                      exact AllReadyH.nil
                                    exact AllReadyH.nil
                                  exact AllReadyH.nil
                                exact AllReadyH.nil
                              exact AllReadyH.nil
                          refine AllReadyH.cons rfl (fun K hK => ?_) ?_
                          · go_simp
                            refine hK.out _ _ ⟨(keep_al k0), (keep_al k1)⟩ (fun hHeld => ?_)
                            clear hK K
                            try go_frame
                            refine wpAnyH_ready (rs := [6]) (by kernel_rfl) (by simp) ?_
                            refine AllReadyH.cons rfl (fun K hK => ?_) ?_
                            · refine step_grow ((St.al B6)) rfl (.tmp 140) (.tmp 142) rfl Try.underlying27 hi0 hz0 hz1 hz2 rfl (by decide) rfl (hown6.alloc _) (by simp [Other]) rfl (gen_of_one (One.alloc ob _)) (fun _ => rfl) (by simp only [maxLen]; omega) (by omega) (fun i => .int .i64 (if i < N then M i else fu)) (fun i hi => by simp [hi]) (fun i hi => by have e : i = 0 := (by omega); subst e; simp) ?_
                              intro v2 w7 hown7 B7 hg7
                              have z7 := hg7.size
                              (try simp at z7)
                              clear hg7
                              obtain ⟨A', c', rfl, _, hgen⟩ := own_gen hown7
                              have hI : IntsAt w7 A' (N + 1) (fun i => if i < N then M i else fu) := fun i hi => hgen i (by omega)
                              clear hgen hown7 hown6
                              have k0 : w7.cell? ⟨w.heap.size, 0, none⟩ = some (.slice A s.n c) := cell_blk B7.blks.2.2.2.1 0 _ rfl
                              have k1 : w7.cell? ⟨w.heap.size, 1, none⟩ = some (.int .i64 s.r) := cell_blk B7.blks.2.2.2.1 1 _ rfl
                              refine hK.out _ _ ⟨k0, k1⟩ (fun hHeld => ?_)
                              clear hK K
                              try go_frame
                              as_aux_lemma =>
                                refine wpAnyH_ready (rs := [7]) (by kernel_rfl) (by simp) ?_
                                refine AllReadyH.cons rfl (fun K hK => ?_) ?_
                                · go_simp
                                  refine (G.out _ (B7).below _ _ hI).mono ?_
                                  rintro en w8 ⟨rfl, h⟩
                                  have B8 := (B7).later h
                                  have z8 := h.size
                                  (try simp at z8)
                                  clear h hI
                                  (try simp only [World.size_alloc] at B8)
                                  have k0 : w8.cell? ⟨w.heap.size, 0, none⟩ = some (.slice A s.n c) := cell_blk B8.blks.2.2.2.1 0 _ rfl
                                  have k1 : w8.cell? ⟨w.heap.size, 1, none⟩ = some (.int .i64 s.r) := cell_blk B8.blks.2.2.2.1 1 _ rfl
                                  have R8 := B8.rules
                                  simp only [Rules] at R8
                                  refine hK.out _ _ ⟨k0, k1⟩ (fun hHeld => ?_)
                                  clear hK K
                                  try go_frame
                                  refine wpAnyH_take (i := 8) (v := .tuple #[.agg #[.int .i64 D.nx, .int .i64 D.rd, .int .i64 D.la, .bool D.ov], .int .i64 n', .int .i64 e']) rfl (by kernel_rfl) (by kernel_rfl) (by kernel_rfl) (fun _ _ _ h => h) (Or.inl ⟨by rfl, ?_⟩) (by assumption) ?_
                                  · intro W hSw
                                    (try dsimp only at hSw)
                                    first | (go_simp; done) | (go_simp; with_reducible rfl)
                                  try go_frame
                                  refine wpAnyH_take (i := 9) (v := .agg #[.int .i64 D.nx, .int .i64 D.rd, .int .i64 D.la, .bool D.ov]) rfl (by kernel_rfl) (by kernel_rfl) (by kernel_rfl) (fun _ _ _ h => h) (Or.inl ⟨by rfl, ?_⟩) (by assumption) ?_
                                  · intro W hSw
                                    (try dsimp only at hSw)
                                    first | (go_simp; done) | (go_simp; with_reducible rfl)
                                  try go_frame
                                  refine wpAnyH_take (i := 10) (v := .int .i64 n') rfl (by kernel_rfl) (by kernel_rfl) (by kernel_rfl) (fun _ _ _ h => h) (Or.inl ⟨by rfl, ?_⟩) (by assumption) ?_
                                  · intro W hSw
                                    (try dsimp only at hSw)
                                    first | (go_simp; done) | (go_simp; with_reducible rfl)
                                  try go_frame
                                  refine wpAnyH_take (i := 11) (v := .int .i64 e') rfl (by kernel_rfl) (by kernel_rfl) (by kernel_rfl) (fun _ _ _ h => h) (Or.inl ⟨by rfl, ?_⟩) (by assumption) ?_
                                  · intro W hSw
                                    (try dsimp only at hSw)
                                    first | (go_simp; done) | (go_simp; with_reducible rfl)
                                  try go_frame
                                  refine wpAnyH_ready (rs := [13]) (by kernel_rfl) (by simp) ?_
                                  refine AllReadyH.cons rfl (fun K hK => ?_) ?_
                                  · go_simp
                                    refine hK.out _ _ ⟨by first | (go_keep; done) | (simp [go_sem, *]; done), by first | (go_keep; done) | (simp [go_sem, *]; done)⟩ (fun hHeld => ?_)
                                    clear hK K
                                    try go_frame
                                    refine wpAnyH_ready (rs := [14]) (by kernel_rfl) (by simp) ?_
                                    refine AllReadyH.cons rfl (fun K hK => ?_) ?_
                                    · go_simp
                                      refine hK.out _ _ hHeld (fun hHeld => ?_)
                                      clear hK K
                                      try go_frame
                                      refine wpAnyH_ready (rs := [15]) (by kernel_rfl) (by simp) ?_
                                      refine AllReadyH.cons rfl (fun K hK => ?_) ?_
                                      · go_simp
                                        refine hK.out _ _ hHeld (fun hHeld => ?_)
                                        clear hK K
                                        try go_frame
                                        refine wpAnyH_done (by kernel_rfl) ?_ _
                                        go_wp2_with fail
                                        go_meet
                                        exact ⟨_, rfl, rfl, rfl, St.put4 B8 (by omega) (by simp only [NotIn]; exact ⟨by omega, by omega, by omega, trivial⟩) _ _ _ _⟩
                                      exact AllReadyH.nil
                                    exact AllReadyH.nil
                                  exact AllReadyH.nil
                                exact AllReadyH.nil
                            exact AllReadyH.nil
                          exact AllReadyH.nil
                      refine AllReadyH.cons rfl (fun K hK => ?_) ?_
                      · go_simp
                        refine hK.out _ _ ⟨(keep_dr (keep_al (keep_al (keep_al k0)))), (keep_dr (keep_al (keep_al (keep_al k1))))⟩ (fun hHeld => ?_)
                        clear hK K
                        try go_frame
                        refine wpAnyH_ready (rs := [3]) (by kernel_rfl) (by simp) ?_
                        refine AllReadyH.cons rfl (fun K hK => ?_) ?_
                        · refine step_grow (((St.al (St.bs (St.bs B _) _))).drew) rfl (.tmp 138) (.tmp 139) rfl Try.underlying27 hi0 hz0 hz1 hz2 rfl (by decide) rfl (own_of_blk (blk_old (blk_old (blk_at _ _ _ (by simp)) _) _) (by omega) 1 (fun i => .int .i64 (M i))) (by simp [Other]) rfl (gen1 (hM.later (((St.al (St.bs (St.bs B _) _))).drew).below)) (fun _ => rfl) (by simp only [maxLen]; omega) (by omega) (fun i => .int .i64 (M i)) (fun _ _ => rfl) (fun i _ => by rw [Nat.zero_add]) ?_
                          intro v1 w6 hown6 B6 hg6
                          simp only [Nat.zero_add, Nat.mul_one] at hown6
                          have z6 := hg6.size
                          (try simp at z6)
                          have k0 : w6.cell? ⟨w.heap.size, 0, none⟩ = some (.slice A s.n c) := cell_blk B6.blks.2.2.2.1 0 _ rfl
                          have k1 : w6.cell? ⟨w.heap.size, 1, none⟩ = some (.int .i64 s.r) := cell_blk B6.blks.2.2.2.1 1 _ rfl
                          have ob : One w6 (Y.heap.size + 1) (.int .i64 fu) := (One.drew (One.alloc (One.fresh _ _ _ _ (by simp)) _)).grown hg6 (by first | omega | (simp; done) | (simp; omega))
                          clear hg6
                          refine hK.out _ _ ⟨k0, k1⟩ (fun hHeld => ?_)
                          clear hK K
                          try go_frame
                          as_aux_lemma =>
                            refine wpAnyH_ready (rs := [6]) (by kernel_rfl) (by simp) ?_
                            refine AllReadyH.cons rfl (fun K hK => ?_) ?_
                            · refine step_grow (B6) rfl (.tmp 140) (.tmp 142) rfl Try.underlying27 hi0 hz0 hz1 hz2 rfl (by decide) rfl hown6 (by simp [Other]) rfl (gen_of_one ob) (fun _ => rfl) (by simp only [maxLen]; omega) (by omega) (fun i => .int .i64 (if i < N then M i else fu)) (fun i hi => by simp [hi]) (fun i hi => by have e : i = 0 := (by omega); subst e; simp) ?_
                              intro v2 w7 hown7 B7 hg7
                              have z7 := hg7.size
                              (try simp at z7)
                              clear hg7
                              obtain ⟨A', c', rfl, _, hgen⟩ := own_gen hown7
                              have hI : IntsAt w7 A' (N + 1) (fun i => if i < N then M i else fu) := fun i hi => hgen i (by omega)
                              clear hgen hown7 hown6
                              have k0 : w7.cell? ⟨w.heap.size, 0, none⟩ = some (.slice A s.n c) := cell_blk B7.blks.2.2.2.1 0 _ rfl
                              have k1 : w7.cell? ⟨w.heap.size, 1, none⟩ = some (.int .i64 s.r) := cell_blk B7.blks.2.2.2.1 1 _ rfl
                              refine hK.out _ _ ⟨k0, k1⟩ (fun hHeld => ?_)
                              clear hK K
                              try go_frame
                              as_aux_lemma =>
                                refine wpAnyH_ready (rs := [7]) (by kernel_rfl) (by simp) ?_
                                refine AllReadyH.cons rfl (fun K hK => ?_) ?_
                                · go_simp
                                  refine (G.out _ (B7).below _ _ hI).mono ?_
                                  rintro en w8 ⟨rfl, h⟩
                                  have B8 := (B7).later h
                                  have z8 := h.size
                                  (try simp at z8)
                                  clear h hI
                                  (try simp only [World.size_alloc] at B8)
                                  have k0 : w8.cell? ⟨w.heap.size, 0, none⟩ = some (.slice A s.n c) := cell_blk B8.blks.2.2.2.1 0 _ rfl
                                  have k1 : w8.cell? ⟨w.heap.size, 1, none⟩ = some (.int .i64 s.r) := cell_blk B8.blks.2.2.2.1 1 _ rfl
                                  have R8 := B8.rules
                                  simp only [Rules] at R8
                                  refine hK.out _ _ ⟨k0, k1⟩ (fun hHeld => ?_)
                                  clear hK K
                                  try go_frame
                                  refine wpAnyH_take (i := 8) (v := .tuple #[.agg #[.int .i64 D.nx, .int .i64 D.rd, .int .i64 D.la, .bool D.ov], .int .i64 n', .int .i64 e']) rfl (by kernel_rfl) (by kernel_rfl) (by kernel_rfl) (fun _ _ _ h => h) (Or.inl ⟨by rfl, ?_⟩) (by assumption) ?_
                                  · intro W hSw
                                    (try dsimp only at hSw)
                                    first | (go_simp; done) | (go_simp; with_reducible rfl)
                                  try go_frame
                                  refine wpAnyH_take (i := 9) (v := .agg #[.int .i64 D.nx, .int .i64 D.rd, .int .i64 D.la, .bool D.ov]) rfl (by kernel_rfl) (by kernel_rfl) (by kernel_rfl) (fun _ _ _ h => h) (Or.inl ⟨by rfl, ?_⟩) (by assumption) ?_
                                  · intro W hSw
                                    (try dsimp only at hSw)
                                    first | (go_simp; done) | (go_simp; with_reducible rfl)
                                  try go_frame
                                  refine wpAnyH_take (i := 10) (v := .int .i64 n') rfl (by kernel_rfl) (by kernel_rfl) (by kernel_rfl) (fun _ _ _ h => h) (Or.inl ⟨by rfl, ?_⟩) (by assumption) ?_
                                  · intro W hSw
                                    (try dsimp only at hSw)
                                    first | (go_simp; done) | (go_simp; with_reducible rfl)
                                  try go_frame
                                  refine wpAnyH_take (i := 11) (v := .int .i64 e') rfl (by kernel_rfl) (by kernel_rfl) (by kernel_rfl) (fun _ _ _ h => h) (Or.inl ⟨by rfl, ?_⟩) (by assumption) ?_
                                  · intro W hSw
                                    (try dsimp only at hSw)
                                    first | (go_simp; done) | (go_simp; with_reducible rfl)
                                  try go_frame
                                  refine wpAnyH_ready (rs := [13]) (by kernel_rfl) (by simp) ?_
                                  refine AllReadyH.cons rfl (fun K hK => ?_) ?_
                                  · go_simp
                                    refine hK.out _ _ ⟨by first | (go_keep; done) | (simp [go_sem, *]; done), by first | (go_keep; done) | (simp [go_sem, *]; done)⟩ (fun hHeld => ?_)
                                    clear hK K
                                    try go_frame
                                    refine wpAnyH_ready (rs := [14]) (by kernel_rfl) (by simp) ?_
                                    refine AllReadyH.cons rfl (fun K hK => ?_) ?_
                                    · go_simp
                                      refine hK.out _ _ hHeld (fun hHeld => ?_)
                                      clear hK K
                                      try go_frame
                                      refine wpAnyH_ready (rs := [15]) (by kernel_rfl) (by simp) ?_
                                      refine AllReadyH.cons rfl (fun K hK => ?_) ?_
                                      · go_simp
                                        refine hK.out _ _ hHeld (fun hHeld => ?_)
                                        clear hK K
                                        try go_frame
                                        refine wpAnyH_done (by kernel_rfl) ?_ _
                                        go_wp2_with fail
                                        go_meet
                                        exact ⟨_, rfl, rfl, rfl, St.put4 B8 (by omega) (by simp only [NotIn]; exact ⟨by omega, by omega, by omega, trivial⟩) _ _ _ _⟩
                                      exact AllReadyH.nil
                                    exact AllReadyH.nil
                                  exact AllReadyH.nil
                                exact AllReadyH.nil
                            exact AllReadyH.nil
                        exact AllReadyH.nil
                      exact AllReadyH.nil
                    refine AllReadyH.cons rfl (fun K hK => ?_) ?_
                    · go_simp
                      refine hK.out _ _ ⟨(keep_dr (keep_al (keep_al k0))), (keep_dr (keep_al (keep_al k1)))⟩ (fun hHeld => ?_)
                      clear hK K
                      try go_frame
                      refine wpAnyH_ready (rs := [3, 5]) (by kernel_rfl) (by simp) ?_
                      refine AllReadyH.cons rfl (fun K hK => ?_) ?_
                      · refine step_grow (((St.al (St.bs B _))).drew) rfl (.tmp 138) (.tmp 139) rfl Try.underlying27 hi0 hz0 hz1 hz2 rfl (by decide) rfl (own_of_blk (blk_old (blk_at _ _ _ (by simp)) _) (by omega) 1 (fun i => .int .i64 (M i))) (by simp [Other]) rfl (gen1 (hM.later (((St.al (St.bs B _))).drew).below)) (fun _ => rfl) (by simp only [maxLen]; omega) (by omega) (fun i => .int .i64 (M i)) (fun _ _ => rfl) (fun i _ => by rw [Nat.zero_add]) ?_
                        intro v1 w6 hown6 B6 hg6
                        simp only [Nat.zero_add, Nat.mul_one] at hown6
                        have z6 := hg6.size
                        (try simp at z6)
                        have k0 : w6.cell? ⟨w.heap.size, 0, none⟩ = some (.slice A s.n c) := cell_blk B6.blks.2.2.2.1 0 _ rfl
                        have k1 : w6.cell? ⟨w.heap.size, 1, none⟩ = some (.int .i64 s.r) := cell_blk B6.blks.2.2.2.1 1 _ rfl
                        clear hg6
                        refine hK.out _ _ ⟨k0, k1⟩ (fun hHeld => ?_)
                        clear hK K
                        try go_frame
                        as_aux_lemma =>
                          refine wpAnyH_ready (rs := [5]) (by kernel_rfl) (by simp) ?_
                          refine AllReadyH.cons rfl (fun K hK => ?_) ?_
                          · go_simp
                            refine hK.out _ _ ⟨(keep_al k0), (keep_al k1)⟩ (fun hHeld => ?_)
                            clear hK K
                            try go_frame
                            refine wpAnyH_ready (rs := [6]) (by kernel_rfl) (by simp) ?_
                            refine AllReadyH.cons rfl (fun K hK => ?_) ?_
                            · refine step_grow ((St.bs B6 _)) rfl (.tmp 140) (.tmp 142) rfl Try.underlying27 hi0 hz0 hz1 hz2 rfl (by decide) rfl (hown6.alloc _) (by simp [Other]) rfl (gen_of_one (One.fresh _ _ _ _ (by simp))) (fun _ => rfl) (by simp only [maxLen]; omega) (by omega) (fun i => .int .i64 (if i < N then M i else fu)) (fun i hi => by simp [hi]) (fun i hi => by have e : i = 0 := (by omega); subst e; simp) ?_
                              intro v2 w7 hown7 B7 hg7
                              have z7 := hg7.size
                              (try simp at z7)
                              clear hg7
                              obtain ⟨A', c', rfl, _, hgen⟩ := own_gen hown7
                              have hI : IntsAt w7 A' (N + 1) (fun i => if i < N then M i else fu) := fun i hi => hgen i (by omega)
                              clear hgen hown7 hown6
                              have k0 : w7.cell? ⟨w.heap.size, 0, none⟩ = some (.slice A s.n c) := cell_blk B7.blks.2.2.2.1 0 _ rfl
                              have k1 : w7.cell? ⟨w.heap.size, 1, none⟩ = some (.int .i64 s.r) := cell_blk B7.blks.2.2.2.1 1 _ rfl
                              refine hK.out _ _ ⟨k0, k1⟩ (fun hHeld => ?_)
                              clear hK K
                              try go_frame
                              as_aux_lemma =>
                                refine wpAnyH_ready (rs := [7]) (by kernel_rfl) (by simp) ?_
                                refine AllReadyH.cons rfl (fun K hK => ?_) ?_
                                · go_simp
                                  refine (G.out _ (B7).below _ _ hI).mono ?_
                                  rintro en w8 ⟨rfl, h⟩
                                  have B8 := (B7).later h
                                  have z8 := h.size
                                  (try simp at z8)
                                  clear h hI
                                  (try simp only [World.size_alloc] at B8)
                                  have k0 : w8.cell? ⟨w.heap.size, 0, none⟩ = some (.slice A s.n c) := cell_blk B8.blks.2.2.2.1 0 _ rfl
                                  have k1 : w8.cell? ⟨w.heap.size, 1, none⟩ = some (.int .i64 s.r) := cell_blk B8.blks.2.2.2.1 1 _ rfl
                                  have R8 := B8.rules
                                  simp only [Rules] at R8
                                  refine hK.out _ _ ⟨k0, k1⟩ (fun hHeld => ?_)
                                  clear hK K
                                  try go_frame
                                  refine wpAnyH_take (i := 8) (v := .tuple #[.agg #[.int .i64 D.nx, .int .i64 D.rd, .int .i64 D.la, .bool D.ov], .int .i64 n', .int .i64 e']) rfl (by kernel_rfl) (by kernel_rfl) (by kernel_rfl) (fun _ _ _ h => h) (Or.inl ⟨by rfl, ?_⟩) (by assumption) ?_
                                  · intro W hSw
                                    (try dsimp only at hSw)
                                    first | (go_simp; done) | (go_simp; with_reducible rfl)
                                  try go_frame
                                  refine wpAnyH_take (i := 9) (v := .agg #[.int .i64 D.nx, .int .i64 D.rd, .int .i64 D.la, .bool D.ov]) rfl (by kernel_rfl) (by kernel_rfl) (by kernel_rfl) (fun _ _ _ h => h) (Or.inl ⟨by rfl, ?_⟩) (by assumption) ?_
                                  · intro W hSw
                                    (try dsimp only at hSw)
                                    first | (go_simp; done) | (go_simp; with_reducible rfl)
                                  try go_frame
                                  refine wpAnyH_take (i := 10) (v := .int .i64 n') rfl (by kernel_rfl) (by kernel_rfl) (by kernel_rfl) (fun _ _ _ h => h) (Or.inl ⟨by rfl, ?_⟩) (by assumption) ?_
                                  · intro W hSw
                                    (try dsimp only at hSw)
                                    first | (go_simp; done) | (go_simp; with_reducible rfl)
                                  try go_frame
                                  refine wpAnyH_take (i := 11) (v := .int .i64 e') rfl (by kernel_rfl) (by kernel_rfl) (by kernel_rfl) (fun _ _ _ h => h) (Or.inl ⟨by rfl, ?_⟩) (by assumption) ?_
                                  · intro W hSw
                                    (try dsimp only at hSw)
                                    first | (go_simp; done) | (go_simp; with_reducible rfl)
                                  try go_frame
                                  refine wpAnyH_ready (rs := [13]) (by kernel_rfl) (by simp) ?_
                                  refine AllReadyH.cons rfl (fun K hK => ?_) ?_
                                  · go_simp
                                    refine hK.out _ _ ⟨by first | (go_keep; done) | (simp [go_sem, *]; done), by first | (go_keep; done) | (simp [go_sem, *]; done)⟩ (fun hHeld => ?_)
                                    clear hK K
                                    try go_frame
                                    refine wpAnyH_ready (rs := [14]) (by kernel_rfl) (by simp) ?_
                                    refine AllReadyH.cons rfl (fun K hK => ?_) ?_
                                    · go_simp
                                      refine hK.out _ _ hHeld (fun hHeld => ?_)
                                      clear hK K
                                      try go_frame
                                      refine wpAnyH_ready (rs := [15]) (by kernel_rfl) (by simp) ?_
                                      refine AllReadyH.cons rfl (fun K hK => ?_) ?_
                                      · go_simp
                                        refine hK.out _ _ hHeld (fun hHeld => ?_)
                                        clear hK K
                                        try go_frame
                                        refine wpAnyH_done (by kernel_rfl) ?_ _
                                        go_wp2_with fail
                                        go_meet
                                        exact ⟨_, rfl, rfl, rfl, St.put4 B8 (by omega) (by simp only [NotIn]; exact ⟨by omega, by omega, by omega, trivial⟩) _ _ _ _⟩
                                      exact AllReadyH.nil
                                    exact AllReadyH.nil
                                  exact AllReadyH.nil
                                exact AllReadyH.nil
                            exact AllReadyH.nil
                          exact AllReadyH.nil
                      refine AllReadyH.cons rfl (fun K hK => ?_) ?_
                      · go_simp
                        refine hK.out _ _ ⟨(keep_dr (keep_al (keep_al (keep_al k0)))), (keep_dr (keep_al (keep_al (keep_al k1))))⟩ (fun hHeld => ?_)
                        clear hK K
                        try go_frame
                        refine wpAnyH_ready (rs := [3]) (by kernel_rfl) (by simp) ?_
                        refine AllReadyH.cons rfl (fun K hK => ?_) ?_
                        · refine step_grow (((St.bs (St.al (St.bs B _)) _)).drew) rfl (.tmp 138) (.tmp 139) rfl Try.underlying27 hi0 hz0 hz1 hz2 rfl (by decide) rfl (own_of_blk (blk_old (blk_old (blk_at _ _ _ (by simp)) _) _) (by omega) 1 (fun i => .int .i64 (M i))) (by simp [Other]) rfl (gen1 (hM.later (((St.bs (St.al (St.bs B _)) _)).drew).below)) (fun _ => rfl) (by simp only [maxLen]; omega) (by omega) (fun i => .int .i64 (M i)) (fun _ _ => rfl) (fun i _ => by rw [Nat.zero_add]) ?_
                          intro v1 w6 hown6 B6 hg6
                          simp only [Nat.zero_add, Nat.mul_one] at hown6
                          have z6 := hg6.size
                          (try simp at z6)
                          have k0 : w6.cell? ⟨w.heap.size, 0, none⟩ = some (.slice A s.n c) := cell_blk B6.blks.2.2.2.1 0 _ rfl
                          have k1 : w6.cell? ⟨w.heap.size, 1, none⟩ = some (.int .i64 s.r) := cell_blk B6.blks.2.2.2.1 1 _ rfl
                          have ob : One w6 (Y.heap.size + 2) (.int .i64 fu) := (One.drew (One.fresh _ _ _ _ (by simp))).grown hg6 (by first | omega | (simp; done) | (simp; omega))
                          clear hg6
                          refine hK.out _ _ ⟨k0, k1⟩ (fun hHeld => ?_)
                          clear hK K
                          try go_frame
                          as_aux_lemma =>
                            refine wpAnyH_ready (rs := [6]) (by kernel_rfl) (by simp) ?_
                            refine AllReadyH.cons rfl (fun K hK => ?_) ?_
                            · refine step_grow (B6) rfl (.tmp 140) (.tmp 142) rfl Try.underlying27 hi0 hz0 hz1 hz2 rfl (by decide) rfl hown6 (by simp [Other]) rfl (gen_of_one ob) (fun _ => rfl) (by simp only [maxLen]; omega) (by omega) (fun i => .int .i64 (if i < N then M i else fu)) (fun i hi => by simp [hi]) (fun i hi => by have e : i = 0 := (by omega); subst e; simp) ?_
                              intro v2 w7 hown7 B7 hg7
                              have z7 := hg7.size
                              (try simp at z7)
                              clear hg7
                              obtain ⟨A', c', rfl, _, hgen⟩ := own_gen hown7
                              have hI : IntsAt w7 A' (N + 1) (fun i => if i < N then M i else fu) := fun i hi => hgen i (by omega)
                              clear hgen hown7 hown6
                              have k0 : w7.cell? ⟨w.heap.size, 0, none⟩ = some (.slice A s.n c) := cell_blk B7.blks.2.2.2.1 0 _ rfl
                              have k1 : w7.cell? ⟨w.heap.size, 1, none⟩ = some (.int .i64 s.r) := cell_blk B7.blks.2.2.2.1 1 _ rfl
                              refine hK.out _ _ ⟨k0, k1⟩ (fun hHeld => ?_)
                              clear hK K
                              try go_frame
                              as_aux_lemma =>
                                refine wpAnyH_ready (rs := [7]) (by kernel_rfl) (by simp) ?_
                                refine AllReadyH.cons rfl (fun K hK => ?_) ?_
                                · go_simp
                                  refine (G.out _ (B7).below _ _ hI).mono ?_
                                  rintro en w8 ⟨rfl, h⟩
                                  have B8 := (B7).later h
                                  have z8 := h.size
                                  (try simp at z8)
                                  clear h hI
                                  (try simp only [World.size_alloc] at B8)
                                  have k0 : w8.cell? ⟨w.heap.size, 0, none⟩ = some (.slice A s.n c) := cell_blk B8.blks.2.2.2.1 0 _ rfl
                                  have k1 : w8.cell? ⟨w.heap.size, 1, none⟩ = some (.int .i64 s.r) := cell_blk B8.blks.2.2.2.1 1 _ rfl
                                  have R8 := B8.rules
                                  simp only [Rules] at R8
                                  refine hK.out _ _ ⟨k0, k1⟩ (fun hHeld => ?_)
                                  clear hK K
                                  try go_frame
                                  refine wpAnyH_take (i := 8) (v := .tuple #[.agg #[.int .i64 D.nx, .int .i64 D.rd, .int .i64 D.la, .bool D.ov], .int .i64 n', .int .i64 e']) rfl (by kernel_rfl) (by kernel_rfl) (by kernel_rfl) (fun _ _ _ h => h) (Or.inl ⟨by rfl, ?_⟩) (by assumption) ?_
                                  · intro W hSw
                                    (try dsimp only at hSw)
                                    first | (go_simp; done) | (go_simp; with_reducible rfl)
                                  try go_frame
                                  refine wpAnyH_take (i := 9) (v := .agg #[.int .i64 D.nx, .int .i64 D.rd, .int .i64 D.la, .bool D.ov]) rfl (by kernel_rfl) (by kernel_rfl) (by kernel_rfl) (fun _ _ _ h => h) (Or.inl ⟨by rfl, ?_⟩) (by assumption) ?_
                                  · intro W hSw
                                    (try dsimp only at hSw)
                                    first | (go_simp; done) | (go_simp; with_reducible rfl)
                                  try go_frame
                                  refine wpAnyH_take (i := 10) (v := .int .i64 n') rfl (by kernel_rfl) (by kernel_rfl) (by kernel_rfl) (fun _ _ _ h => h) (Or.inl ⟨by rfl, ?_⟩) (by assumption) ?_
                                  · intro W hSw
                                    (try dsimp only at hSw)
                                    first | (go_simp; done) | (go_simp; with_reducible rfl)
                                  try go_frame
                                  refine wpAnyH_take (i := 11) (v := .int .i64 e') rfl (by kernel_rfl) (by kernel_rfl) (by kernel_rfl) (fun _ _ _ h => h) (Or.inl ⟨by rfl, ?_⟩) (by assumption) ?_
                                  · intro W hSw
                                    (try dsimp only at hSw)
                                    first | (go_simp; done) | (go_simp; with_reducible rfl)
                                  try go_frame
                                  refine wpAnyH_ready (rs := [13]) (by kernel_rfl) (by simp) ?_
                                  refine AllReadyH.cons rfl (fun K hK => ?_) ?_
                                  · go_simp
                                    refine hK.out _ _ ⟨by first | (go_keep; done) | (simp [go_sem, *]; done), by first | (go_keep; done) | (simp [go_sem, *]; done)⟩ (fun hHeld => ?_)
                                    clear hK K
                                    try go_frame
                                    refine wpAnyH_ready (rs := [14]) (by kernel_rfl) (by simp) ?_
                                    refine AllReadyH.cons rfl (fun K hK => ?_) ?_
                                    · go_simp
                                      refine hK.out _ _ hHeld (fun hHeld => ?_)
                                      clear hK K
                                      try go_frame
                                      refine wpAnyH_ready (rs := [15]) (by kernel_rfl) (by simp) ?_
                                      refine AllReadyH.cons rfl (fun K hK => ?_) ?_
                                      · go_simp
                                        refine hK.out _ _ hHeld (fun hHeld => ?_)
                                        clear hK K
                                        try go_frame
                                        refine wpAnyH_done (by kernel_rfl) ?_ _
                                        go_wp2_with fail
                                        go_meet
                                        exact ⟨_, rfl, rfl, rfl, St.put4 B8 (by omega) (by simp only [NotIn]; exact ⟨by omega, by omega, by omega, trivial⟩) _ _ _ _⟩
                                      exact AllReadyH.nil
                                    exact AllReadyH.nil
                                  exact AllReadyH.nil
                                exact AllReadyH.nil
                            exact AllReadyH.nil
                        exact AllReadyH.nil
                      exact AllReadyH.nil
                    exact AllReadyH.nil
                  refine AllReadyH.cons rfl (fun K hK => ?_) ?_
                  · go_simp
                    refine hK.out _ _ ⟨(keep_dr (keep_al k0)), (keep_dr (keep_al k1))⟩ (fun hHeld => ?_)
                    clear hK K
                    try go_frame
                    refine wpAnyH_ready (rs := [1, 12]) (by kernel_rfl) (by simp) ?_
                    refine AllReadyH.cons rfl (fun K hK => ?_) ?_
                    · go_simp
                      refine hK.out _ _ ⟨(keep_dr (keep_al (keep_al k0))), (keep_dr (keep_al (keep_al k1)))⟩ (fun hHeld => ?_)
                      clear hK K
                      try go_frame
                      refine wpAnyH_ready (rs := [3, 12]) (by kernel_rfl) (by simp) ?_
                      refine AllReadyH.cons rfl (fun K hK => ?_) ?_
                      · refine step_grow (((St.bs (St.bs B _) _)).drew) rfl (.tmp 138) (.tmp 139) rfl Try.underlying27 hi0 hz0 hz1 hz2 rfl (by decide) rfl (own_of_blk (blk_at _ _ _ (by simp)) (by omega) 1 (fun i => .int .i64 (M i))) (by simp [Other]) rfl (gen1 (hM.later (((St.bs (St.bs B _) _)).drew).below)) (fun _ => rfl) (by simp only [maxLen]; omega) (by omega) (fun i => .int .i64 (M i)) (fun _ _ => rfl) (fun i _ => by rw [Nat.zero_add]) ?_
                        intro v1 w6 hown6 B6 hg6
                        simp only [Nat.zero_add, Nat.mul_one] at hown6
                        have z6 := hg6.size
                        (try simp at z6)
                        have k0 : w6.cell? ⟨w.heap.size, 0, none⟩ = some (.slice A s.n c) := cell_blk B6.blks.2.2.1 0 _ rfl
                        have k1 : w6.cell? ⟨w.heap.size, 1, none⟩ = some (.int .i64 s.r) := cell_blk B6.blks.2.2.1 1 _ rfl
                        have ob : One w6 (Y.heap.size) (.int .i64 fu) := (One.drew (One.alloc (One.fresh _ _ _ _ (by simp)) _)).grown hg6 (by first | omega | (simp; done) | (simp; omega))
                        clear hg6
                        refine hK.out _ _ ⟨k0, k1⟩ (fun hHeld => ?_)
                        clear hK K
                        try go_frame
                        as_aux_lemma =>
                          refine wpAnyH_ready (rs := [6, 12]) (by kernel_rfl) (by simp) ?_
                          refine AllReadyH.cons rfl (fun K hK => ?_) ?_
                          · refine step_grow (B6) rfl (.tmp 140) (.tmp 142) rfl Try.underlying27 hi0 hz0 hz1 hz2 rfl (by decide) rfl hown6 (by simp [Other]) rfl (gen_of_one ob) (fun _ => rfl) (by simp only [maxLen]; omega) (by omega) (fun i => .int .i64 (if i < N then M i else fu)) (fun i hi => by simp [hi]) (fun i hi => by have e : i = 0 := (by omega); subst e; simp) ?_
                            intro v2 w7 hown7 B7 hg7
                            have z7 := hg7.size
                            (try simp at z7)
                            clear hg7
                            obtain ⟨A', c', rfl, _, hgen⟩ := own_gen hown7
                            have hI : IntsAt w7 A' (N + 1) (fun i => if i < N then M i else fu) := fun i hi => hgen i (by omega)
                            clear hgen hown7 hown6
                            have k0 : w7.cell? ⟨w.heap.size, 0, none⟩ = some (.slice A s.n c) := cell_blk B7.blks.2.2.1 0 _ rfl
                            have k1 : w7.cell? ⟨w.heap.size, 1, none⟩ = some (.int .i64 s.r) := cell_blk B7.blks.2.2.1 1 _ rfl
                            refine hK.out _ _ ⟨k0, k1⟩ (fun hHeld => ?_)
                            clear hK K
                            try go_frame
                            as_aux_lemma =>
                              refine wpAnyH_ready (rs := [7, 12]) (by kernel_rfl) (by simp) ?_
                              refine AllReadyH.cons rfl (fun K hK => ?_) ?_
                              · go_simp
                                refine (G.out _ (B7).below _ _ hI).mono ?_
                                rintro en w8 ⟨rfl, h⟩
                                have B8 := (B7).later h
                                have z8 := h.size
                                (try simp at z8)
                                clear h hI
                                (try simp only [World.size_alloc] at B8)
                                have k0 : w8.cell? ⟨w.heap.size, 0, none⟩ = some (.slice A s.n c) := cell_blk B8.blks.2.2.1 0 _ rfl
                                have k1 : w8.cell? ⟨w.heap.size, 1, none⟩ = some (.int .i64 s.r) := cell_blk B8.blks.2.2.1 1 _ rfl
                                have R8 := B8.rules
                                simp only [Rules] at R8
                                refine hK.out _ _ ⟨k0, k1⟩ (fun hHeld => ?_)
                                clear hK K
                                try go_frame
                                refine wpAnyH_take (i := 8) (v := .tuple #[.agg #[.int .i64 D.nx, .int .i64 D.rd, .int .i64 D.la, .bool D.ov], .int .i64 n', .int .i64 e']) rfl (by kernel_rfl) (by kernel_rfl) (by kernel_rfl) (fun _ _ _ h => h) (Or.inl ⟨by rfl, ?_⟩) (by assumption) ?_
                                · intro W hSw
                                  (try dsimp only at hSw)
                                  first | (go_simp; done) | (go_simp; with_reducible rfl)
                                try go_frame
                                refine wpAnyH_take (i := 9) (v := .agg #[.int .i64 D.nx, .int .i64 D.rd, .int .i64 D.la, .bool D.ov]) rfl (by kernel_rfl) (by kernel_rfl) (by kernel_rfl) (fun _ _ _ h => h) (Or.inl ⟨by rfl, ?_⟩) (by assumption) ?_
                                · intro W hSw
                                  (try dsimp only at hSw)
                                  first | (go_simp; done) | (go_simp; with_reducible rfl)
                                try go_frame
                                refine wpAnyH_take (i := 10) (v := .int .i64 n') rfl (by kernel_rfl) (by kernel_rfl) (by kernel_rfl) (fun _ _ _ h => h) (Or.inl ⟨by rfl, ?_⟩) (by assumption) ?_
                                · intro W hSw
                                  (try dsimp only at hSw)
                                  first | (go_simp; done) | (go_simp; with_reducible rfl)
                                try go_frame
                                refine wpAnyH_take (i := 11) (v := .int .i64 e') rfl (by kernel_rfl) (by kernel_rfl) (by kernel_rfl) (fun _ _ _ h => h) (Or.inl ⟨by rfl, ?_⟩) (by assumption) ?_
                                · intro W hSw
                                  (try dsimp only at hSw)
                                  first | (go_simp; done) | (go_simp; with_reducible rfl)
                                try go_frame
                                refine wpAnyH_ready (rs := [12]) (by kernel_rfl) (by simp) ?_
                                refine AllReadyH.cons rfl (fun K hK => ?_) ?_
                                · go_simp
                                  refine hK.out _ _ ⟨(keep_al k0), (keep_al k1)⟩ (fun hHeld => ?_)
                                  clear hK K
                                  try go_frame
                                  refine wpAnyH_ready (rs := [13]) (by kernel_rfl) (by simp) ?_
                                  refine AllReadyH.cons rfl (fun K hK => ?_) ?_
                                  · go_simp
                                    refine hK.out _ _ ⟨keep_al k0, keep_al k1⟩ (fun hHeld => ?_)
                                    clear hK K
                                    try go_frame
                                    refine wpAnyH_ready (rs := [14]) (by kernel_rfl) (by simp) ?_
                                    refine AllReadyH.cons rfl (fun K hK => ?_) ?_
                                    · go_simp
                                      refine hK.out _ _ hHeld (fun hHeld => ?_)
                                      clear hK K
                                      try go_frame
                                      refine wpAnyH_ready (rs := [15]) (by kernel_rfl) (by simp) ?_
                                      refine AllReadyH.cons rfl (fun K hK => ?_) ?_
                                      · go_simp
                                        refine hK.out _ _ hHeld (fun hHeld => ?_)
                                        clear hK K
                                        try go_frame
                                        refine wpAnyH_done (by kernel_rfl) ?_ _
                                        go_wp2_with fail
                                        go_meet
                                        exact ⟨_, rfl, rfl, rfl, B8.alloc _ _⟩
                                      exact AllReadyH.nil
                                    exact AllReadyH.nil
                                  exact AllReadyH.nil
                                exact AllReadyH.nil
                              refine AllReadyH.cons rfl (fun K hK => ?_) ?_
                              · go_simp
                                refine hK.out _ _ ⟨(keep_al k0), (keep_al k1)⟩ (fun hHeld => ?_)
                                clear hK K
                                try go_frame
                                refine wpAnyH_ready (rs := [7]) (by kernel_rfl) (by simp) ?_
                                refine AllReadyH.cons rfl (fun K hK => ?_) ?_
                                · go_simp
                                  refine (G.out _ ((St.al B7)).below _ _ (hI.later ((Below.refl _ _).alloc (Nat.le_refl _) _))).mono ?_
                                  rintro en w8 ⟨rfl, h⟩
                                  have B8 := ((St.al B7)).later h
                                  have z8 := h.size
                                  (try simp at z8)
                                  clear h hI
                                  (try simp only [World.size_alloc] at B8)
                                  have k0 : w8.cell? ⟨w.heap.size, 0, none⟩ = some (.slice A s.n c) := cell_blk B8.blks.2.2.2.1 0 _ rfl
                                  have k1 : w8.cell? ⟨w.heap.size, 1, none⟩ = some (.int .i64 s.r) := cell_blk B8.blks.2.2.2.1 1 _ rfl
                                  have R8 := B8.rules
                                  simp only [Rules] at R8
                                  refine hK.out _ _ ⟨k0, k1⟩ (fun hHeld => ?_)
                                  clear hK K
                                  try go_frame
                                  refine wpAnyH_take (i := 8) (v := .tuple #[.agg #[.int .i64 D.nx, .int .i64 D.rd, .int .i64 D.la, .bool D.ov], .int .i64 n', .int .i64 e']) rfl (by kernel_rfl) (by kernel_rfl) (by kernel_rfl) (fun _ _ _ h => h) (Or.inl ⟨by rfl, ?_⟩) (by assumption) ?_
                                  · intro W hSw
                                    (try dsimp only at hSw)
                                    first | (go_simp; done) | (go_simp; with_reducible rfl)
                                  try go_frame
                                  refine wpAnyH_take (i := 9) (v := .agg #[.int .i64 D.nx, .int .i64 D.rd, .int .i64 D.la, .bool D.ov]) rfl (by kernel_rfl) (by kernel_rfl) (by kernel_rfl) (fun _ _ _ h => h) (Or.inl ⟨by rfl, ?_⟩) (by assumption) ?_
                                  · intro W hSw
                                    (try dsimp only at hSw)
                                    first | (go_simp; done) | (go_simp; with_reducible rfl)
                                  try go_frame
                                  refine wpAnyH_take (i := 10) (v := .int .i64 n') rfl (by kernel_rfl) (by kernel_rfl) (by kernel_rfl) (fun _ _ _ h => h) (Or.inl ⟨by rfl, ?_⟩) (by assumption) ?_
                                  · intro W hSw
                                    (try dsimp only at hSw)
                                    first | (go_simp; done) | (go_simp; with_reducible rfl)
                                  try go_frame
                                  refine wpAnyH_take (i := 11) (v := .int .i64 e') rfl (by kernel_rfl) (by kernel_rfl) (by kernel_rfl) (fun _ _ _ h => h) (Or.inl ⟨by rfl, ?_⟩) (by assumption) ?_
                                  · intro W hSw
                                    (try dsimp only at hSw)
                                    first | (go_simp; done) | (go_simp; with_reducible rfl)
                                  try go_frame
                                  refine wpAnyH_ready (rs := [13]) (by kernel_rfl) (by simp) ?_
                                  refine AllReadyH.cons rfl (fun K hK => ?_) ?_
                                  · go_simp
                                    refine hK.out _ _ ⟨by first | (go_keep; done) | (simp [go_sem, *]; done), by first | (go_keep; done) | (simp [go_sem, *]; done)⟩ (fun hHeld => ?_)
                                    clear hK K
                                    try go_frame
                                    refine wpAnyH_ready (rs := [14]) (by kernel_rfl) (by simp) ?_
                                    refine AllReadyH.cons rfl (fun K hK => ?_) ?_
                                    · go_simp
                                      refine hK.out _ _ hHeld (fun hHeld => ?_)
                                      clear hK K
                                      try go_frame
                                      refine wpAnyH_ready (rs := [15]) (by kernel_rfl) (by simp) ?_
                                      refine AllReadyH.cons rfl (fun K hK => ?_) ?_
                                      · go_simp
                                        refine hK.out _ _ hHeld (fun hHeld => ?_)
                                        clear hK K
                                        try go_frame
                                        refine wpAnyH_done (by kernel_rfl) ?_ _
                                        go_wp2_with fail
                                        go_meet
                                        exact ⟨_, rfl, rfl, rfl, St.put4 B8 (by omega) (by simp only [NotIn]; exact ⟨by omega, by omega, by omega, trivial⟩) _ _ _ _⟩
                                      exact AllReadyH.nil
                                    exact AllReadyH.nil
                                  exact AllReadyH.nil
                                exact AllReadyH.nil
                              exact AllReadyH.nil
                          refine AllReadyH.cons rfl (fun K hK => ?_) ?_
                          · go_simp
                            refine hK.out _ _ ⟨(keep_al k0), (keep_al k1)⟩ (fun hHeld => ?_)
                            clear hK K
                            try go_frame
                            refine wpAnyH_ready (rs := [6]) (by kernel_rfl) (by simp) ?_
                            refine AllReadyH.cons rfl (fun K hK => ?_) ?_
                            · refine step_grow ((St.al B6)) rfl (.tmp 140) (.tmp 142) rfl Try.underlying27 hi0 hz0 hz1 hz2 rfl (by decide) rfl (hown6.alloc _) (by simp [Other]) rfl (gen_of_one (One.alloc ob _)) (fun _ => rfl) (by simp only [maxLen]; omega) (by omega) (fun i => .int .i64 (if i < N then M i else fu)) (fun i hi => by simp [hi]) (fun i hi => by have e : i = 0 := (by omega); subst e; simp) ?_
                              intro v2 w7 hown7 B7 hg7
                              have z7 := hg7.size
                              (try simp at z7)
                              clear hg7
                              obtain ⟨A', c', rfl, _, hgen⟩ := own_gen hown7
                              have hI : IntsAt w7 A' (N + 1) (fun i => if i < N then M i else fu) := fun i hi => hgen i (by omega)
                              clear hgen hown7 hown6
                              have k0 : w7.cell? ⟨w.heap.size, 0, none⟩ = some (.slice A s.n c) := cell_blk B7.blks.2.2.2.1 0 _ rfl
                              have k1 : w7.cell? ⟨w.heap.size, 1, none⟩ = some (.int .i64 s.r) := cell_blk B7.blks.2.2.2.1 1 _ rfl
                              refine hK.out _ _ ⟨k0, k1⟩ (fun hHeld => ?_)
                              clear hK K
                              try go_frame
                              as_aux_lemma =>
                                refine wpAnyH_ready (rs := [7]) (by kernel_rfl) (by simp) ?_
                                refine AllReadyH.cons rfl (fun K hK => ?_) ?_
                                · go_simp
                                  refine (G.out _ (B7).below _ _ hI).mono ?_
                                  rintro en w8 ⟨rfl, h⟩
                                  have B8 := (B7).later h
                                  have z8 := h.size
                                  (try simp at z8)
                                  clear h hI
                                  (try simp only [World.size_alloc] at B8)
                                  have k0 : w8.cell? ⟨w.heap.size, 0, none⟩ = some (.slice A s.n c) := cell_blk B8.blks.2.2.2.1 0 _ rfl
                                  have k1 : w8.cell? ⟨w.heap.size, 1, none⟩ = some (.int .i64 s.r) := cell_blk B8.blks.2.2.2.1 1 _ rfl
                                  have R8 := B8.rules
                                  simp only [Rules] at R8
                                  refine hK.out _ _ ⟨k0, k1⟩ (fun hHeld => ?_)
                                  clear hK K
                                  try go_frame
                                  refine wpAnyH_take (i := 8) (v := .tuple #[.agg #[.int .i64 D.nx, .int .i64 D.rd, .int .i64 D.la, .bool D.ov], .int .i64 n', .int .i64 e']) rfl (by kernel_rfl) (by kernel_rfl) (by kernel_rfl) (fun _ _ _ h => h) (Or.inl ⟨by rfl, ?_⟩) (by assumption) ?_
                                  · intro W hSw
                                    (try dsimp only at hSw)
                                    first | (go_simp; done) | (go_simp; with_reducible rfl)
                                  try go_frame
                                  refine wpAnyH_take (i := 9) (v := .agg #[.int .i64 D.nx, .int .i64 D.rd, .int .i64 D.la, .bool D.ov]) rfl (by kernel_rfl) (by kernel_rfl) (by kernel_rfl) (fun _ _ _ h => h) (Or.inl ⟨by rfl, ?_⟩) (by assumption) ?_
                                  · intro W hSw
                                    (try dsimp only at hSw)
                                    first | (go_simp; done) | (go_simp; with_reducible rfl)
                                  try go_frame
                                  refine wpAnyH_take (i := 10) (v := .int .i64 n') rfl (by kernel_rfl) (by kernel_rfl) (by kernel_rfl) (fun _ _ _ h => h) (Or.inl ⟨by rfl, ?_⟩) (by assumption) ?_
                                  · intro W hSw
                                    (try dsimp only at hSw)
                                    first | (go_simp; done) | (go_simp; with_reducible rfl)
                                  try go_frame
                                  refine wpAnyH_take (i := 11) (v := .int .i64 e') rfl (by kernel_rfl) (by kernel_rfl) (by kernel_rfl) (fun _ _ _ h => h) (Or.inl ⟨by rfl, ?_⟩) (by assumption) ?_
                                  · intro W hSw
                                    (try dsimp only at hSw)
                                    first | (go_simp; done) | (go_simp; with_reducible rfl)
                                  try go_frame
                                  refine wpAnyH_ready (rs := [13]) (by kernel_rfl) (by simp) ?_
                                  refine AllReadyH.cons rfl (fun K hK => ?_) ?_
                                  · go_simp
                                    refine hK.out _ _ ⟨by first | (go_keep; done) | (simp [go_sem, *]; done), by first | (go_keep; done) | (simp [go_sem, *]; done)⟩ (fun hHeld => ?_)
                                    clear hK K
                                    try go_frame
                                    refine wpAnyH_ready (rs := [14]) (by kernel_rfl) (by simp) ?_
                                    refine AllReadyH.cons rfl (fun K hK => ?_) ?_
                                    · go_simp
                                      refine hK.out _ _ hHeld (fun hHeld => ?_)
                                      clear hK K
                                      try go_frame
                                      refine wpAnyH_ready (rs := [15]) (by kernel_rfl) (by simp) ?_
                                      refine AllReadyH.cons rfl (fun K hK => ?_) ?_
                                      · go_simp
                                        refine hK.out _ _ hHeld (fun hHeld => ?_)
                                        clear hK K
                                        try go_frame
                                        refine wpAnyH_done (by kernel_rfl) ?_ _
                                        go_wp2_with fail
                                        go_meet
                                        exact ⟨_, rfl, rfl, rfl, St.put4 B8 (by omega) (by simp only [NotIn]; exact ⟨by omega, by omega, by omega, trivial⟩) _ _ _ _⟩
                                      exact AllReadyH.nil
                                    exact AllReadyH.nil
                                  exact AllReadyH.nil
                                exact AllReadyH.nil
                            exact AllReadyH.nil
                          exact AllReadyH.nil
                      refine AllReadyH.cons rfl (fun K hK => ?_) ?_
                      · go_simp
                        refine hK.out _ _ ⟨(keep_dr (keep_al (keep_al (keep_al k0)))), (keep_dr (keep_al (keep_al (keep_al k1))))⟩ (fun hHeld => ?_)
                        clear hK K
                        try go_frame
                        refine wpAnyH_ready (rs := [3]) (by kernel_rfl) (by simp) ?_
                        refine AllReadyH.cons rfl (fun K hK => ?_) ?_
                        · refine step_grow (((St.al (St.bs (St.bs B _) _))).drew) rfl (.tmp 138) (.tmp 139) rfl Try.underlying27 hi0 hz0 hz1 hz2 rfl (by decide) rfl (own_of_blk (blk_old (blk_at _ _ _ (by simp)) _) (by omega) 1 (fun i => .int .i64 (M i))) (by simp [Other]) rfl (gen1 (hM.later (((St.al (St.bs (St.bs B _) _))).drew).below)) (fun _ => rfl) (by simp only [maxLen]; omega) (by omega) (fun i => .int .i64 (M i)) (fun _ _ => rfl) (fun i _ => by rw [Nat.zero_add]) ?_
                          intro v1 w6 hown6 B6 hg6
                          simp only [Nat.zero_add, Nat.mul_one] at hown6
                          have z6 := hg6.size
                          (try simp at z6)
                          have k0 : w6.cell? ⟨w.heap.size, 0, none⟩ = some (.slice A s.n c) := cell_blk B6.blks.2.2.2.1 0 _ rfl
                          have k1 : w6.cell? ⟨w.heap.size, 1, none⟩ = some (.int .i64 s.r) := cell_blk B6.blks.2.2.2.1 1 _ rfl
                          have ob : One w6 (Y.heap.size) (.int .i64 fu) := (One.drew (One.alloc (One.alloc (One.fresh _ _ _ _ (by simp)) _) _)).grown hg6 (by first | omega | (simp; done) | (simp; omega))
                          clear hg6
                          refine hK.out _ _ ⟨k0, k1⟩ (fun hHeld => ?_)
                          clear hK K
                          try go_frame
                          as_aux_lemma =>
                            refine wpAnyH_ready (rs := [6]) (by kernel_rfl) (by simp) ?_
                            refine AllReadyH.cons rfl (fun K hK => ?_) ?_
                            · refine step_grow (B6) rfl (.tmp 140) (.tmp 142) rfl Try.underlying27 hi0 hz0 hz1 hz2 rfl (by decide) rfl hown6 (by simp [Other]) rfl (gen_of_one ob) (fun _ => rfl) (by simp only [maxLen]; omega) (by omega) (fun i => .int .i64 (if i < N then M i else fu)) (fun i hi => by simp [hi]) (fun i hi => by have e : i = 0 := (by omega); subst e; simp) ?_
                              intro v2 w7 hown7 B7 hg7
                              have z7 := hg7.size
                              (try simp at z7)
                              clear hg7
                              obtain ⟨A', c', rfl, _, hgen⟩ := own_gen hown7
                              have hI : IntsAt w7 A' (N + 1) (fun i => if i < N then M i else fu) := fun i hi => hgen i (by omega)
                              clear hgen hown7 hown6
                              have k0 : w7.cell? ⟨w.heap.size, 0, none⟩ = some (.slice A s.n c) := cell_blk B7.blks.2.2.2.1 0 _ rfl
                              have k1 : w7.cell? ⟨w.heap.size, 1, none⟩ = some (.int .i64 s.r) := cell_blk B7.blks.2.2.2.1 1 _ rfl
                              refine hK.out _ _ ⟨k0, k1⟩ (fun hHeld => ?_)
                              clear hK K
                              try go_frame
                              as_aux_lemma =>
                                refine wpAnyH_ready (rs := [7]) (by kernel_rfl) (by simp) ?_
                                refine AllReadyH.cons rfl (fun K hK => ?_) ?_
                                · go_simp
                                  refine (G.out _ (B7).below _ _ hI).mono ?_
                                  rintro en w8 ⟨rfl, h⟩
                                  have B8 := (B7).later h
                                  have z8 := h.size
                                  (try simp at z8)
                                  clear h hI
                                  (try simp only [World.size_alloc] at B8)
                                  have k0 : w8.cell? ⟨w.heap.size, 0, none⟩ = some (.slice A s.n c) := cell_blk B8.blks.2.2.2.1 0 _ rfl
                                  have k1 : w8.cell? ⟨w.heap.size, 1, none⟩ = some (.int .i64 s.r) := cell_blk B8.blks.2.2.2.1 1 _ rfl
                                  have R8 := B8.rules
                                  simp only [Rules] at R8
                                  refine hK.out _ _ ⟨k0, k1⟩ (fun hHeld => ?_)
                                  clear hK K
                                  try go_frame
                                  refine wpAnyH_take (i := 8) (v := .tuple #[.agg #[.int .i64 D.nx, .int .i64 D.rd, .int .i64 D.la, .bool D.ov], .int .i64 n', .int .i64 e']) rfl (by kernel_rfl) (by kernel_rfl) (by kernel_rfl) (fun _ _ _ h => h) (Or.inl ⟨by rfl, ?_⟩) (by assumption) ?_
                                  · intro W hSw
                                    (try dsimp only at hSw)
                                    first | (go_simp; done) | (go_simp; with_reducible rfl)
                                  try go_frame
                                  refine wpAnyH_take (i := 9) (v := .agg #[.int .i64 D.nx, .int .i64 D.rd, .int .i64 D.la, .bool D.ov]) rfl (by kernel_rfl) (by kernel_rfl) (by kernel_rfl) (fun _ _ _ h => h) (Or.inl ⟨by rfl, ?_⟩) (by assumption) ?_
                                  · intro W hSw
                                    (try dsimp only at hSw)
                                    first | (go_simp; done) | (go_simp; with_reducible rfl)
                                  try go_frame
                                  refine wpAnyH_take (i := 10) (v := .int .i64 n') rfl (by kernel_rfl) (by kernel_rfl) (by kernel_rfl) (fun _ _ _ h => h) (Or.inl ⟨by rfl, ?_⟩) (by assumption) ?_
                                  · intro W hSw
                                    (try dsimp only at hSw)
                                    first | (go_simp; done) | (go_simp; with_reducible rfl)
                                  try go_frame
                                  refine wpAnyH_take (i := 11) (v := .int .i64 e') rfl (by kernel_rfl) (by kernel_rfl) (by kernel_rfl) (fun _ _ _ h => h) (Or.inl ⟨by rfl, ?_⟩) (by assumption) ?_
                                  · intro W hSw
                                    (try dsimp only at hSw)
                                    first | (go_simp; done) | (go_simp; with_reducible rfl)
                                  try go_frame
                                  refine wpAnyH_ready (rs := [13]) (by kernel_rfl) (by simp) ?_
                                  refine AllReadyH.cons rfl (fun K hK => ?_) ?_
                                  · go_simp
                                    refine hK.out _ _ ⟨by first | (go_keep; done) | (simp [go_sem, *]; done), by first | (go_keep; done) | (simp [go_sem, *]; done)⟩ (fun hHeld => ?_)
                                    clear hK K
                                    try go_frame
                                    refine wpAnyH_ready (rs := [14]) (by kernel_rfl) (by simp) ?_
                                    refine AllReadyH.cons rfl (fun K hK => ?_) ?_
                                    · go_simp
                                      refine hK.out _ _ hHeld (fun hHeld => ?_)
                                      clear hK K
                                      try go_frame
                                      refine wpAnyH_ready (rs := [15]) (by kernel_rfl) (by simp) ?_
                                      refine AllReadyH.cons rfl (fun K hK => ?_) ?_
                                      · go_simp
                                        refine hK.out _ _ hHeld (fun hHeld => ?_)
                                        clear hK K
                                        try go_frame
                                        refine wpAnyH_done (by kernel_rfl) ?_ _
                                        go_wp2_with fail
                                        go_meet
                                        exact ⟨_, rfl, rfl, rfl, St.put4 B8 (by omega) (by simp only [NotIn]; exact ⟨by omega, by omega, by omega, trivial⟩) _ _ _ _⟩
                                      exact AllReadyH.nil
                                    exact AllReadyH.nil
                                  exact AllReadyH.nil
                                exact AllReadyH.nil
                            exact AllReadyH.nil
                        exact AllReadyH.nil
                      exact AllReadyH.nil
                    refine AllReadyH.cons rfl (fun K hK => ?_) ?_
                    · go_simp
                      refine hK.out _ _ ⟨(keep_dr (keep_al (keep_al k0))), (keep_dr (keep_al (keep_al k1)))⟩ (fun hHeld => ?_)
                      clear hK K
                      try go_frame
                      refine wpAnyH_ready (rs := [1]) (by kernel_rfl) (by simp) ?_
                      refine AllReadyH.cons rfl (fun K hK => ?_) ?_
                      · go_simp
                        refine hK.out _ _ ⟨(keep_dr (keep_al (keep_al (keep_al k0)))), (keep_dr (keep_al (keep_al (keep_al k1))))⟩ (fun hHeld => ?_)
                        clear hK K
                        try go_frame
                        refine wpAnyH_ready (rs := [3]) (by kernel_rfl) (by simp) ?_
                        refine AllReadyH.cons rfl (fun K hK => ?_) ?_
                        · refine step_grow (((St.bs (St.al (St.bs B _)) _)).drew) rfl (.tmp 138) (.tmp 139) rfl Try.underlying27 hi0 hz0 hz1 hz2 rfl (by decide) rfl (own_of_blk (blk_at _ _ _ (by simp)) (by omega) 1 (fun i => .int .i64 (M i))) (by simp [Other]) rfl (gen1 (hM.later (((St.bs (St.al (St.bs B _)) _)).drew).below)) (fun _ => rfl) (by simp only [maxLen]; omega) (by omega) (fun i => .int .i64 (M i)) (fun _ _ => rfl) (fun i _ => by rw [Nat.zero_add]) ?_
                          intro v1 w6 hown6 B6 hg6
                          simp only [Nat.zero_add, Nat.mul_one] at hown6
                          have z6 := hg6.size
                          (try simp at z6)
                          have k0 : w6.cell? ⟨w.heap.size, 0, none⟩ = some (.slice A s.n c) := cell_blk B6.blks.2.2.2.1 0 _ rfl
                          have k1 : w6.cell? ⟨w.heap.size, 1, none⟩ = some (.int .i64 s.r) := cell_blk B6.blks.2.2.2.1 1 _ rfl
                          have ob : One w6 (Y.heap.size) (.int .i64 fu) := (One.drew (One.alloc (One.alloc (One.fresh _ _ _ _ (by simp)) _) _)).grown hg6 (by first | omega | (simp; done) | (simp; omega))
                          clear hg6
                          refine hK.out _ _ ⟨k0, k1⟩ (fun hHeld => ?_)
                          clear hK K
                          try go_frame
                          as_aux_lemma =>
                            refine wpAnyH_ready (rs := [6]) (by kernel_rfl) (by simp) ?_
                            refine AllReadyH.cons rfl (fun K hK => ?_) ?_
                            · refine step_grow (B6) rfl (.tmp 140) (.tmp 142) rfl Try.underlying27 hi0 hz0 hz1 hz2 rfl (by decide) rfl hown6 (by simp [Other]) rfl (gen_of_one ob) (fun _ => rfl) (by simp only [maxLen]; omega) (by omega) (fun i => .int .i64 (if i < N then M i else fu)) (fun i hi => by simp [hi]) (fun i hi => by have e : i = 0 := (by omega); subst e; simp) ?_
                              intro v2 w7 hown7 B7 hg7
                              have z7 := hg7.size
                              (try simp at z7)
                              clear hg7
                              obtain ⟨A', c', rfl, _, hgen⟩ := own_gen hown7
                              have hI : IntsAt w7 A' (N + 1) (fun i => if i < N then M i else fu) := fun i hi => hgen i (by omega)
                              clear hgen hown7 hown6
                              have k0 : w7.cell? ⟨w.heap.size, 0, none⟩ = some (.slice A s.n c) := cell_blk B7.blks.2.2.2.1 0 _ rfl
                              have k1 : w7.cell? ⟨w.heap.size, 1, none⟩ = some (.int .i64 s.r) := cell_blk B7.blks.2.2.2.1 1 _ rfl
                              refine hK.out _ _ ⟨k0, k1⟩ (fun hHeld => ?_)
                              clear hK K
                              try go_frame
                              as_aux_lemma =>
                                refine wpAnyH_ready (rs := [7]) (by kernel_rfl) (by simp) ?_
                                refine AllReadyH.cons rfl (fun K hK => ?_) ?_
                                · go_simp
                                  refine (G.out _ (B7).below _ _ hI).mono ?_
                                  rintro en w8 ⟨rfl, h⟩
                                  have B8 := (B7).later h
                                  have z8 := h.size
                                  (try simp at z8)
                                  clear h hI
                                  (try simp only [World.size_alloc] at B8)
                                  have k0 : w8.cell? ⟨w.heap.size, 0, none⟩ = some (.slice A s.n c) := cell_blk B8.blks.2.2.2.1 0 _ rfl
                                  have k1 : w8.cell? ⟨w.heap.size, 1, none⟩ = some (.int .i64 s.r) := cell_blk B8.blks.2.2.2.1 1 _ rfl
                                  have R8 := B8.rules
                                  simp only [Rules] at R8
                                  refine hK.out _ _ ⟨k0, k1⟩ (fun hHeld => ?_)
                                  clear hK K
                                  try go_frame
                                  refine wpAnyH_take (i := 8) (v := .tuple #[.agg #[.int .i64 D.nx, .int .i64 D.rd, .int .i64 D.la, .bool D.ov], .int .i64 n', .int .i64 e']) rfl (by kernel_rfl) (by kernel_rfl) (by kernel_rfl) (fun _ _ _ h => h) (Or.inl ⟨by rfl, ?_⟩) (by assumption) ?_
                                  · intro W hSw
                                    (try dsimp only at hSw)
                                    first | (go_simp; done) | (go_simp; with_reducible rfl)
                                  try go_frame
                                  refine wpAnyH_take (i := 9) (v := .agg #[.int .i64 D.nx, .int .i64 D.rd, .int .i64 D.la, .bool D.ov]) rfl (by kernel_rfl) (by kernel_rfl) (by kernel_rfl) (fun _ _ _ h => h) (Or.inl ⟨by rfl, ?_⟩) (by assumption) ?_
                                  · intro W hSw
                                    (try dsimp only at hSw)
                                    first | (go_simp; done) | (go_simp; with_reducible rfl)
                                  try go_frame
                                  refine wpAnyH_take (i := 10) (v := .int .i64 n') rfl (by kernel_rfl) (by kernel_rfl) (by kernel_rfl) (fun _ _ _ h => h) (Or.inl ⟨by rfl, ?_⟩) (by assumption) ?_
                                  · intro W hSw
                                    (try dsimp only at hSw)
                                    first | (go_simp; done) | (go_simp; with_reducible rfl)
                                  try go_frame
                                  refine wpAnyH_take (i := 11) (v := .int .i64 e') rfl (by kernel_rfl) (by kernel_rfl) (by kernel_rfl) (fun _ _ _ h => h) (Or.inl ⟨by rfl, ?_⟩) (by assumption) ?_
                                  · intro W hSw
                                    (try dsimp only at hSw)
                                    first | (go_simp; done) | (go_simp; with_reducible rfl)
                                  try go_frame
                                  refine wpAnyH_ready (rs := [13]) (by kernel_rfl) (by simp) ?_
                                  refine AllReadyH.cons rfl (fun K hK => ?_) ?_
                                  · go_simp
                                    refine hK.out _ _ ⟨by first | (go_keep; done) | (simp [go_sem, *]; done), by first | (go_keep; done) | (simp [go_sem, *]; done)⟩ (fun hHeld => ?_)
                                    clear hK K
                                    try go_frame
                                    refine wpAnyH_ready (rs := [14]) (by kernel_rfl) (by simp) ?_
                                    refine AllReadyH.cons rfl (fun K hK => ?_) ?_
                                    · go_simp
                                      refine hK.out _ _ hHeld (fun hHeld => ?_)
                                      clear hK K
                                      try go_frame
                                      refine wpAnyH_ready (rs := [15]) (by kernel_rfl) (by simp) ?_
                                      refine AllReadyH.cons rfl (fun K hK => ?_) ?_
                                      · go_simp
                                        refine hK.out _ _ hHeld (fun hHeld => ?_)
                                        clear hK K
                                        try go_frame
                                        refine wpAnyH_done (by kernel_rfl) ?_ _
                                        go_wp2_with fail
                                        go_meet
                                        exact ⟨_, rfl, rfl, rfl, St.put4 B8 (by omega) (by simp only [NotIn]; exact ⟨by omega, by omega, by omega, trivial⟩) _ _ _ _⟩
                                      exact AllReadyH.nil
                                    exact AllReadyH.nil
                                  exact AllReadyH.nil
                                exact AllReadyH.nil
                            exact AllReadyH.nil
                        exact AllReadyH.nil
                      exact AllReadyH.nil
                    exact AllReadyH.nil
                  refine AllReadyH.cons rfl (fun K hK => ?_) ?_
                  · go_simp
                    refine hK.out _ _ ⟨(keep_dr (keep_al k0)), (keep_dr (keep_al k1))⟩ (fun hHeld => ?_)
                    clear hK K
                    try go_frame
                    refine wpAnyH_ready (rs := [1, 5]) (by kernel_rfl) (by simp) ?_
                    refine AllReadyH.cons rfl (fun K hK => ?_) ?_
                    · go_simp
                      refine hK.out _ _ ⟨(keep_dr (keep_al (keep_al k0))), (keep_dr (keep_al (keep_al k1)))⟩ (fun hHeld => ?_)
                      clear hK K
                      try go_frame
                      refine wpAnyH_ready (rs := [3, 5]) (by kernel_rfl) (by simp) ?_
                      refine AllReadyH.cons rfl (fun K hK => ?_) ?_
                      · refine step_grow (((St.bs (St.al B) _)).drew) rfl (.tmp 138) (.tmp 139) rfl Try.underlying27 hi0 hz0 hz1 hz2 rfl (by decide) rfl (own_of_blk (blk_at _ _ _ (by simp)) (by omega) 1 (fun i => .int .i64 (M i))) (by simp [Other]) rfl (gen1 (hM.later (((St.bs (St.al B) _)).drew).below)) (fun _ => rfl) (by simp only [maxLen]; omega) (by omega) (fun i => .int .i64 (M i)) (fun _ _ => rfl) (fun i _ => by rw [Nat.zero_add]) ?_
                        intro v1 w6 hown6 B6 hg6
                        simp only [Nat.zero_add, Nat.mul_one] at hown6
                        have z6 := hg6.size
                        (try simp at z6)
                        have k0 : w6.cell? ⟨w.heap.size, 0, none⟩ = some (.slice A s.n c) := cell_blk B6.blks.2.2.2.1 0 _ rfl
                        have k1 : w6.cell? ⟨w.heap.size, 1, none⟩ = some (.int .i64 s.r) := cell_blk B6.blks.2.2.2.1 1 _ rfl
                        clear hg6
                        refine hK.out _ _ ⟨k0, k1⟩ (fun hHeld => ?_)
                        clear hK K
                        try go_frame
                        as_aux_lemma =>
                          refine wpAnyH_ready (rs := [5]) (by kernel_rfl) (by simp) ?_
                          refine AllReadyH.cons rfl (fun K hK => ?_) ?_
                          · go_simp
                            refine hK.out _ _ ⟨(keep_al k0), (keep_al k1)⟩ (fun hHeld => ?_)
                            clear hK K
                            try go_frame
                            refine wpAnyH_ready (rs := [6]) (by kernel_rfl) (by simp) ?_
                            refine AllReadyH.cons rfl (fun K hK => ?_) ?_
                            · refine step_grow ((St.bs B6 _)) rfl (.tmp 140) (.tmp 142) rfl Try.underlying27 hi0 hz0 hz1 hz2 rfl (by decide) rfl (hown6.alloc _) (by simp [Other]) rfl (gen_of_one (One.fresh _ _ _ _ (by simp))) (fun _ => rfl) (by simp only [maxLen]; omega) (by omega) (fun i => .int .i64 (if i < N then M i else fu)) (fun i hi => by simp [hi]) (fun i hi => by have e : i = 0 := (by omega); subst e; simp) ?_
                              intro v2 w7 hown7 B7 hg7
                              have z7 := hg7.size
                              (try simp at z7)
                              clear hg7
                              obtain ⟨A', c', rfl, _, hgen⟩ := own_gen hown7
                              have hI : IntsAt w7 A' (N + 1) (fun i => if i < N then M i else fu) := fun i hi => hgen i (by omega)
                              clear hgen hown7 hown6
                              have k0 : w7.cell? ⟨w.heap.size, 0, none⟩ = some (.slice A s.n c) := cell_blk B7.blks.2.2.2.1 0 _ rfl
                              have k1 : w7.cell? ⟨w.heap.size, 1, none⟩ = some (.int .i64 s.r) := cell_blk B7.blks.2.2.2.1 1 _ rfl
                              refine hK.out _ _ ⟨k0, k1⟩ (fun hHeld => ?_)
                              clear hK K
                              try go_frame
                              as_aux_lemma =>
                                refine wpAnyH_ready (rs := [7]) (by kernel_rfl) (by simp) ?_
                                refine AllReadyH.cons rfl (fun K hK => ?_) ?_
                                · go_simp
                                  refine (G.out _ (B7).below _ _ hI).mono ?_
                                  rintro en w8 ⟨rfl, h⟩
                                  have B8 := (B7).later h
                                  have z8 := h.size
                                  (try simp at z8)
                                  clear h hI
                                  (try simp only [World.size_alloc] at B8)
                                  have k0 : w8.cell? ⟨w.heap.size, 0, none⟩ = some (.slice A s.n c) := cell_blk B8.blks.2.2.2.1 0 _ rfl
                                  have k1 : w8.cell? ⟨w.heap.size, 1, none⟩ = some (.int .i64 s.r) := cell_blk B8.blks.2.2.2.1 1 _ rfl
                                  have R8 := B8.rules
                                  simp only [Rules] at R8
                                  refine hK.out _ _ ⟨k0, k1⟩ (fun hHeld => ?_)
                                  clear hK K
                                  try go_frame
                                  refine wpAnyH_take (i := 8) (v := .tuple #[.agg #[.int .i64 D.nx, .int .i64 D.rd, .int .i64 D.la, .bool D.ov], .int .i64 n', .int .i64 e']) rfl (by kernel_rfl) (by kernel_rfl) (by kernel_rfl) (fun _ _ _ h => h) (Or.inl ⟨by rfl, ?_⟩) (by assumption) ?_
                                  · intro W hSw
                                    (try dsimp only at hSw)
                                    first | (go_simp; done) | (go_simp; with_reducible rfl)
                                  try go_frame
                                  refine wpAnyH_take (i := 9) (v := .agg #[.int .i64 D.nx, .int .i64 D.rd, .int .i64 D.la, .bool D.ov]) rfl (by kernel_rfl) (by kernel_rfl) (by kernel_rfl) (fun _ _ _ h => h) (Or.inl ⟨by rfl, ?_⟩) (by assumption) ?_
                                  · intro W hSw
                                    (try dsimp only at hSw)
                                    first | (go_simp; done) | (go_simp; with_reducible rfl)
                                  try go_frame
                                  refine wpAnyH_take (i := 10) (v := .int .i64 n') rfl (by kernel_rfl) (by kernel_rfl) (by kernel_rfl) (fun _ _ _ h => h) (Or.inl ⟨by rfl, ?_⟩) (by assumption) ?_
                                  · intro W hSw
                                    (try dsimp only at hSw)
                                    first | (go_simp; done) | (go_simp; with_reducible rfl)
                                  try go_frame
                                  refine wpAnyH_take (i := 11) (v := .int .i64 e') rfl (by kernel_rfl) (by kernel_rfl) (by kernel_rfl) (fun _ _ _ h => h) (Or.inl ⟨by rfl, ?_⟩) (by assumption) ?_
                                  · intro W hSw
                                    (try dsimp only at hSw)
                                    first | (go_simp; done) | (go_simp; with_reducible rfl)
                                  try go_frame
                                  refine wpAnyH_ready (rs := [13]) (by kernel_rfl) (by simp) ?_
                                  refine AllReadyH.cons rfl (fun K hK => ?_) ?_
                                  · go_simp
                                    refine hK.out _ _ ⟨by first | (go_keep; done) | (simp [go_sem, *]; done), by first | (go_keep; done) | (simp [go_sem, *]; done)⟩ (fun hHeld => ?_)
                                    clear hK K
                                    try go_frame
                                    refine wpAnyH_ready (rs := [14]) (by kernel_rfl) (by simp) ?_
                                    refine AllReadyH.cons rfl (fun K hK => ?_) ?_
                                    · go_simp
                                      refine hK.out _ _ hHeld (fun hHeld => ?_)
                                      clear hK K
                                      try go_frame
                                      refine wpAnyH_ready (rs := [15]) (by kernel_rfl) (by simp) ?_
                                      refine AllReadyH.cons rfl (fun K hK => ?_) ?_
                                      · go_simp
                                        refine hK.out _ _ hHeld (fun hHeld => ?_)
                                        clear hK K
                                        try go_frame
                                        refine wpAnyH_done (by kernel_rfl) ?_ _
                                        go_wp2_with fail
                                        go_meet
                                        exact ⟨_, rfl, rfl, rfl, St.put4 B8 (by omega) (by simp only [NotIn]; exact ⟨by omega, by omega, by omega, trivial⟩) _ _ _ _⟩
                                      exact AllReadyH.nil
                                    exact AllReadyH.nil
                                  exact AllReadyH.nil
                                exact AllReadyH.nil
                            exact AllReadyH.nil
                          exact AllReadyH.nil
                      refine AllReadyH.cons rfl (fun K hK => ?_) ?_
                      · go_simp
                        refine hK.out _ _ ⟨(keep_dr (keep_al (keep_al (keep_al k0)))), (keep_dr (keep_al (keep_al (keep_al k1))))⟩ (fun hHeld => ?_)
                        clear hK K
                        try go_frame
                        refine wpAnyH_ready (rs := [3]) (by kernel_rfl) (by simp) ?_
                        refine AllReadyH.cons rfl (fun K hK => ?_) ?_
                        · refine step_grow (((St.bs (St.bs (St.al B) _) _)).drew) rfl (.tmp 138) (.tmp 139) rfl Try.underlying27 hi0 hz0 hz1 hz2 rfl (by decide) rfl (own_of_blk (blk_old (blk_at _ _ _ (by simp)) _) (by omega) 1 (fun i => .int .i64 (M i))) (by simp [Other]) rfl (gen1 (hM.later (((St.bs (St.bs (St.al B) _) _)).drew).below)) (fun _ => rfl) (by simp only [maxLen]; omega) (by omega) (fun i => .int .i64 (M i)) (fun _ _ => rfl) (fun i _ => by rw [Nat.zero_add]) ?_
                          intro v1 w6 hown6 B6 hg6
                          simp only [Nat.zero_add, Nat.mul_one] at hown6
                          have z6 := hg6.size
                          (try simp at z6)
                          have k0 : w6.cell? ⟨w.heap.size, 0, none⟩ = some (.slice A s.n c) := cell_blk B6.blks.2.2.2.1 0 _ rfl
                          have k1 : w6.cell? ⟨w.heap.size, 1, none⟩ = some (.int .i64 s.r) := cell_blk B6.blks.2.2.2.1 1 _ rfl
                          have ob : One w6 (Y.heap.size + 2) (.int .i64 fu) := (One.drew (One.fresh _ _ _ _ (by simp))).grown hg6 (by first | omega | (simp; done) | (simp; omega))
                          clear hg6
                          refine hK.out _ _ ⟨k0, k1⟩ (fun hHeld => ?_)
                          clear hK K
                          try go_frame
                          as_aux_lemma =>
                            refine wpAnyH_ready (rs := [6]) (by kernel_rfl) (by simp) ?_
                            refine AllReadyH.cons rfl (fun K hK => ?_) ?_
                            · refine step_grow (B6) rfl (.tmp 140) (.tmp 142) rfl Try.underlying27 hi0 hz0 hz1 hz2 rfl (by decide) rfl hown6 (by simp [Other]) rfl (gen_of_one ob) (fun _ => rfl) (by simp only [maxLen]; omega) (by omega) (fun i => .int .i64 (if i < N then M i else fu)) (fun i hi => by simp [hi]) (fun i hi => by have e : i = 0 := (by omega); subst e; simp) ?_
                              intro v2 w7 hown7 B7 hg7
                              have z7 := hg7.size
                              (try simp at z7)
                              clear hg7
                              obtain ⟨A', c', rfl, _, hgen⟩ := own_gen hown7
                              have hI : IntsAt w7 A' (N + 1) (fun i => if i < N then M i else fu) := fun i hi => hgen i (by omega)
                              clear hgen hown7 hown6
                              have k0 : w7.cell? ⟨w.heap.size, 0, none⟩ = some (.slice A s.n c) := cell_blk B7.blks.2.2.2.1 0 _ rfl
                              have k1 : w7.cell? ⟨w.heap.size, 1, none⟩ = some (.int .i64 s.r) := cell_blk B7.blks.2.2.2.1 1 _ rfl
                              refine hK.out _ _ ⟨k0, k1⟩ (fun hHeld => ?_)
                              clear hK K
                              try go_frame
                              as_aux_lemma =>
                                refine wpAnyH_ready (rs := [7]) (by kernel_rfl) (by simp) ?_
                                refine AllReadyH.cons rfl (fun K hK => ?_) ?_
                                · go_simp
                                  refine (G.out _ (B7).below _ _ hI).mono ?_
                                  rintro en w8 ⟨rfl, h⟩
                                  have B8 := (B7).later h
                                  have z8 := h.size
                                  (try simp at z8)
                                  clear h hI
                                  (try simp only [World.size_alloc] at B8)
                                  have k0 : w8.cell? ⟨w.heap.size, 0, none⟩ = some (.slice A s.n c) := cell_blk B8.blks.2.2.2.1 0 _ rfl
                                  have k1 : w8.cell? ⟨w.heap.size, 1, none⟩ = some (.int .i64 s.r) := cell_blk B8.blks.2.2.2.1 1 _ rfl
                                  have R8 := B8.rules
                                  simp only [Rules] at R8
                                  refine hK.out _ _ ⟨k0, k1⟩ (fun hHeld => ?_)
                                  clear hK K
                                  try go_frame
                                  refine wpAnyH_take (i := 8) (v := .tuple #[.agg #[.int .i64 D.nx, .int .i64 D.rd, .int .i64 D.la, .bool D.ov], .int .i64 n', .int .i64 e']) rfl (by kernel_rfl) (by kernel_rfl) (by kernel_rfl) (fun _ _ _ h => h) (Or.inl ⟨by rfl, ?_⟩) (by assumption) ?_
                                  · intro W hSw
                                    (try dsimp only at hSw)
                                    first | (go_simp; done) | (go_simp; with_reducible rfl)
                                  try go_frame
                                  refine wpAnyH_take (i := 9) (v := .agg #[.int .i64 D.nx, .int .i64 D.rd, .int .i64 D.la, .bool D.ov]) rfl (by kernel_rfl) (by kernel_rfl) (by kernel_rfl) (fun _ _ _ h => h) (Or.inl ⟨by rfl, ?_⟩) (by assumption) ?_
                                  · intro W hSw
                                    (try dsimp only at hSw)
                                    first | (go_simp; done) | (go_simp; with_reducible rfl)
                                  try go_frame
                                  refine wpAnyH_take (i := 10) (v := .int .i64 n') rfl (by kernel_rfl) (by kernel_rfl) (by kernel_rfl) (fun _ _ _ h => h) (Or.inl ⟨by rfl, ?_⟩) (by assumption) ?_
                                  · intro W hSw
                                    (try dsimp only at hSw)
                                    first | (go_simp; done) | (go_simp; with_reducible rfl)
                                  try go_frame
                                  refine wpAnyH_take (i := 11) (v := .int .i64 e') rfl (by kernel_rfl) (by kernel_rfl) (by kernel_rfl) (fun _ _ _ h => h) (Or.inl ⟨by rfl, ?_⟩) (by assumption) ?_
                                  · intro W hSw
                                    (try dsimp only at hSw)
                                    first | (go_simp; done) | (go_simp; with_reducible rfl)
                                  try go_frame
                                  refine wpAnyH_ready (rs := [13]) (by kernel_rfl) (by simp) ?_
                                  refine AllReadyH.cons rfl (fun K hK => ?_) ?_
                                  · go_simp
                                    refine hK.out _ _ ⟨by first | (go_keep; done) | (simp [go_sem, *]; done), by first | (go_keep; done) | (simp [go_sem, *]; done)⟩ (fun hHeld => ?_)
                                    clear hK K
                                    try go_frame
                                    refine wpAnyH_ready (rs := [14]) (by kernel_rfl) (by simp) ?_
                                    refine AllReadyH.cons rfl (fun K hK => ?_) ?_
                                    · go_simp
                                      refine hK.out _ _ hHeld (fun hHeld => ?_)
                                      clear hK K
                                      try go_frame
                                      refine wpAnyH_ready (rs := [15]) (by kernel_rfl) (by simp) ?_
                                      refine AllReadyH.cons rfl (fun K hK => ?_) ?_
                                      · go_simp
                                        refine hK.out _ _ hHeld (fun hHeld => ?_)
                                        clear hK K
                                        try go_frame
                                        refine wpAnyH_done (by kernel_rfl) ?_ _
                                        go_wp2_with fail
                                        go_meet
                                        exact ⟨_, rfl, rfl, rfl, St.put4 B8 (by omega) (by simp only [NotIn]; exact ⟨by omega, by omega, by omega, trivial⟩) _ _ _ _⟩
                                      exact AllReadyH.nil
                                    exact AllReadyH.nil
                                  exact AllReadyH.nil
                                exact AllReadyH.nil
                            exact AllReadyH.nil
                        exact AllReadyH.nil
                      exact AllReadyH.nil
                    refine AllReadyH.cons rfl (fun K hK => ?_) ?_
                    · go_simp
                      refine hK.out _ _ ⟨(keep_dr (keep_al (keep_al k0))), (keep_dr (keep_al (keep_al k1)))⟩ (fun hHeld => ?_)
                      clear hK K
                      try go_frame
                      refine wpAnyH_ready (rs := [1]) (by kernel_rfl) (by simp) ?_
                      refine AllReadyH.cons rfl (fun K hK => ?_) ?_
                      · go_simp
                        refine hK.out _ _ ⟨(keep_dr (keep_al (keep_al (keep_al k0)))), (keep_dr (keep_al (keep_al (keep_al k1))))⟩ (fun hHeld => ?_)
                        clear hK K
                        try go_frame
                        refine wpAnyH_ready (rs := [3]) (by kernel_rfl) (by simp) ?_
                        refine AllReadyH.cons rfl (fun K hK => ?_) ?_
                        · refine step_grow (((St.bs (St.bs (St.al B) _) _)).drew) rfl (.tmp 138) (.tmp 139) rfl Try.underlying27 hi0 hz0 hz1 hz2 rfl (by decide) rfl (own_of_blk (blk_at _ _ _ (by simp)) (by omega) 1 (fun i => .int .i64 (M i))) (by simp [Other]) rfl (gen1 (hM.later (((St.bs (St.bs (St.al B) _) _)).drew).below)) (fun _ => rfl) (by simp only [maxLen]; omega) (by omega) (fun i => .int .i64 (M i)) (fun _ _ => rfl) (fun i _ => by rw [Nat.zero_add]) ?_
                          intro v1 w6 hown6 B6 hg6
                          simp only [Nat.zero_add, Nat.mul_one] at hown6
                          have z6 := hg6.size
                          (try simp at z6)
                          have k0 : w6.cell? ⟨w.heap.size, 0, none⟩ = some (.slice A s.n c) := cell_blk B6.blks.2.2.2.1 0 _ rfl
                          have k1 : w6.cell? ⟨w.heap.size, 1, none⟩ = some (.int .i64 s.r) := cell_blk B6.blks.2.2.2.1 1 _ rfl
                          have ob : One w6 (Y.heap.size + 1) (.int .i64 fu) := (One.drew (One.alloc (One.fresh _ _ _ _ (by simp)) _)).grown hg6 (by first | omega | (simp; done) | (simp; omega))
                          clear hg6
                          refine hK.out _ _ ⟨k0, k1⟩ (fun hHeld => ?_)
                          clear hK K
                          try go_frame
                          as_aux_lemma =>
                            refine wpAnyH_ready (rs := [6]) (by kernel_rfl) (by simp) ?_
                            refine AllReadyH.cons rfl (fun K hK => ?_) ?_
                            · refine step_grow (B6) rfl (.tmp 140) (.tmp 142) rfl Try.underlying27 hi0 hz0 hz1 hz2 rfl (by decide) rfl hown6 (by simp [Other]) rfl (gen_of_one ob) (fun _ => rfl) (by simp only [maxLen]; omega) (by omega) (fun i => .int .i64 (if i < N then M i else fu)) (fun i hi => by simp [hi]) (fun i hi => by have e : i = 0 := (by omega); subst e; simp) ?_
                              intro v2 w7 hown7 B7 hg7
                              have z7 := hg7.size
                              (try simp at z7)
                              clear hg7
                              obtain ⟨A', c', rfl, _, hgen⟩ := own_gen hown7
                              have hI : IntsAt w7 A' (N + 1) (fun i => if i < N then M i else fu) := fun i hi => hgen i (by omega)
                              clear hgen hown7 hown6
                              have k0 : w7.cell? ⟨w.heap.size, 0, none⟩ = some (.slice A s.n c) := cell_blk B7.blks.2.2.2.1 0 _ rfl
                              have k1 : w7.cell? ⟨w.heap.size, 1, none⟩ = some (.int .i64 s.r) := cell_blk B7.blks.2.2.2.1 1 _ rfl
                              refine hK.out _ _ ⟨k0, k1⟩ (fun hHeld => ?_)
                              clear hK K
                              try go_frame
                              as_aux_lemma =>
                                refine wpAnyH_ready (rs := [7]) (by kernel_rfl) (by simp) ?_
                                refine AllReadyH.cons rfl (fun K hK => ?_) ?_
                                · go_simp
                                  refine (G.out _ (B7).below _ _ hI).mono ?_
                                  rintro en w8 ⟨rfl, h⟩
                                  have B8 := (B7).later h
                                  have z8 := h.size
                                  (try simp at z8)
                                  clear h hI
                                  (try simp only [World.size_alloc] at B8)
                                  have k0 : w8.cell? ⟨w.heap.size, 0, none⟩ = some (.slice A s.n c) := cell_blk B8.blks.2.2.2.1 0 _ rfl
                                  have k1 : w8.cell? ⟨w.heap.size, 1, none⟩ = some (.int .i64 s.r) := cell_blk B8.blks.2.2.2.1 1 _ rfl
                                  have R8 := B8.rules
                                  simp only [Rules] at R8
                                  refine hK.out _ _ ⟨k0, k1⟩ (fun hHeld => ?_)
                                  clear hK K
                                  try go_frame
                                  refine wpAnyH_take (i := 8) (v := .tuple #[.agg #[.int .i64 D.nx, .int .i64 D.rd, .int .i64 D.la, .bool D.ov], .int .i64 n', .int .i64 e']) rfl (by kernel_rfl) (by kernel_rfl) (by kernel_rfl) (fun _ _ _ h => h) (Or.inl ⟨by rfl, ?_⟩) (by assumption) ?_
                                  · intro W hSw
                                    (try dsimp only at hSw)
                                    first | (go_simp; done) | (go_simp; with_reducible rfl)
                                  try go_frame
                                  refine wpAnyH_take (i := 9) (v := .agg #[.int .i64 D.nx, .int .i64 D.rd, .int .i64 D.la, .bool D.ov]) rfl (by kernel_rfl) (by kernel_rfl) (by kernel_rfl) (fun _ _ _ h => h) (Or.inl ⟨by rfl, ?_⟩) (by assumption) ?_
                                  · intro W hSw
                                    (try dsimp only at hSw)
                                    first | (go_simp; done) | (go_simp; with_reducible rfl)
                                  try go_frame
                                  refine wpAnyH_take (i := 10) (v := .int .i64 n') rfl (by kernel_rfl) (by kernel_rfl) (by kernel_rfl) (fun _ _ _ h => h) (Or.inl ⟨by rfl, ?_⟩) (by assumption) ?_
                                  · intro W hSw
                                    (try dsimp only at hSw)
                                    first | (go_simp; done) | (go_simp; with_reducible rfl)
                                  try go_frame
                                  refine wpAnyH_take (i := 11) (v := .int .i64 e') rfl (by kernel_rfl) (by kernel_rfl) (by kernel_rfl) (fun _ _ _ h => h) (Or.inl ⟨by rfl, ?_⟩) (by assumption) ?_
                                  · intro W hSw
                                    (try dsimp only at hSw)
                                    first | (go_simp; done) | (go_simp; with_reducible rfl)
                                  try go_frame
                                  refine wpAnyH_ready (rs := [13]) (by kernel_rfl) (by simp) ?_
                                  refine AllReadyH.cons rfl (fun K hK => ?_) ?_
                                  · go_simp
                                    refine hK.out _ _ ⟨by first | (go_keep; done) | (simp [go_sem, *]; done), by first | (go_keep; done) | (simp [go_sem, *]; done)⟩ (fun hHeld => ?_)
                                    clear hK K
                                    try go_frame
                                    refine wpAnyH_ready (rs := [14]) (by kernel_rfl) (by simp) ?_
                                    refine AllReadyH.cons rfl (fun K hK => ?_) ?_
                                    · go_simp
                                      refine hK.out _ _ hHeld (fun hHeld => ?_)
                                      clear hK K
                                      try go_frame
                                      refine wpAnyH_ready (rs := [15]) (by kernel_rfl) (by simp) ?_
                                      refine AllReadyH.cons rfl (fun K hK => ?_) ?_
                                      · go_simp
                                        refine hK.out _ _ hHeld (fun hHeld => ?_)
                                        clear hK K
                                        try go_frame
                                        refine wpAnyH_done (by kernel_rfl) ?_ _
                                        go_wp2_with fail
                                        go_meet
                                        exact ⟨_, rfl, rfl, rfl, St.put4 B8 (by omega) (by simp only [NotIn]; exact ⟨by omega, by omega, by omega, trivial⟩) _ _ _ _⟩
                                      exact AllReadyH.nil
                                    exact AllReadyH.nil
                                  exact AllReadyH.nil
                                exact AllReadyH.nil
                            exact AllReadyH.nil
                        exact AllReadyH.nil
                      exact AllReadyH.nil
                    exact AllReadyH.nil
                  exact AllReadyH.nil
              case rest =>
                clear R B
                obtain ⟨yy, rfl, rfl, rfl, B⟩ := hcut
                have R := B.rules
                simp only [Rules, crsC] at R
                rcases HC.out with ⟨rfl, rfl⟩ | ⟨he, rfl⟩
                · clear HC
                  go_wp2
                  go_ret
                  exact ⟨ret_bool (by first | rfl | simp), B.below⟩
                · have he1 : (e' != 0) = true := by simpa using he
                  clear HC
                  go_wp2
                  go_ret
                  exact ⟨ret_bool (by first | rfl | simp), B.below⟩

set_option maxRecDepth 100000 in
theorem cadenceReplays_lifted (os : Os) (started : os.Started) (H : Type) (enc : TypeId × Value → H) :
    ReturnsInHanded {} Try.checked os 6 .any (Rows.cadenceReplaysSpec.pre6 enc Try.prog Try.f6 Rows.cadenceReplaysRow.domain false) (Rows.cadenceReplaysSpec.post enc Try.prog Try.f6 false true false false) := by
  refine returnsInHanded_of_change (C := Try.checked) own started (by kernel_rfl) Try.func6
    (ChangeSpec.witness6 (enc := enc) (C := Try.checked) false ⟨#[], #[.agg #[.slice none 0 0, .int .i64 0], .slice none 0 0, .int .i64 0, .int .u8 0], []⟩ 8 (by kernel_rfl) (by kernel_rfl) (by kernel_rfl) (by kernel_rfl)) ?_
  intro W base args ds gs before hval0 hW _ _
  have hval : ∀ (j : Nat) t v, Try.f6.params[j]? = some t → args[j]? = some v → Value.okWide Try.prog W .any base t v := hval0
  have hW' := hW
  obtain ⟨p, q, hA0, hV, _, _, _⟩ := hW
  have hA : DataW.TrodAll enc Try.prog W 0 (fun _ => true) true Try.f6.params.toList args.toList ds p := hA0
  rw [Try.params6] at hA hval
  obtain ⟨v0, vs0, d0, ds0, p0, q0, hargs, rfl, _, h0, r0⟩ := trodAll_cons hA
  obtain ⟨v1, vs1, d1, ds1, p1, q1, rfl, rfl, rfl, h1, r1⟩ := trodAll_cons r0
  obtain ⟨v2, vs2, d2, ds2, p2, q2, rfl, rfl, rfl, h2, r2⟩ := trodAll_cons r1
  obtain ⟨v3, vs3, d3, ds3, p3, q3, rfl, rfl, rfl, h3, r3⟩ := trodAll_cons r2
  obtain ⟨rfl, rfl, rfl⟩ := trodAll_nil r3
  obtain rfl : args = #[v0, v1, v2, v3] := by cases args; simp_all
  obtain ⟨rfl, rfl⟩ := trodVars_none hV
  obtain ⟨A, c, s, hsA, hsn, hsc, rfl⟩ := open24 (hval 0 24 v0 rfl rfl) h0
  obtain ⟨MA, N, mc, M, hM, hN, hmc, rfl⟩ := open27 (hval 1 27 v1 rfl rfl) h1
  obtain ⟨fu, rfl⟩ := open3 (hval 2 3 v2 rfl rfl) h2
  obtain ⟨ra, ra0, ra1, rfl⟩ := open5 (hval 3 5 v3 rfl rfl) h3
  exact law_post (f := 6) laidOut (by kernel_rfl) rfl Try.underlying4 rfl hW' rfl (replays_walk W A c s hsA hsn hsc MA N mc M hM hN hmc fu ra ra0 ra1)

/-- The statement. -/
theorem cadenceReplays_holds : Rows.CadenceReplaysSaid :=
  OpenClaim.holds_of_wide 6 Try.f6 rfl rfl rfl rfl rfl rfl rfl ⟨rfl, rfl, rfl, rfl, rfl⟩ rfl rfl rfl rfl rfl (by kernel_rfl) Try.func6 (by kernel_rfl)
    (of_decide_eq_true (by kernel_rfl)) (by unfold Func.isWrapper; rw [if_neg (of_decide_eq_false (by kernel_rfl))]; exact ⟨rfl, rfl⟩)
    (fun os started H enc _ => cadenceReplays_lifted os started H enc)

#print axioms cadenceReplays_holds

end Go.Proofs.Ytmplcceoepkppaa
