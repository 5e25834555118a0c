/-
  repair.Suffix: the region that makes the result. No conditions but those in each statement.
-/
import Derived.Test.YtbkipanlicgooaaGreatDoorLd
namespace Go.Proofs.YtbkipanlicgooaaGreatDoor
open Go.RowKit

theorem drew_size (w : World) : w.drew.heap.size = w.heap.size := rfl
theorem below_al (W : World) (o : Obj) : Below W.heap.size W (W.alloc o) := (Below.refl _ _).alloc (Nat.le_refl _) o
theorem keep_dr {W : World} {p : Addr} {v : Value} (h : W.cell? p = some v) : W.drew.cell? p = some v := h
theorem keep_al {W : World} {o : Obj} {p : Addr} {v : Value} (h : W.cell? p = some v) : (W.alloc o).cell? p = some v := (World.cell?_alloc_some W p o (by rw [h]; rfl)).trans h
theorem keep_st {W : World} {b i : Nat} {u : Value} {p : Addr} {v : Value} (hn : p.block ≠ b) (h : W.cell? p = some v) : (W.setCell ⟨b, i, none⟩ u).cell? p = some v := (World.cell?_setCell_far W _ p u (Ne.symm hn)).trans h
theorem keep_st7 {W : World} {b : Nat} {v0 v1 v2 v3 v4 v5 v6 : Value} {p : Addr} {v : Value} (hn : p.block ≠ b) (h : W.cell? p = some v) : (((((((W.setCell ⟨b, 0, none⟩ v0).setCell ⟨b, 1, none⟩ v1).setCell ⟨b, 2, none⟩ v2).setCell ⟨b, 3, none⟩ v3).setCell ⟨b, 4, none⟩ v4).setCell ⟨b, 5, none⟩ v5).setCell ⟨b, 6, none⟩ v6).cell? p = some v :=
  keep_st hn (keep_st hn (keep_st hn (keep_st hn (keep_st hn (keep_st hn (keep_st hn h))))))
/-- The cells that the region reads. -/
theorem cells_of {d : Scr} {A1 A2 A3 A4 A5 : Option Addr} {c1 c2 c3 c4 c5 : Nat} {at_ : Int} {w W : World} {rc zc : Array Value} (hrc : rc[4]? = some (.int .i64 at_)) (B : St w W [(w.heap.size, #[.int .i64 d.f, .int .i64 d.u, .slice A1 d.sp.length c1, .slice A2 d.ov.length c2, .slice A3 d.df.length c3, .slice A4 d.py.length c4, .slice A5 d.fo.length c5], 28), (w.heap.size + 1, rc, 33), (w.heap.size + 1 + 1, zc, 28)]) :
    World.cell? W ⟨w.heap.size, 0, none⟩ = some (.int .i64 d.f) ∧ World.cell? W ⟨w.heap.size, 1, none⟩ = some (.int .i64 d.u) ∧ World.cell? W ⟨w.heap.size, 2, none⟩ = some (.slice A1 d.sp.length c1) ∧ World.cell? W ⟨w.heap.size, 3, none⟩ = some (.slice A2 d.ov.length c2) ∧ World.cell? W ⟨w.heap.size, 4, none⟩ = some (.slice A3 d.df.length c3) ∧ World.cell? W ⟨w.heap.size, 5, none⟩ = some (.slice A4 d.py.length c4) ∧ World.cell? W ⟨w.heap.size, 6, none⟩ = some (.slice A5 d.fo.length c5) ∧ World.cell? W ⟨w.heap.size + 1, 4, none⟩ = some (.int .i64 at_) := by
  have R := B.rules
  simp only [Rules] at R
  obtain ⟨⟨r0, _, _⟩, ⟨r1, _, _⟩, _⟩ := R
  refine ⟨r0 0, r0 1, r0 2, r0 3, r0 4, r0 5, r0 6, ?_⟩
  rw [r1 4, hrc]
theorem cells_of' {d : Scr} {A1 A2 A3 A4 A5 : Option Addr} {c1 c2 c3 c4 c5 : Nat} {at_ : Int} {w W : World} {rc zc : Array Value} {p : Nat × Array Value × TypeId} (hrc : rc[4]? = some (.int .i64 at_)) (B : St w W [p, (w.heap.size, #[.int .i64 d.f, .int .i64 d.u, .slice A1 d.sp.length c1, .slice A2 d.ov.length c2, .slice A3 d.df.length c3, .slice A4 d.py.length c4, .slice A5 d.fo.length c5], 28), (w.heap.size + 1, rc, 33), (w.heap.size + 1 + 1, zc, 28)]) :
    World.cell? W ⟨w.heap.size, 0, none⟩ = some (.int .i64 d.f) ∧ World.cell? W ⟨w.heap.size, 1, none⟩ = some (.int .i64 d.u) ∧ World.cell? W ⟨w.heap.size, 2, none⟩ = some (.slice A1 d.sp.length c1) ∧ World.cell? W ⟨w.heap.size, 3, none⟩ = some (.slice A2 d.ov.length c2) ∧ World.cell? W ⟨w.heap.size, 4, none⟩ = some (.slice A3 d.df.length c3) ∧ World.cell? W ⟨w.heap.size, 5, none⟩ = some (.slice A4 d.py.length c4) ∧ World.cell? W ⟨w.heap.size, 6, none⟩ = some (.slice A5 d.fo.length c5) ∧ World.cell? W ⟨w.heap.size + 1, 4, none⟩ = some (.int .i64 at_) := cells_of (zc := zc) hrc ⟨B.below, B.blks.2⟩
theorem put7_eq (a0 a1 a2 a3 a4 a5 a6 v0 v1 v2 v3 v4 v5 v6 : Value) : ((((((((#[a0, a1, a2, a3, a4, a5, a6] : Array Value).setIfInBounds 0 v0).setIfInBounds 1 v1).setIfInBounds 2 v2).setIfInBounds 3 v3).setIfInBounds 4 v4).setIfInBounds 5 v5).setIfInBounds 6 v6) = #[v0, v1, v2, v3, v4, v5, v6] := by
  simp
theorem Blks.put {W : World} {b i : Nat} {v : Value} : ∀ {L : List (Nat × Array Value × TypeId)}, NotIn b L → Blks W L → Blks (W.setCell ⟨b, i, none⟩ v) L
  | [], _, _ => trivial
  | _p :: _L, hn, h => ⟨blk_set_other h.1 _ _ hn.1, Blks.put hn.2 h.2⟩
theorem St.put1 {w W : World} {L : List (Nat × Array Value × TypeId)} {b : Nat} {cs : Array Value} {t : TypeId} (i : Nat) (v : Value) (hb : w.heap.size ≤ b) (hn : NotIn b L) (h : St w W ((b, cs, t) :: L)) : St w (W.setCell ⟨b, i, none⟩ v) ((b, cs.setIfInBounds i v, t) :: L) :=
  ⟨h.below.setCell hb v, set_blk h.blks.1 i v, h.blks.2.put hn⟩
theorem St.put7 {w W : World} {L : List (Nat × Array Value × TypeId)} {b : Nat} {a0 a1 a2 a3 a4 a5 a6 : Value} {t : TypeId} (hb : w.heap.size ≤ b) (hn : NotIn b L) (h : St w W ((b, #[a0, a1, a2, a3, a4, a5, a6], t) :: L)) (v0 v1 v2 v3 v4 v5 v6 : Value) :
    St w (((((((W.setCell ⟨b, 0, none⟩ v0).setCell ⟨b, 1, none⟩ v1).setCell ⟨b, 2, none⟩ v2).setCell ⟨b, 3, none⟩ v3).setCell ⟨b, 4, none⟩ v4).setCell ⟨b, 5, none⟩ v5).setCell ⟨b, 6, none⟩ v6) ((b, #[v0, v1, v2, v3, v4, v5, v6], t) :: L) := by
  have key := ((((((h.put1 0 v0 hb hn).put1 1 v1 hb hn).put1 2 v2 hb hn).put1 3 v3 hb hn).put1 4 v4 hb hn).put1 5 v5 hb hn).put1 6 v6 hb hn
  rw [put7_eq] at key
  exact key
theorem notin3 {b b0 b1 b2 : Nat} {x0 x1 x2 : Array Value × TypeId} (h0 : b0 ≠ b) (h1 : b1 ≠ b) (h2 : b2 ≠ b) : NotIn b [(b0, x0), (b1, x1), (b2, x2)] := ⟨h0, h1, h2, trivial⟩
/-- These blocks hold these rows. -/
def HasRow {α : Type} (E : List (Nat × Array Value × TypeId)) (A : Option Addr) (sz : Nat) (g : α → Nat → Int) (l : List α) : Prop := ∀ W, Blks W E → RowsAt W A sz g l
theorem rows_same {α : Type} {W W' : World} {ad : Addr} {sz : Nat} {g : α → Nat → Int} {l : List α} {o : Obj} (h1 : W.heap[ad.block]? = some o) (h2 : W'.heap[ad.block]? = some o) (h : RowsAt W (some ad) sz g l) : RowsAt W' (some ad) sz g l := by
  have hb : ∀ n, (ad.add n).block = ad.block := fun n => by unfold Addr.add; split <;> rfl
  have hc : ∀ off sub, W'.cell? ⟨ad.block, off, sub⟩ = W.cell? ⟨ad.block, off, sub⟩ := fun off sub => by simp only [World.cell?, h1, h2]
  intro i x hx
  obtain ⟨ad', he, h0, h3, h4⟩ := h i x hx
  cases he
  refine ⟨ad, rfl, ?_, ?_, fun j hj hs => ?_⟩
  · rw [hb]; exact lt_of_block h2
  · rw [← h3]
    have := hc (ad.add (i * sz)).off (ad.add (i * sz)).spot
    rw [← hb (i * sz)] at this
    exact this
  · rw [← h4 j hj hs, hb]
    exact hc _ _
theorem row_blk {α : Type} {W : World} {A : Option Addr} {sz : Nat} {g : α → Nat → Int} {l : List α} (h : RowsAt W A sz g l) {n : Nat} (hp : Plain n W A) : ∃ E, Blks W E ∧ HasRow E A sz g l ∧ (∀ b, (∀ (i : Nat) (x : α), l[i]? = some x → ∀ ad, A = some ad → (ad.add (i * sz)).block ≠ b) → NotIn b E) ∧ ∀ b, b < n → NotIn b E := by
  cases l with
  | nil => exact ⟨[], trivial, fun _ _ i x hx => by simp at hx, fun _ _ => trivial, fun _ _ => trivial⟩
  | cons y l =>
    obtain ⟨ad, rfl, _⟩ := h 0 y rfl
    obtain ⟨hn, cs, t, hb⟩ := hp ad rfl
    refine ⟨[(ad.block, cs, t)], ⟨hb, trivial⟩, fun W' hW => rows_same hb hW.1 h, fun b hf => ⟨?_, trivial⟩, fun b hlt => ⟨by show ad.block ≠ b; omega, trivial⟩⟩
    have := hf 0 y rfl ad rfl
    have hb : (ad.add (0 * sz)).block = ad.block := by unfold Addr.add; split <;> rfl
    rw [hb] at this
    exact this
theorem Blks.app {W : World} : ∀ {L M : List (Nat × Array Value × TypeId)}, Blks W L → Blks W M → Blks W (L ++ M)
  | [], _, _, h => h
  | _ :: _, _, h1, h2 => ⟨h1.1, Blks.app h1.2 h2⟩
theorem Blks.fst {W : World} : ∀ {L M : List (Nat × Array Value × TypeId)}, Blks W (L ++ M) → Blks W L
  | [], _, _ => trivial
  | _ :: _, _, h => ⟨h.1, Blks.fst h.2⟩
theorem Blks.snd {W : World} : ∀ {L M : List (Nat × Array Value × TypeId)}, Blks W (L ++ M) → Blks W M
  | [], _, h => h
  | _ :: _, _, h => Blks.snd h.2
theorem NotIn.app {b : Nat} : ∀ {L M : List (Nat × Array Value × TypeId)}, NotIn b L → NotIn b M → NotIn b (L ++ M)
  | [], _, _, h => h
  | _ :: _, _, h1, h2 => ⟨h1.1, NotIn.app h1.2 h2⟩
/-- No row of ints of three and more lies in the block of the result. -/
theorem rows_far {α : Type} {W : World} {b : Nat} {a0 a1 : Value} {t : TypeId} {A : Option Addr} {sz : Nat} {g : α → Nat → Int} {l : List α}
    (hb : W.heap[b]? = some (.cells #[a0, a1, .slice none 0 0, .slice none 0 0, .slice none 0 0, .slice none 0 0, .slice none 0 0] t (0, 0))) (hsz : 2 < sz) (h : RowsAt W A sz g l) (i : Nat) (x : α) (hx : l[i]? = some x) (ad : Addr) (hA : A = some ad) : (ad.add (i * sz)).block ≠ b := by
  intro e
  obtain ⟨ad', he, _, _, h1⟩ := h i x hx
  rw [hA] at he
  cases he
  have := h1 2 (by omega) hsz
  rw [e] at this
  simp only [World.cell?, hb] at this
  generalize (ad.add (i * sz)).off = o at this
  match o, this with
  | 0, this => simp at this
  | 1, this => simp at this
  | 2, this => simp at this
  | 3, this => simp at this
  | 4, this => simp at this
  | n + 5, this => simp at this
theorem rows_new {α : Type} {W : World} {A : Option Addr} {sz : Nat} {g : α → Nat → Int} {l : List α} (h : RowsAt W A sz g l) (i : Nat) (x : α) (hx : l[i]? = some x) (ad : Addr) (hA : A = some ad) : (ad.add (i * sz)).block ≠ W.heap.size := by
  obtain ⟨ad', he, h0, _⟩ := h i x hx
  rw [hA] at he
  cases he
  omega
section
variable {w W : World} {n : Nat} {p0 p1 p2 : Nat × Array Value × TypeId} {P4 P5 : Option Addr} {l4 : List Pay} {l5 : List Frg}
theorem fin_new (B : St w W [p0, p1, p2]) (h4 : RowsAt W P4 4 Pay.g l4) (n4 : Plain n W P4) (h5 : RowsAt W P5 6 Frg.g l5) (n5 : Plain n W P5) (cs : Array Value) :
    ∃ E, (∀ b, b < n → NotIn b E) ∧ NotIn W.heap.size E ∧ St w (W.alloc (.cells cs 28)) ((W.heap.size, cs, 28) :: p0 :: p1 :: p2 :: E) ∧ HasRow E P4 4 Pay.g l4 ∧ HasRow E P5 6 Frg.g l5 := by
  obtain ⟨E4, b4, r4, f4, o4⟩ := row_blk h4 n4
  obtain ⟨E5, b5, r5, f5, o5⟩ := row_blk h5 n5
  have k4 := f4 _ (rows_new h4)
  have k5 := f5 _ (rows_new h5)
  have B' : St w W (p0 :: p1 :: p2 :: (E4 ++ E5)) := ⟨B.below, B.blks.1, B.blks.2.1, B.blks.2.2.1, b4.app b5⟩
  exact ⟨E4 ++ E5, fun b hb => (o4 b hb).app (o5 b hb), k4.app k5, B'.alloc _ _, fun W h => r4 W h.fst, fun W h => r5 W h.snd⟩
theorem fin_put {b : Nat} {a0 a1 : Value} (B : St w W [(b, #[a0, a1, .slice none 0 0, .slice none 0 0, .slice none 0 0, .slice none 0 0, .slice none 0 0], 28), p0, p1, p2]) (hb : w.heap.size ≤ b) (hn : NotIn b [p0, p1, p2]) (h4 : RowsAt W P4 4 Pay.g l4) (n4 : Plain n W P4) (h5 : RowsAt W P5 6 Frg.g l5) (n5 : Plain n W P5) (v0 v1 v2 v3 v4 v5 v6 : Value) :
    ∃ E, (∀ b, b < n → NotIn b E) ∧ NotIn b E ∧ St w (((((((W.setCell ⟨b, 0, none⟩ v0).setCell ⟨b, 1, none⟩ v1).setCell ⟨b, 2, none⟩ v2).setCell ⟨b, 3, none⟩ v3).setCell ⟨b, 4, none⟩ v4).setCell ⟨b, 5, none⟩ v5).setCell ⟨b, 6, none⟩ v6) ((b, #[v0, v1, v2, v3, v4, v5, v6], 28) :: p0 :: p1 :: p2 :: E) ∧ HasRow E P4 4 Pay.g l4 ∧ HasRow E P5 6 Frg.g l5 := by
  obtain ⟨E4, b4, r4, f4, o4⟩ := row_blk h4 n4
  obtain ⟨E5, b5, r5, f5, o5⟩ := row_blk h5 n5
  have k4 := f4 b (rows_far B.blks.1 (by decide) h4)
  have k5 := f5 b (rows_far B.blks.1 (by decide) h5)
  have B' : St w W ((b, #[a0, a1, .slice none 0 0, .slice none 0 0, .slice none 0 0, .slice none 0 0, .slice none 0 0], 28) :: p0 :: p1 :: p2 :: (E4 ++ E5)) := ⟨B.below, B.blks.1, B.blks.2.1, B.blks.2.2.1, B.blks.2.2.2.1, b4.app b5⟩
  exact ⟨E4 ++ E5, fun b hb => (o4 b hb).app (o5 b hb), k4.app k5, B'.put7 hb (show NotIn b (p0 :: p1 :: p2 :: (E4 ++ E5)) from ⟨hn.1, hn.2.1, hn.2.2.1, k4.app k5⟩) _ _ _ _ _ _ _, fun W h => r4 W h.fst, fun W h => r5 W h.snd⟩
end
set_option maxRecDepth 100000 in
set_option maxHeartbeats 8000000 in
theorem suf_reg3 (d : Scr) (A1 A2 A3 A4 A5 : Option Addr) (c1 c2 c3 c4 c5 : Nat) (at_ m : Int) (hm0 : 0 ≤ m) (hm : m ≤ 38400) (hu0 : 0 ≤ d.u) (hu : d.u ≤ 38399) (hn : d.py.length ≤ 100) (hf : (d.py.filter (inW d.u at_ m)).length ≤ 12) (hn5 : d.fo.length ≤ 100) (w : World) (rc zc : Array Value) (hrc : rc[4]? = some (.int .i64 at_))
    (h4 : RowsAt w A4 4 Pay.g d.py) (h5 : RowsAt w A5 6 Frg.g d.fo) {K : Act → World → Prop} {Q : Exit → Act → World → Prop} (u0 u1 u5 u6 u7 u8 u9 u10 u11 u12 u13 u14 u15 u16 u17 u18 u19 u20 u21 u22 u23 u24 u25 u26 u27 u28 u29 u30 u31 u32 u33 u34 u35 u36 u37 u38 u39 u40 u41 u42 u43 u44 u45 u46 u47 u48 u49 u50 u51 u52 u53 u54 u55 u56 u57 u58 u59 u60 u61 u62 u63 u64 u65 u66 u67 u68 u69 u70 u71 u72 u73 u74 u75 u76 u77 u78 u79 u80 u81 u82 u83 u84 u85 u86 u87 u88 u89 u90 u91 u92 u93 u94 u95 u96 u97 u98 u99 u100 u101 u102 u103 u104 u105 u106 u107 u108 u109 u110 u111 u112 u113 u114 u115 u116 u117 u118 u119 u120 u121 u122 u123 u124 u125 u126 u127 u128 u129 u130 u131 u132 u133 u134 u135 u136 u137 u138 u139 u140 u141 u142 u143 u144 u145 u146 u147 u148 u149 u150 u151 u152 u153 u154 u155 u156 u157 u158 u159 u160 u161 u162 u163 u164 u165 u166 u167 u168 u169 u170 u171 u172 u173 u174 u175 u176 u177 u178 u179 : Value) (X : World) (B : St w X [(w.heap.size, #[.int .i64 d.f, .int .i64 d.u, .slice A1 d.sp.length c1, .slice A2 d.ov.length c2, .slice A3 d.df.length c3, .slice A4 d.py.length c4, .slice A5 d.fo.length c5], 28), (w.heap.size + 1, rc, 33), (w.heap.size + 1 + 1, zc, 28)])
    (hQ : ∀ (v52 v53 v54 v55 v56 v57 v58 v59 v60 v61 v62 v63 v64 v65 v66 : Value) (b : Nat) (X4 X5 : Option Addr) (q4 q5 : Nat) (W' : World) (E : List (Nat × Array Value × TypeId)), w.heap.size + 2 < b → NotIn (w.heap.size + 1 + 1) E → NotIn b E → St w W' ((b, #[.int .i64 (mn m d.u), .int .i64 d.u, .slice none 0 0, .slice none 0 0, .slice none 0 0, (.slice X4 (payS d.u at_ m d.py).length q4), (.slice X5 d.fo.length q5)], 28) :: (w.heap.size, #[.int .i64 d.f, .int .i64 d.u, .slice A1 d.sp.length c1, .slice A2 d.ov.length c2, .slice A3 d.df.length c3, .slice A4 d.py.length c4, .slice A5 d.fo.length c5], 28) :: (w.heap.size + 1, rc, 33) :: (w.heap.size + 1 + 1, zc, 28) :: E) →
      HasRow E X4 4 Pay.g (payS d.u at_ m d.py) → HasRow E X5 6 Frg.g d.fo → K ⟨#[u0, u1, .int .i64 m, .pointer (some ⟨w.heap.size, 0, none⟩), .pointer (some ⟨w.heap.size + 1, 0, none⟩), u5, u6, u7, .pointer (some ⟨b, 0, none⟩), u9, u10, u11, u12, u13, u14, u15, u16, u17, u18, u19, u20, u21, u22, u23, u24, u25, u26, u27, u28, u29, u30, u31, u32, u33, u34, u35, u36, u37, u38, u39, u40, u41, u42, u43, u44, u45, u46, u47, u48, u49, u50, u51, v52, v53, v54, v55, v56, v57, v58, v59, v60, v61, v62, v63, v64, v65, v66, u67, u68, u69, u70, u71, u72, u73, u74, u75, u76, u77, u78, u79, u80, u81, u82, u83, u84, u85, u86, u87, u88, u89, u90, u91, u92, u93, u94, u95, u96, u97, u98, u99, u100, u101, u102, u103, u104, u105, u106, u107, u108, u109, u110, u111, u112, u113, u114, u115, u116, u117, u118, u119, u120, u121, u122, u123, u124, u125, u126, u127, u128, u129, u130, u131, u132, u133, u134, u135, u136, u137, u138, u139, u140, u141, u142, u143, u144, u145, u146, u147, u148, u149, u150, u151, u152, u153, u154, u155, u156, u157, u158, u159, u160, u161, u162, u163, u164, u165, u166, u167, u168, u169, u170, u171, u172, u173, u174, u175, u176, u177, u178, u179], []⟩ W') :
    Code.wp Tryz.prog (codeAt Tryz.f8 [1, 1, 0]) (Exit.then K Q) ⟨#[u0, u1, .int .i64 m, .pointer (some ⟨w.heap.size, 0, none⟩), .pointer (some ⟨w.heap.size + 1, 0, none⟩), u5, u6, u7, u8, u9, u10, u11, u12, u13, u14, u15, u16, u17, u18, u19, u20, u21, u22, u23, u24, u25, u26, u27, u28, u29, u30, u31, u32, u33, u34, u35, u36, u37, u38, u39, u40, u41, u42, u43, u44, u45, u46, u47, u48, u49, u50, u51, u52, u53, u54, u55, u56, u57, u58, u59, u60, u61, u62, u63, u64, u65, u66, u67, u68, u69, u70, u71, u72, u73, u74, u75, u76, u77, u78, u79, u80, u81, u82, u83, u84, u85, u86, u87, u88, u89, u90, u91, u92, u93, u94, u95, u96, u97, u98, u99, u100, u101, u102, u103, u104, u105, u106, u107, u108, u109, u110, u111, u112, u113, u114, u115, u116, u117, u118, u119, u120, u121, u122, u123, u124, u125, u126, u127, u128, u129, u130, u131, u132, u133, u134, u135, u136, u137, u138, u139, u140, u141, u142, u143, u144, u145, u146, u147, u148, u149, u150, u151, u152, u153, u154, u155, u156, u157, u158, u159, u160, u161, u162, u163, u164, u165, u166, u167, u168, u169, u170, u171, u172, u173, u174, u175, u176, u177, u178, u179], []⟩ X := by
  show Code.wp Tryz.prog (Code.region _ _ _) _ _ _
  dsimp only
  have HQ := Lib.hid hQ
  have C1 := Lib.hid (fun W (hW : Below w.heap.size w W) => payments_any d A1 A2 A3 A4 A5 c1 c2 c3 c4 c5 at_ m hm0 hm hu0 hu hn hf W (h4.later hW))
  have C2 := Lib.hid (fun W (hW : Below w.heap.size w W) => clone_any A5 c5 d.fo hn5 W (h5.later hW))
  clear hQ h4 h5 hf
  unfold scrV at C1
  have hN : (if d.u < m then d.u else m) = mn m d.u := rfl
  generalize mn m d.u = F at hN HQ
  have n0 : w.heap.size + 2 < X.heap.size := lt_of_block B.blks.2.2.1
  obtain ⟨k0, k1, k2, k3, k4, k5, k6, k7⟩ := cells_of hrc B
  go_region_held3 (fun (Y : World) => World.cell? Y ⟨w.heap.size, 0, none⟩ = some (.int .i64 d.f) ∧ World.cell? Y ⟨w.heap.size, 1, none⟩ = some (.int .i64 d.u) ∧ World.cell? Y ⟨w.heap.size, 2, none⟩ = some (.slice A1 d.sp.length c1) ∧ World.cell? Y ⟨w.heap.size, 3, none⟩ = some (.slice A2 d.ov.length c2) ∧ World.cell? Y ⟨w.heap.size, 4, none⟩ = some (.slice A3 d.df.length c3) ∧ World.cell? Y ⟨w.heap.size, 5, none⟩ = some (.slice A4 d.py.length c4) ∧ World.cell? Y ⟨w.heap.size, 6, none⟩ = some (.slice A5 d.fo.length c5) ∧ World.cell? Y ⟨w.heap.size + 1, 4, none⟩ = some (.int .i64 at_))
    (with_reducible first | exact ⟨k0, k1, k2, k3, k4, k5, k6, k7⟩ | exact ⟨keep_dr k0, keep_dr k1, keep_dr k2, keep_dr k3, keep_dr k4, keep_dr k5, keep_dr k6, keep_dr k7⟩ | exact ⟨keep_dr (keep_al k0), keep_dr (keep_al k1), keep_dr (keep_al k2), keep_dr (keep_al k3), keep_dr (keep_al k4), keep_dr (keep_al k5), keep_dr (keep_al k6), keep_dr (keep_al k7)⟩ | exact ⟨keep_al k0, keep_al k1, keep_al k2, keep_al k3, keep_al k4, keep_al k5, keep_al k6, keep_al k7⟩ | (refine ⟨keep_st7 ?_ k0, keep_st7 ?_ k1, keep_st7 ?_ k2, keep_st7 ?_ k3, keep_st7 ?_ k4, keep_st7 ?_ k5, keep_st7 ?_ k6, keep_st7 ?_ k7⟩ <;> simp only <;> omega))
    (first
      | (go_at_call 16; first
        | ((with_reducible refine (C2.out _ B4.below).mono ?_); rintro e' w2 ⟨P5, q5, rfl, hr5, hp5, hb5⟩; have hp5 := hp5.mono (show w.heap.size + 1 + 1 + 1 ≤ _ by (try simp only [drew_size, alloc_size]); omega); have hr4 := hr4.later hb5; have hp4 := hp4.later hb5; have B5 := B4.later hb5; have R5 := B5.rules; simp only [Rules] at R5; have s5 := Nat.lt_of_lt_of_le s4 hb5.size; clear k0 k1 k2 k3 k4 k5 k6 k7; first | obtain ⟨k0, k1, k2, k3, k4, k5, k6, k7⟩ := cells_of hrc B5 | obtain ⟨k0, k1, k2, k3, k4, k5, k6, k7⟩ := cells_of' hrc B5)
        | ((with_reducible refine (C2.out _ (B4.alloc _ _).below).mono ?_); rintro e' w2 ⟨P5, q5, rfl, hr5, hp5, hb5⟩; have hp5 := hp5.mono (show w.heap.size + 1 + 1 + 1 ≤ _ by (try simp only [alloc_size]); omega); have hr4 := (hr4.later (below_al _ _)).later hb5; have hp4 := (hp4.later (below_al _ _)).later hb5; have B5 := (B4.alloc _ _).later hb5; have R5 := B5.rules; simp only [Rules] at R5; have s5 : w.heap.size + 2 < w2.heap.size := (by have z := hb5.size; rw [alloc_size] at z; omega); clear k0 k1 k2 k3 k4 k5 k6 k7; obtain ⟨k0, k1, k2, k3, k4, k5, k6, k7⟩ := cells_of' hrc B5))
      | (go_at_call 15; first
        | ((with_reducible refine (C1.out _ B.drew.below).mono ?_); rintro e' w1 ⟨P4, q4, rfl, hr4, hp4, hb4⟩; have hp4 := hp4.mono (show w.heap.size + 1 + 1 + 1 ≤ _ by (try simp only [drew_size]); omega); have B4 := B.drew.later hb4; have s4 := Nat.lt_of_lt_of_le n0 hb4.size; clear k0 k1 k2 k3 k4 k5 k6 k7; obtain ⟨k0, k1, k2, k3, k4, k5, k6, k7⟩ := cells_of hrc B4)
        | ((with_reducible refine (C1.out _ (B.alloc _ _).drew.below).mono ?_); rintro e' w1 ⟨P4, q4, rfl, hr4, hp4, hb4⟩; have hp4 := hp4.mono (show w.heap.size + 1 + 1 + 1 ≤ _ by (try simp only [drew_size, alloc_size]); omega); have B4 := (B.alloc _ _).drew.later hb4; have s4 : w.heap.size + 2 < w1.heap.size := (by have z := hb4.size; rw [drew_size, alloc_size] at z; omega); clear k0 k1 k2 k3 k4 k5 k6 k7; obtain ⟨k0, k1, k2, k3, k4, k5, k6, k7⟩ := cells_of' hrc B4)))
  all_goals clear k0 k1 k2 k3 k4 k5 k6 k7 R5 C1 C2 B4
  all_goals show K _ _
  all_goals first
    | (obtain ⟨E, g0, g1, g2, g3, g4⟩ := fin_new B5 hr4 hp4 hr5 hp5 #[.int .i64 F, .int .i64 d.u, .slice none 0 0, .slice none 0 0, .slice none 0 0, .slice P4 (payS d.u at_ m d.py).length q4, .slice P5 d.fo.length q5]; exact HQ.out _ _ _ _ _ _ _ _ _ _ _ _ _ _ _ _ P4 P5 q4 q5 _ E s5 (g0 _ (Nat.lt_succ_self _)) g1 g2 g3 g4)
    | (obtain ⟨E, g0, g1, g2, g3, g4⟩ := fin_put B5 (by omega) (notin3 (by omega) (by omega) (by omega)) hr4 hp4 hr5 hp5 (.int .i64 F) (.int .i64 d.u) (.slice none 0 0) (.slice none 0 0) (.slice none 0 0) (.slice P4 (payS d.u at_ m d.py).length q4) (.slice P5 d.fo.length q5); first | exact HQ.out _ _ _ _ _ _ _ _ _ _ _ _ _ _ _ _ P4 P5 q4 q5 _ E n0 (g0 _ (Nat.lt_succ_self _)) g1 g2 g3 g4 | exact HQ.out _ _ _ _ _ _ _ _ _ _ _ _ _ _ _ _ P4 P5 q4 q5 _ E s4 (g0 _ (Nat.lt_succ_self _)) g1 g2 g3 g4)
end Go.Proofs.YtbkipanlicgooaaGreatDoor
