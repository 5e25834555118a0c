/-
  The law RepairOver: the regions that lengthen the script's rows. No conditions but those in each statement.
-/
import Derived.Test.YtbkipanlicgooaaGreatDoorLg
import Derived.Test.YtbkipanlicgooaaGreatDoorLi
namespace Go.Proofs.YtbkipanlicgooaaGreatDoor
open Go.RowKit

theorem ite_yes {c : Prop} [Decidable c] {A B : Prop} (hc : c) (h : A) : ite c A B := by rw [if_pos hc]; exact h
section
variable {P : Program}
/-- append of a row, as one operation. -/
theorem oper_join {α : Type} {w W : World} {L : List (Nat × Array Value × TypeId)} (B : St w W L) {o : Oper} {a : Act} {K : Act → World → Prop} {Q : Exit → Act → World → Prop} (s x : Operand) {t e : TypeId}
    (hop : o.op = .call { callee := .builtin .append, args := #[s, x], argTypes := #[t, t] }) {i : TypeInfo} {z : Value} {size bytes : Nat} (ht : P.underlying t = some (.slice e)) (hi : P.info? e = some i) (hz : i.zero = some z)
    (hsize : i.size = size) (hby : i.bytes = bytes) (hzs : z.cells.size = size) (hsz : 0 < size) {v : Value} {n : Nat} {xs : List Value} (hs : a.eval s = v) (hown : W.ownsRow w.heap.size e size v n xs) (hno : NoOwn v L)
    {A : Option Addr} {c : Nat} {g : α → Nat → Int} {l : List α} (hx : a.eval x = .slice A l.length c) (hr : RowsAt W A size g l) (hA : A = none → l = []) (h63 : n + l.length ≤ maxLen) (hbytes : (n + l.length) * bytes ≤ 140737488355328)
    (h : ∀ v' W', W'.ownsRow w.heap.size e size v' (n + l.length) (xs ++ rowL g size l) → NoOwn v' L → St w W' L → K (a.put o.dst v') W') : Oper.wp P o a W K Q := by
  obtain ⟨v', W', hrun, h2, h3, h4⟩ := run_join (P := P) (ty := o.type) B ht hi hz hsize hby hzs hsz hown hno (c := c) hr hA h63 hbytes
  unfold Oper.wp execOp
  simp only [hop, resolve, invoke, builtin, Sem.run_bind, Sem.run_pure, Result.andThen_ok, List.map_toArray, List.map_cons, List.map_nil, hs, hx, hrun]
  exact h _ _ h2 h3 h4
/-- append of one element that lies in a block, as one operation. -/
theorem oper_push {w W : World} {L : List (Nat × Array Value × TypeId)} (B : St w W L) {o : Oper} {a : Act} {K : Act → World → Prop} {Q : Exit → Act → World → Prop} (s x : Operand) {t e : TypeId}
    (hop : o.op = .call { callee := .builtin .append, args := #[s, x], argTypes := #[t, t] }) {i : TypeInfo} {z : Value} {size bytes : Nat} (ht : P.underlying t = some (.slice e)) (hi : P.info? e = some i) (hz : i.zero = some z)
    (hsize : i.size = size) (hby : i.bytes = bytes) (hzs : z.cells.size = size) (hsz : 0 < size) {v : Value} {n : Nat} {xs : List Value} (hs : a.eval s = v) (hown : W.ownsRow w.heap.size e size v n xs) (hno : NoOwn v L)
    {b c : Nat} {news : List Value} (hx : a.eval x = .slice (some ⟨b, 0, none⟩) 1 c) (hl : news.length = size) (hb : ∀ j u, news[j]? = some u → W.cell? ⟨b, j, none⟩ = some u) (h1 : ∀ u ∈ news, u.oneCell' = true) (h63 : n + 1 ≤ maxLen) (hbytes : (n + 1) * bytes ≤ 140737488355328)
    (h : ∀ v' W', W'.ownsRow w.heap.size e size v' (n + 1) (xs ++ news) → NoOwn v' L → St w W' L → K (a.put o.dst v') W') : Oper.wp P o a W K Q := by
  obtain ⟨v', W', hr, h2, h3, _, h5⟩ := run_append_own_at (P := P) W w.heap.size t o.type e i z size bytes ht hi hz hsize hby hzs hsz v n xs hown ⟨b, 0, none⟩ 1 c news (by rw [hl, Nat.one_mul])
    (fun j u hu => by
      have e : (⟨b, 0, none⟩ : Addr).add j = ⟨b, j, none⟩ := by unfold Addr.add; split <;> simp_all
      rw [e]
      exact hb j u hu) h1 h63 hbytes B.below.size
  unfold Oper.wp execOp
  simp only [hop, resolve, invoke, builtin, Sem.run_bind, Sem.run_pure, Result.andThen_ok, List.map_toArray, List.map_cons, List.map_nil, hs, hx, hr]
  exact h _ _ h2 (hno.step h5 B.blks) ⟨B.below.grown h3 B.below.size fun g hv => (hown.lt g hv).1, B.blks.kept h3 hno⟩
theorem oper_at {w W : World} {L : List (Nat × Array Value × TypeId)} (_B : St w W L) (dst : Nat) {op : Op} {t : TypeId} {pos : String} {af : Array Edge} {g : Option (Nat × Bool)} {a : Act} {K : Act → World → Prop} {Q : Exit → Act → World → Prop} (h : Oper.wp P ⟨some dst, op, t, pos, af, g⟩ a W K Q) : Oper.wp P ⟨some dst, op, t, pos, af, g⟩ a W K Q := h
end
theorem noown_at {W : World} {n m c : Nat} (hn : W.heap.size ≤ n) : ∀ {L : List (Nat × Array Value × TypeId)}, Blks W L → NoOwn (.slice (some ⟨n, 0, none⟩) m c) L
  | [], _ => trivial
  | p :: L, h => ⟨by
      have := lt_of_block h.1
      intro e
      have e := Option.some.inj e
      simp only at e
      omega, noown_at hn h.2⟩
theorem cells_blk {w W : World} {L : List (Nat × Array Value × TypeId)} {b : Nat} {l : List Value} {t : TypeId} (B : St w W ((b, ⟨l⟩, t) :: L)) : ∀ j u, l[j]? = some u → W.cell? ⟨b, j, none⟩ = some u := fun j u hu => cell_blk B.blks.1 j u (by simpa using hu)
theorem St.tail {w W : World} {p : Nat × Array Value × TypeId} {L : List (Nat × Array Value × TypeId)} (B : St w W (p :: L)) : St w W L := ⟨B.below, B.blks.2⟩
theorem push_own {α : Type} {W : World} {base e sz c n : Nat} {A : Option Addr} {g : α → Nat → Int} {l : List α} {x : α} {XL : List Value} (h : W.ownsRow base e sz (.slice A n c) n ([] ++ rowL g sz l ++ XL)) (hX : rowC g sz x = XL) : W.ownsRow base e sz (.slice A n c) n (rowL g sz (l ++ [x])) := by
  rw [rowL_app]
  subst hX
  simpa [rowL] using h
theorem NoOwn.tail {v : Value} {p : Nat × Array Value × TypeId} {L : List (Nat × Array Value × TypeId)} (h : NoOwn v (p :: L)) : NoOwn v L := h.2
theorem info45' : (Tryz.prog.info? 45).map (fun i => (i.zero, i.size, i.bytes)) = some (some (.agg #[.int .i64 0, .int .i64 0, .int .i64 0, .int .i64 0]), 4, 32) := by kernel_rfl
set_option maxRecDepth 100000 in
set_option maxHeartbeats 4000000 in
theorem over_reg5 (d : Scr) (A1 A2 A3 A4 A5 : Option Addr) (c1 c2 c3 c4 c5 : Nat) (x : Pay) (hn : d.py.length ≤ 100) (w : World) (b : Nat) (hb : w.heap.size + 5 < b) (y0 y1 y2 y3 y4 y5 y6 : Value) (L : List (Nat × Array Value × TypeId)) (hE : NotIn b L) (hL : ∀ W, Blks W L → Blks W [(w.heap.size, #[.int .i64 d.f, .int .i64 d.u, .slice A1 d.sp.length c1, .slice A2 d.ov.length c2, .slice A3 d.df.length c3, .slice A4 d.py.length c4, .slice A5 d.fo.length c5], 28), (w.heap.size + 2, #[.int .i64 (Pay.g x 0), .int .i64 (Pay.g x 1), .int .i64 (Pay.g x 2), .int .i64 (Pay.g x 3)], 45)])
    (h : RowsAt w A4 4 Pay.g d.py) {K : Act → World → Prop} {Q : Exit → Act → World → Prop} (u0 u1 u2 u3 u4 u5 u6 u8 u9 u11 u12 u13 u14 u15 u17 u18 u19 u20 u21 u22 u23 u24 u25 u26 u27 u28 u29 u30 u31 u32 u33 u34 u35 u36 u37 u38 u39 u40 u41 u42 u43 u44 u45 u46 u47 u48 u49 u50 u51 u52 u53 u54 u55 u56 u57 u58 u59 u60 u61 u62 u63 u64 u65 u66 u67 u68 u69 u70 u71 u72 u73 u74 u75 u76 u77 u78 u79 u80 u81 u82 u83 u84 u85 u86 u87 u88 u89 u90 u91 u92 u93 u94 u95 u96 u97 u98 u99 u100 u101 u102 u103 u104 u105 u106 u107 u108 u109 u110 u111 u112 u113 u114 u115 : Value) (X : World) (B : St w X ((b, #[y0, y1, y2, y3, y4, y5, y6], 28) :: L))
    (hQ : ∀ (v59 v60 v61 v62 v63 v64 v65 v66 : Value) (X : Option Addr) (n k : Nat) (W' : World), n = d.py.length + 1 → W'.ownsRow w.heap.size 45 4 (.slice X n k) n (rowL Pay.g 4 (d.py ++ [x])) → NoOwn (.slice X n k) ((b, #[y0, y1, y2, y3, y4, .slice X n k, y6], 28) :: L) → St w W' ((b, #[y0, y1, y2, y3, y4, .slice X n k, y6], 28) :: L) → K ⟨#[u0, u1, u2, u3, u4, u5, u6, .pointer (some ⟨w.heap.size, 0, none⟩), u8, u9, .pointer (some ⟨w.heap.size + 2, 0, none⟩), u11, u12, u13, u14, u15, .pointer (some ⟨b, 0, none⟩), u17, u18, u19, u20, u21, u22, u23, u24, u25, u26, u27, u28, u29, u30, u31, u32, u33, u34, u35, u36, u37, u38, u39, u40, u41, u42, u43, u44, u45, u46, u47, u48, u49, u50, u51, u52, u53, u54, u55, u56, u57, u58, v59, v60, v61, v62, v63, v64, v65, v66, u67, u68, u69, u70, u71, u72, u73, u74, u75, u76, u77, u78, u79, u80, u81, u82, u83, u84, u85, u86, u87, u88, u89, u90, u91, u92, u93, u94, u95, u96, u97, u98, u99, u100, u101, u102, u103, u104, u105, u106, u107, u108, u109, u110, u111, u112, u113, u114, u115], []⟩ W') :
    Code.wp Tryz.prog (codeAt Tryz.f5 [1, 1, 1, 1, 0]) (Exit.then K Q) ⟨#[u0, u1, u2, u3, u4, u5, u6, .pointer (some ⟨w.heap.size, 0, none⟩), u8, u9, .pointer (some ⟨w.heap.size + 2, 0, none⟩), u11, u12, u13, u14, u15, .pointer (some ⟨b, 0, none⟩), u17, u18, u19, u20, u21, u22, u23, u24, u25, u26, u27, u28, u29, u30, u31, u32, u33, u34, u35, u36, u37, u38, u39, u40, u41, u42, u43, u44, u45, u46, u47, u48, u49, u50, u51, u52, u53, u54, u55, u56, u57, u58, u59, u60, u61, u62, u63, u64, u65, u66, u67, u68, u69, u70, u71, u72, u73, u74, u75, u76, u77, u78, u79, u80, u81, u82, u83, u84, u85, u86, u87, u88, u89, u90, u91, u92, u93, u94, u95, u96, u97, u98, u99, u100, u101, u102, u103, u104, u105, u106, u107, u108, u109, u110, u111, u112, u113, u114, u115], []⟩ X := by
  show Code.wp Tryz.prog (Code.region _ _ _) _ _ _
  dsimp only
  have HQ := Lib.hid hQ
  have H := Lib.hid h
  have hA : A4 = none → d.py = [] := fun e => RowsAt.none (by have h := H.out; rw [e] at h; exact h)
  obtain ⟨i0, hi0, hz0, hz1, hz2⟩ := info_parts info45'
  clear hQ h
  have R := B.rules
  simp only [Rules] at R
  have hX := B.below.size
  have Z := (hL _ (B.blks.2)).rules; simp only [Rules] at Z; have k0 : World.cell? X ⟨w.heap.size, 5, none⟩ = some (.slice A4 d.py.length c4) := Z.1.1 5; have e0 : World.cell? X ⟨w.heap.size + 2, 0, none⟩ = some (.int .i64 (Pay.g x 0)) := Z.2.1.1 0; have e1 : World.cell? X ⟨w.heap.size + 2, 1, none⟩ = some (.int .i64 (Pay.g x 1)) := Z.2.1.1 1; have e2 : World.cell? X ⟨w.heap.size + 2, 2, none⟩ = some (.int .i64 (Pay.g x 2)) := Z.2.1.1 2; have e3 : World.cell? X ⟨w.heap.size + 2, 3, none⟩ = some (.int .i64 (Pay.g x 3)) := Z.2.1.1 3; clear Z
  go_region_held3 (fun (Y : World) => World.cell? Y ⟨w.heap.size, 5, none⟩ = some (.slice A4 d.py.length c4) ∧ World.cell? Y ⟨w.heap.size + 2, 0, none⟩ = some (.int .i64 (Pay.g x 0)) ∧ World.cell? Y ⟨w.heap.size + 2, 1, none⟩ = some (.int .i64 (Pay.g x 1)) ∧ World.cell? Y ⟨w.heap.size + 2, 2, none⟩ = some (.int .i64 (Pay.g x 2)) ∧ World.cell? Y ⟨w.heap.size + 2, 3, none⟩ = some (.int .i64 (Pay.g x 3)))
    (with_reducible first | exact ⟨k0, e0, e1, e2, e3⟩ | exact ⟨keep_dr k0, keep_dr e0, keep_dr e1, keep_dr e2, keep_dr e3⟩ | exact ⟨keep_dr (keep_al k0), keep_dr (keep_al e0), keep_dr (keep_al e1), keep_dr (keep_al e2), keep_dr (keep_al e3)⟩ | exact ⟨keep_dr (keep_al (keep_al k0)), keep_dr (keep_al (keep_al e0)), keep_dr (keep_al (keep_al e1)), keep_dr (keep_al (keep_al e2)), keep_dr (keep_al (keep_al e3))⟩ | exact ⟨keep_al k0, keep_al e0, keep_al e1, keep_al e2, keep_al e3⟩ | (refine ⟨keep_st ?_ k0, keep_st ?_ e0, keep_st ?_ e1, keep_st ?_ e2, keep_st ?_ e3⟩ <;> (dsimp only; omega)))
    (first
      | (refine ite_yes (by kernel_rfl) ?_; (with_reducible refine oper_at (B.skip (.cells #[] 45)).drew 62 ?_); (refine @oper_join Tryz.prog Pay w _ _ (B.skip (.cells #[] 45)).drew _ _ _ _ (.tmp 59) (.tmp 61) 25 45 rfl i0 _ 4 32 Tryz.underlying25 hi0 hz0 hz1 hz2 rfl (by decide) (.slice (some ⟨X.heap.size, 0, none⟩) 0 0) 0 [] rfl (own_of_blk (blk_new X (.cells #[] 45)) hX 4) (noown_at (Nat.le_refl _) B.blks) A4 c4 Pay.g d.py rfl (H.out.later (B.skip (.cells #[] 45)).drew.below) hA (by simp only [maxLen]; omega) (by omega) ?_); intro v2 w2 hown hno B2; (try simp only [alloc_size] at B2 hno); clear R k0 e0 e1 e2 e3; have R := B2.rules; simp only [Rules] at R; have Z := (hL _ (B2.blks.2)).rules; simp only [Rules] at Z; have k0 : World.cell? w2 ⟨w.heap.size, 5, none⟩ = some (.slice A4 d.py.length c4) := Z.1.1 5; have e0 : World.cell? w2 ⟨w.heap.size + 2, 0, none⟩ = some (.int .i64 (Pay.g x 0)) := Z.2.1.1 0; have e1 : World.cell? w2 ⟨w.heap.size + 2, 1, none⟩ = some (.int .i64 (Pay.g x 1)) := Z.2.1.1 1; have e2 : World.cell? w2 ⟨w.heap.size + 2, 2, none⟩ = some (.int .i64 (Pay.g x 2)) := Z.2.1.1 2; have e3 : World.cell? w2 ⟨w.heap.size + 2, 3, none⟩ = some (.int .i64 (Pay.g x 3)) := Z.2.1.1 3; clear Z)
      | (refine ite_yes (by kernel_rfl) ?_; (with_reducible refine oper_at ((B.skip (.cells #[] 45)).alloc #[.int .i64 (Pay.g x 0), .int .i64 (Pay.g x 1), .int .i64 (Pay.g x 2), .int .i64 (Pay.g x 3)] 45).drew 62 ?_); (refine @oper_join Tryz.prog Pay w _ _ ((B.skip (.cells #[] 45)).alloc #[.int .i64 (Pay.g x 0), .int .i64 (Pay.g x 1), .int .i64 (Pay.g x 2), .int .i64 (Pay.g x 3)] 45).drew _ _ _ _ (.tmp 59) (.tmp 61) 25 45 rfl i0 _ 4 32 Tryz.underlying25 hi0 hz0 hz1 hz2 rfl (by decide) (.slice (some ⟨X.heap.size, 0, none⟩) 0 0) 0 [] rfl (own_of_blk (blk_old (blk_new X (.cells #[] 45)) _) hX 4) ⟨by simp [Value.ownBlock], noown_at (Nat.le_refl _) B.blks⟩ A4 c4 Pay.g d.py rfl (H.out.later ((B.skip (.cells #[] 45)).alloc #[.int .i64 (Pay.g x 0), .int .i64 (Pay.g x 1), .int .i64 (Pay.g x 2), .int .i64 (Pay.g x 3)] 45).drew.below) hA (by simp only [maxLen]; omega) (by omega) ?_); intro v2 w2 hown hno B2; (try simp only [alloc_size] at B2 hno); clear R k0 e0 e1 e2 e3; have R := B2.rules; simp only [Rules] at R; have Z := (hL _ (B2.blks.2.2)).rules; simp only [Rules] at Z; have k0 : World.cell? w2 ⟨w.heap.size, 5, none⟩ = some (.slice A4 d.py.length c4) := Z.1.1 5; have e0 : World.cell? w2 ⟨w.heap.size + 2, 0, none⟩ = some (.int .i64 (Pay.g x 0)) := Z.2.1.1 0; have e1 : World.cell? w2 ⟨w.heap.size + 2, 1, none⟩ = some (.int .i64 (Pay.g x 1)) := Z.2.1.1 1; have e2 : World.cell? w2 ⟨w.heap.size + 2, 2, none⟩ = some (.int .i64 (Pay.g x 2)) := Z.2.1.1 2; have e3 : World.cell? w2 ⟨w.heap.size + 2, 3, none⟩ = some (.int .i64 (Pay.g x 3)) := Z.2.1.1 3; clear Z)
      | (refine ite_yes (by kernel_rfl) ?_; (with_reducible refine oper_at ((B.alloc #[.int .i64 (Pay.g x 0), .int .i64 (Pay.g x 1), .int .i64 (Pay.g x 2), .int .i64 (Pay.g x 3)] 45).skip (.cells #[] 45)).drew 62 ?_); (refine @oper_join Tryz.prog Pay w _ _ ((B.alloc #[.int .i64 (Pay.g x 0), .int .i64 (Pay.g x 1), .int .i64 (Pay.g x 2), .int .i64 (Pay.g x 3)] 45).skip (.cells #[] 45)).drew _ _ _ _ (.tmp 59) (.tmp 61) 25 45 rfl i0 _ 4 32 Tryz.underlying25 hi0 hz0 hz1 hz2 rfl (by decide) (.slice (some ⟨X.heap.size + 1, 0, none⟩) 0 0) 0 [] rfl (own_of_blk (blk_at (X.alloc (.cells #[.int .i64 (Pay.g x 0), .int .i64 (Pay.g x 1), .int .i64 (Pay.g x 2), .int .i64 (Pay.g x 3)] 45)) (.cells #[] 45) (X.heap.size + 1) (alloc_size _ _).symm) (by omega) 4) (noown_at (Nat.le_of_eq (alloc_size _ _)) (B.alloc #[.int .i64 (Pay.g x 0), .int .i64 (Pay.g x 1), .int .i64 (Pay.g x 2), .int .i64 (Pay.g x 3)] 45).blks) A4 c4 Pay.g d.py rfl (H.out.later ((B.alloc #[.int .i64 (Pay.g x 0), .int .i64 (Pay.g x 1), .int .i64 (Pay.g x 2), .int .i64 (Pay.g x 3)] 45).skip (.cells #[] 45)).drew.below) hA (by simp only [maxLen]; omega) (by omega) ?_); intro v2 w2 hown hno B2; (try simp only [alloc_size] at B2 hno); clear R k0 e0 e1 e2 e3; have R := B2.rules; simp only [Rules] at R; have Z := (hL _ (B2.blks.2.2)).rules; simp only [Rules] at Z; have k0 : World.cell? w2 ⟨w.heap.size, 5, none⟩ = some (.slice A4 d.py.length c4) := Z.1.1 5; have e0 : World.cell? w2 ⟨w.heap.size + 2, 0, none⟩ = some (.int .i64 (Pay.g x 0)) := Z.2.1.1 0; have e1 : World.cell? w2 ⟨w.heap.size + 2, 1, none⟩ = some (.int .i64 (Pay.g x 1)) := Z.2.1.1 1; have e2 : World.cell? w2 ⟨w.heap.size + 2, 2, none⟩ = some (.int .i64 (Pay.g x 2)) := Z.2.1.1 2; have e3 : World.cell? w2 ⟨w.heap.size + 2, 3, none⟩ = some (.int .i64 (Pay.g x 3)) := Z.2.1.1 3; clear Z)
      | (refine ite_yes (by kernel_rfl) ?_; (with_reducible refine oper_at (B2.alloc #[.int .i64 (Pay.g x 0), .int .i64 (Pay.g x 1), .int .i64 (Pay.g x 2), .int .i64 (Pay.g x 3)] 45) 65 ?_); (refine @oper_push Tryz.prog w _ _ (B2.alloc #[.int .i64 (Pay.g x 0), .int .i64 (Pay.g x 1), .int .i64 (Pay.g x 2), .int .i64 (Pay.g x 3)] 45) _ _ _ _ (.tmp 62) (.tmp 64) 25 45 rfl i0 _ 4 32 Tryz.underlying25 hi0 hz0 hz1 hz2 rfl (by decide) _ _ _ rfl (own_alloc hown _) ⟨own_new hown, hno⟩ _ _ [.int .i64 (Pay.g x 0), .int .i64 (Pay.g x 1), .int .i64 (Pay.g x 2), .int .i64 (Pay.g x 3)] rfl rfl (cells_blk (B2.alloc #[.int .i64 (Pay.g x 0), .int .i64 (Pay.g x 1), .int .i64 (Pay.g x 2), .int .i64 (Pay.g x 3)] 45)) (one_cells rfl) (by simp only [maxLen]; omega) (by omega) ?_); intro v3 w3 hown3 hno3 B3; obtain ⟨SA3, sc3, rfl⟩ := own_slice hown3; clear R k0 e0 e1 e2 e3; have R := B3.tail.rules; simp only [Rules] at R; have Z := (hL _ (B3.blks.2.2)).rules; simp only [Rules] at Z; have k0 : World.cell? w3 ⟨w.heap.size, 5, none⟩ = some (.slice A4 d.py.length c4) := Z.1.1 5; have e0 : World.cell? w3 ⟨w.heap.size + 2, 0, none⟩ = some (.int .i64 (Pay.g x 0)) := Z.2.1.1 0; have e1 : World.cell? w3 ⟨w.heap.size + 2, 1, none⟩ = some (.int .i64 (Pay.g x 1)) := Z.2.1.1 1; have e2 : World.cell? w3 ⟨w.heap.size + 2, 2, none⟩ = some (.int .i64 (Pay.g x 2)) := Z.2.1.1 2; have e3 : World.cell? w3 ⟨w.heap.size + 2, 3, none⟩ = some (.int .i64 (Pay.g x 3)) := Z.2.1.1 3; clear Z)
      | (refine ite_yes (by kernel_rfl) ?_; (with_reducible refine oper_at B2 65 ?_); (refine @oper_push Tryz.prog w _ _ B2 _ _ _ _ (.tmp 62) (.tmp 64) 25 45 rfl i0 _ 4 32 Tryz.underlying25 hi0 hz0 hz1 hz2 rfl (by decide) _ _ _ rfl hown hno _ _ [.int .i64 (Pay.g x 0), .int .i64 (Pay.g x 1), .int .i64 (Pay.g x 2), .int .i64 (Pay.g x 3)] rfl rfl (cells_blk B2) (one_cells rfl) (by simp only [maxLen]; omega) (by omega) ?_); intro v3 w3 hown3 hno3 B3; obtain ⟨SA3, sc3, rfl⟩ := own_slice hown3; clear R k0 e0 e1 e2 e3; have R := B3.tail.rules; simp only [Rules] at R; have Z := (hL _ (B3.blks.2.2)).rules; simp only [Rules] at Z; have k0 : World.cell? w3 ⟨w.heap.size, 5, none⟩ = some (.slice A4 d.py.length c4) := Z.1.1 5; have e0 : World.cell? w3 ⟨w.heap.size + 2, 0, none⟩ = some (.int .i64 (Pay.g x 0)) := Z.2.1.1 0; have e1 : World.cell? w3 ⟨w.heap.size + 2, 1, none⟩ = some (.int .i64 (Pay.g x 1)) := Z.2.1.1 1; have e2 : World.cell? w3 ⟨w.heap.size + 2, 2, none⟩ = some (.int .i64 (Pay.g x 2)) := Z.2.1.1 2; have e3 : World.cell? w3 ⟨w.heap.size + 2, 3, none⟩ = some (.int .i64 (Pay.g x 3)) := Z.2.1.1 3; clear Z))
  all_goals
    have h0 : 0 + d.py.length + 1 = d.py.length + 1 := by omega
    rw [h0] at hown3 hno3
    clear R k0 e0 e1 e2 e3 hown hno B2 B
    show K _ _
    exact HQ.out _ _ _ _ _ _ _ _ SA3 (d.py.length + 1) sc3 _ rfl (own_put (push_own hown3 rfl) hno3.2.1 _ _) ⟨hno3.2.1, hno3.2.2⟩ (by simpa using B3.tail.put1 5 (.slice SA3 (d.py.length + 1) sc3) (by omega) hE)
theorem info47' : (Tryz.prog.info? 47).map (fun i => (i.zero, i.size, i.bytes)) = some (some (.agg #[.int .i64 0, .int .i64 0, .int .i64 0, .int .i64 0, .int .i64 0]), 5, 40) := by kernel_rfl
set_option maxRecDepth 100000 in
set_option maxHeartbeats 4000000 in
theorem over_reg6 (d : Scr) (A1 A2 A3 A4 A5 : Option Addr) (c1 c2 c3 c4 c5 : Nat) (x : Spl) (hn : d.sp.length ≤ 100) (w : World) (b : Nat) (hb : w.heap.size + 5 < b) (y0 y1 y2 y3 y4 y5 y6 : Value) (L : List (Nat × Array Value × TypeId)) (hE : NotIn b L) (hL : ∀ W, Blks W L → Blks W [(w.heap.size, #[.int .i64 d.f, .int .i64 d.u, .slice A1 d.sp.length c1, .slice A2 d.ov.length c2, .slice A3 d.df.length c3, .slice A4 d.py.length c4, .slice A5 d.fo.length c5], 28), (w.heap.size + 3, #[.int .i64 (Spl.g x 0), .int .i64 (Spl.g x 1), .int .i64 (Spl.g x 2), .int .i64 (Spl.g x 3), .int .i64 (Spl.g x 4)], 47)])
    (h : RowsAt w A1 5 Spl.g d.sp) {K : Act → World → Prop} {Q : Exit → Act → World → Prop} (u0 u1 u2 u3 u4 u5 u6 u8 u9 u10 u12 u13 u14 u15 u17 u18 u19 u20 u21 u22 u23 u24 u25 u26 u27 u28 u29 u30 u31 u32 u33 u34 u35 u36 u37 u38 u39 u40 u41 u42 u43 u44 u45 u46 u47 u48 u49 u50 u51 u52 u53 u54 u55 u56 u57 u58 u59 u60 u61 u62 u63 u64 u65 u66 u67 u68 u69 u70 u71 u72 u73 u74 u75 u76 u77 u78 u79 u80 u81 u82 u83 u84 u85 u86 u87 u88 u89 u90 u91 u92 u93 u94 u95 u96 u97 u98 u99 u100 u101 u102 u103 u104 u105 u106 u107 u108 u109 u110 u111 u112 u113 u114 u115 : Value) (X : World) (B : St w X ((b, #[y0, y1, y2, y3, y4, y5, y6], 28) :: L))
    (hQ : ∀ (v67 v68 v69 v70 v71 v72 v73 v74 : Value) (X : Option Addr) (n k : Nat) (W' : World), n = d.sp.length + 1 → W'.ownsRow w.heap.size 47 5 (.slice X n k) n (rowL Spl.g 5 (d.sp ++ [x])) → NoOwn (.slice X n k) ((b, #[y0, y1, .slice X n k, y3, y4, y5, y6], 28) :: L) → St w W' ((b, #[y0, y1, .slice X n k, y3, y4, y5, y6], 28) :: L) → K ⟨#[u0, u1, u2, u3, u4, u5, u6, .pointer (some ⟨w.heap.size, 0, none⟩), u8, u9, u10, .pointer (some ⟨w.heap.size + 3, 0, none⟩), u12, u13, u14, u15, .pointer (some ⟨b, 0, none⟩), u17, u18, u19, u20, u21, u22, u23, u24, u25, u26, u27, u28, u29, u30, u31, u32, u33, u34, u35, u36, u37, u38, u39, u40, u41, u42, u43, u44, u45, u46, u47, u48, u49, u50, u51, u52, u53, u54, u55, u56, u57, u58, u59, u60, u61, u62, u63, u64, u65, u66, v67, v68, v69, v70, v71, v72, v73, v74, u75, u76, u77, u78, u79, u80, u81, u82, u83, u84, u85, u86, u87, u88, u89, u90, u91, u92, u93, u94, u95, u96, u97, u98, u99, u100, u101, u102, u103, u104, u105, u106, u107, u108, u109, u110, u111, u112, u113, u114, u115], []⟩ W') :
    Code.wp Tryz.prog (codeAt Tryz.f5 [1, 1, 1, 1, 1, 0]) (Exit.then K Q) ⟨#[u0, u1, u2, u3, u4, u5, u6, .pointer (some ⟨w.heap.size, 0, none⟩), u8, u9, u10, .pointer (some ⟨w.heap.size + 3, 0, none⟩), u12, u13, u14, u15, .pointer (some ⟨b, 0, none⟩), u17, u18, u19, u20, u21, u22, u23, u24, u25, u26, u27, u28, u29, u30, u31, u32, u33, u34, u35, u36, u37, u38, u39, u40, u41, u42, u43, u44, u45, u46, u47, u48, u49, u50, u51, u52, u53, u54, u55, u56, u57, u58, u59, u60, u61, u62, u63, u64, u65, u66, u67, u68, u69, u70, u71, u72, u73, u74, u75, u76, u77, u78, u79, u80, u81, u82, u83, u84, u85, u86, u87, u88, u89, u90, u91, u92, u93, u94, u95, u96, u97, u98, u99, u100, u101, u102, u103, u104, u105, u106, u107, u108, u109, u110, u111, u112, u113, u114, u115], []⟩ X := by
  show Code.wp Tryz.prog (Code.region _ _ _) _ _ _
  dsimp only
  have HQ := Lib.hid hQ
  have H := Lib.hid h
  have hA : A1 = none → d.sp = [] := fun e => RowsAt.none (by have h := H.out; rw [e] at h; exact h)
  obtain ⟨i0, hi0, hz0, hz1, hz2⟩ := info_parts info47'
  clear hQ h
  have R := B.rules
  simp only [Rules] at R
  have hX := B.below.size
  have Z := (hL _ (B.blks.2)).rules; simp only [Rules] at Z; have k0 : World.cell? X ⟨w.heap.size, 2, none⟩ = some (.slice A1 d.sp.length c1) := Z.1.1 2; have e0 : World.cell? X ⟨w.heap.size + 3, 0, none⟩ = some (.int .i64 (Spl.g x 0)) := Z.2.1.1 0; have e1 : World.cell? X ⟨w.heap.size + 3, 1, none⟩ = some (.int .i64 (Spl.g x 1)) := Z.2.1.1 1; have e2 : World.cell? X ⟨w.heap.size + 3, 2, none⟩ = some (.int .i64 (Spl.g x 2)) := Z.2.1.1 2; have e3 : World.cell? X ⟨w.heap.size + 3, 3, none⟩ = some (.int .i64 (Spl.g x 3)) := Z.2.1.1 3; have e4 : World.cell? X ⟨w.heap.size + 3, 4, none⟩ = some (.int .i64 (Spl.g x 4)) := Z.2.1.1 4; clear Z
  go_region_held3 (fun (Y : World) => World.cell? Y ⟨w.heap.size, 2, none⟩ = some (.slice A1 d.sp.length c1) ∧ World.cell? Y ⟨w.heap.size + 3, 0, none⟩ = some (.int .i64 (Spl.g x 0)) ∧ World.cell? Y ⟨w.heap.size + 3, 1, none⟩ = some (.int .i64 (Spl.g x 1)) ∧ World.cell? Y ⟨w.heap.size + 3, 2, none⟩ = some (.int .i64 (Spl.g x 2)) ∧ World.cell? Y ⟨w.heap.size + 3, 3, none⟩ = some (.int .i64 (Spl.g x 3)) ∧ World.cell? Y ⟨w.heap.size + 3, 4, none⟩ = some (.int .i64 (Spl.g x 4)))
    (with_reducible first | exact ⟨k0, e0, e1, e2, e3, e4⟩ | exact ⟨keep_dr k0, keep_dr e0, keep_dr e1, keep_dr e2, keep_dr e3, keep_dr e4⟩ | exact ⟨keep_dr (keep_al k0), keep_dr (keep_al e0), keep_dr (keep_al e1), keep_dr (keep_al e2), keep_dr (keep_al e3), keep_dr (keep_al e4)⟩ | exact ⟨keep_dr (keep_al (keep_al k0)), keep_dr (keep_al (keep_al e0)), keep_dr (keep_al (keep_al e1)), keep_dr (keep_al (keep_al e2)), keep_dr (keep_al (keep_al e3)), keep_dr (keep_al (keep_al e4))⟩ | exact ⟨keep_al k0, keep_al e0, keep_al e1, keep_al e2, keep_al e3, keep_al e4⟩ | (refine ⟨keep_st ?_ k0, keep_st ?_ e0, keep_st ?_ e1, keep_st ?_ e2, keep_st ?_ e3, keep_st ?_ e4⟩ <;> (dsimp only; omega)))
    (first
      | (refine ite_yes (by kernel_rfl) ?_; (with_reducible refine oper_at (B.skip (.cells #[] 47)).drew 70 ?_); (refine @oper_join Tryz.prog Spl w _ _ (B.skip (.cells #[] 47)).drew _ _ _ _ (.tmp 67) (.tmp 69) 22 47 rfl i0 _ 5 40 Tryz.underlying22 hi0 hz0 hz1 hz2 rfl (by decide) (.slice (some ⟨X.heap.size, 0, none⟩) 0 0) 0 [] rfl (own_of_blk (blk_new X (.cells #[] 47)) hX 5) (noown_at (Nat.le_refl _) B.blks) A1 c1 Spl.g d.sp rfl (H.out.later (B.skip (.cells #[] 47)).drew.below) hA (by simp only [maxLen]; omega) (by omega) ?_); intro v2 w2 hown hno B2; (try simp only [alloc_size] at B2 hno); clear R k0 e0 e1 e2 e3 e4; have R := B2.rules; simp only [Rules] at R; have Z := (hL _ (B2.blks.2)).rules; simp only [Rules] at Z; have k0 : World.cell? w2 ⟨w.heap.size, 2, none⟩ = some (.slice A1 d.sp.length c1) := Z.1.1 2; have e0 : World.cell? w2 ⟨w.heap.size + 3, 0, none⟩ = some (.int .i64 (Spl.g x 0)) := Z.2.1.1 0; have e1 : World.cell? w2 ⟨w.heap.size + 3, 1, none⟩ = some (.int .i64 (Spl.g x 1)) := Z.2.1.1 1; have e2 : World.cell? w2 ⟨w.heap.size + 3, 2, none⟩ = some (.int .i64 (Spl.g x 2)) := Z.2.1.1 2; have e3 : World.cell? w2 ⟨w.heap.size + 3, 3, none⟩ = some (.int .i64 (Spl.g x 3)) := Z.2.1.1 3; have e4 : World.cell? w2 ⟨w.heap.size + 3, 4, none⟩ = some (.int .i64 (Spl.g x 4)) := Z.2.1.1 4; clear Z)
      | (refine ite_yes (by kernel_rfl) ?_; (with_reducible refine oper_at ((B.skip (.cells #[] 47)).alloc #[.int .i64 (Spl.g x 0), .int .i64 (Spl.g x 1), .int .i64 (Spl.g x 2), .int .i64 (Spl.g x 3), .int .i64 (Spl.g x 4)] 47).drew 70 ?_); (refine @oper_join Tryz.prog Spl w _ _ ((B.skip (.cells #[] 47)).alloc #[.int .i64 (Spl.g x 0), .int .i64 (Spl.g x 1), .int .i64 (Spl.g x 2), .int .i64 (Spl.g x 3), .int .i64 (Spl.g x 4)] 47).drew _ _ _ _ (.tmp 67) (.tmp 69) 22 47 rfl i0 _ 5 40 Tryz.underlying22 hi0 hz0 hz1 hz2 rfl (by decide) (.slice (some ⟨X.heap.size, 0, none⟩) 0 0) 0 [] rfl (own_of_blk (blk_old (blk_new X (.cells #[] 47)) _) hX 5) ⟨by simp [Value.ownBlock], noown_at (Nat.le_refl _) B.blks⟩ A1 c1 Spl.g d.sp rfl (H.out.later ((B.skip (.cells #[] 47)).alloc #[.int .i64 (Spl.g x 0), .int .i64 (Spl.g x 1), .int .i64 (Spl.g x 2), .int .i64 (Spl.g x 3), .int .i64 (Spl.g x 4)] 47).drew.below) hA (by simp only [maxLen]; omega) (by omega) ?_); intro v2 w2 hown hno B2; (try simp only [alloc_size] at B2 hno); clear R k0 e0 e1 e2 e3 e4; have R := B2.rules; simp only [Rules] at R; have Z := (hL _ (B2.blks.2.2)).rules; simp only [Rules] at Z; have k0 : World.cell? w2 ⟨w.heap.size, 2, none⟩ = some (.slice A1 d.sp.length c1) := Z.1.1 2; have e0 : World.cell? w2 ⟨w.heap.size + 3, 0, none⟩ = some (.int .i64 (Spl.g x 0)) := Z.2.1.1 0; have e1 : World.cell? w2 ⟨w.heap.size + 3, 1, none⟩ = some (.int .i64 (Spl.g x 1)) := Z.2.1.1 1; have e2 : World.cell? w2 ⟨w.heap.size + 3, 2, none⟩ = some (.int .i64 (Spl.g x 2)) := Z.2.1.1 2; have e3 : World.cell? w2 ⟨w.heap.size + 3, 3, none⟩ = some (.int .i64 (Spl.g x 3)) := Z.2.1.1 3; have e4 : World.cell? w2 ⟨w.heap.size + 3, 4, none⟩ = some (.int .i64 (Spl.g x 4)) := Z.2.1.1 4; clear Z)
      | (refine ite_yes (by kernel_rfl) ?_; (with_reducible refine oper_at ((B.alloc #[.int .i64 (Spl.g x 0), .int .i64 (Spl.g x 1), .int .i64 (Spl.g x 2), .int .i64 (Spl.g x 3), .int .i64 (Spl.g x 4)] 47).skip (.cells #[] 47)).drew 70 ?_); (refine @oper_join Tryz.prog Spl w _ _ ((B.alloc #[.int .i64 (Spl.g x 0), .int .i64 (Spl.g x 1), .int .i64 (Spl.g x 2), .int .i64 (Spl.g x 3), .int .i64 (Spl.g x 4)] 47).skip (.cells #[] 47)).drew _ _ _ _ (.tmp 67) (.tmp 69) 22 47 rfl i0 _ 5 40 Tryz.underlying22 hi0 hz0 hz1 hz2 rfl (by decide) (.slice (some ⟨X.heap.size + 1, 0, none⟩) 0 0) 0 [] rfl (own_of_blk (blk_at (X.alloc (.cells #[.int .i64 (Spl.g x 0), .int .i64 (Spl.g x 1), .int .i64 (Spl.g x 2), .int .i64 (Spl.g x 3), .int .i64 (Spl.g x 4)] 47)) (.cells #[] 47) (X.heap.size + 1) (alloc_size _ _).symm) (by omega) 5) (noown_at (Nat.le_of_eq (alloc_size _ _)) (B.alloc #[.int .i64 (Spl.g x 0), .int .i64 (Spl.g x 1), .int .i64 (Spl.g x 2), .int .i64 (Spl.g x 3), .int .i64 (Spl.g x 4)] 47).blks) A1 c1 Spl.g d.sp rfl (H.out.later ((B.alloc #[.int .i64 (Spl.g x 0), .int .i64 (Spl.g x 1), .int .i64 (Spl.g x 2), .int .i64 (Spl.g x 3), .int .i64 (Spl.g x 4)] 47).skip (.cells #[] 47)).drew.below) hA (by simp only [maxLen]; omega) (by omega) ?_); intro v2 w2 hown hno B2; (try simp only [alloc_size] at B2 hno); clear R k0 e0 e1 e2 e3 e4; have R := B2.rules; simp only [Rules] at R; have Z := (hL _ (B2.blks.2.2)).rules; simp only [Rules] at Z; have k0 : World.cell? w2 ⟨w.heap.size, 2, none⟩ = some (.slice A1 d.sp.length c1) := Z.1.1 2; have e0 : World.cell? w2 ⟨w.heap.size + 3, 0, none⟩ = some (.int .i64 (Spl.g x 0)) := Z.2.1.1 0; have e1 : World.cell? w2 ⟨w.heap.size + 3, 1, none⟩ = some (.int .i64 (Spl.g x 1)) := Z.2.1.1 1; have e2 : World.cell? w2 ⟨w.heap.size + 3, 2, none⟩ = some (.int .i64 (Spl.g x 2)) := Z.2.1.1 2; have e3 : World.cell? w2 ⟨w.heap.size + 3, 3, none⟩ = some (.int .i64 (Spl.g x 3)) := Z.2.1.1 3; have e4 : World.cell? w2 ⟨w.heap.size + 3, 4, none⟩ = some (.int .i64 (Spl.g x 4)) := Z.2.1.1 4; clear Z)
      | (refine ite_yes (by kernel_rfl) ?_; (with_reducible refine oper_at (B2.alloc #[.int .i64 (Spl.g x 0), .int .i64 (Spl.g x 1), .int .i64 (Spl.g x 2), .int .i64 (Spl.g x 3), .int .i64 (Spl.g x 4)] 47) 73 ?_); (refine @oper_push Tryz.prog w _ _ (B2.alloc #[.int .i64 (Spl.g x 0), .int .i64 (Spl.g x 1), .int .i64 (Spl.g x 2), .int .i64 (Spl.g x 3), .int .i64 (Spl.g x 4)] 47) _ _ _ _ (.tmp 70) (.tmp 72) 22 47 rfl i0 _ 5 40 Tryz.underlying22 hi0 hz0 hz1 hz2 rfl (by decide) _ _ _ rfl (own_alloc hown _) ⟨own_new hown, hno⟩ _ _ [.int .i64 (Spl.g x 0), .int .i64 (Spl.g x 1), .int .i64 (Spl.g x 2), .int .i64 (Spl.g x 3), .int .i64 (Spl.g x 4)] rfl rfl (cells_blk (B2.alloc #[.int .i64 (Spl.g x 0), .int .i64 (Spl.g x 1), .int .i64 (Spl.g x 2), .int .i64 (Spl.g x 3), .int .i64 (Spl.g x 4)] 47)) (one_cells rfl) (by simp only [maxLen]; omega) (by omega) ?_); intro v3 w3 hown3 hno3 B3; obtain ⟨SA3, sc3, rfl⟩ := own_slice hown3; clear R k0 e0 e1 e2 e3 e4; have R := B3.tail.rules; simp only [Rules] at R; have Z := (hL _ (B3.blks.2.2)).rules; simp only [Rules] at Z; have k0 : World.cell? w3 ⟨w.heap.size, 2, none⟩ = some (.slice A1 d.sp.length c1) := Z.1.1 2; have e0 : World.cell? w3 ⟨w.heap.size + 3, 0, none⟩ = some (.int .i64 (Spl.g x 0)) := Z.2.1.1 0; have e1 : World.cell? w3 ⟨w.heap.size + 3, 1, none⟩ = some (.int .i64 (Spl.g x 1)) := Z.2.1.1 1; have e2 : World.cell? w3 ⟨w.heap.size + 3, 2, none⟩ = some (.int .i64 (Spl.g x 2)) := Z.2.1.1 2; have e3 : World.cell? w3 ⟨w.heap.size + 3, 3, none⟩ = some (.int .i64 (Spl.g x 3)) := Z.2.1.1 3; have e4 : World.cell? w3 ⟨w.heap.size + 3, 4, none⟩ = some (.int .i64 (Spl.g x 4)) := Z.2.1.1 4; clear Z)
      | (refine ite_yes (by kernel_rfl) ?_; (with_reducible refine oper_at B2 73 ?_); (refine @oper_push Tryz.prog w _ _ B2 _ _ _ _ (.tmp 70) (.tmp 72) 22 47 rfl i0 _ 5 40 Tryz.underlying22 hi0 hz0 hz1 hz2 rfl (by decide) _ _ _ rfl hown hno _ _ [.int .i64 (Spl.g x 0), .int .i64 (Spl.g x 1), .int .i64 (Spl.g x 2), .int .i64 (Spl.g x 3), .int .i64 (Spl.g x 4)] rfl rfl (cells_blk B2) (one_cells rfl) (by simp only [maxLen]; omega) (by omega) ?_); intro v3 w3 hown3 hno3 B3; obtain ⟨SA3, sc3, rfl⟩ := own_slice hown3; clear R k0 e0 e1 e2 e3 e4; have R := B3.tail.rules; simp only [Rules] at R; have Z := (hL _ (B3.blks.2.2)).rules; simp only [Rules] at Z; have k0 : World.cell? w3 ⟨w.heap.size, 2, none⟩ = some (.slice A1 d.sp.length c1) := Z.1.1 2; have e0 : World.cell? w3 ⟨w.heap.size + 3, 0, none⟩ = some (.int .i64 (Spl.g x 0)) := Z.2.1.1 0; have e1 : World.cell? w3 ⟨w.heap.size + 3, 1, none⟩ = some (.int .i64 (Spl.g x 1)) := Z.2.1.1 1; have e2 : World.cell? w3 ⟨w.heap.size + 3, 2, none⟩ = some (.int .i64 (Spl.g x 2)) := Z.2.1.1 2; have e3 : World.cell? w3 ⟨w.heap.size + 3, 3, none⟩ = some (.int .i64 (Spl.g x 3)) := Z.2.1.1 3; have e4 : World.cell? w3 ⟨w.heap.size + 3, 4, none⟩ = some (.int .i64 (Spl.g x 4)) := Z.2.1.1 4; clear Z))
  all_goals
    have h0 : 0 + d.sp.length + 1 = d.sp.length + 1 := by omega
    rw [h0] at hown3 hno3
    clear R k0 e0 e1 e2 e3 e4 hown hno B2 B
    show K _ _
    exact HQ.out _ _ _ _ _ _ _ _ SA3 (d.sp.length + 1) sc3 _ rfl (own_put (push_own hown3 rfl) hno3.2.1 _ _) ⟨hno3.2.1, hno3.2.2⟩ (by simpa using B3.tail.put1 2 (.slice SA3 (d.sp.length + 1) sc3) (by omega) hE)
theorem info42' : (Tryz.prog.info? 42).map (fun i => (i.zero, i.size, i.bytes)) = some (some (.agg #[.int .i64 0, .int .i64 0, .int .i64 0, .int .i64 0, .int .i64 0]), 5, 40) := by kernel_rfl
set_option maxRecDepth 100000 in
set_option maxHeartbeats 4000000 in
theorem over_reg7 (d : Scr) (A1 A2 A3 A4 A5 : Option Addr) (c1 c2 c3 c4 c5 : Nat) (x : Dfc) (hn : d.df.length ≤ 100) (w : World) (b : Nat) (hb : w.heap.size + 5 < b) (y0 y1 y2 y3 y4 y5 y6 : Value) (L : List (Nat × Array Value × TypeId)) (hE : NotIn b L) (hL : ∀ W, Blks W L → Blks W [(w.heap.size, #[.int .i64 d.f, .int .i64 d.u, .slice A1 d.sp.length c1, .slice A2 d.ov.length c2, .slice A3 d.df.length c3, .slice A4 d.py.length c4, .slice A5 d.fo.length c5], 28), (w.heap.size + 4, #[.int .i64 (Dfc.g x 0), .int .i64 (Dfc.g x 1), .int .i64 (Dfc.g x 2), .int .i64 (Dfc.g x 3), .int .i64 (Dfc.g x 4)], 42)])
    (h : RowsAt w A3 5 Dfc.g d.df) {K : Act → World → Prop} {Q : Exit → Act → World → Prop} (u0 u1 u2 u3 u4 u5 u6 u8 u9 u10 u11 u13 u14 u15 u17 u18 u19 u20 u21 u22 u23 u24 u25 u26 u27 u28 u29 u30 u31 u32 u33 u34 u35 u36 u37 u38 u39 u40 u41 u42 u43 u44 u45 u46 u47 u48 u49 u50 u51 u52 u53 u54 u55 u56 u57 u58 u59 u60 u61 u62 u63 u64 u65 u66 u67 u68 u69 u70 u71 u72 u73 u74 u75 u76 u77 u78 u79 u80 u81 u82 u83 u84 u85 u86 u87 u88 u89 u90 u91 u92 u93 u94 u95 u96 u97 u98 u99 u100 u101 u102 u103 u104 u105 u106 u107 u108 u109 u110 u111 u112 u113 u114 u115 : Value) (X : World) (B : St w X ((b, #[y0, y1, y2, y3, y4, y5, y6], 28) :: L))
    (hQ : ∀ (v75 v76 v77 v78 v79 v80 v81 v82 : Value) (X : Option Addr) (n k : Nat) (W' : World), n = d.df.length + 1 → W'.ownsRow w.heap.size 42 5 (.slice X n k) n (rowL Dfc.g 5 (d.df ++ [x])) → NoOwn (.slice X n k) ((b, #[y0, y1, y2, y3, .slice X n k, y5, y6], 28) :: L) → St w W' ((b, #[y0, y1, y2, y3, .slice X n k, y5, y6], 28) :: L) → K ⟨#[u0, u1, u2, u3, u4, u5, u6, .pointer (some ⟨w.heap.size, 0, none⟩), u8, u9, u10, u11, .pointer (some ⟨w.heap.size + 4, 0, none⟩), u13, u14, u15, .pointer (some ⟨b, 0, none⟩), u17, u18, u19, u20, u21, u22, u23, u24, u25, u26, u27, u28, u29, u30, u31, u32, u33, u34, u35, u36, u37, u38, u39, u40, u41, u42, u43, u44, u45, u46, u47, u48, u49, u50, u51, u52, u53, u54, u55, u56, u57, u58, u59, u60, u61, u62, u63, u64, u65, u66, u67, u68, u69, u70, u71, u72, u73, u74, v75, v76, v77, v78, v79, v80, v81, v82, u83, u84, u85, u86, u87, u88, u89, u90, u91, u92, u93, u94, u95, u96, u97, u98, u99, u100, u101, u102, u103, u104, u105, u106, u107, u108, u109, u110, u111, u112, u113, u114, u115], []⟩ W') :
    Code.wp Tryz.prog (codeAt Tryz.f5 [1, 1, 1, 1, 1, 1, 0]) (Exit.then K Q) ⟨#[u0, u1, u2, u3, u4, u5, u6, .pointer (some ⟨w.heap.size, 0, none⟩), u8, u9, u10, u11, .pointer (some ⟨w.heap.size + 4, 0, none⟩), u13, u14, u15, .pointer (some ⟨b, 0, none⟩), u17, u18, u19, u20, u21, u22, u23, u24, u25, u26, u27, u28, u29, u30, u31, u32, u33, u34, u35, u36, u37, u38, u39, u40, u41, u42, u43, u44, u45, u46, u47, u48, u49, u50, u51, u52, u53, u54, u55, u56, u57, u58, u59, u60, u61, u62, u63, u64, u65, u66, u67, u68, u69, u70, u71, u72, u73, u74, u75, u76, u77, u78, u79, u80, u81, u82, u83, u84, u85, u86, u87, u88, u89, u90, u91, u92, u93, u94, u95, u96, u97, u98, u99, u100, u101, u102, u103, u104, u105, u106, u107, u108, u109, u110, u111, u112, u113, u114, u115], []⟩ X := by
  show Code.wp Tryz.prog (Code.region _ _ _) _ _ _
  dsimp only
  have HQ := Lib.hid hQ
  have H := Lib.hid h
  have hA : A3 = none → d.df = [] := fun e => RowsAt.none (by have h := H.out; rw [e] at h; exact h)
  obtain ⟨i0, hi0, hz0, hz1, hz2⟩ := info_parts info42'
  clear hQ h
  have R := B.rules
  simp only [Rules] at R
  have hX := B.below.size
  have Z := (hL _ (B.blks.2)).rules; simp only [Rules] at Z; have k0 : World.cell? X ⟨w.heap.size, 4, none⟩ = some (.slice A3 d.df.length c3) := Z.1.1 4; have e0 : World.cell? X ⟨w.heap.size + 4, 0, none⟩ = some (.int .i64 (Dfc.g x 0)) := Z.2.1.1 0; have e1 : World.cell? X ⟨w.heap.size + 4, 1, none⟩ = some (.int .i64 (Dfc.g x 1)) := Z.2.1.1 1; have e2 : World.cell? X ⟨w.heap.size + 4, 2, none⟩ = some (.int .i64 (Dfc.g x 2)) := Z.2.1.1 2; have e3 : World.cell? X ⟨w.heap.size + 4, 3, none⟩ = some (.int .i64 (Dfc.g x 3)) := Z.2.1.1 3; have e4 : World.cell? X ⟨w.heap.size + 4, 4, none⟩ = some (.int .i64 (Dfc.g x 4)) := Z.2.1.1 4; clear Z
  go_region_held3 (fun (Y : World) => World.cell? Y ⟨w.heap.size, 4, none⟩ = some (.slice A3 d.df.length c3) ∧ World.cell? Y ⟨w.heap.size + 4, 0, none⟩ = some (.int .i64 (Dfc.g x 0)) ∧ World.cell? Y ⟨w.heap.size + 4, 1, none⟩ = some (.int .i64 (Dfc.g x 1)) ∧ World.cell? Y ⟨w.heap.size + 4, 2, none⟩ = some (.int .i64 (Dfc.g x 2)) ∧ World.cell? Y ⟨w.heap.size + 4, 3, none⟩ = some (.int .i64 (Dfc.g x 3)) ∧ World.cell? Y ⟨w.heap.size + 4, 4, none⟩ = some (.int .i64 (Dfc.g x 4)))
    (with_reducible first | exact ⟨k0, e0, e1, e2, e3, e4⟩ | exact ⟨keep_dr k0, keep_dr e0, keep_dr e1, keep_dr e2, keep_dr e3, keep_dr e4⟩ | exact ⟨keep_dr (keep_al k0), keep_dr (keep_al e0), keep_dr (keep_al e1), keep_dr (keep_al e2), keep_dr (keep_al e3), keep_dr (keep_al e4)⟩ | exact ⟨keep_dr (keep_al (keep_al k0)), keep_dr (keep_al (keep_al e0)), keep_dr (keep_al (keep_al e1)), keep_dr (keep_al (keep_al e2)), keep_dr (keep_al (keep_al e3)), keep_dr (keep_al (keep_al e4))⟩ | exact ⟨keep_al k0, keep_al e0, keep_al e1, keep_al e2, keep_al e3, keep_al e4⟩ | (refine ⟨keep_st ?_ k0, keep_st ?_ e0, keep_st ?_ e1, keep_st ?_ e2, keep_st ?_ e3, keep_st ?_ e4⟩ <;> (dsimp only; omega)))
    (first
      | (refine ite_yes (by kernel_rfl) ?_; (with_reducible refine oper_at (B.skip (.cells #[] 42)).drew 78 ?_); (refine @oper_join Tryz.prog Dfc w _ _ (B.skip (.cells #[] 42)).drew _ _ _ _ (.tmp 75) (.tmp 77) 24 42 rfl i0 _ 5 40 Tryz.underlying24 hi0 hz0 hz1 hz2 rfl (by decide) (.slice (some ⟨X.heap.size, 0, none⟩) 0 0) 0 [] rfl (own_of_blk (blk_new X (.cells #[] 42)) hX 5) (noown_at (Nat.le_refl _) B.blks) A3 c3 Dfc.g d.df rfl (H.out.later (B.skip (.cells #[] 42)).drew.below) hA (by simp only [maxLen]; omega) (by omega) ?_); intro v2 w2 hown hno B2; (try simp only [alloc_size] at B2 hno); clear R k0 e0 e1 e2 e3 e4; have R := B2.rules; simp only [Rules] at R; have Z := (hL _ (B2.blks.2)).rules; simp only [Rules] at Z; have k0 : World.cell? w2 ⟨w.heap.size, 4, none⟩ = some (.slice A3 d.df.length c3) := Z.1.1 4; have e0 : World.cell? w2 ⟨w.heap.size + 4, 0, none⟩ = some (.int .i64 (Dfc.g x 0)) := Z.2.1.1 0; have e1 : World.cell? w2 ⟨w.heap.size + 4, 1, none⟩ = some (.int .i64 (Dfc.g x 1)) := Z.2.1.1 1; have e2 : World.cell? w2 ⟨w.heap.size + 4, 2, none⟩ = some (.int .i64 (Dfc.g x 2)) := Z.2.1.1 2; have e3 : World.cell? w2 ⟨w.heap.size + 4, 3, none⟩ = some (.int .i64 (Dfc.g x 3)) := Z.2.1.1 3; have e4 : World.cell? w2 ⟨w.heap.size + 4, 4, none⟩ = some (.int .i64 (Dfc.g x 4)) := Z.2.1.1 4; clear Z)
      | (refine ite_yes (by kernel_rfl) ?_; (with_reducible refine oper_at ((B.skip (.cells #[] 42)).alloc #[.int .i64 (Dfc.g x 0), .int .i64 (Dfc.g x 1), .int .i64 (Dfc.g x 2), .int .i64 (Dfc.g x 3), .int .i64 (Dfc.g x 4)] 42).drew 78 ?_); (refine @oper_join Tryz.prog Dfc w _ _ ((B.skip (.cells #[] 42)).alloc #[.int .i64 (Dfc.g x 0), .int .i64 (Dfc.g x 1), .int .i64 (Dfc.g x 2), .int .i64 (Dfc.g x 3), .int .i64 (Dfc.g x 4)] 42).drew _ _ _ _ (.tmp 75) (.tmp 77) 24 42 rfl i0 _ 5 40 Tryz.underlying24 hi0 hz0 hz1 hz2 rfl (by decide) (.slice (some ⟨X.heap.size, 0, none⟩) 0 0) 0 [] rfl (own_of_blk (blk_old (blk_new X (.cells #[] 42)) _) hX 5) ⟨by simp [Value.ownBlock], noown_at (Nat.le_refl _) B.blks⟩ A3 c3 Dfc.g d.df rfl (H.out.later ((B.skip (.cells #[] 42)).alloc #[.int .i64 (Dfc.g x 0), .int .i64 (Dfc.g x 1), .int .i64 (Dfc.g x 2), .int .i64 (Dfc.g x 3), .int .i64 (Dfc.g x 4)] 42).drew.below) hA (by simp only [maxLen]; omega) (by omega) ?_); intro v2 w2 hown hno B2; (try simp only [alloc_size] at B2 hno); clear R k0 e0 e1 e2 e3 e4; have R := B2.rules; simp only [Rules] at R; have Z := (hL _ (B2.blks.2.2)).rules; simp only [Rules] at Z; have k0 : World.cell? w2 ⟨w.heap.size, 4, none⟩ = some (.slice A3 d.df.length c3) := Z.1.1 4; have e0 : World.cell? w2 ⟨w.heap.size + 4, 0, none⟩ = some (.int .i64 (Dfc.g x 0)) := Z.2.1.1 0; have e1 : World.cell? w2 ⟨w.heap.size + 4, 1, none⟩ = some (.int .i64 (Dfc.g x 1)) := Z.2.1.1 1; have e2 : World.cell? w2 ⟨w.heap.size + 4, 2, none⟩ = some (.int .i64 (Dfc.g x 2)) := Z.2.1.1 2; have e3 : World.cell? w2 ⟨w.heap.size + 4, 3, none⟩ = some (.int .i64 (Dfc.g x 3)) := Z.2.1.1 3; have e4 : World.cell? w2 ⟨w.heap.size + 4, 4, none⟩ = some (.int .i64 (Dfc.g x 4)) := Z.2.1.1 4; clear Z)
      | (refine ite_yes (by kernel_rfl) ?_; (with_reducible refine oper_at ((B.alloc #[.int .i64 (Dfc.g x 0), .int .i64 (Dfc.g x 1), .int .i64 (Dfc.g x 2), .int .i64 (Dfc.g x 3), .int .i64 (Dfc.g x 4)] 42).skip (.cells #[] 42)).drew 78 ?_); (refine @oper_join Tryz.prog Dfc w _ _ ((B.alloc #[.int .i64 (Dfc.g x 0), .int .i64 (Dfc.g x 1), .int .i64 (Dfc.g x 2), .int .i64 (Dfc.g x 3), .int .i64 (Dfc.g x 4)] 42).skip (.cells #[] 42)).drew _ _ _ _ (.tmp 75) (.tmp 77) 24 42 rfl i0 _ 5 40 Tryz.underlying24 hi0 hz0 hz1 hz2 rfl (by decide) (.slice (some ⟨X.heap.size + 1, 0, none⟩) 0 0) 0 [] rfl (own_of_blk (blk_at (X.alloc (.cells #[.int .i64 (Dfc.g x 0), .int .i64 (Dfc.g x 1), .int .i64 (Dfc.g x 2), .int .i64 (Dfc.g x 3), .int .i64 (Dfc.g x 4)] 42)) (.cells #[] 42) (X.heap.size + 1) (alloc_size _ _).symm) (by omega) 5) (noown_at (Nat.le_of_eq (alloc_size _ _)) (B.alloc #[.int .i64 (Dfc.g x 0), .int .i64 (Dfc.g x 1), .int .i64 (Dfc.g x 2), .int .i64 (Dfc.g x 3), .int .i64 (Dfc.g x 4)] 42).blks) A3 c3 Dfc.g d.df rfl (H.out.later ((B.alloc #[.int .i64 (Dfc.g x 0), .int .i64 (Dfc.g x 1), .int .i64 (Dfc.g x 2), .int .i64 (Dfc.g x 3), .int .i64 (Dfc.g x 4)] 42).skip (.cells #[] 42)).drew.below) hA (by simp only [maxLen]; omega) (by omega) ?_); intro v2 w2 hown hno B2; (try simp only [alloc_size] at B2 hno); clear R k0 e0 e1 e2 e3 e4; have R := B2.rules; simp only [Rules] at R; have Z := (hL _ (B2.blks.2.2)).rules; simp only [Rules] at Z; have k0 : World.cell? w2 ⟨w.heap.size, 4, none⟩ = some (.slice A3 d.df.length c3) := Z.1.1 4; have e0 : World.cell? w2 ⟨w.heap.size + 4, 0, none⟩ = some (.int .i64 (Dfc.g x 0)) := Z.2.1.1 0; have e1 : World.cell? w2 ⟨w.heap.size + 4, 1, none⟩ = some (.int .i64 (Dfc.g x 1)) := Z.2.1.1 1; have e2 : World.cell? w2 ⟨w.heap.size + 4, 2, none⟩ = some (.int .i64 (Dfc.g x 2)) := Z.2.1.1 2; have e3 : World.cell? w2 ⟨w.heap.size + 4, 3, none⟩ = some (.int .i64 (Dfc.g x 3)) := Z.2.1.1 3; have e4 : World.cell? w2 ⟨w.heap.size + 4, 4, none⟩ = some (.int .i64 (Dfc.g x 4)) := Z.2.1.1 4; clear Z)
      | (refine ite_yes (by kernel_rfl) ?_; (with_reducible refine oper_at (B2.alloc #[.int .i64 (Dfc.g x 0), .int .i64 (Dfc.g x 1), .int .i64 (Dfc.g x 2), .int .i64 (Dfc.g x 3), .int .i64 (Dfc.g x 4)] 42) 81 ?_); (refine @oper_push Tryz.prog w _ _ (B2.alloc #[.int .i64 (Dfc.g x 0), .int .i64 (Dfc.g x 1), .int .i64 (Dfc.g x 2), .int .i64 (Dfc.g x 3), .int .i64 (Dfc.g x 4)] 42) _ _ _ _ (.tmp 78) (.tmp 80) 24 42 rfl i0 _ 5 40 Tryz.underlying24 hi0 hz0 hz1 hz2 rfl (by decide) _ _ _ rfl (own_alloc hown _) ⟨own_new hown, hno⟩ _ _ [.int .i64 (Dfc.g x 0), .int .i64 (Dfc.g x 1), .int .i64 (Dfc.g x 2), .int .i64 (Dfc.g x 3), .int .i64 (Dfc.g x 4)] rfl rfl (cells_blk (B2.alloc #[.int .i64 (Dfc.g x 0), .int .i64 (Dfc.g x 1), .int .i64 (Dfc.g x 2), .int .i64 (Dfc.g x 3), .int .i64 (Dfc.g x 4)] 42)) (one_cells rfl) (by simp only [maxLen]; omega) (by omega) ?_); intro v3 w3 hown3 hno3 B3; obtain ⟨SA3, sc3, rfl⟩ := own_slice hown3; clear R k0 e0 e1 e2 e3 e4; have R := B3.tail.rules; simp only [Rules] at R; have Z := (hL _ (B3.blks.2.2)).rules; simp only [Rules] at Z; have k0 : World.cell? w3 ⟨w.heap.size, 4, none⟩ = some (.slice A3 d.df.length c3) := Z.1.1 4; have e0 : World.cell? w3 ⟨w.heap.size + 4, 0, none⟩ = some (.int .i64 (Dfc.g x 0)) := Z.2.1.1 0; have e1 : World.cell? w3 ⟨w.heap.size + 4, 1, none⟩ = some (.int .i64 (Dfc.g x 1)) := Z.2.1.1 1; have e2 : World.cell? w3 ⟨w.heap.size + 4, 2, none⟩ = some (.int .i64 (Dfc.g x 2)) := Z.2.1.1 2; have e3 : World.cell? w3 ⟨w.heap.size + 4, 3, none⟩ = some (.int .i64 (Dfc.g x 3)) := Z.2.1.1 3; have e4 : World.cell? w3 ⟨w.heap.size + 4, 4, none⟩ = some (.int .i64 (Dfc.g x 4)) := Z.2.1.1 4; clear Z)
      | (refine ite_yes (by kernel_rfl) ?_; (with_reducible refine oper_at B2 81 ?_); (refine @oper_push Tryz.prog w _ _ B2 _ _ _ _ (.tmp 78) (.tmp 80) 24 42 rfl i0 _ 5 40 Tryz.underlying24 hi0 hz0 hz1 hz2 rfl (by decide) _ _ _ rfl hown hno _ _ [.int .i64 (Dfc.g x 0), .int .i64 (Dfc.g x 1), .int .i64 (Dfc.g x 2), .int .i64 (Dfc.g x 3), .int .i64 (Dfc.g x 4)] rfl rfl (cells_blk B2) (one_cells rfl) (by simp only [maxLen]; omega) (by omega) ?_); intro v3 w3 hown3 hno3 B3; obtain ⟨SA3, sc3, rfl⟩ := own_slice hown3; clear R k0 e0 e1 e2 e3 e4; have R := B3.tail.rules; simp only [Rules] at R; have Z := (hL _ (B3.blks.2.2)).rules; simp only [Rules] at Z; have k0 : World.cell? w3 ⟨w.heap.size, 4, none⟩ = some (.slice A3 d.df.length c3) := Z.1.1 4; have e0 : World.cell? w3 ⟨w.heap.size + 4, 0, none⟩ = some (.int .i64 (Dfc.g x 0)) := Z.2.1.1 0; have e1 : World.cell? w3 ⟨w.heap.size + 4, 1, none⟩ = some (.int .i64 (Dfc.g x 1)) := Z.2.1.1 1; have e2 : World.cell? w3 ⟨w.heap.size + 4, 2, none⟩ = some (.int .i64 (Dfc.g x 2)) := Z.2.1.1 2; have e3 : World.cell? w3 ⟨w.heap.size + 4, 3, none⟩ = some (.int .i64 (Dfc.g x 3)) := Z.2.1.1 3; have e4 : World.cell? w3 ⟨w.heap.size + 4, 4, none⟩ = some (.int .i64 (Dfc.g x 4)) := Z.2.1.1 4; clear Z))
  all_goals
    have h0 : 0 + d.df.length + 1 = d.df.length + 1 := by omega
    rw [h0] at hown3 hno3
    clear R k0 e0 e1 e2 e3 e4 hown hno B2 B
    show K _ _
    exact HQ.out _ _ _ _ _ _ _ _ SA3 (d.df.length + 1) sc3 _ rfl (own_put (push_own hown3 rfl) hno3.2.1 _ _) ⟨hno3.2.1, hno3.2.2⟩ (by simpa using B3.tail.put1 4 (.slice SA3 (d.df.length + 1) sc3) (by omega) hE)
theorem info49' : (Tryz.prog.info? 49).map (fun i => (i.zero, i.size, i.bytes)) = some (some (.agg #[.int .i64 0, .int .i64 0, .int .i64 0, .int .i64 0, .int .i64 0, .int .i64 0, .int .i64 0]), 7, 56) := by kernel_rfl
set_option maxRecDepth 100000 in
set_option maxHeartbeats 4000000 in
theorem over_reg8 (d : Scr) (A1 A2 A3 A4 A5 : Option Addr) (c1 c2 c3 c4 c5 : Nat) (x : Ovr) (hn : d.ov.length ≤ 100) (w : World) (b : Nat) (hb : w.heap.size + 5 < b) (y0 y1 y2 y3 y4 y5 y6 : Value) (L : List (Nat × Array Value × TypeId)) (hE : NotIn b L) (hL : ∀ W, Blks W L → Blks W [(w.heap.size, #[.int .i64 d.f, .int .i64 d.u, .slice A1 d.sp.length c1, .slice A2 d.ov.length c2, .slice A3 d.df.length c3, .slice A4 d.py.length c4, .slice A5 d.fo.length c5], 28), (w.heap.size + 5, #[.int .i64 (Ovr.g x 0), .int .i64 (Ovr.g x 1), .int .i64 (Ovr.g x 2), .int .i64 (Ovr.g x 3), .int .i64 (Ovr.g x 4), .int .i64 (Ovr.g x 5), .int .i64 (Ovr.g x 6)], 49)])
    (h : RowsAt w A2 7 Ovr.g d.ov) {K : Act → World → Prop} {Q : Exit → Act → World → Prop} (u0 u1 u2 u3 u4 u5 u6 u8 u9 u10 u11 u12 u14 u15 u17 u18 u19 u20 u21 u22 u23 u24 u25 u26 u27 u28 u29 u30 u31 u32 u33 u34 u35 u36 u37 u38 u39 u40 u41 u42 u43 u44 u45 u46 u47 u48 u49 u50 u51 u52 u53 u54 u55 u56 u57 u58 u59 u60 u61 u62 u63 u64 u65 u66 u67 u68 u69 u70 u71 u72 u73 u74 u75 u76 u77 u78 u79 u80 u81 u82 u83 u84 u85 u86 u87 u88 u89 u90 u91 u92 u93 u94 u95 u96 u97 u98 u99 u100 u101 u102 u103 u104 u105 u106 u107 u108 u109 u110 u111 u112 u113 u114 u115 : Value) (X : World) (B : St w X ((b, #[y0, y1, y2, y3, y4, y5, y6], 28) :: L))
    (hQ : ∀ (v83 v84 v85 v86 v87 v88 v89 v90 : Value) (X : Option Addr) (n k : Nat) (W' : World), n = d.ov.length + 1 → W'.ownsRow w.heap.size 49 7 (.slice X n k) n (rowL Ovr.g 7 (d.ov ++ [x])) → NoOwn (.slice X n k) ((b, #[y0, y1, y2, .slice X n k, y4, y5, y6], 28) :: L) → St w W' ((b, #[y0, y1, y2, .slice X n k, y4, y5, y6], 28) :: L) → K ⟨#[u0, u1, u2, u3, u4, u5, u6, .pointer (some ⟨w.heap.size, 0, none⟩), u8, u9, u10, u11, u12, .pointer (some ⟨w.heap.size + 5, 0, none⟩), u14, u15, .pointer (some ⟨b, 0, none⟩), u17, u18, u19, u20, u21, u22, u23, u24, u25, u26, u27, u28, u29, u30, u31, u32, u33, u34, u35, u36, u37, u38, u39, u40, u41, u42, u43, u44, u45, u46, u47, u48, u49, u50, u51, u52, u53, u54, u55, u56, u57, u58, u59, u60, u61, u62, u63, u64, u65, u66, u67, u68, u69, u70, u71, u72, u73, u74, u75, u76, u77, u78, u79, u80, u81, u82, v83, v84, v85, v86, v87, v88, v89, v90, u91, u92, u93, u94, u95, u96, u97, u98, u99, u100, u101, u102, u103, u104, u105, u106, u107, u108, u109, u110, u111, u112, u113, u114, u115], []⟩ W') :
    Code.wp Tryz.prog (codeAt Tryz.f5 [1, 1, 1, 1, 1, 1, 1, 0]) (Exit.then K Q) ⟨#[u0, u1, u2, u3, u4, u5, u6, .pointer (some ⟨w.heap.size, 0, none⟩), u8, u9, u10, u11, u12, .pointer (some ⟨w.heap.size + 5, 0, none⟩), u14, u15, .pointer (some ⟨b, 0, none⟩), u17, u18, u19, u20, u21, u22, u23, u24, u25, u26, u27, u28, u29, u30, u31, u32, u33, u34, u35, u36, u37, u38, u39, u40, u41, u42, u43, u44, u45, u46, u47, u48, u49, u50, u51, u52, u53, u54, u55, u56, u57, u58, u59, u60, u61, u62, u63, u64, u65, u66, u67, u68, u69, u70, u71, u72, u73, u74, u75, u76, u77, u78, u79, u80, u81, u82, u83, u84, u85, u86, u87, u88, u89, u90, u91, u92, u93, u94, u95, u96, u97, u98, u99, u100, u101, u102, u103, u104, u105, u106, u107, u108, u109, u110, u111, u112, u113, u114, u115], []⟩ X := by
  show Code.wp Tryz.prog (Code.region _ _ _) _ _ _
  dsimp only
  have HQ := Lib.hid hQ
  have H := Lib.hid h
  have hA : A2 = none → d.ov = [] := fun e => RowsAt.none (by have h := H.out; rw [e] at h; exact h)
  obtain ⟨i0, hi0, hz0, hz1, hz2⟩ := info_parts info49'
  clear hQ h
  have R := B.rules
  simp only [Rules] at R
  have hX := B.below.size
  have Z := (hL _ (B.blks.2)).rules; simp only [Rules] at Z; have k0 : World.cell? X ⟨w.heap.size, 3, none⟩ = some (.slice A2 d.ov.length c2) := Z.1.1 3; have e0 : World.cell? X ⟨w.heap.size + 5, 0, none⟩ = some (.int .i64 (Ovr.g x 0)) := Z.2.1.1 0; have e1 : World.cell? X ⟨w.heap.size + 5, 1, none⟩ = some (.int .i64 (Ovr.g x 1)) := Z.2.1.1 1; have e2 : World.cell? X ⟨w.heap.size + 5, 2, none⟩ = some (.int .i64 (Ovr.g x 2)) := Z.2.1.1 2; have e3 : World.cell? X ⟨w.heap.size + 5, 3, none⟩ = some (.int .i64 (Ovr.g x 3)) := Z.2.1.1 3; have e4 : World.cell? X ⟨w.heap.size + 5, 4, none⟩ = some (.int .i64 (Ovr.g x 4)) := Z.2.1.1 4; have e5 : World.cell? X ⟨w.heap.size + 5, 5, none⟩ = some (.int .i64 (Ovr.g x 5)) := Z.2.1.1 5; have e6 : World.cell? X ⟨w.heap.size + 5, 6, none⟩ = some (.int .i64 (Ovr.g x 6)) := Z.2.1.1 6; clear Z
  go_region_held3 (fun (Y : World) => World.cell? Y ⟨w.heap.size, 3, none⟩ = some (.slice A2 d.ov.length c2) ∧ World.cell? Y ⟨w.heap.size + 5, 0, none⟩ = some (.int .i64 (Ovr.g x 0)) ∧ World.cell? Y ⟨w.heap.size + 5, 1, none⟩ = some (.int .i64 (Ovr.g x 1)) ∧ World.cell? Y ⟨w.heap.size + 5, 2, none⟩ = some (.int .i64 (Ovr.g x 2)) ∧ World.cell? Y ⟨w.heap.size + 5, 3, none⟩ = some (.int .i64 (Ovr.g x 3)) ∧ World.cell? Y ⟨w.heap.size + 5, 4, none⟩ = some (.int .i64 (Ovr.g x 4)) ∧ World.cell? Y ⟨w.heap.size + 5, 5, none⟩ = some (.int .i64 (Ovr.g x 5)) ∧ World.cell? Y ⟨w.heap.size + 5, 6, none⟩ = some (.int .i64 (Ovr.g x 6)))
    (with_reducible first | exact ⟨k0, e0, e1, e2, e3, e4, e5, e6⟩ | exact ⟨keep_dr k0, keep_dr e0, keep_dr e1, keep_dr e2, keep_dr e3, keep_dr e4, keep_dr e5, keep_dr e6⟩ | exact ⟨keep_dr (keep_al k0), keep_dr (keep_al e0), keep_dr (keep_al e1), keep_dr (keep_al e2), keep_dr (keep_al e3), keep_dr (keep_al e4), keep_dr (keep_al e5), keep_dr (keep_al e6)⟩ | exact ⟨keep_dr (keep_al (keep_al k0)), keep_dr (keep_al (keep_al e0)), keep_dr (keep_al (keep_al e1)), keep_dr (keep_al (keep_al e2)), keep_dr (keep_al (keep_al e3)), keep_dr (keep_al (keep_al e4)), keep_dr (keep_al (keep_al e5)), keep_dr (keep_al (keep_al e6))⟩ | exact ⟨keep_al k0, keep_al e0, keep_al e1, keep_al e2, keep_al e3, keep_al e4, keep_al e5, keep_al e6⟩ | (refine ⟨keep_st ?_ k0, keep_st ?_ e0, keep_st ?_ e1, keep_st ?_ e2, keep_st ?_ e3, keep_st ?_ e4, keep_st ?_ e5, keep_st ?_ e6⟩ <;> (dsimp only; omega)))
    (first
      | (refine ite_yes (by kernel_rfl) ?_; (with_reducible refine oper_at (B.skip (.cells #[] 49)).drew 86 ?_); (refine @oper_join Tryz.prog Ovr w _ _ (B.skip (.cells #[] 49)).drew _ _ _ _ (.tmp 83) (.tmp 85) 23 49 rfl i0 _ 7 56 Tryz.underlying23 hi0 hz0 hz1 hz2 rfl (by decide) (.slice (some ⟨X.heap.size, 0, none⟩) 0 0) 0 [] rfl (own_of_blk (blk_new X (.cells #[] 49)) hX 7) (noown_at (Nat.le_refl _) B.blks) A2 c2 Ovr.g d.ov rfl (H.out.later (B.skip (.cells #[] 49)).drew.below) hA (by simp only [maxLen]; omega) (by omega) ?_); intro v2 w2 hown hno B2; (try simp only [alloc_size] at B2 hno); clear R k0 e0 e1 e2 e3 e4 e5 e6; have R := B2.rules; simp only [Rules] at R; have Z := (hL _ (B2.blks.2)).rules; simp only [Rules] at Z; have k0 : World.cell? w2 ⟨w.heap.size, 3, none⟩ = some (.slice A2 d.ov.length c2) := Z.1.1 3; have e0 : World.cell? w2 ⟨w.heap.size + 5, 0, none⟩ = some (.int .i64 (Ovr.g x 0)) := Z.2.1.1 0; have e1 : World.cell? w2 ⟨w.heap.size + 5, 1, none⟩ = some (.int .i64 (Ovr.g x 1)) := Z.2.1.1 1; have e2 : World.cell? w2 ⟨w.heap.size + 5, 2, none⟩ = some (.int .i64 (Ovr.g x 2)) := Z.2.1.1 2; have e3 : World.cell? w2 ⟨w.heap.size + 5, 3, none⟩ = some (.int .i64 (Ovr.g x 3)) := Z.2.1.1 3; have e4 : World.cell? w2 ⟨w.heap.size + 5, 4, none⟩ = some (.int .i64 (Ovr.g x 4)) := Z.2.1.1 4; have e5 : World.cell? w2 ⟨w.heap.size + 5, 5, none⟩ = some (.int .i64 (Ovr.g x 5)) := Z.2.1.1 5; have e6 : World.cell? w2 ⟨w.heap.size + 5, 6, none⟩ = some (.int .i64 (Ovr.g x 6)) := Z.2.1.1 6; clear Z)
      | (refine ite_yes (by kernel_rfl) ?_; (with_reducible refine oper_at ((B.skip (.cells #[] 49)).alloc #[.int .i64 (Ovr.g x 0), .int .i64 (Ovr.g x 1), .int .i64 (Ovr.g x 2), .int .i64 (Ovr.g x 3), .int .i64 (Ovr.g x 4), .int .i64 (Ovr.g x 5), .int .i64 (Ovr.g x 6)] 49).drew 86 ?_); (refine @oper_join Tryz.prog Ovr w _ _ ((B.skip (.cells #[] 49)).alloc #[.int .i64 (Ovr.g x 0), .int .i64 (Ovr.g x 1), .int .i64 (Ovr.g x 2), .int .i64 (Ovr.g x 3), .int .i64 (Ovr.g x 4), .int .i64 (Ovr.g x 5), .int .i64 (Ovr.g x 6)] 49).drew _ _ _ _ (.tmp 83) (.tmp 85) 23 49 rfl i0 _ 7 56 Tryz.underlying23 hi0 hz0 hz1 hz2 rfl (by decide) (.slice (some ⟨X.heap.size, 0, none⟩) 0 0) 0 [] rfl (own_of_blk (blk_old (blk_new X (.cells #[] 49)) _) hX 7) ⟨by simp [Value.ownBlock], noown_at (Nat.le_refl _) B.blks⟩ A2 c2 Ovr.g d.ov rfl (H.out.later ((B.skip (.cells #[] 49)).alloc #[.int .i64 (Ovr.g x 0), .int .i64 (Ovr.g x 1), .int .i64 (Ovr.g x 2), .int .i64 (Ovr.g x 3), .int .i64 (Ovr.g x 4), .int .i64 (Ovr.g x 5), .int .i64 (Ovr.g x 6)] 49).drew.below) hA (by simp only [maxLen]; omega) (by omega) ?_); intro v2 w2 hown hno B2; (try simp only [alloc_size] at B2 hno); clear R k0 e0 e1 e2 e3 e4 e5 e6; have R := B2.rules; simp only [Rules] at R; have Z := (hL _ (B2.blks.2.2)).rules; simp only [Rules] at Z; have k0 : World.cell? w2 ⟨w.heap.size, 3, none⟩ = some (.slice A2 d.ov.length c2) := Z.1.1 3; have e0 : World.cell? w2 ⟨w.heap.size + 5, 0, none⟩ = some (.int .i64 (Ovr.g x 0)) := Z.2.1.1 0; have e1 : World.cell? w2 ⟨w.heap.size + 5, 1, none⟩ = some (.int .i64 (Ovr.g x 1)) := Z.2.1.1 1; have e2 : World.cell? w2 ⟨w.heap.size + 5, 2, none⟩ = some (.int .i64 (Ovr.g x 2)) := Z.2.1.1 2; have e3 : World.cell? w2 ⟨w.heap.size + 5, 3, none⟩ = some (.int .i64 (Ovr.g x 3)) := Z.2.1.1 3; have e4 : World.cell? w2 ⟨w.heap.size + 5, 4, none⟩ = some (.int .i64 (Ovr.g x 4)) := Z.2.1.1 4; have e5 : World.cell? w2 ⟨w.heap.size + 5, 5, none⟩ = some (.int .i64 (Ovr.g x 5)) := Z.2.1.1 5; have e6 : World.cell? w2 ⟨w.heap.size + 5, 6, none⟩ = some (.int .i64 (Ovr.g x 6)) := Z.2.1.1 6; clear Z)
      | (refine ite_yes (by kernel_rfl) ?_; (with_reducible refine oper_at ((B.alloc #[.int .i64 (Ovr.g x 0), .int .i64 (Ovr.g x 1), .int .i64 (Ovr.g x 2), .int .i64 (Ovr.g x 3), .int .i64 (Ovr.g x 4), .int .i64 (Ovr.g x 5), .int .i64 (Ovr.g x 6)] 49).skip (.cells #[] 49)).drew 86 ?_); (refine @oper_join Tryz.prog Ovr w _ _ ((B.alloc #[.int .i64 (Ovr.g x 0), .int .i64 (Ovr.g x 1), .int .i64 (Ovr.g x 2), .int .i64 (Ovr.g x 3), .int .i64 (Ovr.g x 4), .int .i64 (Ovr.g x 5), .int .i64 (Ovr.g x 6)] 49).skip (.cells #[] 49)).drew _ _ _ _ (.tmp 83) (.tmp 85) 23 49 rfl i0 _ 7 56 Tryz.underlying23 hi0 hz0 hz1 hz2 rfl (by decide) (.slice (some ⟨X.heap.size + 1, 0, none⟩) 0 0) 0 [] rfl (own_of_blk (blk_at (X.alloc (.cells #[.int .i64 (Ovr.g x 0), .int .i64 (Ovr.g x 1), .int .i64 (Ovr.g x 2), .int .i64 (Ovr.g x 3), .int .i64 (Ovr.g x 4), .int .i64 (Ovr.g x 5), .int .i64 (Ovr.g x 6)] 49)) (.cells #[] 49) (X.heap.size + 1) (alloc_size _ _).symm) (by omega) 7) (noown_at (Nat.le_of_eq (alloc_size _ _)) (B.alloc #[.int .i64 (Ovr.g x 0), .int .i64 (Ovr.g x 1), .int .i64 (Ovr.g x 2), .int .i64 (Ovr.g x 3), .int .i64 (Ovr.g x 4), .int .i64 (Ovr.g x 5), .int .i64 (Ovr.g x 6)] 49).blks) A2 c2 Ovr.g d.ov rfl (H.out.later ((B.alloc #[.int .i64 (Ovr.g x 0), .int .i64 (Ovr.g x 1), .int .i64 (Ovr.g x 2), .int .i64 (Ovr.g x 3), .int .i64 (Ovr.g x 4), .int .i64 (Ovr.g x 5), .int .i64 (Ovr.g x 6)] 49).skip (.cells #[] 49)).drew.below) hA (by simp only [maxLen]; omega) (by omega) ?_); intro v2 w2 hown hno B2; (try simp only [alloc_size] at B2 hno); clear R k0 e0 e1 e2 e3 e4 e5 e6; have R := B2.rules; simp only [Rules] at R; have Z := (hL _ (B2.blks.2.2)).rules; simp only [Rules] at Z; have k0 : World.cell? w2 ⟨w.heap.size, 3, none⟩ = some (.slice A2 d.ov.length c2) := Z.1.1 3; have e0 : World.cell? w2 ⟨w.heap.size + 5, 0, none⟩ = some (.int .i64 (Ovr.g x 0)) := Z.2.1.1 0; have e1 : World.cell? w2 ⟨w.heap.size + 5, 1, none⟩ = some (.int .i64 (Ovr.g x 1)) := Z.2.1.1 1; have e2 : World.cell? w2 ⟨w.heap.size + 5, 2, none⟩ = some (.int .i64 (Ovr.g x 2)) := Z.2.1.1 2; have e3 : World.cell? w2 ⟨w.heap.size + 5, 3, none⟩ = some (.int .i64 (Ovr.g x 3)) := Z.2.1.1 3; have e4 : World.cell? w2 ⟨w.heap.size + 5, 4, none⟩ = some (.int .i64 (Ovr.g x 4)) := Z.2.1.1 4; have e5 : World.cell? w2 ⟨w.heap.size + 5, 5, none⟩ = some (.int .i64 (Ovr.g x 5)) := Z.2.1.1 5; have e6 : World.cell? w2 ⟨w.heap.size + 5, 6, none⟩ = some (.int .i64 (Ovr.g x 6)) := Z.2.1.1 6; clear Z)
      | (refine ite_yes (by kernel_rfl) ?_; (with_reducible refine oper_at (B2.alloc #[.int .i64 (Ovr.g x 0), .int .i64 (Ovr.g x 1), .int .i64 (Ovr.g x 2), .int .i64 (Ovr.g x 3), .int .i64 (Ovr.g x 4), .int .i64 (Ovr.g x 5), .int .i64 (Ovr.g x 6)] 49) 89 ?_); (refine @oper_push Tryz.prog w _ _ (B2.alloc #[.int .i64 (Ovr.g x 0), .int .i64 (Ovr.g x 1), .int .i64 (Ovr.g x 2), .int .i64 (Ovr.g x 3), .int .i64 (Ovr.g x 4), .int .i64 (Ovr.g x 5), .int .i64 (Ovr.g x 6)] 49) _ _ _ _ (.tmp 86) (.tmp 88) 23 49 rfl i0 _ 7 56 Tryz.underlying23 hi0 hz0 hz1 hz2 rfl (by decide) _ _ _ rfl (own_alloc hown _) ⟨own_new hown, hno⟩ _ _ [.int .i64 (Ovr.g x 0), .int .i64 (Ovr.g x 1), .int .i64 (Ovr.g x 2), .int .i64 (Ovr.g x 3), .int .i64 (Ovr.g x 4), .int .i64 (Ovr.g x 5), .int .i64 (Ovr.g x 6)] rfl rfl (cells_blk (B2.alloc #[.int .i64 (Ovr.g x 0), .int .i64 (Ovr.g x 1), .int .i64 (Ovr.g x 2), .int .i64 (Ovr.g x 3), .int .i64 (Ovr.g x 4), .int .i64 (Ovr.g x 5), .int .i64 (Ovr.g x 6)] 49)) (one_cells rfl) (by simp only [maxLen]; omega) (by omega) ?_); intro v3 w3 hown3 hno3 B3; obtain ⟨SA3, sc3, rfl⟩ := own_slice hown3; clear R k0 e0 e1 e2 e3 e4 e5 e6; have R := B3.tail.rules; simp only [Rules] at R; have Z := (hL _ (B3.blks.2.2)).rules; simp only [Rules] at Z; have k0 : World.cell? w3 ⟨w.heap.size, 3, none⟩ = some (.slice A2 d.ov.length c2) := Z.1.1 3; have e0 : World.cell? w3 ⟨w.heap.size + 5, 0, none⟩ = some (.int .i64 (Ovr.g x 0)) := Z.2.1.1 0; have e1 : World.cell? w3 ⟨w.heap.size + 5, 1, none⟩ = some (.int .i64 (Ovr.g x 1)) := Z.2.1.1 1; have e2 : World.cell? w3 ⟨w.heap.size + 5, 2, none⟩ = some (.int .i64 (Ovr.g x 2)) := Z.2.1.1 2; have e3 : World.cell? w3 ⟨w.heap.size + 5, 3, none⟩ = some (.int .i64 (Ovr.g x 3)) := Z.2.1.1 3; have e4 : World.cell? w3 ⟨w.heap.size + 5, 4, none⟩ = some (.int .i64 (Ovr.g x 4)) := Z.2.1.1 4; have e5 : World.cell? w3 ⟨w.heap.size + 5, 5, none⟩ = some (.int .i64 (Ovr.g x 5)) := Z.2.1.1 5; have e6 : World.cell? w3 ⟨w.heap.size + 5, 6, none⟩ = some (.int .i64 (Ovr.g x 6)) := Z.2.1.1 6; clear Z)
      | (refine ite_yes (by kernel_rfl) ?_; (with_reducible refine oper_at B2 89 ?_); (refine @oper_push Tryz.prog w _ _ B2 _ _ _ _ (.tmp 86) (.tmp 88) 23 49 rfl i0 _ 7 56 Tryz.underlying23 hi0 hz0 hz1 hz2 rfl (by decide) _ _ _ rfl hown hno _ _ [.int .i64 (Ovr.g x 0), .int .i64 (Ovr.g x 1), .int .i64 (Ovr.g x 2), .int .i64 (Ovr.g x 3), .int .i64 (Ovr.g x 4), .int .i64 (Ovr.g x 5), .int .i64 (Ovr.g x 6)] rfl rfl (cells_blk B2) (one_cells rfl) (by simp only [maxLen]; omega) (by omega) ?_); intro v3 w3 hown3 hno3 B3; obtain ⟨SA3, sc3, rfl⟩ := own_slice hown3; clear R k0 e0 e1 e2 e3 e4 e5 e6; have R := B3.tail.rules; simp only [Rules] at R; have Z := (hL _ (B3.blks.2.2)).rules; simp only [Rules] at Z; have k0 : World.cell? w3 ⟨w.heap.size, 3, none⟩ = some (.slice A2 d.ov.length c2) := Z.1.1 3; have e0 : World.cell? w3 ⟨w.heap.size + 5, 0, none⟩ = some (.int .i64 (Ovr.g x 0)) := Z.2.1.1 0; have e1 : World.cell? w3 ⟨w.heap.size + 5, 1, none⟩ = some (.int .i64 (Ovr.g x 1)) := Z.2.1.1 1; have e2 : World.cell? w3 ⟨w.heap.size + 5, 2, none⟩ = some (.int .i64 (Ovr.g x 2)) := Z.2.1.1 2; have e3 : World.cell? w3 ⟨w.heap.size + 5, 3, none⟩ = some (.int .i64 (Ovr.g x 3)) := Z.2.1.1 3; have e4 : World.cell? w3 ⟨w.heap.size + 5, 4, none⟩ = some (.int .i64 (Ovr.g x 4)) := Z.2.1.1 4; have e5 : World.cell? w3 ⟨w.heap.size + 5, 5, none⟩ = some (.int .i64 (Ovr.g x 5)) := Z.2.1.1 5; have e6 : World.cell? w3 ⟨w.heap.size + 5, 6, none⟩ = some (.int .i64 (Ovr.g x 6)) := Z.2.1.1 6; clear Z))
  all_goals
    have h0 : 0 + d.ov.length + 1 = d.ov.length + 1 := by omega
    rw [h0] at hown3 hno3
    clear R k0 e0 e1 e2 e3 e4 e5 e6 hown hno B2 B
    show K _ _
    exact HQ.out _ _ _ _ _ _ _ _ SA3 (d.ov.length + 1) sc3 _ rfl (own_put (push_own hown3 rfl) hno3.2.1 _ _) ⟨hno3.2.1, hno3.2.2⟩ (by simpa using B3.tail.put1 3 (.slice SA3 (d.ov.length + 1) sc3) (by omega) hE)
end Go.Proofs.YtbkipanlicgooaaGreatDoor
namespace Go.Proofs.YtbkipanlicgooaaGreatDoor
open Go.RowKit

theorem St.ext2 {w W : World} {q : Nat × Array Value × TypeId} {L E : List (Nat × Array Value × TypeId)} (B : St w W (q :: L)) (h : Blks W E) : St w W (q :: (E ++ L)) := ⟨B.below, B.blks.1, h.app B.blks.2⟩
/-- Suffix gives the rest, the payments that count being few. -/
theorem suffix_gen (d : Scr) (A1 A2 A3 A4 A5 : Option Addr) (c1 c2 c3 c4 c5 : Nat) (s1 s2 : ByteArray) (ver : Int) (RB : Option Addr) (rn rc : Nat) (at_ need m : Int) (w : World) (n1 : d.sp.length ≤ 100) (n2 : d.ov.length ≤ 100) (n3 : d.df.length ≤ 100) (n4 : d.py.length ≤ 100) (n5 : d.fo.length ≤ 100) (hf : (d.py.filter (inW d.u at_ m)).length ≤ 12) (hB : sufB d at_ m = true) (hS : ScrAt w d A1 A2 A3 A4 A5) (d' : Scr) (hd : sufS d at_ m = d') :
    Calls Tryz.prog 8 #[scrV d A1 A2 A3 A4 A5 c1 c2 c3 c4 c5, relV s1 s2 ver RB rn rc at_ need, .int .i64 m] w (fun e w' => ∃ X1 X2 X3 X4 X5 k1 k2 k3 k4 k5, e = .returned (.tuple #[scrV d' X1 X2 X3 X4 X5 k1 k2 k3 k4 k5, .int .i64 0]) ∧ ScrAt w' d' X1 X2 X3 X4 X5 ∧ Below w.heap.size w w') :=
  suffix_ok d A1 A2 A3 A4 A5 c1 c2 c3 c4 c5 s1 s2 ver RB rn rc at_ need m w hB n1 n2 n3 n4 n5 hf hS fun X1 X2 X3 X4 X5 k1 k2 k3 k4 k5 w' h1 h2 => by
    subst hd
    exact ⟨X1, X2, X3, X4, X5, k1, k2, k3, k4, k5, rfl, h1, h2⟩
theorem filt_late {u at_ m : Int} (l : List Pay) (p : Pay) (h : ¬ (p.a ≤ at_)) : (l ++ [p]).filter (inW u at_ m) = l.filter (inW u at_ m) := by
  rw [List.filter_append]
  have : inW u at_ m p = false := by simp [inW]; omega
  simp [this]
theorem zero_B : ScrB ⟨0, 0, [], [], [], [], []⟩ := by
  refine ⟨by unfold I64; simp, by unfold I64; simp, by simp, by simp, by simp, by simp, by simp, ?_, ?_, ?_, ?_, ?_⟩ <;> (intro y hy; cases hy)
theorem zero_at (W : World) : ScrAt W ⟨0, 0, [], [], [], [], []⟩ none none none none none := by
  refine ⟨?_, ?_, ?_, ?_, ?_⟩ <;> (intro i y hy; simp at hy)
set_option maxRecDepth 100000 in
set_option maxHeartbeats 4000000 in
theorem over_skip0 (d : Scr) (A1 A2 A3 A4 A5 : Option Addr) (c1 c2 c3 c4 c5 : Nat) (s1 s2 : ByteArray) (ver : Int) (RB : Option Addr) (rn rc : Nat) (at_ need m : Int) (p : Pay) (s : Spl) (x : Dfc) (o : Ovr) (w : World) (hf : fewB d = false) (hH : ∀ W, Below w.heap.size w W → Calls Tryz.prog 6 #[] W (Ret (.bool true) W)) :
    Calls Tryz.prog 5 #[scrV d A1 A2 A3 A4 A5 c1 c2 c3 c4 c5, relV s1 s2 ver RB rn rc at_ need, .int .i64 m, .agg #[.int .i64 p.k, .int .i64 p.t, .int .i64 p.f, .int .i64 p.a], .agg #[.int .i64 s.k, .int .i64 s.q, .int .i64 s.n, .int .i64 s.f, .int .i64 s.u], .agg #[.int .i64 x.t, .int .i64 x.c, .int .i64 x.f, .int .i64 x.u, .int .i64 x.n], .agg #[.int .i64 o.k, .int .i64 o.t, .int .i64 o.p, .int .i64 o.i, .int .i64 o.f, .int .i64 o.u, .int .i64 o.n]] w (Ret (.bool true) w) := by
  have HH := Lib.hid hH
  have C7 := Lib.hid (fun W => few_any d A1 A2 A3 A4 A5 c1 c2 c3 c4 c5 W)
  rw [hf] at C7
  clear hH hf
  unfold scrV at C7
  unfold scrV relV
  go_enter Tryz.func5, Tryz.ntmps5
  go_wp2_with fail
  have B : St w _ [(w.heap.size, #[.int .i64 d.f, .int .i64 d.u, .slice A1 d.sp.length c1, .slice A2 d.ov.length c2, .slice A3 d.df.length c3, .slice A4 d.py.length c4, .slice A5 d.fo.length c5], 28), (w.heap.size + 1, #[.string s1, .string s2, .int .i64 ver, .slice RB rn rc, .int .i64 at_, .int .i64 need], 33), (w.heap.size + 1 + 1, #[.int .i64 p.k, .int .i64 p.t, .int .i64 p.f, .int .i64 p.a], 45), (w.heap.size + 1 + 1 + 1, #[.int .i64 s.k, .int .i64 s.q, .int .i64 s.n, .int .i64 s.f, .int .i64 s.u], 47), (w.heap.size + 1 + 1 + 1 + 1, #[.int .i64 x.t, .int .i64 x.c, .int .i64 x.f, .int .i64 x.u, .int .i64 x.n], 42), (w.heap.size + 1 + 1 + 1 + 1 + 1, #[.int .i64 o.k, .int .i64 o.t, .int .i64 o.p, .int .i64 o.i, .int .i64 o.f, .int .i64 o.u, .int .i64 o.n], 49)] := (let z := ((((((St.start w).alloc #[.int .i64 d.f, .int .i64 d.u, .slice A1 d.sp.length c1, .slice A2 d.ov.length c2, .slice A3 d.df.length c3, .slice A4 d.py.length c4, .slice A5 d.fo.length c5] 28).alloc #[.string s1, .string s2, .int .i64 ver, .slice RB rn rc, .int .i64 at_, .int .i64 need] 33).alloc #[.int .i64 p.k, .int .i64 p.t, .int .i64 p.f, .int .i64 p.a] 45).alloc #[.int .i64 s.k, .int .i64 s.q, .int .i64 s.n, .int .i64 s.f, .int .i64 s.u] 47).alloc #[.int .i64 x.t, .int .i64 x.c, .int .i64 x.f, .int .i64 x.u, .int .i64 x.n] 42).alloc #[.int .i64 o.k, .int .i64 o.t, .int .i64 o.p, .int .i64 o.i, .int .i64 o.f, .int .i64 o.u, .int .i64 o.n] 49; ⟨z.below, by simpa using z.blks.2.2.2.2.2.1, by simpa using z.blks.2.2.2.2.1, by simpa using z.blks.2.2.2.1, by simpa using z.blks.2.2.1, by simpa using z.blks.2.1, by simpa using z.blks.1, trivial⟩)
  generalize World.alloc _ _ = X at B ⊢
  refine (HH.out _ B.below).mono ?_
  rintro e' w1 ⟨rfl, hb1⟩
  replace B := B.later hb1
  have R := B.rules
  simp only [Rules] at R
  go_wp2_with fail
  refine (C7.out _).mono ?_
  rintro e' w2 ⟨rfl, hb2⟩
  clear R C7
  replace B := B.later hb2
  have R := B.rules
  simp only [Rules] at R
  go_wp2
  go_ret
  exact ⟨rfl, B.below⟩
set_option maxRecDepth 100000 in
set_option maxHeartbeats 4000000 in
theorem over_skip1 (d : Scr) (A1 A2 A3 A4 A5 : Option Addr) (c1 c2 c3 c4 c5 : Nat) (s1 s2 : ByteArray) (ver : Int) (RB : Option Addr) (rn rc : Nat) (at_ need m : Int) (p : Pay) (s : Spl) (x : Dfc) (o : Ovr) (w : World) (hf : fewB d = true) (q1 : p.a ≤ at_) (hH : ∀ W, Below w.heap.size w W → Calls Tryz.prog 6 #[] W (Ret (.bool true) W)) :
    Calls Tryz.prog 5 #[scrV d A1 A2 A3 A4 A5 c1 c2 c3 c4 c5, relV s1 s2 ver RB rn rc at_ need, .int .i64 m, .agg #[.int .i64 p.k, .int .i64 p.t, .int .i64 p.f, .int .i64 p.a], .agg #[.int .i64 s.k, .int .i64 s.q, .int .i64 s.n, .int .i64 s.f, .int .i64 s.u], .agg #[.int .i64 x.t, .int .i64 x.c, .int .i64 x.f, .int .i64 x.u, .int .i64 x.n], .agg #[.int .i64 o.k, .int .i64 o.t, .int .i64 o.p, .int .i64 o.i, .int .i64 o.f, .int .i64 o.u, .int .i64 o.n]] w (Ret (.bool true) w) := by
  have HH := Lib.hid hH
  have C7 := Lib.hid (fun W => few_any d A1 A2 A3 A4 A5 c1 c2 c3 c4 c5 W)
  rw [hf] at C7
  rw [fewB_iff] at hf
  have l1 : d.sp.length ≤ 8 := by omega
  have l2 : d.ov.length ≤ 8 := by omega
  have l3 : d.df.length ≤ 8 := by omega
  have l4 : d.py.length ≤ 12 := by omega
  clear hH hf
  unfold scrV at C7
  unfold scrV relV
  go_enter Tryz.func5, Tryz.ntmps5
  go_wp2_with fail
  have B : St w _ [(w.heap.size, #[.int .i64 d.f, .int .i64 d.u, .slice A1 d.sp.length c1, .slice A2 d.ov.length c2, .slice A3 d.df.length c3, .slice A4 d.py.length c4, .slice A5 d.fo.length c5], 28), (w.heap.size + 1, #[.string s1, .string s2, .int .i64 ver, .slice RB rn rc, .int .i64 at_, .int .i64 need], 33), (w.heap.size + 1 + 1, #[.int .i64 p.k, .int .i64 p.t, .int .i64 p.f, .int .i64 p.a], 45), (w.heap.size + 1 + 1 + 1, #[.int .i64 s.k, .int .i64 s.q, .int .i64 s.n, .int .i64 s.f, .int .i64 s.u], 47), (w.heap.size + 1 + 1 + 1 + 1, #[.int .i64 x.t, .int .i64 x.c, .int .i64 x.f, .int .i64 x.u, .int .i64 x.n], 42), (w.heap.size + 1 + 1 + 1 + 1 + 1, #[.int .i64 o.k, .int .i64 o.t, .int .i64 o.p, .int .i64 o.i, .int .i64 o.f, .int .i64 o.u, .int .i64 o.n], 49)] := (let z := ((((((St.start w).alloc #[.int .i64 d.f, .int .i64 d.u, .slice A1 d.sp.length c1, .slice A2 d.ov.length c2, .slice A3 d.df.length c3, .slice A4 d.py.length c4, .slice A5 d.fo.length c5] 28).alloc #[.string s1, .string s2, .int .i64 ver, .slice RB rn rc, .int .i64 at_, .int .i64 need] 33).alloc #[.int .i64 p.k, .int .i64 p.t, .int .i64 p.f, .int .i64 p.a] 45).alloc #[.int .i64 s.k, .int .i64 s.q, .int .i64 s.n, .int .i64 s.f, .int .i64 s.u] 47).alloc #[.int .i64 x.t, .int .i64 x.c, .int .i64 x.f, .int .i64 x.u, .int .i64 x.n] 42).alloc #[.int .i64 o.k, .int .i64 o.t, .int .i64 o.p, .int .i64 o.i, .int .i64 o.f, .int .i64 o.u, .int .i64 o.n] 49; ⟨z.below, by simpa using z.blks.2.2.2.2.2.1, by simpa using z.blks.2.2.2.2.1, by simpa using z.blks.2.2.2.1, by simpa using z.blks.2.2.1, by simpa using z.blks.2.1, by simpa using z.blks.1, trivial⟩)
  generalize World.alloc _ _ = X at B ⊢
  refine (HH.out _ B.below).mono ?_
  rintro e' w1 ⟨rfl, hb1⟩
  replace B := B.later hb1
  have R := B.rules
  simp only [Rules] at R
  go_wp2_with fail
  refine (C7.out _).mono ?_
  rintro e' w2 ⟨rfl, hb2⟩
  clear R C7
  replace B := B.later hb2
  have R := B.rules
  simp only [Rules] at R
  go_wp2
  go_ret
  exact ⟨rfl, B.below⟩
set_option maxRecDepth 100000 in
set_option maxHeartbeats 4000000 in
theorem over_skip2 (d : Scr) (A1 A2 A3 A4 A5 : Option Addr) (c1 c2 c3 c4 c5 : Nat) (s1 s2 : ByteArray) (ver : Int) (RB : Option Addr) (rn rc : Nat) (at_ need m : Int) (p : Pay) (s : Spl) (x : Dfc) (o : Ovr) (w : World) (hf : fewB d = true) (q1 : ¬ (p.a ≤ at_)) (q2 : m ≤ s.u) (hH : ∀ W, Below w.heap.size w W → Calls Tryz.prog 6 #[] W (Ret (.bool true) W)) :
    Calls Tryz.prog 5 #[scrV d A1 A2 A3 A4 A5 c1 c2 c3 c4 c5, relV s1 s2 ver RB rn rc at_ need, .int .i64 m, .agg #[.int .i64 p.k, .int .i64 p.t, .int .i64 p.f, .int .i64 p.a], .agg #[.int .i64 s.k, .int .i64 s.q, .int .i64 s.n, .int .i64 s.f, .int .i64 s.u], .agg #[.int .i64 x.t, .int .i64 x.c, .int .i64 x.f, .int .i64 x.u, .int .i64 x.n], .agg #[.int .i64 o.k, .int .i64 o.t, .int .i64 o.p, .int .i64 o.i, .int .i64 o.f, .int .i64 o.u, .int .i64 o.n]] w (Ret (.bool true) w) := by
  have HH := Lib.hid hH
  have C7 := Lib.hid (fun W => few_any d A1 A2 A3 A4 A5 c1 c2 c3 c4 c5 W)
  rw [hf] at C7
  rw [fewB_iff] at hf
  have l1 : d.sp.length ≤ 8 := by omega
  have l2 : d.ov.length ≤ 8 := by omega
  have l3 : d.df.length ≤ 8 := by omega
  have l4 : d.py.length ≤ 12 := by omega
  clear hH hf
  unfold scrV at C7
  unfold scrV relV
  go_enter Tryz.func5, Tryz.ntmps5
  go_wp2_with fail
  have B : St w _ [(w.heap.size, #[.int .i64 d.f, .int .i64 d.u, .slice A1 d.sp.length c1, .slice A2 d.ov.length c2, .slice A3 d.df.length c3, .slice A4 d.py.length c4, .slice A5 d.fo.length c5], 28), (w.heap.size + 1, #[.string s1, .string s2, .int .i64 ver, .slice RB rn rc, .int .i64 at_, .int .i64 need], 33), (w.heap.size + 1 + 1, #[.int .i64 p.k, .int .i64 p.t, .int .i64 p.f, .int .i64 p.a], 45), (w.heap.size + 1 + 1 + 1, #[.int .i64 s.k, .int .i64 s.q, .int .i64 s.n, .int .i64 s.f, .int .i64 s.u], 47), (w.heap.size + 1 + 1 + 1 + 1, #[.int .i64 x.t, .int .i64 x.c, .int .i64 x.f, .int .i64 x.u, .int .i64 x.n], 42), (w.heap.size + 1 + 1 + 1 + 1 + 1, #[.int .i64 o.k, .int .i64 o.t, .int .i64 o.p, .int .i64 o.i, .int .i64 o.f, .int .i64 o.u, .int .i64 o.n], 49)] := (let z := ((((((St.start w).alloc #[.int .i64 d.f, .int .i64 d.u, .slice A1 d.sp.length c1, .slice A2 d.ov.length c2, .slice A3 d.df.length c3, .slice A4 d.py.length c4, .slice A5 d.fo.length c5] 28).alloc #[.string s1, .string s2, .int .i64 ver, .slice RB rn rc, .int .i64 at_, .int .i64 need] 33).alloc #[.int .i64 p.k, .int .i64 p.t, .int .i64 p.f, .int .i64 p.a] 45).alloc #[.int .i64 s.k, .int .i64 s.q, .int .i64 s.n, .int .i64 s.f, .int .i64 s.u] 47).alloc #[.int .i64 x.t, .int .i64 x.c, .int .i64 x.f, .int .i64 x.u, .int .i64 x.n] 42).alloc #[.int .i64 o.k, .int .i64 o.t, .int .i64 o.p, .int .i64 o.i, .int .i64 o.f, .int .i64 o.u, .int .i64 o.n] 49; ⟨z.below, by simpa using z.blks.2.2.2.2.2.1, by simpa using z.blks.2.2.2.2.1, by simpa using z.blks.2.2.2.1, by simpa using z.blks.2.2.1, by simpa using z.blks.2.1, by simpa using z.blks.1, trivial⟩)
  generalize World.alloc _ _ = X at B ⊢
  refine (HH.out _ B.below).mono ?_
  rintro e' w1 ⟨rfl, hb1⟩
  replace B := B.later hb1
  have R := B.rules
  simp only [Rules] at R
  go_wp2_with fail
  refine (C7.out _).mono ?_
  rintro e' w2 ⟨rfl, hb2⟩
  clear R C7
  replace B := B.later hb2
  have R := B.rules
  simp only [Rules] at R
  go_wp2
  go_ret
  exact ⟨rfl, B.below⟩
set_option maxRecDepth 100000 in
set_option maxHeartbeats 4000000 in
theorem over_skip3 (d : Scr) (A1 A2 A3 A4 A5 : Option Addr) (c1 c2 c3 c4 c5 : Nat) (s1 s2 : ByteArray) (ver : Int) (RB : Option Addr) (rn rc : Nat) (at_ need m : Int) (p : Pay) (s : Spl) (x : Dfc) (o : Ovr) (w : World) (hf : fewB d = true) (q1 : ¬ (p.a ≤ at_)) (q2 : ¬ (m ≤ s.u)) (q3 : m ≤ x.u) (hH : ∀ W, Below w.heap.size w W → Calls Tryz.prog 6 #[] W (Ret (.bool true) W)) :
    Calls Tryz.prog 5 #[scrV d A1 A2 A3 A4 A5 c1 c2 c3 c4 c5, relV s1 s2 ver RB rn rc at_ need, .int .i64 m, .agg #[.int .i64 p.k, .int .i64 p.t, .int .i64 p.f, .int .i64 p.a], .agg #[.int .i64 s.k, .int .i64 s.q, .int .i64 s.n, .int .i64 s.f, .int .i64 s.u], .agg #[.int .i64 x.t, .int .i64 x.c, .int .i64 x.f, .int .i64 x.u, .int .i64 x.n], .agg #[.int .i64 o.k, .int .i64 o.t, .int .i64 o.p, .int .i64 o.i, .int .i64 o.f, .int .i64 o.u, .int .i64 o.n]] w (Ret (.bool true) w) := by
  have HH := Lib.hid hH
  have C7 := Lib.hid (fun W => few_any d A1 A2 A3 A4 A5 c1 c2 c3 c4 c5 W)
  rw [hf] at C7
  rw [fewB_iff] at hf
  have l1 : d.sp.length ≤ 8 := by omega
  have l2 : d.ov.length ≤ 8 := by omega
  have l3 : d.df.length ≤ 8 := by omega
  have l4 : d.py.length ≤ 12 := by omega
  clear hH hf
  unfold scrV at C7
  unfold scrV relV
  go_enter Tryz.func5, Tryz.ntmps5
  go_wp2_with fail
  have B : St w _ [(w.heap.size, #[.int .i64 d.f, .int .i64 d.u, .slice A1 d.sp.length c1, .slice A2 d.ov.length c2, .slice A3 d.df.length c3, .slice A4 d.py.length c4, .slice A5 d.fo.length c5], 28), (w.heap.size + 1, #[.string s1, .string s2, .int .i64 ver, .slice RB rn rc, .int .i64 at_, .int .i64 need], 33), (w.heap.size + 1 + 1, #[.int .i64 p.k, .int .i64 p.t, .int .i64 p.f, .int .i64 p.a], 45), (w.heap.size + 1 + 1 + 1, #[.int .i64 s.k, .int .i64 s.q, .int .i64 s.n, .int .i64 s.f, .int .i64 s.u], 47), (w.heap.size + 1 + 1 + 1 + 1, #[.int .i64 x.t, .int .i64 x.c, .int .i64 x.f, .int .i64 x.u, .int .i64 x.n], 42), (w.heap.size + 1 + 1 + 1 + 1 + 1, #[.int .i64 o.k, .int .i64 o.t, .int .i64 o.p, .int .i64 o.i, .int .i64 o.f, .int .i64 o.u, .int .i64 o.n], 49)] := (let z := ((((((St.start w).alloc #[.int .i64 d.f, .int .i64 d.u, .slice A1 d.sp.length c1, .slice A2 d.ov.length c2, .slice A3 d.df.length c3, .slice A4 d.py.length c4, .slice A5 d.fo.length c5] 28).alloc #[.string s1, .string s2, .int .i64 ver, .slice RB rn rc, .int .i64 at_, .int .i64 need] 33).alloc #[.int .i64 p.k, .int .i64 p.t, .int .i64 p.f, .int .i64 p.a] 45).alloc #[.int .i64 s.k, .int .i64 s.q, .int .i64 s.n, .int .i64 s.f, .int .i64 s.u] 47).alloc #[.int .i64 x.t, .int .i64 x.c, .int .i64 x.f, .int .i64 x.u, .int .i64 x.n] 42).alloc #[.int .i64 o.k, .int .i64 o.t, .int .i64 o.p, .int .i64 o.i, .int .i64 o.f, .int .i64 o.u, .int .i64 o.n] 49; ⟨z.below, by simpa using z.blks.2.2.2.2.2.1, by simpa using z.blks.2.2.2.2.1, by simpa using z.blks.2.2.2.1, by simpa using z.blks.2.2.1, by simpa using z.blks.2.1, by simpa using z.blks.1, trivial⟩)
  generalize World.alloc _ _ = X at B ⊢
  refine (HH.out _ B.below).mono ?_
  rintro e' w1 ⟨rfl, hb1⟩
  replace B := B.later hb1
  have R := B.rules
  simp only [Rules] at R
  go_wp2_with fail
  refine (C7.out _).mono ?_
  rintro e' w2 ⟨rfl, hb2⟩
  clear R C7
  replace B := B.later hb2
  have R := B.rules
  simp only [Rules] at R
  go_wp2
  go_ret
  exact ⟨rfl, B.below⟩
set_option maxRecDepth 100000 in
set_option maxHeartbeats 4000000 in
theorem over_skip4 (d : Scr) (A1 A2 A3 A4 A5 : Option Addr) (c1 c2 c3 c4 c5 : Nat) (s1 s2 : ByteArray) (ver : Int) (RB : Option Addr) (rn rc : Nat) (at_ need m : Int) (p : Pay) (s : Spl) (x : Dfc) (o : Ovr) (w : World) (hf : fewB d = true) (q1 : ¬ (p.a ≤ at_)) (q2 : ¬ (m ≤ s.u)) (q3 : ¬ (m ≤ x.u)) (q4 : m ≤ o.u) (q5 : o.n ≤ d.u) (hH : ∀ W, Below w.heap.size w W → Calls Tryz.prog 6 #[] W (Ret (.bool true) W)) :
    Calls Tryz.prog 5 #[scrV d A1 A2 A3 A4 A5 c1 c2 c3 c4 c5, relV s1 s2 ver RB rn rc at_ need, .int .i64 m, .agg #[.int .i64 p.k, .int .i64 p.t, .int .i64 p.f, .int .i64 p.a], .agg #[.int .i64 s.k, .int .i64 s.q, .int .i64 s.n, .int .i64 s.f, .int .i64 s.u], .agg #[.int .i64 x.t, .int .i64 x.c, .int .i64 x.f, .int .i64 x.u, .int .i64 x.n], .agg #[.int .i64 o.k, .int .i64 o.t, .int .i64 o.p, .int .i64 o.i, .int .i64 o.f, .int .i64 o.u, .int .i64 o.n]] w (Ret (.bool true) w) := by
  have HH := Lib.hid hH
  have C7 := Lib.hid (fun W => few_any d A1 A2 A3 A4 A5 c1 c2 c3 c4 c5 W)
  rw [hf] at C7
  rw [fewB_iff] at hf
  have l1 : d.sp.length ≤ 8 := by omega
  have l2 : d.ov.length ≤ 8 := by omega
  have l3 : d.df.length ≤ 8 := by omega
  have l4 : d.py.length ≤ 12 := by omega
  clear hH hf
  unfold scrV at C7
  unfold scrV relV
  go_enter Tryz.func5, Tryz.ntmps5
  go_wp2_with fail
  have B : St w _ [(w.heap.size, #[.int .i64 d.f, .int .i64 d.u, .slice A1 d.sp.length c1, .slice A2 d.ov.length c2, .slice A3 d.df.length c3, .slice A4 d.py.length c4, .slice A5 d.fo.length c5], 28), (w.heap.size + 1, #[.string s1, .string s2, .int .i64 ver, .slice RB rn rc, .int .i64 at_, .int .i64 need], 33), (w.heap.size + 1 + 1, #[.int .i64 p.k, .int .i64 p.t, .int .i64 p.f, .int .i64 p.a], 45), (w.heap.size + 1 + 1 + 1, #[.int .i64 s.k, .int .i64 s.q, .int .i64 s.n, .int .i64 s.f, .int .i64 s.u], 47), (w.heap.size + 1 + 1 + 1 + 1, #[.int .i64 x.t, .int .i64 x.c, .int .i64 x.f, .int .i64 x.u, .int .i64 x.n], 42), (w.heap.size + 1 + 1 + 1 + 1 + 1, #[.int .i64 o.k, .int .i64 o.t, .int .i64 o.p, .int .i64 o.i, .int .i64 o.f, .int .i64 o.u, .int .i64 o.n], 49)] := (let z := ((((((St.start w).alloc #[.int .i64 d.f, .int .i64 d.u, .slice A1 d.sp.length c1, .slice A2 d.ov.length c2, .slice A3 d.df.length c3, .slice A4 d.py.length c4, .slice A5 d.fo.length c5] 28).alloc #[.string s1, .string s2, .int .i64 ver, .slice RB rn rc, .int .i64 at_, .int .i64 need] 33).alloc #[.int .i64 p.k, .int .i64 p.t, .int .i64 p.f, .int .i64 p.a] 45).alloc #[.int .i64 s.k, .int .i64 s.q, .int .i64 s.n, .int .i64 s.f, .int .i64 s.u] 47).alloc #[.int .i64 x.t, .int .i64 x.c, .int .i64 x.f, .int .i64 x.u, .int .i64 x.n] 42).alloc #[.int .i64 o.k, .int .i64 o.t, .int .i64 o.p, .int .i64 o.i, .int .i64 o.f, .int .i64 o.u, .int .i64 o.n] 49; ⟨z.below, by simpa using z.blks.2.2.2.2.2.1, by simpa using z.blks.2.2.2.2.1, by simpa using z.blks.2.2.2.1, by simpa using z.blks.2.2.1, by simpa using z.blks.2.1, by simpa using z.blks.1, trivial⟩)
  generalize World.alloc _ _ = X at B ⊢
  refine (HH.out _ B.below).mono ?_
  rintro e' w1 ⟨rfl, hb1⟩
  replace B := B.later hb1
  have R := B.rules
  simp only [Rules] at R
  go_wp2_with fail
  refine (C7.out _).mono ?_
  rintro e' w2 ⟨rfl, hb2⟩
  clear R C7
  replace B := B.later hb2
  have R := B.rules
  simp only [Rules] at R
  go_wp2
  go_ret
  exact ⟨rfl, B.below⟩
set_option maxRecDepth 100000 in
set_option maxHeartbeats 8000000 in
theorem over_goat (d : Scr) (A1 A2 A3 A4 A5 : Option Addr) (c1 c2 c3 c4 c5 : Nat) (s1 s2 : ByteArray) (ver : Int) (RB : Option Addr) (rn rc : Nat) (at_ need m : Int) (p : Pay) (s : Spl) (x : Dfc) (o : Ovr) (w : World) (hb : ScrB d) (hf : fewB d = true) (hS : ScrAt w d A1 A2 A3 A4 A5) (hH : ∀ W, Below w.heap.size w W → Calls Tryz.prog 6 #[] W (Ret (.bool true) W)) (q1 : ¬ (p.a ≤ at_)) (q2 : ¬ (m ≤ s.u)) (q3 : ¬ (m ≤ x.u)) (q4 : ¬ (m ≤ o.u)) (h1 : sufB d at_ m = true) :
    Calls Tryz.prog 5 #[scrV d A1 A2 A3 A4 A5 c1 c2 c3 c4 c5, relV s1 s2 ver RB rn rc at_ need, .int .i64 m, .agg #[.int .i64 p.k, .int .i64 p.t, .int .i64 p.f, .int .i64 p.a], .agg #[.int .i64 s.k, .int .i64 s.q, .int .i64 s.n, .int .i64 s.f, .int .i64 s.u], .agg #[.int .i64 x.t, .int .i64 x.c, .int .i64 x.f, .int .i64 x.u, .int .i64 x.n], .agg #[.int .i64 o.k, .int .i64 o.t, .int .i64 o.p, .int .i64 o.i, .int .i64 o.f, .int .i64 o.u, .int .i64 o.n]] w (Ret (.bool true) w) := by
  have HB := Lib.hid hb
  have HS := Lib.hid hS
  clear hb hS
  have l5 := HB.out.n5
  have HH := Lib.hid hH
  have C7 := Lib.hid (fun W => few_any d A1 A2 A3 A4 A5 c1 c2 c3 c4 c5 W)
  rw [hf] at C7
  rw [fewB_iff] at hf
  have l1 : d.sp.length ≤ 8 := by omega
  have l2 : d.ov.length ≤ 8 := by omega
  have l3 : d.df.length ≤ 8 := by omega
  have l4 : d.py.length ≤ 12 := by omega
  clear hH hf
  unfold scrV at C7
  have C8 := Lib.hid (fun W (hW : Below w.heap.size w W) => suffix_any d A1 A2 A3 A4 A5 c1 c2 c3 c4 c5 s1 s2 ver RB rn rc at_ need m W HB.out l4 h1 (HS.out.later hW) (sufS d at_ m) rfl)
  unfold scrV relV at C8
  have HB2 := Lib.hid (sufS_B HB.out h1)
  have HO := Lib.hid (suf_over s o x p (d := d) (at_ := at_) (m := m) (by omega) (.inl (by omega)) (by omega) (by omega))
  have HFL := Lib.hid (show ((d.py ++ [p]).filter (inW d.u at_ m)).length ≤ 12 from by rw [filt_late _ _ q1]; exact Nat.le_trans (List.length_filter_le _ _) l4)
  have H1 := Lib.hid h1
  generalize sufS d at_ m = d2 at C8 HB2 HO
  clear h1
  unfold scrV relV
  go_enter Tryz.func5, Tryz.ntmps5
  go_wp2_with fail
  have B : St w _ [(w.heap.size, #[.int .i64 d.f, .int .i64 d.u, .slice A1 d.sp.length c1, .slice A2 d.ov.length c2, .slice A3 d.df.length c3, .slice A4 d.py.length c4, .slice A5 d.fo.length c5], 28), (w.heap.size + 1, #[.string s1, .string s2, .int .i64 ver, .slice RB rn rc, .int .i64 at_, .int .i64 need], 33), (w.heap.size + 1 + 1, #[.int .i64 p.k, .int .i64 p.t, .int .i64 p.f, .int .i64 p.a], 45), (w.heap.size + 1 + 1 + 1, #[.int .i64 s.k, .int .i64 s.q, .int .i64 s.n, .int .i64 s.f, .int .i64 s.u], 47), (w.heap.size + 1 + 1 + 1 + 1, #[.int .i64 x.t, .int .i64 x.c, .int .i64 x.f, .int .i64 x.u, .int .i64 x.n], 42), (w.heap.size + 1 + 1 + 1 + 1 + 1, #[.int .i64 o.k, .int .i64 o.t, .int .i64 o.p, .int .i64 o.i, .int .i64 o.f, .int .i64 o.u, .int .i64 o.n], 49)] := (let z := ((((((St.start w).alloc #[.int .i64 d.f, .int .i64 d.u, .slice A1 d.sp.length c1, .slice A2 d.ov.length c2, .slice A3 d.df.length c3, .slice A4 d.py.length c4, .slice A5 d.fo.length c5] 28).alloc #[.string s1, .string s2, .int .i64 ver, .slice RB rn rc, .int .i64 at_, .int .i64 need] 33).alloc #[.int .i64 p.k, .int .i64 p.t, .int .i64 p.f, .int .i64 p.a] 45).alloc #[.int .i64 s.k, .int .i64 s.q, .int .i64 s.n, .int .i64 s.f, .int .i64 s.u] 47).alloc #[.int .i64 x.t, .int .i64 x.c, .int .i64 x.f, .int .i64 x.u, .int .i64 x.n] 42).alloc #[.int .i64 o.k, .int .i64 o.t, .int .i64 o.p, .int .i64 o.i, .int .i64 o.f, .int .i64 o.u, .int .i64 o.n] 49; ⟨z.below, by simpa using z.blks.2.2.2.2.2.1, by simpa using z.blks.2.2.2.2.1, by simpa using z.blks.2.2.2.1, by simpa using z.blks.2.2.1, by simpa using z.blks.2.1, by simpa using z.blks.1, trivial⟩)
  generalize World.alloc _ _ = X at B ⊢
  refine (HH.out _ B.below).mono ?_
  rintro e' w1 ⟨rfl, hb1⟩
  replace B := B.later hb1
  have R := B.rules
  simp only [Rules] at R
  go_wp2_with fail
  refine (C7.out _).mono ?_
  rintro e' w2 ⟨rfl, hb2⟩
  clear R C7
  replace B := B.later hb2
  have R := B.rules
  simp only [Rules] at R
  have hb5 : w.heap.size + 5 < w2.heap.size := lt_of_block B.blks.2.2.2.2.2.1
  have hE := notin_new B.blks
  have HL : ∀ W, Blks W [(w.heap.size, #[.int .i64 d.f, .int .i64 d.u, .slice A1 d.sp.length c1, .slice A2 d.ov.length c2, .slice A3 d.df.length c3, .slice A4 d.py.length c4, .slice A5 d.fo.length c5], 28), (w.heap.size + 1, #[.string s1, .string s2, .int .i64 ver, .slice RB rn rc, .int .i64 at_, .int .i64 need], 33), (w.heap.size + 1 + 1, #[.int .i64 p.k, .int .i64 p.t, .int .i64 p.f, .int .i64 p.a], 45), (w.heap.size + 1 + 1 + 1, #[.int .i64 s.k, .int .i64 s.q, .int .i64 s.n, .int .i64 s.f, .int .i64 s.u], 47), (w.heap.size + 1 + 1 + 1 + 1, #[.int .i64 x.t, .int .i64 x.c, .int .i64 x.f, .int .i64 x.u, .int .i64 x.n], 42), (w.heap.size + 1 + 1 + 1 + 1 + 1, #[.int .i64 o.k, .int .i64 o.t, .int .i64 o.p, .int .i64 o.i, .int .i64 o.f, .int .i64 o.u, .int .i64 o.n], 49)] → Blks W [(w.heap.size, #[.int .i64 d.f, .int .i64 d.u, .slice A1 d.sp.length c1, .slice A2 d.ov.length c2, .slice A3 d.df.length c3, .slice A4 d.py.length c4, .slice A5 d.fo.length c5], 28), (w.heap.size + 1, #[.string s1, .string s2, .int .i64 ver, .slice RB rn rc, .int .i64 at_, .int .i64 need], 33), (w.heap.size + 1 + 1, #[.int .i64 p.k, .int .i64 p.t, .int .i64 p.f, .int .i64 p.a], 45), (w.heap.size + 1 + 1 + 1, #[.int .i64 s.k, .int .i64 s.q, .int .i64 s.n, .int .i64 s.f, .int .i64 s.u], 47), (w.heap.size + 1 + 1 + 1 + 1, #[.int .i64 x.t, .int .i64 x.c, .int .i64 x.f, .int .i64 x.u, .int .i64 x.n], 42), (w.heap.size + 1 + 1 + 1 + 1 + 1, #[.int .i64 o.k, .int .i64 o.t, .int .i64 o.p, .int .i64 o.i, .int .i64 o.f, .int .i64 o.u, .int .i64 o.n], 49)] := fun _ h => h
  go_wp2_with fail
  generalize hX : World.alloc _ _ = W3
  replace B := St.cast hX (B.alloc _ _)
  clear hX R
  generalize w2.heap.size = bb at *
  refine over_reg5 d A1 A2 A3 A4 A5 c1 c2 c3 c4 c5 p (by omega) w bb hb5 _ _ _ _ _ _ _ _ hE (fun W h => ⟨(HL W h).1, (HL W h).2.2.1, trivial⟩) HS.out.r4 _ _ _ _ _ _ _ _ _ _ _ _ _ _ _ _ _ _ _ _ _ _ _ _ _ _ _ _ _ _ _ _ _ _ _ _ _ _ _ _ _ _ _ _ _ _ _ _ _ _ _ _ _ _ _ _ _ _ _ _ _ _ _ _ _ _ _ _ _ _ _ _ _ _ _ _ _ _ _ _ _ _ _ _ _ _ _ _ _ _ _ _ _ _ _ _ _ _ _ _ _ _ _ _ _ _ _ _ _ _ _ _ _ _ B ?_
  clear B
  intro z5_0 z5_1 z5_2 z5_3 z5_4 z5_5 z5_6 z5_7 X4 n4 k4 V5 hn5 hown hno B
  have hl : n4 = (d.py ++ [p]).length := by rw [hn5]; simp
  clear hn5
  subst hl
  obtain ⟨E5, o1, g4, o2⟩ := own_ext (by omega) hown hno
  replace B := B.ext2 o1
  replace hE := (o2 _ List.mem_cons_self).app hE
  replace HL := fun W (h : Blks W (E5 ++ _)) => HL W h.snd
  dsimp only
  go_wp2_with fail
  refine over_reg6 d A1 A2 A3 A4 A5 c1 c2 c3 c4 c5 s (by omega) w bb hb5 _ _ _ _ _ _ _ _ hE (fun W h => ⟨(HL W h).1, (HL W h).2.2.2.1, trivial⟩) HS.out.r1 _ _ _ _ _ _ _ _ _ _ _ _ _ _ _ _ _ _ _ _ _ _ _ _ _ _ _ _ _ _ _ _ _ _ _ _ _ _ _ _ _ _ _ _ _ _ _ _ _ _ _ _ _ _ _ _ _ _ _ _ _ _ _ _ _ _ _ _ _ _ _ _ _ _ _ _ _ _ _ _ _ _ _ _ _ _ _ _ _ _ _ _ _ _ _ _ _ _ _ _ _ _ _ _ _ _ _ _ _ _ _ _ _ _ B ?_
  clear B
  intro z6_0 z6_1 z6_2 z6_3 z6_4 z6_5 z6_6 z6_7 X1 n1 k1 V6 hn6 hown hno B
  have hl : n1 = (d.sp ++ [s]).length := by rw [hn6]; simp
  clear hn6
  subst hl
  obtain ⟨E6, o1, g1, o2⟩ := own_ext (by omega) hown hno
  replace B := B.ext2 o1
  replace hE := (o2 _ List.mem_cons_self).app hE
  replace HL := fun W (h : Blks W (E6 ++ _)) => HL W h.snd
  dsimp only
  go_wp2_with fail
  refine over_reg7 d A1 A2 A3 A4 A5 c1 c2 c3 c4 c5 x (by omega) w bb hb5 _ _ _ _ _ _ _ _ hE (fun W h => ⟨(HL W h).1, (HL W h).2.2.2.2.1, trivial⟩) HS.out.r3 _ _ _ _ _ _ _ _ _ _ _ _ _ _ _ _ _ _ _ _ _ _ _ _ _ _ _ _ _ _ _ _ _ _ _ _ _ _ _ _ _ _ _ _ _ _ _ _ _ _ _ _ _ _ _ _ _ _ _ _ _ _ _ _ _ _ _ _ _ _ _ _ _ _ _ _ _ _ _ _ _ _ _ _ _ _ _ _ _ _ _ _ _ _ _ _ _ _ _ _ _ _ _ _ _ _ _ _ _ _ _ _ _ _ B ?_
  clear B
  intro z7_0 z7_1 z7_2 z7_3 z7_4 z7_5 z7_6 z7_7 X3 n3 k3 V7 hn7 hown hno B
  have hl : n3 = (d.df ++ [x]).length := by rw [hn7]; simp
  clear hn7
  subst hl
  obtain ⟨E7, o1, g3, o2⟩ := own_ext (by omega) hown hno
  replace B := B.ext2 o1
  replace hE := (o2 _ List.mem_cons_self).app hE
  replace HL := fun W (h : Blks W (E7 ++ _)) => HL W h.snd
  dsimp only
  go_wp2_with fail
  refine over_reg8 d A1 A2 A3 A4 A5 c1 c2 c3 c4 c5 o (by omega) w bb hb5 _ _ _ _ _ _ _ _ hE (fun W h => ⟨(HL W h).1, (HL W h).2.2.2.2.2.1, trivial⟩) HS.out.r2 _ _ _ _ _ _ _ _ _ _ _ _ _ _ _ _ _ _ _ _ _ _ _ _ _ _ _ _ _ _ _ _ _ _ _ _ _ _ _ _ _ _ _ _ _ _ _ _ _ _ _ _ _ _ _ _ _ _ _ _ _ _ _ _ _ _ _ _ _ _ _ _ _ _ _ _ _ _ _ _ _ _ _ _ _ _ _ _ _ _ _ _ _ _ _ _ _ _ _ _ _ _ _ _ _ _ _ _ _ _ _ _ _ _ B ?_
  clear B
  intro z8_0 z8_1 z8_2 z8_3 z8_4 z8_5 z8_6 z8_7 X2 n2 k2 V8 hn8 hown hno B
  have hl : n2 = (d.ov ++ [o]).length := by rw [hn8]; simp
  clear hn8
  subst hl
  obtain ⟨E8, o1, g2, o2⟩ := own_ext (by omega) hown hno
  replace B := B.ext2 o1
  replace hE := (o2 _ List.mem_cons_self).app hE
  replace HL := fun W (h : Blks W (E8 ++ _)) => HL W h.snd
  dsimp only
  have hG : ∀ W, Blks W (E8 ++ (E7 ++ (E6 ++ (E5 ++ [(w.heap.size, #[.int .i64 d.f, .int .i64 d.u, .slice A1 d.sp.length c1, .slice A2 d.ov.length c2, .slice A3 d.df.length c3, .slice A4 d.py.length c4, .slice A5 d.fo.length c5], 28), (w.heap.size + 1, #[.string s1, .string s2, .int .i64 ver, .slice RB rn rc, .int .i64 at_, .int .i64 need], 33), (w.heap.size + 1 + 1, #[.int .i64 p.k, .int .i64 p.t, .int .i64 p.f, .int .i64 p.a], 45), (w.heap.size + 1 + 1 + 1, #[.int .i64 s.k, .int .i64 s.q, .int .i64 s.n, .int .i64 s.f, .int .i64 s.u], 47), (w.heap.size + 1 + 1 + 1 + 1, #[.int .i64 x.t, .int .i64 x.c, .int .i64 x.f, .int .i64 x.u, .int .i64 x.n], 42), (w.heap.size + 1 + 1 + 1 + 1 + 1, #[.int .i64 o.k, .int .i64 o.t, .int .i64 o.p, .int .i64 o.i, .int .i64 o.f, .int .i64 o.u, .int .i64 o.n], 49)])))) → RowsAt W X1 5 Spl.g (d.sp ++ [s]) ∧ RowsAt W X2 7 Ovr.g (d.ov ++ [o]) ∧ RowsAt W X3 5 Dfc.g (d.df ++ [x]) ∧ RowsAt W X4 4 Pay.g (d.py ++ [p]) := fun W h => ⟨g1 W h.snd.snd.fst, g2 W h.fst, g3 W h.snd.fst, g4 W h.snd.snd.snd.fst⟩
  generalize E8 ++ (E7 ++ (E6 ++ (E5 ++ [(w.heap.size, #[.int .i64 d.f, .int .i64 d.u, .slice A1 d.sp.length c1, .slice A2 d.ov.length c2, .slice A3 d.df.length c3, .slice A4 d.py.length c4, .slice A5 d.fo.length c5], 28), (w.heap.size + 1, #[.string s1, .string s2, .int .i64 ver, .slice RB rn rc, .int .i64 at_, .int .i64 need], 33), (w.heap.size + 1 + 1, #[.int .i64 p.k, .int .i64 p.t, .int .i64 p.f, .int .i64 p.a], 45), (w.heap.size + 1 + 1 + 1, #[.int .i64 s.k, .int .i64 s.q, .int .i64 s.n, .int .i64 s.f, .int .i64 s.u], 47), (w.heap.size + 1 + 1 + 1 + 1, #[.int .i64 x.t, .int .i64 x.c, .int .i64 x.f, .int .i64 x.u, .int .i64 x.n], 42), (w.heap.size + 1 + 1 + 1 + 1 + 1, #[.int .i64 o.k, .int .i64 o.t, .int .i64 o.p, .int .i64 o.i, .int .i64 o.f, .int .i64 o.u, .int .i64 o.n], 49)]))) = LL at B HL hG
  clear g1 g2 g3 g4 o1 o2 hown hno hE
  have HG := Lib.hid hG
  have HLL := Lib.hid HL
  clear hG HL
  try dsimp only
  have R := (show Blks _ [(w.heap.size, #[.int .i64 d.f, .int .i64 d.u, .slice A1 d.sp.length c1, .slice A2 d.ov.length c2, .slice A3 d.df.length c3, .slice A4 d.py.length c4, .slice A5 d.fo.length c5], 28), (w.heap.size + 1, #[.string s1, .string s2, .int .i64 ver, .slice RB rn rc, .int .i64 at_, .int .i64 need], 33), (w.heap.size + 1 + 1, #[.int .i64 p.k, .int .i64 p.t, .int .i64 p.f, .int .i64 p.a], 45), (w.heap.size + 1 + 1 + 1, #[.int .i64 s.k, .int .i64 s.q, .int .i64 s.n, .int .i64 s.f, .int .i64 s.u], 47), (w.heap.size + 1 + 1 + 1 + 1, #[.int .i64 x.t, .int .i64 x.c, .int .i64 x.f, .int .i64 x.u, .int .i64 x.n], 42), (w.heap.size + 1 + 1 + 1 + 1 + 1, #[.int .i64 o.k, .int .i64 o.t, .int .i64 o.p, .int .i64 o.i, .int .i64 o.f, .int .i64 o.u, .int .i64 o.n], 49)] from HLL.out _ B.blks.2).rules
  simp only [Rules] at R
  have Rb := B.rules
  simp only [Rules] at Rb
  go_wp2_with fail
  refine (C8.out _ B.below).mono ?_
  rintro e' w8 ⟨Y1, Y2, Y3, Y4, Y5, j1, j2, j3, j4, j5, rfl, hS1, hb8⟩
  clear R Rb C8
  replace B := B.later hb8
  have R := (show Blks _ [(w.heap.size, #[.int .i64 d.f, .int .i64 d.u, .slice A1 d.sp.length c1, .slice A2 d.ov.length c2, .slice A3 d.df.length c3, .slice A4 d.py.length c4, .slice A5 d.fo.length c5], 28), (w.heap.size + 1, #[.string s1, .string s2, .int .i64 ver, .slice RB rn rc, .int .i64 at_, .int .i64 need], 33), (w.heap.size + 1 + 1, #[.int .i64 p.k, .int .i64 p.t, .int .i64 p.f, .int .i64 p.a], 45), (w.heap.size + 1 + 1 + 1, #[.int .i64 s.k, .int .i64 s.q, .int .i64 s.n, .int .i64 s.f, .int .i64 s.u], 47), (w.heap.size + 1 + 1 + 1 + 1, #[.int .i64 x.t, .int .i64 x.c, .int .i64 x.f, .int .i64 x.u, .int .i64 x.n], 42), (w.heap.size + 1 + 1 + 1 + 1 + 1, #[.int .i64 o.k, .int .i64 o.t, .int .i64 o.p, .int .i64 o.i, .int .i64 o.f, .int .i64 o.u, .int .i64 o.n], 49)] from HLL.out _ B.blks.2).rules
  simp only [Rules] at R
  have Rb := B.rules
  simp only [Rules] at Rb
  go_wp2_with fail
  generalize hX : World.alloc _ _ = W9
  replace B := St.cast hX (B.alloc _ _)
  replace hS1 := ScrAt.cast hX (hS1.later (below_al _ _))
  clear hX R Rb
  have C9 := Lib.hid (suffix_gen (⟨d.f, d.u, d.sp ++ [s], d.ov ++ [o], d.df ++ [x], d.py ++ [p], d.fo⟩ : Scr) X1 X2 X3 X4 A5 k1 k2 k3 k4 c5 s1 s2 ver RB rn rc at_ need m W9 (by simp; omega) (by simp; omega) (by simp; omega) (by simp; omega) l5 HFL.out H1.out (let z := HG.out _ B.blks.2.2; ⟨z.1, z.2.1, z.2.2.1, z.2.2.2, HS.out.r5.later B.below⟩) d2 HO.out)
  unfold scrV relV at C9
  simp only [List.length_append, List.length_cons, List.length_nil, Nat.zero_add] at C9
  (with_reducible refine C9.out.mono ?_)
  rintro e' w10 ⟨Z1, Z2, Z3, Z4, Z5, i1, i2, i3, i4, i5, rfl, hS2, hb10⟩
  clear C9
  replace B := B.later hb10
  replace hS1 := hS1.later hb10
  have C10 := Lib.hid (fun W (hW : Below w10.heap.size w10 W) => same_any d2 HB2.out Y1 Y2 Y3 Y4 Y5 j1 j2 j3 j4 j5 Z1 Z2 Z3 Z4 Z5 i1 i2 i3 i4 i5 W (hS1.later hW) (hS2.later hW))
  unfold scrV at C10
  try dsimp only [List.length_nil] at C10
  have R := (show Blks _ [(w.heap.size, #[.int .i64 d.f, .int .i64 d.u, .slice A1 d.sp.length c1, .slice A2 d.ov.length c2, .slice A3 d.df.length c3, .slice A4 d.py.length c4, .slice A5 d.fo.length c5], 28), (w.heap.size + 1, #[.string s1, .string s2, .int .i64 ver, .slice RB rn rc, .int .i64 at_, .int .i64 need], 33), (w.heap.size + 1 + 1, #[.int .i64 p.k, .int .i64 p.t, .int .i64 p.f, .int .i64 p.a], 45), (w.heap.size + 1 + 1 + 1, #[.int .i64 s.k, .int .i64 s.q, .int .i64 s.n, .int .i64 s.f, .int .i64 s.u], 47), (w.heap.size + 1 + 1 + 1 + 1, #[.int .i64 x.t, .int .i64 x.c, .int .i64 x.f, .int .i64 x.u, .int .i64 x.n], 42), (w.heap.size + 1 + 1 + 1 + 1 + 1, #[.int .i64 o.k, .int .i64 o.t, .int .i64 o.p, .int .i64 o.i, .int .i64 o.f, .int .i64 o.u, .int .i64 o.n], 49)] from HLL.out _ B.blks.2.2).rules
  simp only [Rules] at R
  have Rb := B.rules
  simp only [Rules] at Rb
  go_wp2_with (first | (go_at_call 10; (with_reducible refine (C10.out _ (below_al _ _)).mono ?_); rintro e' w11 ⟨rfl, hb11⟩; have B6 := (B.alloc _ _).later hb11))
  go_ret
  exact ⟨by simp, B6.below⟩
set_option maxRecDepth 100000 in
set_option maxHeartbeats 8000000 in
theorem over_goaf (d : Scr) (A1 A2 A3 A4 A5 : Option Addr) (c1 c2 c3 c4 c5 : Nat) (s1 s2 : ByteArray) (ver : Int) (RB : Option Addr) (rn rc : Nat) (at_ need m : Int) (p : Pay) (s : Spl) (x : Dfc) (o : Ovr) (w : World) (hb : ScrB d) (hf : fewB d = true) (hS : ScrAt w d A1 A2 A3 A4 A5) (hH : ∀ W, Below w.heap.size w W → Calls Tryz.prog 6 #[] W (Ret (.bool true) W)) (q1 : ¬ (p.a ≤ at_)) (q2 : ¬ (m ≤ s.u)) (q3 : ¬ (m ≤ x.u)) (q4 : ¬ (m ≤ o.u)) (h1 : sufB d at_ m = false) :
    Calls Tryz.prog 5 #[scrV d A1 A2 A3 A4 A5 c1 c2 c3 c4 c5, relV s1 s2 ver RB rn rc at_ need, .int .i64 m, .agg #[.int .i64 p.k, .int .i64 p.t, .int .i64 p.f, .int .i64 p.a], .agg #[.int .i64 s.k, .int .i64 s.q, .int .i64 s.n, .int .i64 s.f, .int .i64 s.u], .agg #[.int .i64 x.t, .int .i64 x.c, .int .i64 x.f, .int .i64 x.u, .int .i64 x.n], .agg #[.int .i64 o.k, .int .i64 o.t, .int .i64 o.p, .int .i64 o.i, .int .i64 o.f, .int .i64 o.u, .int .i64 o.n]] w (Ret (.bool true) w) := by
  have HB := Lib.hid hb
  have HS := Lib.hid hS
  clear hb hS
  have l5 := HB.out.n5
  have HH := Lib.hid hH
  have C7 := Lib.hid (fun W => few_any d A1 A2 A3 A4 A5 c1 c2 c3 c4 c5 W)
  rw [hf] at C7
  rw [fewB_iff] at hf
  have l1 : d.sp.length ≤ 8 := by omega
  have l2 : d.ov.length ≤ 8 := by omega
  have l3 : d.df.length ≤ 8 := by omega
  have l4 : d.py.length ≤ 12 := by omega
  clear hH hf
  unfold scrV at C7
  have C8 := Lib.hid (fun W => suffix_no d A1 A2 A3 A4 A5 c1 c2 c3 c4 c5 s1 s2 ver RB rn rc at_ need m W h1)
  unfold scrV relV scrZ at C8
  have H1 := Lib.hid h1
  clear h1
  unfold scrV relV
  go_enter Tryz.func5, Tryz.ntmps5
  go_wp2_with fail
  have B : St w _ [(w.heap.size, #[.int .i64 d.f, .int .i64 d.u, .slice A1 d.sp.length c1, .slice A2 d.ov.length c2, .slice A3 d.df.length c3, .slice A4 d.py.length c4, .slice A5 d.fo.length c5], 28), (w.heap.size + 1, #[.string s1, .string s2, .int .i64 ver, .slice RB rn rc, .int .i64 at_, .int .i64 need], 33), (w.heap.size + 1 + 1, #[.int .i64 p.k, .int .i64 p.t, .int .i64 p.f, .int .i64 p.a], 45), (w.heap.size + 1 + 1 + 1, #[.int .i64 s.k, .int .i64 s.q, .int .i64 s.n, .int .i64 s.f, .int .i64 s.u], 47), (w.heap.size + 1 + 1 + 1 + 1, #[.int .i64 x.t, .int .i64 x.c, .int .i64 x.f, .int .i64 x.u, .int .i64 x.n], 42), (w.heap.size + 1 + 1 + 1 + 1 + 1, #[.int .i64 o.k, .int .i64 o.t, .int .i64 o.p, .int .i64 o.i, .int .i64 o.f, .int .i64 o.u, .int .i64 o.n], 49)] := (let z := ((((((St.start w).alloc #[.int .i64 d.f, .int .i64 d.u, .slice A1 d.sp.length c1, .slice A2 d.ov.length c2, .slice A3 d.df.length c3, .slice A4 d.py.length c4, .slice A5 d.fo.length c5] 28).alloc #[.string s1, .string s2, .int .i64 ver, .slice RB rn rc, .int .i64 at_, .int .i64 need] 33).alloc #[.int .i64 p.k, .int .i64 p.t, .int .i64 p.f, .int .i64 p.a] 45).alloc #[.int .i64 s.k, .int .i64 s.q, .int .i64 s.n, .int .i64 s.f, .int .i64 s.u] 47).alloc #[.int .i64 x.t, .int .i64 x.c, .int .i64 x.f, .int .i64 x.u, .int .i64 x.n] 42).alloc #[.int .i64 o.k, .int .i64 o.t, .int .i64 o.p, .int .i64 o.i, .int .i64 o.f, .int .i64 o.u, .int .i64 o.n] 49; ⟨z.below, by simpa using z.blks.2.2.2.2.2.1, by simpa using z.blks.2.2.2.2.1, by simpa using z.blks.2.2.2.1, by simpa using z.blks.2.2.1, by simpa using z.blks.2.1, by simpa using z.blks.1, trivial⟩)
  generalize World.alloc _ _ = X at B ⊢
  refine (HH.out _ B.below).mono ?_
  rintro e' w1 ⟨rfl, hb1⟩
  replace B := B.later hb1
  have R := B.rules
  simp only [Rules] at R
  go_wp2_with fail
  refine (C7.out _).mono ?_
  rintro e' w2 ⟨rfl, hb2⟩
  clear R C7
  replace B := B.later hb2
  have R := B.rules
  simp only [Rules] at R
  have hb5 : w.heap.size + 5 < w2.heap.size := lt_of_block B.blks.2.2.2.2.2.1
  have hE := notin_new B.blks
  have HL : ∀ W, Blks W [(w.heap.size, #[.int .i64 d.f, .int .i64 d.u, .slice A1 d.sp.length c1, .slice A2 d.ov.length c2, .slice A3 d.df.length c3, .slice A4 d.py.length c4, .slice A5 d.fo.length c5], 28), (w.heap.size + 1, #[.string s1, .string s2, .int .i64 ver, .slice RB rn rc, .int .i64 at_, .int .i64 need], 33), (w.heap.size + 1 + 1, #[.int .i64 p.k, .int .i64 p.t, .int .i64 p.f, .int .i64 p.a], 45), (w.heap.size + 1 + 1 + 1, #[.int .i64 s.k, .int .i64 s.q, .int .i64 s.n, .int .i64 s.f, .int .i64 s.u], 47), (w.heap.size + 1 + 1 + 1 + 1, #[.int .i64 x.t, .int .i64 x.c, .int .i64 x.f, .int .i64 x.u, .int .i64 x.n], 42), (w.heap.size + 1 + 1 + 1 + 1 + 1, #[.int .i64 o.k, .int .i64 o.t, .int .i64 o.p, .int .i64 o.i, .int .i64 o.f, .int .i64 o.u, .int .i64 o.n], 49)] → Blks W [(w.heap.size, #[.int .i64 d.f, .int .i64 d.u, .slice A1 d.sp.length c1, .slice A2 d.ov.length c2, .slice A3 d.df.length c3, .slice A4 d.py.length c4, .slice A5 d.fo.length c5], 28), (w.heap.size + 1, #[.string s1, .string s2, .int .i64 ver, .slice RB rn rc, .int .i64 at_, .int .i64 need], 33), (w.heap.size + 1 + 1, #[.int .i64 p.k, .int .i64 p.t, .int .i64 p.f, .int .i64 p.a], 45), (w.heap.size + 1 + 1 + 1, #[.int .i64 s.k, .int .i64 s.q, .int .i64 s.n, .int .i64 s.f, .int .i64 s.u], 47), (w.heap.size + 1 + 1 + 1 + 1, #[.int .i64 x.t, .int .i64 x.c, .int .i64 x.f, .int .i64 x.u, .int .i64 x.n], 42), (w.heap.size + 1 + 1 + 1 + 1 + 1, #[.int .i64 o.k, .int .i64 o.t, .int .i64 o.p, .int .i64 o.i, .int .i64 o.f, .int .i64 o.u, .int .i64 o.n], 49)] := fun _ h => h
  go_wp2_with fail
  generalize hX : World.alloc _ _ = W3
  replace B := St.cast hX (B.alloc _ _)
  clear hX R
  generalize w2.heap.size = bb at *
  refine over_reg5 d A1 A2 A3 A4 A5 c1 c2 c3 c4 c5 p (by omega) w bb hb5 _ _ _ _ _ _ _ _ hE (fun W h => ⟨(HL W h).1, (HL W h).2.2.1, trivial⟩) HS.out.r4 _ _ _ _ _ _ _ _ _ _ _ _ _ _ _ _ _ _ _ _ _ _ _ _ _ _ _ _ _ _ _ _ _ _ _ _ _ _ _ _ _ _ _ _ _ _ _ _ _ _ _ _ _ _ _ _ _ _ _ _ _ _ _ _ _ _ _ _ _ _ _ _ _ _ _ _ _ _ _ _ _ _ _ _ _ _ _ _ _ _ _ _ _ _ _ _ _ _ _ _ _ _ _ _ _ _ _ _ _ _ _ _ _ _ B ?_
  clear B
  intro z5_0 z5_1 z5_2 z5_3 z5_4 z5_5 z5_6 z5_7 X4 n4 k4 V5 hn5 hown hno B
  have hl : n4 = (d.py ++ [p]).length := by rw [hn5]; simp
  clear hn5
  subst hl
  obtain ⟨E5, o1, g4, o2⟩ := own_ext (by omega) hown hno
  replace B := B.ext2 o1
  replace hE := (o2 _ List.mem_cons_self).app hE
  replace HL := fun W (h : Blks W (E5 ++ _)) => HL W h.snd
  dsimp only
  go_wp2_with fail
  refine over_reg6 d A1 A2 A3 A4 A5 c1 c2 c3 c4 c5 s (by omega) w bb hb5 _ _ _ _ _ _ _ _ hE (fun W h => ⟨(HL W h).1, (HL W h).2.2.2.1, trivial⟩) HS.out.r1 _ _ _ _ _ _ _ _ _ _ _ _ _ _ _ _ _ _ _ _ _ _ _ _ _ _ _ _ _ _ _ _ _ _ _ _ _ _ _ _ _ _ _ _ _ _ _ _ _ _ _ _ _ _ _ _ _ _ _ _ _ _ _ _ _ _ _ _ _ _ _ _ _ _ _ _ _ _ _ _ _ _ _ _ _ _ _ _ _ _ _ _ _ _ _ _ _ _ _ _ _ _ _ _ _ _ _ _ _ _ _ _ _ _ B ?_
  clear B
  intro z6_0 z6_1 z6_2 z6_3 z6_4 z6_5 z6_6 z6_7 X1 n1 k1 V6 hn6 hown hno B
  have hl : n1 = (d.sp ++ [s]).length := by rw [hn6]; simp
  clear hn6
  subst hl
  obtain ⟨E6, o1, g1, o2⟩ := own_ext (by omega) hown hno
  replace B := B.ext2 o1
  replace hE := (o2 _ List.mem_cons_self).app hE
  replace HL := fun W (h : Blks W (E6 ++ _)) => HL W h.snd
  dsimp only
  go_wp2_with fail
  refine over_reg7 d A1 A2 A3 A4 A5 c1 c2 c3 c4 c5 x (by omega) w bb hb5 _ _ _ _ _ _ _ _ hE (fun W h => ⟨(HL W h).1, (HL W h).2.2.2.2.1, trivial⟩) HS.out.r3 _ _ _ _ _ _ _ _ _ _ _ _ _ _ _ _ _ _ _ _ _ _ _ _ _ _ _ _ _ _ _ _ _ _ _ _ _ _ _ _ _ _ _ _ _ _ _ _ _ _ _ _ _ _ _ _ _ _ _ _ _ _ _ _ _ _ _ _ _ _ _ _ _ _ _ _ _ _ _ _ _ _ _ _ _ _ _ _ _ _ _ _ _ _ _ _ _ _ _ _ _ _ _ _ _ _ _ _ _ _ _ _ _ _ B ?_
  clear B
  intro z7_0 z7_1 z7_2 z7_3 z7_4 z7_5 z7_6 z7_7 X3 n3 k3 V7 hn7 hown hno B
  have hl : n3 = (d.df ++ [x]).length := by rw [hn7]; simp
  clear hn7
  subst hl
  obtain ⟨E7, o1, g3, o2⟩ := own_ext (by omega) hown hno
  replace B := B.ext2 o1
  replace hE := (o2 _ List.mem_cons_self).app hE
  replace HL := fun W (h : Blks W (E7 ++ _)) => HL W h.snd
  dsimp only
  go_wp2_with fail
  refine over_reg8 d A1 A2 A3 A4 A5 c1 c2 c3 c4 c5 o (by omega) w bb hb5 _ _ _ _ _ _ _ _ hE (fun W h => ⟨(HL W h).1, (HL W h).2.2.2.2.2.1, trivial⟩) HS.out.r2 _ _ _ _ _ _ _ _ _ _ _ _ _ _ _ _ _ _ _ _ _ _ _ _ _ _ _ _ _ _ _ _ _ _ _ _ _ _ _ _ _ _ _ _ _ _ _ _ _ _ _ _ _ _ _ _ _ _ _ _ _ _ _ _ _ _ _ _ _ _ _ _ _ _ _ _ _ _ _ _ _ _ _ _ _ _ _ _ _ _ _ _ _ _ _ _ _ _ _ _ _ _ _ _ _ _ _ _ _ _ _ _ _ _ B ?_
  clear B
  intro z8_0 z8_1 z8_2 z8_3 z8_4 z8_5 z8_6 z8_7 X2 n2 k2 V8 hn8 hown hno B
  have hl : n2 = (d.ov ++ [o]).length := by rw [hn8]; simp
  clear hn8
  subst hl
  obtain ⟨E8, o1, g2, o2⟩ := own_ext (by omega) hown hno
  replace B := B.ext2 o1
  replace hE := (o2 _ List.mem_cons_self).app hE
  replace HL := fun W (h : Blks W (E8 ++ _)) => HL W h.snd
  dsimp only
  have hG : ∀ W, Blks W (E8 ++ (E7 ++ (E6 ++ (E5 ++ [(w.heap.size, #[.int .i64 d.f, .int .i64 d.u, .slice A1 d.sp.length c1, .slice A2 d.ov.length c2, .slice A3 d.df.length c3, .slice A4 d.py.length c4, .slice A5 d.fo.length c5], 28), (w.heap.size + 1, #[.string s1, .string s2, .int .i64 ver, .slice RB rn rc, .int .i64 at_, .int .i64 need], 33), (w.heap.size + 1 + 1, #[.int .i64 p.k, .int .i64 p.t, .int .i64 p.f, .int .i64 p.a], 45), (w.heap.size + 1 + 1 + 1, #[.int .i64 s.k, .int .i64 s.q, .int .i64 s.n, .int .i64 s.f, .int .i64 s.u], 47), (w.heap.size + 1 + 1 + 1 + 1, #[.int .i64 x.t, .int .i64 x.c, .int .i64 x.f, .int .i64 x.u, .int .i64 x.n], 42), (w.heap.size + 1 + 1 + 1 + 1 + 1, #[.int .i64 o.k, .int .i64 o.t, .int .i64 o.p, .int .i64 o.i, .int .i64 o.f, .int .i64 o.u, .int .i64 o.n], 49)])))) → RowsAt W X1 5 Spl.g (d.sp ++ [s]) ∧ RowsAt W X2 7 Ovr.g (d.ov ++ [o]) ∧ RowsAt W X3 5 Dfc.g (d.df ++ [x]) ∧ RowsAt W X4 4 Pay.g (d.py ++ [p]) := fun W h => ⟨g1 W h.snd.snd.fst, g2 W h.fst, g3 W h.snd.fst, g4 W h.snd.snd.snd.fst⟩
  generalize E8 ++ (E7 ++ (E6 ++ (E5 ++ [(w.heap.size, #[.int .i64 d.f, .int .i64 d.u, .slice A1 d.sp.length c1, .slice A2 d.ov.length c2, .slice A3 d.df.length c3, .slice A4 d.py.length c4, .slice A5 d.fo.length c5], 28), (w.heap.size + 1, #[.string s1, .string s2, .int .i64 ver, .slice RB rn rc, .int .i64 at_, .int .i64 need], 33), (w.heap.size + 1 + 1, #[.int .i64 p.k, .int .i64 p.t, .int .i64 p.f, .int .i64 p.a], 45), (w.heap.size + 1 + 1 + 1, #[.int .i64 s.k, .int .i64 s.q, .int .i64 s.n, .int .i64 s.f, .int .i64 s.u], 47), (w.heap.size + 1 + 1 + 1 + 1, #[.int .i64 x.t, .int .i64 x.c, .int .i64 x.f, .int .i64 x.u, .int .i64 x.n], 42), (w.heap.size + 1 + 1 + 1 + 1 + 1, #[.int .i64 o.k, .int .i64 o.t, .int .i64 o.p, .int .i64 o.i, .int .i64 o.f, .int .i64 o.u, .int .i64 o.n], 49)]))) = LL at B HL hG
  clear g1 g2 g3 g4 o1 o2 hown hno hE
  have HG := Lib.hid hG
  have HLL := Lib.hid HL
  clear hG HL
  try dsimp only
  have R := (show Blks _ [(w.heap.size, #[.int .i64 d.f, .int .i64 d.u, .slice A1 d.sp.length c1, .slice A2 d.ov.length c2, .slice A3 d.df.length c3, .slice A4 d.py.length c4, .slice A5 d.fo.length c5], 28), (w.heap.size + 1, #[.string s1, .string s2, .int .i64 ver, .slice RB rn rc, .int .i64 at_, .int .i64 need], 33), (w.heap.size + 1 + 1, #[.int .i64 p.k, .int .i64 p.t, .int .i64 p.f, .int .i64 p.a], 45), (w.heap.size + 1 + 1 + 1, #[.int .i64 s.k, .int .i64 s.q, .int .i64 s.n, .int .i64 s.f, .int .i64 s.u], 47), (w.heap.size + 1 + 1 + 1 + 1, #[.int .i64 x.t, .int .i64 x.c, .int .i64 x.f, .int .i64 x.u, .int .i64 x.n], 42), (w.heap.size + 1 + 1 + 1 + 1 + 1, #[.int .i64 o.k, .int .i64 o.t, .int .i64 o.p, .int .i64 o.i, .int .i64 o.f, .int .i64 o.u, .int .i64 o.n], 49)] from HLL.out _ B.blks.2).rules
  simp only [Rules] at R
  have Rb := B.rules
  simp only [Rules] at Rb
  go_wp2_with fail
  refine (C8.out _).mono ?_
  rintro e' w8 ⟨rfl, hb8⟩
  clear R Rb C8
  replace B := B.later hb8
  have R := (show Blks _ [(w.heap.size, #[.int .i64 d.f, .int .i64 d.u, .slice A1 d.sp.length c1, .slice A2 d.ov.length c2, .slice A3 d.df.length c3, .slice A4 d.py.length c4, .slice A5 d.fo.length c5], 28), (w.heap.size + 1, #[.string s1, .string s2, .int .i64 ver, .slice RB rn rc, .int .i64 at_, .int .i64 need], 33), (w.heap.size + 1 + 1, #[.int .i64 p.k, .int .i64 p.t, .int .i64 p.f, .int .i64 p.a], 45), (w.heap.size + 1 + 1 + 1, #[.int .i64 s.k, .int .i64 s.q, .int .i64 s.n, .int .i64 s.f, .int .i64 s.u], 47), (w.heap.size + 1 + 1 + 1 + 1, #[.int .i64 x.t, .int .i64 x.c, .int .i64 x.f, .int .i64 x.u, .int .i64 x.n], 42), (w.heap.size + 1 + 1 + 1 + 1 + 1, #[.int .i64 o.k, .int .i64 o.t, .int .i64 o.p, .int .i64 o.i, .int .i64 o.f, .int .i64 o.u, .int .i64 o.n], 49)] from HLL.out _ B.blks.2).rules
  simp only [Rules] at R
  have Rb := B.rules
  simp only [Rules] at Rb
  go_wp2_with fail
  generalize hX : World.alloc _ _ = W9
  replace B := St.cast hX (B.alloc _ _)
  clear hX R Rb
  have C9 := Lib.hid (suffix_no (⟨d.f, d.u, d.sp ++ [s], d.ov ++ [o], d.df ++ [x], d.py ++ [p], d.fo⟩ : Scr) X1 X2 X3 X4 A5 k1 k2 k3 k4 c5 s1 s2 ver RB rn rc at_ need m W9 H1.out)
  unfold scrV relV scrZ at C9
  simp only [List.length_append, List.length_cons, List.length_nil, Nat.zero_add] at C9
  (with_reducible refine C9.out.mono ?_)
  rintro e' w10 ⟨rfl, hb10⟩
  clear C9
  replace B := B.later hb10
  have C10 := Lib.hid (fun W (hW : Below w10.heap.size w10 W) => same_any ⟨0, 0, [], [], [], [], []⟩ zero_B none none none none none 0 0 0 0 0 none none none none none 0 0 0 0 0 W (zero_at W) (zero_at W))
  unfold scrV at C10
  try dsimp only [List.length_nil] at C10
  have R := (show Blks _ [(w.heap.size, #[.int .i64 d.f, .int .i64 d.u, .slice A1 d.sp.length c1, .slice A2 d.ov.length c2, .slice A3 d.df.length c3, .slice A4 d.py.length c4, .slice A5 d.fo.length c5], 28), (w.heap.size + 1, #[.string s1, .string s2, .int .i64 ver, .slice RB rn rc, .int .i64 at_, .int .i64 need], 33), (w.heap.size + 1 + 1, #[.int .i64 p.k, .int .i64 p.t, .int .i64 p.f, .int .i64 p.a], 45), (w.heap.size + 1 + 1 + 1, #[.int .i64 s.k, .int .i64 s.q, .int .i64 s.n, .int .i64 s.f, .int .i64 s.u], 47), (w.heap.size + 1 + 1 + 1 + 1, #[.int .i64 x.t, .int .i64 x.c, .int .i64 x.f, .int .i64 x.u, .int .i64 x.n], 42), (w.heap.size + 1 + 1 + 1 + 1 + 1, #[.int .i64 o.k, .int .i64 o.t, .int .i64 o.p, .int .i64 o.i, .int .i64 o.f, .int .i64 o.u, .int .i64 o.n], 49)] from HLL.out _ B.blks.2.2).rules
  simp only [Rules] at R
  have Rb := B.rules
  simp only [Rules] at Rb
  go_wp2_with (first | (go_at_call 10; (with_reducible refine (C10.out _ (below_al _ _)).mono ?_); rintro e' w11 ⟨rfl, hb11⟩; have B6 := (B.alloc _ _).later hb11))
  go_ret
  exact ⟨by simp, B6.below⟩
set_option maxRecDepth 100000 in
set_option maxHeartbeats 8000000 in
theorem over_gobt (d : Scr) (A1 A2 A3 A4 A5 : Option Addr) (c1 c2 c3 c4 c5 : Nat) (s1 s2 : ByteArray) (ver : Int) (RB : Option Addr) (rn rc : Nat) (at_ need m : Int) (p : Pay) (s : Spl) (x : Dfc) (o : Ovr) (w : World) (hb : ScrB d) (hf : fewB d = true) (hS : ScrAt w d A1 A2 A3 A4 A5) (hH : ∀ W, Below w.heap.size w W → Calls Tryz.prog 6 #[] W (Ret (.bool true) W)) (q1 : ¬ (p.a ≤ at_)) (q2 : ¬ (m ≤ s.u)) (q3 : ¬ (m ≤ x.u)) (q4 : m ≤ o.u) (q5 : ¬ (o.n ≤ d.u)) (h1 : sufB d at_ m = true) :
    Calls Tryz.prog 5 #[scrV d A1 A2 A3 A4 A5 c1 c2 c3 c4 c5, relV s1 s2 ver RB rn rc at_ need, .int .i64 m, .agg #[.int .i64 p.k, .int .i64 p.t, .int .i64 p.f, .int .i64 p.a], .agg #[.int .i64 s.k, .int .i64 s.q, .int .i64 s.n, .int .i64 s.f, .int .i64 s.u], .agg #[.int .i64 x.t, .int .i64 x.c, .int .i64 x.f, .int .i64 x.u, .int .i64 x.n], .agg #[.int .i64 o.k, .int .i64 o.t, .int .i64 o.p, .int .i64 o.i, .int .i64 o.f, .int .i64 o.u, .int .i64 o.n]] w (Ret (.bool true) w) := by
  have HB := Lib.hid hb
  have HS := Lib.hid hS
  clear hb hS
  have l5 := HB.out.n5
  have HH := Lib.hid hH
  have C7 := Lib.hid (fun W => few_any d A1 A2 A3 A4 A5 c1 c2 c3 c4 c5 W)
  rw [hf] at C7
  rw [fewB_iff] at hf
  have l1 : d.sp.length ≤ 8 := by omega
  have l2 : d.ov.length ≤ 8 := by omega
  have l3 : d.df.length ≤ 8 := by omega
  have l4 : d.py.length ≤ 12 := by omega
  clear hH hf
  unfold scrV at C7
  have C8 := Lib.hid (fun W (hW : Below w.heap.size w W) => suffix_any d A1 A2 A3 A4 A5 c1 c2 c3 c4 c5 s1 s2 ver RB rn rc at_ need m W HB.out l4 h1 (HS.out.later hW) (sufS d at_ m) rfl)
  unfold scrV relV at C8
  have HB2 := Lib.hid (sufS_B HB.out h1)
  have HO := Lib.hid (suf_over s o x p (d := d) (at_ := at_) (m := m) (by omega) (.inr (by omega)) (by omega) (by omega))
  have HFL := Lib.hid (show ((d.py ++ [p]).filter (inW d.u at_ m)).length ≤ 12 from by rw [filt_late _ _ q1]; exact Nat.le_trans (List.length_filter_le _ _) l4)
  have H1 := Lib.hid h1
  generalize sufS d at_ m = d2 at C8 HB2 HO
  clear h1
  unfold scrV relV
  go_enter Tryz.func5, Tryz.ntmps5
  go_wp2_with fail
  have B : St w _ [(w.heap.size, #[.int .i64 d.f, .int .i64 d.u, .slice A1 d.sp.length c1, .slice A2 d.ov.length c2, .slice A3 d.df.length c3, .slice A4 d.py.length c4, .slice A5 d.fo.length c5], 28), (w.heap.size + 1, #[.string s1, .string s2, .int .i64 ver, .slice RB rn rc, .int .i64 at_, .int .i64 need], 33), (w.heap.size + 1 + 1, #[.int .i64 p.k, .int .i64 p.t, .int .i64 p.f, .int .i64 p.a], 45), (w.heap.size + 1 + 1 + 1, #[.int .i64 s.k, .int .i64 s.q, .int .i64 s.n, .int .i64 s.f, .int .i64 s.u], 47), (w.heap.size + 1 + 1 + 1 + 1, #[.int .i64 x.t, .int .i64 x.c, .int .i64 x.f, .int .i64 x.u, .int .i64 x.n], 42), (w.heap.size + 1 + 1 + 1 + 1 + 1, #[.int .i64 o.k, .int .i64 o.t, .int .i64 o.p, .int .i64 o.i, .int .i64 o.f, .int .i64 o.u, .int .i64 o.n], 49)] := (let z := ((((((St.start w).alloc #[.int .i64 d.f, .int .i64 d.u, .slice A1 d.sp.length c1, .slice A2 d.ov.length c2, .slice A3 d.df.length c3, .slice A4 d.py.length c4, .slice A5 d.fo.length c5] 28).alloc #[.string s1, .string s2, .int .i64 ver, .slice RB rn rc, .int .i64 at_, .int .i64 need] 33).alloc #[.int .i64 p.k, .int .i64 p.t, .int .i64 p.f, .int .i64 p.a] 45).alloc #[.int .i64 s.k, .int .i64 s.q, .int .i64 s.n, .int .i64 s.f, .int .i64 s.u] 47).alloc #[.int .i64 x.t, .int .i64 x.c, .int .i64 x.f, .int .i64 x.u, .int .i64 x.n] 42).alloc #[.int .i64 o.k, .int .i64 o.t, .int .i64 o.p, .int .i64 o.i, .int .i64 o.f, .int .i64 o.u, .int .i64 o.n] 49; ⟨z.below, by simpa using z.blks.2.2.2.2.2.1, by simpa using z.blks.2.2.2.2.1, by simpa using z.blks.2.2.2.1, by simpa using z.blks.2.2.1, by simpa using z.blks.2.1, by simpa using z.blks.1, trivial⟩)
  generalize World.alloc _ _ = X at B ⊢
  refine (HH.out _ B.below).mono ?_
  rintro e' w1 ⟨rfl, hb1⟩
  replace B := B.later hb1
  have R := B.rules
  simp only [Rules] at R
  go_wp2_with fail
  refine (C7.out _).mono ?_
  rintro e' w2 ⟨rfl, hb2⟩
  clear R C7
  replace B := B.later hb2
  have R := B.rules
  simp only [Rules] at R
  have hb5 : w.heap.size + 5 < w2.heap.size := lt_of_block B.blks.2.2.2.2.2.1
  have hE := notin_new B.blks
  have HL : ∀ W, Blks W [(w.heap.size, #[.int .i64 d.f, .int .i64 d.u, .slice A1 d.sp.length c1, .slice A2 d.ov.length c2, .slice A3 d.df.length c3, .slice A4 d.py.length c4, .slice A5 d.fo.length c5], 28), (w.heap.size + 1, #[.string s1, .string s2, .int .i64 ver, .slice RB rn rc, .int .i64 at_, .int .i64 need], 33), (w.heap.size + 1 + 1, #[.int .i64 p.k, .int .i64 p.t, .int .i64 p.f, .int .i64 p.a], 45), (w.heap.size + 1 + 1 + 1, #[.int .i64 s.k, .int .i64 s.q, .int .i64 s.n, .int .i64 s.f, .int .i64 s.u], 47), (w.heap.size + 1 + 1 + 1 + 1, #[.int .i64 x.t, .int .i64 x.c, .int .i64 x.f, .int .i64 x.u, .int .i64 x.n], 42), (w.heap.size + 1 + 1 + 1 + 1 + 1, #[.int .i64 o.k, .int .i64 o.t, .int .i64 o.p, .int .i64 o.i, .int .i64 o.f, .int .i64 o.u, .int .i64 o.n], 49)] → Blks W [(w.heap.size, #[.int .i64 d.f, .int .i64 d.u, .slice A1 d.sp.length c1, .slice A2 d.ov.length c2, .slice A3 d.df.length c3, .slice A4 d.py.length c4, .slice A5 d.fo.length c5], 28), (w.heap.size + 1, #[.string s1, .string s2, .int .i64 ver, .slice RB rn rc, .int .i64 at_, .int .i64 need], 33), (w.heap.size + 1 + 1, #[.int .i64 p.k, .int .i64 p.t, .int .i64 p.f, .int .i64 p.a], 45), (w.heap.size + 1 + 1 + 1, #[.int .i64 s.k, .int .i64 s.q, .int .i64 s.n, .int .i64 s.f, .int .i64 s.u], 47), (w.heap.size + 1 + 1 + 1 + 1, #[.int .i64 x.t, .int .i64 x.c, .int .i64 x.f, .int .i64 x.u, .int .i64 x.n], 42), (w.heap.size + 1 + 1 + 1 + 1 + 1, #[.int .i64 o.k, .int .i64 o.t, .int .i64 o.p, .int .i64 o.i, .int .i64 o.f, .int .i64 o.u, .int .i64 o.n], 49)] := fun _ h => h
  go_wp2_with fail
  generalize hX : World.alloc _ _ = W3
  replace B := St.cast hX (B.alloc _ _)
  clear hX R
  generalize w2.heap.size = bb at *
  refine over_reg5 d A1 A2 A3 A4 A5 c1 c2 c3 c4 c5 p (by omega) w bb hb5 _ _ _ _ _ _ _ _ hE (fun W h => ⟨(HL W h).1, (HL W h).2.2.1, trivial⟩) HS.out.r4 _ _ _ _ _ _ _ _ _ _ _ _ _ _ _ _ _ _ _ _ _ _ _ _ _ _ _ _ _ _ _ _ _ _ _ _ _ _ _ _ _ _ _ _ _ _ _ _ _ _ _ _ _ _ _ _ _ _ _ _ _ _ _ _ _ _ _ _ _ _ _ _ _ _ _ _ _ _ _ _ _ _ _ _ _ _ _ _ _ _ _ _ _ _ _ _ _ _ _ _ _ _ _ _ _ _ _ _ _ _ _ _ _ _ B ?_
  clear B
  intro z5_0 z5_1 z5_2 z5_3 z5_4 z5_5 z5_6 z5_7 X4 n4 k4 V5 hn5 hown hno B
  have hl : n4 = (d.py ++ [p]).length := by rw [hn5]; simp
  clear hn5
  subst hl
  obtain ⟨E5, o1, g4, o2⟩ := own_ext (by omega) hown hno
  replace B := B.ext2 o1
  replace hE := (o2 _ List.mem_cons_self).app hE
  replace HL := fun W (h : Blks W (E5 ++ _)) => HL W h.snd
  dsimp only
  go_wp2_with fail
  refine over_reg6 d A1 A2 A3 A4 A5 c1 c2 c3 c4 c5 s (by omega) w bb hb5 _ _ _ _ _ _ _ _ hE (fun W h => ⟨(HL W h).1, (HL W h).2.2.2.1, trivial⟩) HS.out.r1 _ _ _ _ _ _ _ _ _ _ _ _ _ _ _ _ _ _ _ _ _ _ _ _ _ _ _ _ _ _ _ _ _ _ _ _ _ _ _ _ _ _ _ _ _ _ _ _ _ _ _ _ _ _ _ _ _ _ _ _ _ _ _ _ _ _ _ _ _ _ _ _ _ _ _ _ _ _ _ _ _ _ _ _ _ _ _ _ _ _ _ _ _ _ _ _ _ _ _ _ _ _ _ _ _ _ _ _ _ _ _ _ _ _ B ?_
  clear B
  intro z6_0 z6_1 z6_2 z6_3 z6_4 z6_5 z6_6 z6_7 X1 n1 k1 V6 hn6 hown hno B
  have hl : n1 = (d.sp ++ [s]).length := by rw [hn6]; simp
  clear hn6
  subst hl
  obtain ⟨E6, o1, g1, o2⟩ := own_ext (by omega) hown hno
  replace B := B.ext2 o1
  replace hE := (o2 _ List.mem_cons_self).app hE
  replace HL := fun W (h : Blks W (E6 ++ _)) => HL W h.snd
  dsimp only
  go_wp2_with fail
  refine over_reg7 d A1 A2 A3 A4 A5 c1 c2 c3 c4 c5 x (by omega) w bb hb5 _ _ _ _ _ _ _ _ hE (fun W h => ⟨(HL W h).1, (HL W h).2.2.2.2.1, trivial⟩) HS.out.r3 _ _ _ _ _ _ _ _ _ _ _ _ _ _ _ _ _ _ _ _ _ _ _ _ _ _ _ _ _ _ _ _ _ _ _ _ _ _ _ _ _ _ _ _ _ _ _ _ _ _ _ _ _ _ _ _ _ _ _ _ _ _ _ _ _ _ _ _ _ _ _ _ _ _ _ _ _ _ _ _ _ _ _ _ _ _ _ _ _ _ _ _ _ _ _ _ _ _ _ _ _ _ _ _ _ _ _ _ _ _ _ _ _ _ B ?_
  clear B
  intro z7_0 z7_1 z7_2 z7_3 z7_4 z7_5 z7_6 z7_7 X3 n3 k3 V7 hn7 hown hno B
  have hl : n3 = (d.df ++ [x]).length := by rw [hn7]; simp
  clear hn7
  subst hl
  obtain ⟨E7, o1, g3, o2⟩ := own_ext (by omega) hown hno
  replace B := B.ext2 o1
  replace hE := (o2 _ List.mem_cons_self).app hE
  replace HL := fun W (h : Blks W (E7 ++ _)) => HL W h.snd
  dsimp only
  go_wp2_with fail
  refine over_reg8 d A1 A2 A3 A4 A5 c1 c2 c3 c4 c5 o (by omega) w bb hb5 _ _ _ _ _ _ _ _ hE (fun W h => ⟨(HL W h).1, (HL W h).2.2.2.2.2.1, trivial⟩) HS.out.r2 _ _ _ _ _ _ _ _ _ _ _ _ _ _ _ _ _ _ _ _ _ _ _ _ _ _ _ _ _ _ _ _ _ _ _ _ _ _ _ _ _ _ _ _ _ _ _ _ _ _ _ _ _ _ _ _ _ _ _ _ _ _ _ _ _ _ _ _ _ _ _ _ _ _ _ _ _ _ _ _ _ _ _ _ _ _ _ _ _ _ _ _ _ _ _ _ _ _ _ _ _ _ _ _ _ _ _ _ _ _ _ _ _ _ B ?_
  clear B
  intro z8_0 z8_1 z8_2 z8_3 z8_4 z8_5 z8_6 z8_7 X2 n2 k2 V8 hn8 hown hno B
  have hl : n2 = (d.ov ++ [o]).length := by rw [hn8]; simp
  clear hn8
  subst hl
  obtain ⟨E8, o1, g2, o2⟩ := own_ext (by omega) hown hno
  replace B := B.ext2 o1
  replace hE := (o2 _ List.mem_cons_self).app hE
  replace HL := fun W (h : Blks W (E8 ++ _)) => HL W h.snd
  dsimp only
  have hG : ∀ W, Blks W (E8 ++ (E7 ++ (E6 ++ (E5 ++ [(w.heap.size, #[.int .i64 d.f, .int .i64 d.u, .slice A1 d.sp.length c1, .slice A2 d.ov.length c2, .slice A3 d.df.length c3, .slice A4 d.py.length c4, .slice A5 d.fo.length c5], 28), (w.heap.size + 1, #[.string s1, .string s2, .int .i64 ver, .slice RB rn rc, .int .i64 at_, .int .i64 need], 33), (w.heap.size + 1 + 1, #[.int .i64 p.k, .int .i64 p.t, .int .i64 p.f, .int .i64 p.a], 45), (w.heap.size + 1 + 1 + 1, #[.int .i64 s.k, .int .i64 s.q, .int .i64 s.n, .int .i64 s.f, .int .i64 s.u], 47), (w.heap.size + 1 + 1 + 1 + 1, #[.int .i64 x.t, .int .i64 x.c, .int .i64 x.f, .int .i64 x.u, .int .i64 x.n], 42), (w.heap.size + 1 + 1 + 1 + 1 + 1, #[.int .i64 o.k, .int .i64 o.t, .int .i64 o.p, .int .i64 o.i, .int .i64 o.f, .int .i64 o.u, .int .i64 o.n], 49)])))) → RowsAt W X1 5 Spl.g (d.sp ++ [s]) ∧ RowsAt W X2 7 Ovr.g (d.ov ++ [o]) ∧ RowsAt W X3 5 Dfc.g (d.df ++ [x]) ∧ RowsAt W X4 4 Pay.g (d.py ++ [p]) := fun W h => ⟨g1 W h.snd.snd.fst, g2 W h.fst, g3 W h.snd.fst, g4 W h.snd.snd.snd.fst⟩
  generalize E8 ++ (E7 ++ (E6 ++ (E5 ++ [(w.heap.size, #[.int .i64 d.f, .int .i64 d.u, .slice A1 d.sp.length c1, .slice A2 d.ov.length c2, .slice A3 d.df.length c3, .slice A4 d.py.length c4, .slice A5 d.fo.length c5], 28), (w.heap.size + 1, #[.string s1, .string s2, .int .i64 ver, .slice RB rn rc, .int .i64 at_, .int .i64 need], 33), (w.heap.size + 1 + 1, #[.int .i64 p.k, .int .i64 p.t, .int .i64 p.f, .int .i64 p.a], 45), (w.heap.size + 1 + 1 + 1, #[.int .i64 s.k, .int .i64 s.q, .int .i64 s.n, .int .i64 s.f, .int .i64 s.u], 47), (w.heap.size + 1 + 1 + 1 + 1, #[.int .i64 x.t, .int .i64 x.c, .int .i64 x.f, .int .i64 x.u, .int .i64 x.n], 42), (w.heap.size + 1 + 1 + 1 + 1 + 1, #[.int .i64 o.k, .int .i64 o.t, .int .i64 o.p, .int .i64 o.i, .int .i64 o.f, .int .i64 o.u, .int .i64 o.n], 49)]))) = LL at B HL hG
  clear g1 g2 g3 g4 o1 o2 hown hno hE
  have HG := Lib.hid hG
  have HLL := Lib.hid HL
  clear hG HL
  try dsimp only
  have R := (show Blks _ [(w.heap.size, #[.int .i64 d.f, .int .i64 d.u, .slice A1 d.sp.length c1, .slice A2 d.ov.length c2, .slice A3 d.df.length c3, .slice A4 d.py.length c4, .slice A5 d.fo.length c5], 28), (w.heap.size + 1, #[.string s1, .string s2, .int .i64 ver, .slice RB rn rc, .int .i64 at_, .int .i64 need], 33), (w.heap.size + 1 + 1, #[.int .i64 p.k, .int .i64 p.t, .int .i64 p.f, .int .i64 p.a], 45), (w.heap.size + 1 + 1 + 1, #[.int .i64 s.k, .int .i64 s.q, .int .i64 s.n, .int .i64 s.f, .int .i64 s.u], 47), (w.heap.size + 1 + 1 + 1 + 1, #[.int .i64 x.t, .int .i64 x.c, .int .i64 x.f, .int .i64 x.u, .int .i64 x.n], 42), (w.heap.size + 1 + 1 + 1 + 1 + 1, #[.int .i64 o.k, .int .i64 o.t, .int .i64 o.p, .int .i64 o.i, .int .i64 o.f, .int .i64 o.u, .int .i64 o.n], 49)] from HLL.out _ B.blks.2).rules
  simp only [Rules] at R
  have Rb := B.rules
  simp only [Rules] at Rb
  go_wp2_with fail
  refine (C8.out _ B.below).mono ?_
  rintro e' w8 ⟨Y1, Y2, Y3, Y4, Y5, j1, j2, j3, j4, j5, rfl, hS1, hb8⟩
  clear R Rb C8
  replace B := B.later hb8
  have R := (show Blks _ [(w.heap.size, #[.int .i64 d.f, .int .i64 d.u, .slice A1 d.sp.length c1, .slice A2 d.ov.length c2, .slice A3 d.df.length c3, .slice A4 d.py.length c4, .slice A5 d.fo.length c5], 28), (w.heap.size + 1, #[.string s1, .string s2, .int .i64 ver, .slice RB rn rc, .int .i64 at_, .int .i64 need], 33), (w.heap.size + 1 + 1, #[.int .i64 p.k, .int .i64 p.t, .int .i64 p.f, .int .i64 p.a], 45), (w.heap.size + 1 + 1 + 1, #[.int .i64 s.k, .int .i64 s.q, .int .i64 s.n, .int .i64 s.f, .int .i64 s.u], 47), (w.heap.size + 1 + 1 + 1 + 1, #[.int .i64 x.t, .int .i64 x.c, .int .i64 x.f, .int .i64 x.u, .int .i64 x.n], 42), (w.heap.size + 1 + 1 + 1 + 1 + 1, #[.int .i64 o.k, .int .i64 o.t, .int .i64 o.p, .int .i64 o.i, .int .i64 o.f, .int .i64 o.u, .int .i64 o.n], 49)] from HLL.out _ B.blks.2).rules
  simp only [Rules] at R
  have Rb := B.rules
  simp only [Rules] at Rb
  go_wp2_with fail
  generalize hX : World.alloc _ _ = W9
  replace B := St.cast hX (B.alloc _ _)
  replace hS1 := ScrAt.cast hX (hS1.later (below_al _ _))
  clear hX R Rb
  have C9 := Lib.hid (suffix_gen (⟨d.f, d.u, d.sp ++ [s], d.ov ++ [o], d.df ++ [x], d.py ++ [p], d.fo⟩ : Scr) X1 X2 X3 X4 A5 k1 k2 k3 k4 c5 s1 s2 ver RB rn rc at_ need m W9 (by simp; omega) (by simp; omega) (by simp; omega) (by simp; omega) l5 HFL.out H1.out (let z := HG.out _ B.blks.2.2; ⟨z.1, z.2.1, z.2.2.1, z.2.2.2, HS.out.r5.later B.below⟩) d2 HO.out)
  unfold scrV relV at C9
  simp only [List.length_append, List.length_cons, List.length_nil, Nat.zero_add] at C9
  (with_reducible refine C9.out.mono ?_)
  rintro e' w10 ⟨Z1, Z2, Z3, Z4, Z5, i1, i2, i3, i4, i5, rfl, hS2, hb10⟩
  clear C9
  replace B := B.later hb10
  replace hS1 := hS1.later hb10
  have C10 := Lib.hid (fun W (hW : Below w10.heap.size w10 W) => same_any d2 HB2.out Y1 Y2 Y3 Y4 Y5 j1 j2 j3 j4 j5 Z1 Z2 Z3 Z4 Z5 i1 i2 i3 i4 i5 W (hS1.later hW) (hS2.later hW))
  unfold scrV at C10
  try dsimp only [List.length_nil] at C10
  have R := (show Blks _ [(w.heap.size, #[.int .i64 d.f, .int .i64 d.u, .slice A1 d.sp.length c1, .slice A2 d.ov.length c2, .slice A3 d.df.length c3, .slice A4 d.py.length c4, .slice A5 d.fo.length c5], 28), (w.heap.size + 1, #[.string s1, .string s2, .int .i64 ver, .slice RB rn rc, .int .i64 at_, .int .i64 need], 33), (w.heap.size + 1 + 1, #[.int .i64 p.k, .int .i64 p.t, .int .i64 p.f, .int .i64 p.a], 45), (w.heap.size + 1 + 1 + 1, #[.int .i64 s.k, .int .i64 s.q, .int .i64 s.n, .int .i64 s.f, .int .i64 s.u], 47), (w.heap.size + 1 + 1 + 1 + 1, #[.int .i64 x.t, .int .i64 x.c, .int .i64 x.f, .int .i64 x.u, .int .i64 x.n], 42), (w.heap.size + 1 + 1 + 1 + 1 + 1, #[.int .i64 o.k, .int .i64 o.t, .int .i64 o.p, .int .i64 o.i, .int .i64 o.f, .int .i64 o.u, .int .i64 o.n], 49)] from HLL.out _ B.blks.2.2).rules
  simp only [Rules] at R
  have Rb := B.rules
  simp only [Rules] at Rb
  go_wp2_with (first | (go_at_call 10; (with_reducible refine (C10.out _ (below_al _ _)).mono ?_); rintro e' w11 ⟨rfl, hb11⟩; have B6 := (B.alloc _ _).later hb11))
  go_ret
  exact ⟨by simp, B6.below⟩
set_option maxRecDepth 100000 in
set_option maxHeartbeats 8000000 in
theorem over_gobf (d : Scr) (A1 A2 A3 A4 A5 : Option Addr) (c1 c2 c3 c4 c5 : Nat) (s1 s2 : ByteArray) (ver : Int) (RB : Option Addr) (rn rc : Nat) (at_ need m : Int) (p : Pay) (s : Spl) (x : Dfc) (o : Ovr) (w : World) (hb : ScrB d) (hf : fewB d = true) (hS : ScrAt w d A1 A2 A3 A4 A5) (hH : ∀ W, Below w.heap.size w W → Calls Tryz.prog 6 #[] W (Ret (.bool true) W)) (q1 : ¬ (p.a ≤ at_)) (q2 : ¬ (m ≤ s.u)) (q3 : ¬ (m ≤ x.u)) (q4 : m ≤ o.u) (q5 : ¬ (o.n ≤ d.u)) (h1 : sufB d at_ m = false) :
    Calls Tryz.prog 5 #[scrV d A1 A2 A3 A4 A5 c1 c2 c3 c4 c5, relV s1 s2 ver RB rn rc at_ need, .int .i64 m, .agg #[.int .i64 p.k, .int .i64 p.t, .int .i64 p.f, .int .i64 p.a], .agg #[.int .i64 s.k, .int .i64 s.q, .int .i64 s.n, .int .i64 s.f, .int .i64 s.u], .agg #[.int .i64 x.t, .int .i64 x.c, .int .i64 x.f, .int .i64 x.u, .int .i64 x.n], .agg #[.int .i64 o.k, .int .i64 o.t, .int .i64 o.p, .int .i64 o.i, .int .i64 o.f, .int .i64 o.u, .int .i64 o.n]] w (Ret (.bool true) w) := by
  have HB := Lib.hid hb
  have HS := Lib.hid hS
  clear hb hS
  have l5 := HB.out.n5
  have HH := Lib.hid hH
  have C7 := Lib.hid (fun W => few_any d A1 A2 A3 A4 A5 c1 c2 c3 c4 c5 W)
  rw [hf] at C7
  rw [fewB_iff] at hf
  have l1 : d.sp.length ≤ 8 := by omega
  have l2 : d.ov.length ≤ 8 := by omega
  have l3 : d.df.length ≤ 8 := by omega
  have l4 : d.py.length ≤ 12 := by omega
  clear hH hf
  unfold scrV at C7
  have C8 := Lib.hid (fun W => suffix_no d A1 A2 A3 A4 A5 c1 c2 c3 c4 c5 s1 s2 ver RB rn rc at_ need m W h1)
  unfold scrV relV scrZ at C8
  have H1 := Lib.hid h1
  clear h1
  unfold scrV relV
  go_enter Tryz.func5, Tryz.ntmps5
  go_wp2_with fail
  have B : St w _ [(w.heap.size, #[.int .i64 d.f, .int .i64 d.u, .slice A1 d.sp.length c1, .slice A2 d.ov.length c2, .slice A3 d.df.length c3, .slice A4 d.py.length c4, .slice A5 d.fo.length c5], 28), (w.heap.size + 1, #[.string s1, .string s2, .int .i64 ver, .slice RB rn rc, .int .i64 at_, .int .i64 need], 33), (w.heap.size + 1 + 1, #[.int .i64 p.k, .int .i64 p.t, .int .i64 p.f, .int .i64 p.a], 45), (w.heap.size + 1 + 1 + 1, #[.int .i64 s.k, .int .i64 s.q, .int .i64 s.n, .int .i64 s.f, .int .i64 s.u], 47), (w.heap.size + 1 + 1 + 1 + 1, #[.int .i64 x.t, .int .i64 x.c, .int .i64 x.f, .int .i64 x.u, .int .i64 x.n], 42), (w.heap.size + 1 + 1 + 1 + 1 + 1, #[.int .i64 o.k, .int .i64 o.t, .int .i64 o.p, .int .i64 o.i, .int .i64 o.f, .int .i64 o.u, .int .i64 o.n], 49)] := (let z := ((((((St.start w).alloc #[.int .i64 d.f, .int .i64 d.u, .slice A1 d.sp.length c1, .slice A2 d.ov.length c2, .slice A3 d.df.length c3, .slice A4 d.py.length c4, .slice A5 d.fo.length c5] 28).alloc #[.string s1, .string s2, .int .i64 ver, .slice RB rn rc, .int .i64 at_, .int .i64 need] 33).alloc #[.int .i64 p.k, .int .i64 p.t, .int .i64 p.f, .int .i64 p.a] 45).alloc #[.int .i64 s.k, .int .i64 s.q, .int .i64 s.n, .int .i64 s.f, .int .i64 s.u] 47).alloc #[.int .i64 x.t, .int .i64 x.c, .int .i64 x.f, .int .i64 x.u, .int .i64 x.n] 42).alloc #[.int .i64 o.k, .int .i64 o.t, .int .i64 o.p, .int .i64 o.i, .int .i64 o.f, .int .i64 o.u, .int .i64 o.n] 49; ⟨z.below, by simpa using z.blks.2.2.2.2.2.1, by simpa using z.blks.2.2.2.2.1, by simpa using z.blks.2.2.2.1, by simpa using z.blks.2.2.1, by simpa using z.blks.2.1, by simpa using z.blks.1, trivial⟩)
  generalize World.alloc _ _ = X at B ⊢
  refine (HH.out _ B.below).mono ?_
  rintro e' w1 ⟨rfl, hb1⟩
  replace B := B.later hb1
  have R := B.rules
  simp only [Rules] at R
  go_wp2_with fail
  refine (C7.out _).mono ?_
  rintro e' w2 ⟨rfl, hb2⟩
  clear R C7
  replace B := B.later hb2
  have R := B.rules
  simp only [Rules] at R
  have hb5 : w.heap.size + 5 < w2.heap.size := lt_of_block B.blks.2.2.2.2.2.1
  have hE := notin_new B.blks
  have HL : ∀ W, Blks W [(w.heap.size, #[.int .i64 d.f, .int .i64 d.u, .slice A1 d.sp.length c1, .slice A2 d.ov.length c2, .slice A3 d.df.length c3, .slice A4 d.py.length c4, .slice A5 d.fo.length c5], 28), (w.heap.size + 1, #[.string s1, .string s2, .int .i64 ver, .slice RB rn rc, .int .i64 at_, .int .i64 need], 33), (w.heap.size + 1 + 1, #[.int .i64 p.k, .int .i64 p.t, .int .i64 p.f, .int .i64 p.a], 45), (w.heap.size + 1 + 1 + 1, #[.int .i64 s.k, .int .i64 s.q, .int .i64 s.n, .int .i64 s.f, .int .i64 s.u], 47), (w.heap.size + 1 + 1 + 1 + 1, #[.int .i64 x.t, .int .i64 x.c, .int .i64 x.f, .int .i64 x.u, .int .i64 x.n], 42), (w.heap.size + 1 + 1 + 1 + 1 + 1, #[.int .i64 o.k, .int .i64 o.t, .int .i64 o.p, .int .i64 o.i, .int .i64 o.f, .int .i64 o.u, .int .i64 o.n], 49)] → Blks W [(w.heap.size, #[.int .i64 d.f, .int .i64 d.u, .slice A1 d.sp.length c1, .slice A2 d.ov.length c2, .slice A3 d.df.length c3, .slice A4 d.py.length c4, .slice A5 d.fo.length c5], 28), (w.heap.size + 1, #[.string s1, .string s2, .int .i64 ver, .slice RB rn rc, .int .i64 at_, .int .i64 need], 33), (w.heap.size + 1 + 1, #[.int .i64 p.k, .int .i64 p.t, .int .i64 p.f, .int .i64 p.a], 45), (w.heap.size + 1 + 1 + 1, #[.int .i64 s.k, .int .i64 s.q, .int .i64 s.n, .int .i64 s.f, .int .i64 s.u], 47), (w.heap.size + 1 + 1 + 1 + 1, #[.int .i64 x.t, .int .i64 x.c, .int .i64 x.f, .int .i64 x.u, .int .i64 x.n], 42), (w.heap.size + 1 + 1 + 1 + 1 + 1, #[.int .i64 o.k, .int .i64 o.t, .int .i64 o.p, .int .i64 o.i, .int .i64 o.f, .int .i64 o.u, .int .i64 o.n], 49)] := fun _ h => h
  go_wp2_with fail
  generalize hX : World.alloc _ _ = W3
  replace B := St.cast hX (B.alloc _ _)
  clear hX R
  generalize w2.heap.size = bb at *
  refine over_reg5 d A1 A2 A3 A4 A5 c1 c2 c3 c4 c5 p (by omega) w bb hb5 _ _ _ _ _ _ _ _ hE (fun W h => ⟨(HL W h).1, (HL W h).2.2.1, trivial⟩) HS.out.r4 _ _ _ _ _ _ _ _ _ _ _ _ _ _ _ _ _ _ _ _ _ _ _ _ _ _ _ _ _ _ _ _ _ _ _ _ _ _ _ _ _ _ _ _ _ _ _ _ _ _ _ _ _ _ _ _ _ _ _ _ _ _ _ _ _ _ _ _ _ _ _ _ _ _ _ _ _ _ _ _ _ _ _ _ _ _ _ _ _ _ _ _ _ _ _ _ _ _ _ _ _ _ _ _ _ _ _ _ _ _ _ _ _ _ B ?_
  clear B
  intro z5_0 z5_1 z5_2 z5_3 z5_4 z5_5 z5_6 z5_7 X4 n4 k4 V5 hn5 hown hno B
  have hl : n4 = (d.py ++ [p]).length := by rw [hn5]; simp
  clear hn5
  subst hl
  obtain ⟨E5, o1, g4, o2⟩ := own_ext (by omega) hown hno
  replace B := B.ext2 o1
  replace hE := (o2 _ List.mem_cons_self).app hE
  replace HL := fun W (h : Blks W (E5 ++ _)) => HL W h.snd
  dsimp only
  go_wp2_with fail
  refine over_reg6 d A1 A2 A3 A4 A5 c1 c2 c3 c4 c5 s (by omega) w bb hb5 _ _ _ _ _ _ _ _ hE (fun W h => ⟨(HL W h).1, (HL W h).2.2.2.1, trivial⟩) HS.out.r1 _ _ _ _ _ _ _ _ _ _ _ _ _ _ _ _ _ _ _ _ _ _ _ _ _ _ _ _ _ _ _ _ _ _ _ _ _ _ _ _ _ _ _ _ _ _ _ _ _ _ _ _ _ _ _ _ _ _ _ _ _ _ _ _ _ _ _ _ _ _ _ _ _ _ _ _ _ _ _ _ _ _ _ _ _ _ _ _ _ _ _ _ _ _ _ _ _ _ _ _ _ _ _ _ _ _ _ _ _ _ _ _ _ _ B ?_
  clear B
  intro z6_0 z6_1 z6_2 z6_3 z6_4 z6_5 z6_6 z6_7 X1 n1 k1 V6 hn6 hown hno B
  have hl : n1 = (d.sp ++ [s]).length := by rw [hn6]; simp
  clear hn6
  subst hl
  obtain ⟨E6, o1, g1, o2⟩ := own_ext (by omega) hown hno
  replace B := B.ext2 o1
  replace hE := (o2 _ List.mem_cons_self).app hE
  replace HL := fun W (h : Blks W (E6 ++ _)) => HL W h.snd
  dsimp only
  go_wp2_with fail
  refine over_reg7 d A1 A2 A3 A4 A5 c1 c2 c3 c4 c5 x (by omega) w bb hb5 _ _ _ _ _ _ _ _ hE (fun W h => ⟨(HL W h).1, (HL W h).2.2.2.2.1, trivial⟩) HS.out.r3 _ _ _ _ _ _ _ _ _ _ _ _ _ _ _ _ _ _ _ _ _ _ _ _ _ _ _ _ _ _ _ _ _ _ _ _ _ _ _ _ _ _ _ _ _ _ _ _ _ _ _ _ _ _ _ _ _ _ _ _ _ _ _ _ _ _ _ _ _ _ _ _ _ _ _ _ _ _ _ _ _ _ _ _ _ _ _ _ _ _ _ _ _ _ _ _ _ _ _ _ _ _ _ _ _ _ _ _ _ _ _ _ _ _ B ?_
  clear B
  intro z7_0 z7_1 z7_2 z7_3 z7_4 z7_5 z7_6 z7_7 X3 n3 k3 V7 hn7 hown hno B
  have hl : n3 = (d.df ++ [x]).length := by rw [hn7]; simp
  clear hn7
  subst hl
  obtain ⟨E7, o1, g3, o2⟩ := own_ext (by omega) hown hno
  replace B := B.ext2 o1
  replace hE := (o2 _ List.mem_cons_self).app hE
  replace HL := fun W (h : Blks W (E7 ++ _)) => HL W h.snd
  dsimp only
  go_wp2_with fail
  refine over_reg8 d A1 A2 A3 A4 A5 c1 c2 c3 c4 c5 o (by omega) w bb hb5 _ _ _ _ _ _ _ _ hE (fun W h => ⟨(HL W h).1, (HL W h).2.2.2.2.2.1, trivial⟩) HS.out.r2 _ _ _ _ _ _ _ _ _ _ _ _ _ _ _ _ _ _ _ _ _ _ _ _ _ _ _ _ _ _ _ _ _ _ _ _ _ _ _ _ _ _ _ _ _ _ _ _ _ _ _ _ _ _ _ _ _ _ _ _ _ _ _ _ _ _ _ _ _ _ _ _ _ _ _ _ _ _ _ _ _ _ _ _ _ _ _ _ _ _ _ _ _ _ _ _ _ _ _ _ _ _ _ _ _ _ _ _ _ _ _ _ _ _ B ?_
  clear B
  intro z8_0 z8_1 z8_2 z8_3 z8_4 z8_5 z8_6 z8_7 X2 n2 k2 V8 hn8 hown hno B
  have hl : n2 = (d.ov ++ [o]).length := by rw [hn8]; simp
  clear hn8
  subst hl
  obtain ⟨E8, o1, g2, o2⟩ := own_ext (by omega) hown hno
  replace B := B.ext2 o1
  replace hE := (o2 _ List.mem_cons_self).app hE
  replace HL := fun W (h : Blks W (E8 ++ _)) => HL W h.snd
  dsimp only
  have hG : ∀ W, Blks W (E8 ++ (E7 ++ (E6 ++ (E5 ++ [(w.heap.size, #[.int .i64 d.f, .int .i64 d.u, .slice A1 d.sp.length c1, .slice A2 d.ov.length c2, .slice A3 d.df.length c3, .slice A4 d.py.length c4, .slice A5 d.fo.length c5], 28), (w.heap.size + 1, #[.string s1, .string s2, .int .i64 ver, .slice RB rn rc, .int .i64 at_, .int .i64 need], 33), (w.heap.size + 1 + 1, #[.int .i64 p.k, .int .i64 p.t, .int .i64 p.f, .int .i64 p.a], 45), (w.heap.size + 1 + 1 + 1, #[.int .i64 s.k, .int .i64 s.q, .int .i64 s.n, .int .i64 s.f, .int .i64 s.u], 47), (w.heap.size + 1 + 1 + 1 + 1, #[.int .i64 x.t, .int .i64 x.c, .int .i64 x.f, .int .i64 x.u, .int .i64 x.n], 42), (w.heap.size + 1 + 1 + 1 + 1 + 1, #[.int .i64 o.k, .int .i64 o.t, .int .i64 o.p, .int .i64 o.i, .int .i64 o.f, .int .i64 o.u, .int .i64 o.n], 49)])))) → RowsAt W X1 5 Spl.g (d.sp ++ [s]) ∧ RowsAt W X2 7 Ovr.g (d.ov ++ [o]) ∧ RowsAt W X3 5 Dfc.g (d.df ++ [x]) ∧ RowsAt W X4 4 Pay.g (d.py ++ [p]) := fun W h => ⟨g1 W h.snd.snd.fst, g2 W h.fst, g3 W h.snd.fst, g4 W h.snd.snd.snd.fst⟩
  generalize E8 ++ (E7 ++ (E6 ++ (E5 ++ [(w.heap.size, #[.int .i64 d.f, .int .i64 d.u, .slice A1 d.sp.length c1, .slice A2 d.ov.length c2, .slice A3 d.df.length c3, .slice A4 d.py.length c4, .slice A5 d.fo.length c5], 28), (w.heap.size + 1, #[.string s1, .string s2, .int .i64 ver, .slice RB rn rc, .int .i64 at_, .int .i64 need], 33), (w.heap.size + 1 + 1, #[.int .i64 p.k, .int .i64 p.t, .int .i64 p.f, .int .i64 p.a], 45), (w.heap.size + 1 + 1 + 1, #[.int .i64 s.k, .int .i64 s.q, .int .i64 s.n, .int .i64 s.f, .int .i64 s.u], 47), (w.heap.size + 1 + 1 + 1 + 1, #[.int .i64 x.t, .int .i64 x.c, .int .i64 x.f, .int .i64 x.u, .int .i64 x.n], 42), (w.heap.size + 1 + 1 + 1 + 1 + 1, #[.int .i64 o.k, .int .i64 o.t, .int .i64 o.p, .int .i64 o.i, .int .i64 o.f, .int .i64 o.u, .int .i64 o.n], 49)]))) = LL at B HL hG
  clear g1 g2 g3 g4 o1 o2 hown hno hE
  have HG := Lib.hid hG
  have HLL := Lib.hid HL
  clear hG HL
  try dsimp only
  have R := (show Blks _ [(w.heap.size, #[.int .i64 d.f, .int .i64 d.u, .slice A1 d.sp.length c1, .slice A2 d.ov.length c2, .slice A3 d.df.length c3, .slice A4 d.py.length c4, .slice A5 d.fo.length c5], 28), (w.heap.size + 1, #[.string s1, .string s2, .int .i64 ver, .slice RB rn rc, .int .i64 at_, .int .i64 need], 33), (w.heap.size + 1 + 1, #[.int .i64 p.k, .int .i64 p.t, .int .i64 p.f, .int .i64 p.a], 45), (w.heap.size + 1 + 1 + 1, #[.int .i64 s.k, .int .i64 s.q, .int .i64 s.n, .int .i64 s.f, .int .i64 s.u], 47), (w.heap.size + 1 + 1 + 1 + 1, #[.int .i64 x.t, .int .i64 x.c, .int .i64 x.f, .int .i64 x.u, .int .i64 x.n], 42), (w.heap.size + 1 + 1 + 1 + 1 + 1, #[.int .i64 o.k, .int .i64 o.t, .int .i64 o.p, .int .i64 o.i, .int .i64 o.f, .int .i64 o.u, .int .i64 o.n], 49)] from HLL.out _ B.blks.2).rules
  simp only [Rules] at R
  have Rb := B.rules
  simp only [Rules] at Rb
  go_wp2_with fail
  refine (C8.out _).mono ?_
  rintro e' w8 ⟨rfl, hb8⟩
  clear R Rb C8
  replace B := B.later hb8
  have R := (show Blks _ [(w.heap.size, #[.int .i64 d.f, .int .i64 d.u, .slice A1 d.sp.length c1, .slice A2 d.ov.length c2, .slice A3 d.df.length c3, .slice A4 d.py.length c4, .slice A5 d.fo.length c5], 28), (w.heap.size + 1, #[.string s1, .string s2, .int .i64 ver, .slice RB rn rc, .int .i64 at_, .int .i64 need], 33), (w.heap.size + 1 + 1, #[.int .i64 p.k, .int .i64 p.t, .int .i64 p.f, .int .i64 p.a], 45), (w.heap.size + 1 + 1 + 1, #[.int .i64 s.k, .int .i64 s.q, .int .i64 s.n, .int .i64 s.f, .int .i64 s.u], 47), (w.heap.size + 1 + 1 + 1 + 1, #[.int .i64 x.t, .int .i64 x.c, .int .i64 x.f, .int .i64 x.u, .int .i64 x.n], 42), (w.heap.size + 1 + 1 + 1 + 1 + 1, #[.int .i64 o.k, .int .i64 o.t, .int .i64 o.p, .int .i64 o.i, .int .i64 o.f, .int .i64 o.u, .int .i64 o.n], 49)] from HLL.out _ B.blks.2).rules
  simp only [Rules] at R
  have Rb := B.rules
  simp only [Rules] at Rb
  go_wp2_with fail
  generalize hX : World.alloc _ _ = W9
  replace B := St.cast hX (B.alloc _ _)
  clear hX R Rb
  have C9 := Lib.hid (suffix_no (⟨d.f, d.u, d.sp ++ [s], d.ov ++ [o], d.df ++ [x], d.py ++ [p], d.fo⟩ : Scr) X1 X2 X3 X4 A5 k1 k2 k3 k4 c5 s1 s2 ver RB rn rc at_ need m W9 H1.out)
  unfold scrV relV scrZ at C9
  simp only [List.length_append, List.length_cons, List.length_nil, Nat.zero_add] at C9
  (with_reducible refine C9.out.mono ?_)
  rintro e' w10 ⟨rfl, hb10⟩
  clear C9
  replace B := B.later hb10
  have C10 := Lib.hid (fun W (hW : Below w10.heap.size w10 W) => same_any ⟨0, 0, [], [], [], [], []⟩ zero_B none none none none none 0 0 0 0 0 none none none none none 0 0 0 0 0 W (zero_at W) (zero_at W))
  unfold scrV at C10
  try dsimp only [List.length_nil] at C10
  have R := (show Blks _ [(w.heap.size, #[.int .i64 d.f, .int .i64 d.u, .slice A1 d.sp.length c1, .slice A2 d.ov.length c2, .slice A3 d.df.length c3, .slice A4 d.py.length c4, .slice A5 d.fo.length c5], 28), (w.heap.size + 1, #[.string s1, .string s2, .int .i64 ver, .slice RB rn rc, .int .i64 at_, .int .i64 need], 33), (w.heap.size + 1 + 1, #[.int .i64 p.k, .int .i64 p.t, .int .i64 p.f, .int .i64 p.a], 45), (w.heap.size + 1 + 1 + 1, #[.int .i64 s.k, .int .i64 s.q, .int .i64 s.n, .int .i64 s.f, .int .i64 s.u], 47), (w.heap.size + 1 + 1 + 1 + 1, #[.int .i64 x.t, .int .i64 x.c, .int .i64 x.f, .int .i64 x.u, .int .i64 x.n], 42), (w.heap.size + 1 + 1 + 1 + 1 + 1, #[.int .i64 o.k, .int .i64 o.t, .int .i64 o.p, .int .i64 o.i, .int .i64 o.f, .int .i64 o.u, .int .i64 o.n], 49)] from HLL.out _ B.blks.2.2).rules
  simp only [Rules] at R
  have Rb := B.rules
  simp only [Rules] at Rb
  go_wp2_with (first | (go_at_call 10; (with_reducible refine (C10.out _ (below_al _ _)).mono ?_); rintro e' w11 ⟨rfl, hb11⟩; have B6 := (B.alloc _ _).later hb11))
  go_ret
  exact ⟨by simp, B6.below⟩
end Go.Proofs.YtbkipanlicgooaaGreatDoor
