/-
  The reference's payments: its inner loop. No conditions but those in each statement.
-/
import Derived.Test.YtbkipanlicgooaaGreatDoorRa
import Derived.Test.YtbkipanlicgooaaGreatDoorLg
namespace Go.Proofs.YtbkipanlicgooaaGreatDoor
open Go.RowKit

theorem keep_bl {W W' : World} {p : Addr} {v : Value} (hb : Below W.heap.size W W') (hp : p.block < W.heap.size) (h : W.cell? p = some v) : W'.cell? p = some v := (hb.cell hp).trans h
set_option maxRecDepth 100000 in
set_option maxHeartbeats 4000000 in
theorem rin_reg (p q : Pay) (a : Addr) (n k c : Nat) (tb : Nat) (hk : k < n) (_hn : n ≤ 100) (X : World) (hX : tb < X.heap.size) (hA : (a.add (k * 4)).block < X.heap.size) (e0 : X.cell? (a.add (k * 4)) = some (.int .i64 q.k)) (e1 : X.cell? ⟨(a.add (k * 4)).block, (a.add (k * 4)).off + 1, none⟩ = some (.int .i64 q.t)) (e2 : X.cell? ⟨(a.add (k * 4)).block, (a.add (k * 4)).off + 2, none⟩ = some (.int .i64 q.f)) (e3 : X.cell? ⟨(a.add (k * 4)).block, (a.add (k * 4)).off + 3, none⟩ = some (.int .i64 q.a)) (b0 : X.cell? ⟨tb, 0, none⟩ = some (.int .i64 p.k)) (b1 : X.cell? ⟨tb, 1, none⟩ = some (.int .i64 p.t)) (b2 : X.cell? ⟨tb, 2, none⟩ = some (.int .i64 p.f)) (b3 : X.cell? ⟨tb, 3, none⟩ = some (.int .i64 p.a)) {K : Act → World → Prop} {Q : Exit → Act → World → Prop} (u0 u1 u2 u3 u4 u5 u6 u8 u10 u11 u13 u14 u15 u16 u17 u18 u19 u20 u21 u22 u23 u24 u25 u26 u27 u28 u29 u30 u31 u32 u33 u34 u35 u36 u37 u38 u39 u40 u41 u42 u43 u44 u45 u46 u47 u48 u49 u50 u51 u52 u53 u54 u55 u56 u57 u58 u59 u60 u61 u62 u63 u64 u65 u66 u67 u68 u69 u70 u71 u72 u73 u74 u75 u76 u77 u78 u79 u80 u81 u82 u83 u84 u85 u86 u87 u88 u89 u90 u91 u92 u93 u94 u95 u96 u97 u98 u99 u100 u101 u102 u103 u104 u105 : Value)
    (hQ : ∀ (v67 v68 v69 v70 v71 v72 v73 v74 v75 v76 v77 : Value) (W' : World), Below X.heap.size X W' → K ⟨#[u0, u1, u2, u3, u4, u5, u6, .slice (some a) n c, u8, .pointer (some ⟨tb, 0, none⟩), u10, u11, .int .i64 (k : Nat), u13, u14, u15, u16, u17, u18, u19, u20, u21, u22, u23, u24, u25, u26, u27, u28, u29, u30, u31, u32, u33, u34, u35, u36, u37, u38, u39, u40, u41, u42, u43, u44, u45, u46, u47, u48, u49, u50, u51, u52, u53, u54, u55, u56, u57, u58, u59, u60, u61, u62, u63, u64, u65, u66, v67, v68, v69, v70, v71, v72, v73, v74, v75, v76, v77, .bool (decide (plt q p)), u79, u80, u81, u82, u83, u84, u85, u86, u87, u88, u89, u90, u91, u92, u93, u94, u95, u96, u97, u98, u99, u100, u101, u102, u103, u104, u105], []⟩ W') :
    Code.wp Tryz.prog (codeAt Tryz.f18 [1, 1, 0, 1, 0, 0, 1, 0, 0, 1, 1, 1, 1, 1, 1, 1, 0, 0, 0, 0, 0]) (Exit.then K Q) ⟨#[u0, u1, u2, u3, u4, u5, u6, .slice (some a) n c, u8, .pointer (some ⟨tb, 0, none⟩), u10, u11, .int .i64 (k : Nat), u13, u14, u15, u16, u17, u18, u19, u20, u21, u22, u23, u24, u25, u26, u27, u28, u29, u30, u31, u32, u33, u34, u35, u36, u37, u38, u39, u40, u41, u42, u43, u44, u45, u46, u47, u48, u49, u50, u51, u52, u53, u54, u55, u56, u57, u58, u59, u60, u61, u62, u63, u64, u65, u66, u67, u68, u69, u70, u71, u72, u73, u74, u75, u76, u77, u78, u79, u80, u81, u82, u83, u84, u85, u86, u87, u88, u89, u90, u91, u92, u93, u94, u95, u96, u97, u98, u99, u100, u101, u102, u103, u104, u105], []⟩ X := by
  show Code.wp Tryz.prog (Code.region _ _ _) _ _ _
  dsimp only
  have HQ := Lib.hid hQ
  clear hQ
  have C := Lib.hid (fun W => before_any q p W)
  unfold payV at C
  have hk' : (k : Int) < n := by omega
  go_region_held3 (fun (Y : World) => World.cell? Y (a.add (k * 4)) = some (.int .i64 q.k) ∧ World.cell? Y ⟨(a.add (k * 4)).block, (a.add (k * 4)).off + 1, none⟩ = some (.int .i64 q.t) ∧ World.cell? Y ⟨(a.add (k * 4)).block, (a.add (k * 4)).off + 2, none⟩ = some (.int .i64 q.f) ∧ World.cell? Y ⟨(a.add (k * 4)).block, (a.add (k * 4)).off + 3, none⟩ = some (.int .i64 q.a) ∧ World.cell? Y ⟨tb, 0, none⟩ = some (.int .i64 p.k) ∧ World.cell? Y ⟨tb, 1, none⟩ = some (.int .i64 p.t) ∧ World.cell? Y ⟨tb, 2, none⟩ = some (.int .i64 p.f) ∧ World.cell? Y ⟨tb, 3, none⟩ = some (.int .i64 p.a))
    (with_reducible first | exact ⟨e0, e1, e2, e3, b0, b1, b2, b3⟩ | exact ⟨keep_dr e0, keep_dr e1, keep_dr e2, keep_dr e3, keep_dr b0, keep_dr b1, keep_dr b2, keep_dr b3⟩ | exact ⟨keep_bl hb1 hA e0, keep_bl hb1 hA e1, keep_bl hb1 hA e2, keep_bl hb1 hA e3, keep_bl hb1 hX b0, keep_bl hb1 hX b1, keep_bl hb1 hX b2, keep_bl hb1 hX b3⟩)
    (first | (go_at_call 28; (with_reducible refine (C.out _).mono ?_); rintro e' w1 ⟨rfl, hb1⟩; replace hb1 : Below X.heap.size X w1 := below_step (Below.refl _ _).drew (Nat.le_refl _) hb1))

  all_goals
    show K _ _
    exact HQ.out _ _ _ _ _ _ _ _ _ _ _ _ (by first | exact Below.refl _ _ | exact (Below.refl _ _).drew | exact hb1)
set_option maxRecDepth 100000 in
set_option maxHeartbeats 4000000 in
theorem rin_end (A : Option Addr) (n c : Nat) (tb : Nat) (X : World) {K : Act → World → Prop} {Q : Exit → Act → World → Prop} (u0 u1 u2 u3 u4 u5 u6 u8 u10 u11 u13 u14 u15 u16 u17 u18 u19 u20 u21 u22 u23 u24 u25 u26 u27 u28 u29 u30 u31 u32 u33 u34 u35 u36 u37 u38 u39 u40 u41 u42 u43 u44 u45 u46 u47 u48 u49 u50 u51 u52 u53 u54 u55 u56 u57 u58 u59 u60 u61 u62 u63 u64 u65 u66 u67 u68 u69 u70 u71 u72 u73 u74 u75 u76 u77 u78 u79 u80 u81 u82 u83 u84 u85 u86 u87 u88 u89 u90 u91 u92 u93 u94 u95 u96 u97 u98 u99 u100 u101 u102 u103 u104 u105 : Value)
    (hQ : ∀ (v67 v68 v69 v70 v71 v72 v73 v74 v75 v76 v77 : Value) (W' : World), Below X.heap.size X W' → K ⟨#[u0, u1, u2, u3, u4, u5, u6, .slice A n c, u8, .pointer (some ⟨tb, 0, none⟩), u10, u11, .int .i64 (n : Nat), u13, u14, u15, u16, u17, u18, u19, u20, u21, u22, u23, u24, u25, u26, u27, u28, u29, u30, u31, u32, u33, u34, u35, u36, u37, u38, u39, u40, u41, u42, u43, u44, u45, u46, u47, u48, u49, u50, u51, u52, u53, u54, u55, u56, u57, u58, u59, u60, u61, u62, u63, u64, u65, u66, v67, v68, v69, v70, v71, v72, v73, v74, v75, v76, v77, .bool false, u79, u80, u81, u82, u83, u84, u85, u86, u87, u88, u89, u90, u91, u92, u93, u94, u95, u96, u97, u98, u99, u100, u101, u102, u103, u104, u105], []⟩ W') :
    Code.wp Tryz.prog (codeAt Tryz.f18 [1, 1, 0, 1, 0, 0, 1, 0, 0, 1, 1, 1, 1, 1, 1, 1, 0, 0, 0, 0, 0]) (Exit.then K Q) ⟨#[u0, u1, u2, u3, u4, u5, u6, .slice A n c, u8, .pointer (some ⟨tb, 0, none⟩), u10, u11, .int .i64 (n : Nat), u13, u14, u15, u16, u17, u18, u19, u20, u21, u22, u23, u24, u25, u26, u27, u28, u29, u30, u31, u32, u33, u34, u35, u36, u37, u38, u39, u40, u41, u42, u43, u44, u45, u46, u47, u48, u49, u50, u51, u52, u53, u54, u55, u56, u57, u58, u59, u60, u61, u62, u63, u64, u65, u66, u67, u68, u69, u70, u71, u72, u73, u74, u75, u76, u77, u78, u79, u80, u81, u82, u83, u84, u85, u86, u87, u88, u89, u90, u91, u92, u93, u94, u95, u96, u97, u98, u99, u100, u101, u102, u103, u104, u105], []⟩ X := by
  show Code.wp Tryz.prog (Code.region _ _ _) _ _ _
  dsimp only
  have HQ := Lib.hid hQ
  clear hQ
  have hnn : ¬ ((n : Int) < (n : Int)) := by omega
  go_region
  all_goals
    show K _ _
    exact HQ.out _ _ _ _ _ _ _ _ _ _ _ _ (Below.refl _ _).drew
def InJ (p : Pay) (l : List Pay) (wr : World) (v12 : Value) (wx : World) : Prop := ∃ k : Nat, k ≤ kI p l ∧ v12 = .int .i64 k ∧ Below wr.heap.size wr wx
set_option maxRecDepth 100000 in
set_option maxHeartbeats 4000000 in
theorem rin_loop (p : Pay) (l : List Pay) (hl : l.length ≤ 100) (A : Option Addr) (c : Nat) (tb : Nat) {K : Act → World → Prop} {Q : Exit → Act → World → Prop} (u0 u1 u2 u3 u4 u5 u6 u8 u10 u11 u13 u14 u15 u16 u17 u18 u19 u20 u21 u22 u23 u24 u25 u26 u27 u28 u29 u30 u31 u32 u33 u34 u35 u36 u37 u38 u39 u40 u41 u42 u43 u44 u45 u46 u47 u48 u49 u50 u51 u52 u53 u54 u55 u56 u57 u58 u59 u60 u61 u62 u63 u64 u65 u66 u67 u68 u69 u70 u71 u72 u73 u74 u75 u76 u77 u78 u79 u80 u81 u82 u83 u84 u85 u86 u87 u88 u89 u90 u91 u92 u93 u94 u95 u96 u97 u98 u99 u100 u101 u102 u103 u104 u105 : Value) (wr : World) (hr : RowsAt wr A 4 Pay.g l) (hb : wr.heap[tb]? = some (.cells #[.int .i64 p.k, .int .i64 p.t, .int .i64 p.f, .int .i64 p.a] 45 (0, 0)))
    (hK : ∀ (v67 v68 v69 v70 v71 v72 v73 v74 v75 v76 v77 v78 v79 v80 : Value) (w' : World), Below wr.heap.size wr w' → K ⟨#[u0, u1, u2, u3, u4, u5, u6, .slice A l.length c, u8, .pointer (some ⟨tb, 0, none⟩), u10, u11, .int .i64 (kI p l : Nat), u13, u14, u15, u16, u17, u18, u19, u20, u21, u22, u23, u24, u25, u26, u27, u28, u29, u30, u31, u32, u33, u34, u35, u36, u37, u38, u39, u40, u41, u42, u43, u44, u45, u46, u47, u48, u49, u50, u51, u52, u53, u54, u55, u56, u57, u58, u59, u60, u61, u62, u63, u64, u65, u66, v67, v68, v69, v70, v71, v72, v73, v74, v75, v76, v77, v78, v79, v80, u81, u82, u83, u84, u85, u86, u87, u88, u89, u90, u91, u92, u93, u94, u95, u96, u97, u98, u99, u100, u101, u102, u103, u104, u105], []⟩ w') :
    Code.wp Tryz.prog (codeAt Tryz.f18 [1, 1, 0, 1, 0, 0, 1, 0, 0, 1, 1, 1, 1, 1, 1, 1, 0, 0]) (Exit.inBlock 2 (Exit.then K Q)) ⟨#[u0, u1, u2, u3, u4, u5, u6, .slice A l.length c, u8, .pointer (some ⟨tb, 0, none⟩), u10, u11, .int .i64 0, u13, u14, u15, u16, u17, u18, u19, u20, u21, u22, u23, u24, u25, u26, u27, u28, u29, u30, u31, u32, u33, u34, u35, u36, u37, u38, u39, u40, u41, u42, u43, u44, u45, u46, u47, u48, u49, u50, u51, u52, u53, u54, u55, u56, u57, u58, u59, u60, u61, u62, u63, u64, u65, u66, u67, u68, u69, u70, u71, u72, u73, u74, u75, u76, u77, u78, u79, u80, u81, u82, u83, u84, u85, u86, u87, u88, u89, u90, u91, u92, u93, u94, u95, u96, u97, u98, u99, u100, u101, u102, u103, u104, u105], []⟩ wr := by
  show Code.wp Tryz.prog (Code.loop _) _ _ _
  dsimp only
  have HK := Lib.hid hK
  have HR := Lib.hid hr
  have HBk := Lib.hid hb
  clear hK hr hb
  have hkl := kI_le p l
  go_loopw [12] (InJ p l wr) (fun v _ => l.length - (intOf v).toNat)
  case atStart => exact ⟨0, Nat.zero_le _, rfl, Below.refl _ _⟩
  case round =>
    obtain ⟨k, hk, rfl, B⟩ := hrel
    by_cases hlt : k < l.length
    · have hx : l[k]? = some l[k] := List.getElem?_eq_getElem hlt
      obtain ⟨ad, ha, hA, e0, e⟩ := (HR.out.later B) k _ hx
      have e1 := e 1 (by omega) (by omega)
      have e2 := e 2 (by omega) (by omega)
      have e3 := e 3 (by omega) (by omega)
      have HX := Lib.hid hx
      clear e hx
      generalize l[k] = q at HX e0 e1 e2 e3
      subst ha
      have hb := blk_later HBk.out B
      go_wp2_with fail
      refine rin_reg p q ad l.length k c tb hlt hl _ (lt_of_block hb) hA e0 e1 e2 e3 (cell_blk hb 0 _ rfl) (cell_blk hb 1 _ rfl) (cell_blk hb 2 _ rfl) (cell_blk hb 3 _ rfl) _ _ _ _ _ _ _ _ _ _ _ _ _ _ _ _ _ _ _ _ _ _ _ _ _ _ _ _ _ _ _ _ _ _ _ _ _ _ _ _ _ _ _ _ _ _ _ _ _ _ _ _ _ _ _ _ _ _ _ _ _ _ _ _ _ _ _ _ _ _ _ _ _ _ _ _ _ _ _ _ _ _ _ _ _ _ _ _ _ _ _ _ _ _ _ _ _ _ _ _ _ _ _ ?_
      clear e0 e1 e2 e3 hb hA
      intro z0 z1 z2 z3 z4 z5 z6 z7 z8 z9 z10 w1 hb1
      replace B := below_step B (Nat.le_refl _) hb1
      by_cases hq : plt q p
      · have hd : decide (plt q p) = true := by simp [hq]
        rw [hd]
        have hne : k ≠ kI p l := fun e => kI_at p l q (by rw [← e]; exact HX.out) hq
        dsimp only
        go_wp2
        exact ⟨⟨k + 1, by omega, by go_num, B⟩, by simp [intOf]; omega⟩
      · have hd : decide (plt q p) = false := by simp [hq]
        rw [hd]
        have hke : k = kI p l := by
          rcases Nat.lt_or_ge k (kI p l) with h | h
          · obtain ⟨q', h1, h2⟩ := kI_ahead p l k h
            rw [HX.out] at h1
            cases h1
            exact absurd h2 hq
          · omega
        subst hke
        dsimp only
        go_wp2_with fail
        exact HK.out _ _ _ _ _ _ _ _ _ _ _ _ _ _ _ B
    · obtain rfl : k = l.length := by omega
      have hke := Lib.hid (show l.length = kI p l by omega)
      clear hk hkl hlt
      go_wp2_with fail
      refine rin_end A l.length c tb _ _ _ _ _ _ _ _ _ _ _ _ _ _ _ _ _ _ _ _ _ _ _ _ _ _ _ _ _ _ _ _ _ _ _ _ _ _ _ _ _ _ _ _ _ _ _ _ _ _ _ _ _ _ _ _ _ _ _ _ _ _ _ _ _ _ _ _ _ _ _ _ _ _ _ _ _ _ _ _ _ _ _ _ _ _ _ _ _ _ _ _ _ _ _ _ _ _ _ _ _ _ _ _ ?_
      intro z0 z1 z2 z3 z4 z5 z6 z7 z8 z9 z10 w1 hb1
      replace B := below_step B (Nat.le_refl _) hb1
      have H2 := HK.out
      rw [← hke.out] at H2
      replace H2 := Lib.hid H2
      clear HK
      dsimp only
      go_wp2_with fail
      exact H2.out _ _ _ _ _ _ _ _ _ _ _ _ _ _ _ B
end Go.Proofs.YtbkipanlicgooaaGreatDoor
namespace Go.Proofs.YtbkipanlicgooaaGreatDoor
open Go.RowKit

set_option maxRecDepth 100000 in
set_option maxHeartbeats 4000000 in
theorem r18_in (p q : Pay) (a : Addr) (n k c : Nat) (tb : Nat) (r : Bool) (hr : r = !(q.k == p.k && q.t == p.t && q.f == p.f && q.a == p.a)) (hk : k < n) (_hn : n ≤ 100) (X : World) (_hX : tb < X.heap.size) (_hA : (a.add (k * 4)).block < X.heap.size) (e0 : X.cell? (a.add (k * 4)) = some (.int .i64 q.k)) (e1 : X.cell? ⟨(a.add (k * 4)).block, (a.add (k * 4)).off + 1, none⟩ = some (.int .i64 q.t)) (e2 : X.cell? ⟨(a.add (k * 4)).block, (a.add (k * 4)).off + 2, none⟩ = some (.int .i64 q.f)) (e3 : X.cell? ⟨(a.add (k * 4)).block, (a.add (k * 4)).off + 3, none⟩ = some (.int .i64 q.a)) (b0 : X.cell? ⟨tb, 0, none⟩ = some (.int .i64 p.k)) (b1 : X.cell? ⟨tb, 1, none⟩ = some (.int .i64 p.t)) (b2 : X.cell? ⟨tb, 2, none⟩ = some (.int .i64 p.f)) (b3 : X.cell? ⟨tb, 3, none⟩ = some (.int .i64 p.a)) {K : Act → World → Prop} {Q : Exit → Act → World → Prop} (u0 u1 u2 u3 u4 u5 u6 u8 u10 u11 u13 u14 u15 u16 u17 u18 u19 u20 u21 u22 u23 u24 u25 u26 u27 u28 u29 u30 u31 u32 u33 u34 u35 u36 u37 u38 u39 u40 u41 u42 u43 u44 u45 u46 u47 u48 u49 u50 u51 u52 u53 u54 u55 u56 u57 u58 u59 u60 u61 u62 u63 u64 u65 u66 u67 u68 u69 u70 u71 u72 u73 u74 u75 u76 u77 u78 u79 u80 u81 u82 u83 u84 u85 u86 u87 u88 u89 u90 u91 u92 u93 u94 u95 u96 u97 u98 u99 u100 u101 u102 u103 u104 u105 : Value)
    (hQ : ∀ (v81 v82 v83 v84 v85 v86 v87 v88 v89 v90 v91 : Value) (W' : World), Below X.heap.size X W' → K ⟨#[u0, u1, u2, u3, u4, u5, u6, .slice (some a) n c, u8, .pointer (some ⟨tb, 0, none⟩), u10, u11, .int .i64 (k : Nat), u13, u14, u15, u16, u17, u18, u19, u20, u21, u22, u23, u24, u25, u26, u27, u28, u29, u30, u31, u32, u33, u34, u35, u36, u37, u38, u39, u40, u41, u42, u43, u44, u45, u46, u47, u48, u49, u50, u51, u52, u53, u54, u55, u56, u57, u58, u59, u60, u61, u62, u63, u64, u65, u66, u67, u68, u69, u70, u71, u72, u73, u74, u75, u76, u77, u78, u79, u80, v81, v82, v83, v84, v85, v86, v87, v88, v89, v90, v91, .bool r, u93, u94, u95, u96, u97, u98, u99, u100, u101, u102, u103, u104, u105], []⟩ W') :
    Code.wp Tryz.prog (codeAt Tryz.f18 [1, 1, 0, 1, 0, 0, 1, 0, 0, 1, 1, 1, 1, 1, 1, 1, 1, 0]) (Exit.then K Q) ⟨#[u0, u1, u2, u3, u4, u5, u6, .slice (some a) n c, u8, .pointer (some ⟨tb, 0, none⟩), u10, u11, .int .i64 (k : Nat), u13, u14, u15, u16, u17, u18, u19, u20, u21, u22, u23, u24, u25, u26, u27, u28, u29, u30, u31, u32, u33, u34, u35, u36, u37, u38, u39, u40, u41, u42, u43, u44, u45, u46, u47, u48, u49, u50, u51, u52, u53, u54, u55, u56, u57, u58, u59, u60, u61, u62, u63, u64, u65, u66, u67, u68, u69, u70, u71, u72, u73, u74, u75, u76, u77, u78, u79, u80, u81, u82, u83, u84, u85, u86, u87, u88, u89, u90, u91, u92, u93, u94, u95, u96, u97, u98, u99, u100, u101, u102, u103, u104, u105], []⟩ X := by
  show Code.wp Tryz.prog (Code.region _ _ _) _ _ _
  dsimp only
  have HQ := Lib.hid hQ
  clear hQ
  have hk' : (k : Int) < n := by omega
  have hne : ((k : Int) == (n : Int)) = false := by simp; omega
  have Hr := Lib.hid hr
  clear hr
  cases h0 : (q.k == p.k) with
  | false =>
    have er : r = true := by rw [Hr.out, h0]; rfl
    subst er
    clear Hr
    go_region_held3 (fun (Y : World) => World.cell? Y (a.add (k * 4)) = some (.int .i64 q.k) ∧ World.cell? Y ⟨(a.add (k * 4)).block, (a.add (k * 4)).off + 1, none⟩ = some (.int .i64 q.t) ∧ World.cell? Y ⟨(a.add (k * 4)).block, (a.add (k * 4)).off + 2, none⟩ = some (.int .i64 q.f) ∧ World.cell? Y ⟨(a.add (k * 4)).block, (a.add (k * 4)).off + 3, none⟩ = some (.int .i64 q.a) ∧ World.cell? Y ⟨tb, 0, none⟩ = some (.int .i64 p.k) ∧ World.cell? Y ⟨tb, 1, none⟩ = some (.int .i64 p.t) ∧ World.cell? Y ⟨tb, 2, none⟩ = some (.int .i64 p.f) ∧ World.cell? Y ⟨tb, 3, none⟩ = some (.int .i64 p.a))
      (with_reducible first | exact ⟨e0, e1, e2, e3, b0, b1, b2, b3⟩ | exact ⟨keep_dr e0, keep_dr e1, keep_dr e2, keep_dr e3, keep_dr b0, keep_dr b1, keep_dr b2, keep_dr b3⟩)
      (first | fail)
    all_goals
      show K _ _
      exact HQ.out _ _ _ _ _ _ _ _ _ _ _ _ (Below.refl _ _).drew
  | true =>
    cases h1 : (q.t == p.t) with
    | false =>
      have er : r = true := by rw [Hr.out, h0, h1]; rfl
      subst er
      clear Hr
      go_region_held3 (fun (Y : World) => World.cell? Y (a.add (k * 4)) = some (.int .i64 q.k) ∧ World.cell? Y ⟨(a.add (k * 4)).block, (a.add (k * 4)).off + 1, none⟩ = some (.int .i64 q.t) ∧ World.cell? Y ⟨(a.add (k * 4)).block, (a.add (k * 4)).off + 2, none⟩ = some (.int .i64 q.f) ∧ World.cell? Y ⟨(a.add (k * 4)).block, (a.add (k * 4)).off + 3, none⟩ = some (.int .i64 q.a) ∧ World.cell? Y ⟨tb, 0, none⟩ = some (.int .i64 p.k) ∧ World.cell? Y ⟨tb, 1, none⟩ = some (.int .i64 p.t) ∧ World.cell? Y ⟨tb, 2, none⟩ = some (.int .i64 p.f) ∧ World.cell? Y ⟨tb, 3, none⟩ = some (.int .i64 p.a))
        (with_reducible first | exact ⟨e0, e1, e2, e3, b0, b1, b2, b3⟩ | exact ⟨keep_dr e0, keep_dr e1, keep_dr e2, keep_dr e3, keep_dr b0, keep_dr b1, keep_dr b2, keep_dr b3⟩)
        (first | fail)
      all_goals
        show K _ _
        exact HQ.out _ _ _ _ _ _ _ _ _ _ _ _ (Below.refl _ _).drew
    | true =>
      cases h2 : (q.f == p.f) with
      | false =>
        have er : r = true := by rw [Hr.out, h0, h1, h2]; rfl
        subst er
        clear Hr
        go_region_held3 (fun (Y : World) => World.cell? Y (a.add (k * 4)) = some (.int .i64 q.k) ∧ World.cell? Y ⟨(a.add (k * 4)).block, (a.add (k * 4)).off + 1, none⟩ = some (.int .i64 q.t) ∧ World.cell? Y ⟨(a.add (k * 4)).block, (a.add (k * 4)).off + 2, none⟩ = some (.int .i64 q.f) ∧ World.cell? Y ⟨(a.add (k * 4)).block, (a.add (k * 4)).off + 3, none⟩ = some (.int .i64 q.a) ∧ World.cell? Y ⟨tb, 0, none⟩ = some (.int .i64 p.k) ∧ World.cell? Y ⟨tb, 1, none⟩ = some (.int .i64 p.t) ∧ World.cell? Y ⟨tb, 2, none⟩ = some (.int .i64 p.f) ∧ World.cell? Y ⟨tb, 3, none⟩ = some (.int .i64 p.a))
          (with_reducible first | exact ⟨e0, e1, e2, e3, b0, b1, b2, b3⟩ | exact ⟨keep_dr e0, keep_dr e1, keep_dr e2, keep_dr e3, keep_dr b0, keep_dr b1, keep_dr b2, keep_dr b3⟩)
          (first | fail)
        all_goals
          show K _ _
          exact HQ.out _ _ _ _ _ _ _ _ _ _ _ _ (Below.refl _ _).drew
      | true =>
        cases h3 : (q.a == p.a) with
        | false =>
          have er : r = true := by rw [Hr.out, h0, h1, h2, h3]; rfl
          subst er
          clear Hr
          go_region_held3 (fun (Y : World) => World.cell? Y (a.add (k * 4)) = some (.int .i64 q.k) ∧ World.cell? Y ⟨(a.add (k * 4)).block, (a.add (k * 4)).off + 1, none⟩ = some (.int .i64 q.t) ∧ World.cell? Y ⟨(a.add (k * 4)).block, (a.add (k * 4)).off + 2, none⟩ = some (.int .i64 q.f) ∧ World.cell? Y ⟨(a.add (k * 4)).block, (a.add (k * 4)).off + 3, none⟩ = some (.int .i64 q.a) ∧ World.cell? Y ⟨tb, 0, none⟩ = some (.int .i64 p.k) ∧ World.cell? Y ⟨tb, 1, none⟩ = some (.int .i64 p.t) ∧ World.cell? Y ⟨tb, 2, none⟩ = some (.int .i64 p.f) ∧ World.cell? Y ⟨tb, 3, none⟩ = some (.int .i64 p.a))
            (with_reducible first | exact ⟨e0, e1, e2, e3, b0, b1, b2, b3⟩ | exact ⟨keep_dr e0, keep_dr e1, keep_dr e2, keep_dr e3, keep_dr b0, keep_dr b1, keep_dr b2, keep_dr b3⟩)
            (first | fail)
          all_goals
            show K _ _
            exact HQ.out _ _ _ _ _ _ _ _ _ _ _ _ (Below.refl _ _).drew
        | true =>
          have er : r = false := by rw [Hr.out, h0, h1, h2, h3]; rfl
          subst er
          clear Hr
          go_region_held3 (fun (Y : World) => World.cell? Y (a.add (k * 4)) = some (.int .i64 q.k) ∧ World.cell? Y ⟨(a.add (k * 4)).block, (a.add (k * 4)).off + 1, none⟩ = some (.int .i64 q.t) ∧ World.cell? Y ⟨(a.add (k * 4)).block, (a.add (k * 4)).off + 2, none⟩ = some (.int .i64 q.f) ∧ World.cell? Y ⟨(a.add (k * 4)).block, (a.add (k * 4)).off + 3, none⟩ = some (.int .i64 q.a) ∧ World.cell? Y ⟨tb, 0, none⟩ = some (.int .i64 p.k) ∧ World.cell? Y ⟨tb, 1, none⟩ = some (.int .i64 p.t) ∧ World.cell? Y ⟨tb, 2, none⟩ = some (.int .i64 p.f) ∧ World.cell? Y ⟨tb, 3, none⟩ = some (.int .i64 p.a))
            (with_reducible first | exact ⟨e0, e1, e2, e3, b0, b1, b2, b3⟩ | exact ⟨keep_dr e0, keep_dr e1, keep_dr e2, keep_dr e3, keep_dr b0, keep_dr b1, keep_dr b2, keep_dr b3⟩)
            (first | fail)
          all_goals
            show K _ _
            exact HQ.out _ _ _ _ _ _ _ _ _ _ _ _ (Below.refl _ _).drew
set_option maxRecDepth 100000 in
set_option maxHeartbeats 4000000 in
theorem r18_end (A : Option Addr) (n c : Nat) (tb : Nat) (X : World) {K : Act → World → Prop} {Q : Exit → Act → World → Prop} (u0 u1 u2 u3 u4 u5 u6 u8 u10 u11 u13 u14 u15 u16 u17 u18 u19 u20 u21 u22 u23 u24 u25 u26 u27 u28 u29 u30 u31 u32 u33 u34 u35 u36 u37 u38 u39 u40 u41 u42 u43 u44 u45 u46 u47 u48 u49 u50 u51 u52 u53 u54 u55 u56 u57 u58 u59 u60 u61 u62 u63 u64 u65 u66 u67 u68 u69 u70 u71 u72 u73 u74 u75 u76 u77 u78 u79 u80 u81 u82 u83 u84 u85 u86 u87 u88 u89 u90 u91 u92 u93 u94 u95 u96 u97 u98 u99 u100 u101 u102 u103 u104 u105 : Value)
    (hQ : ∀ (v81 v82 v83 v84 v85 v86 v87 v88 v89 v90 v91 : Value) (W' : World), Below X.heap.size X W' → K ⟨#[u0, u1, u2, u3, u4, u5, u6, .slice A n c, u8, .pointer (some ⟨tb, 0, none⟩), u10, u11, .int .i64 (n : Nat), u13, u14, u15, u16, u17, u18, u19, u20, u21, u22, u23, u24, u25, u26, u27, u28, u29, u30, u31, u32, u33, u34, u35, u36, u37, u38, u39, u40, u41, u42, u43, u44, u45, u46, u47, u48, u49, u50, u51, u52, u53, u54, u55, u56, u57, u58, u59, u60, u61, u62, u63, u64, u65, u66, u67, u68, u69, u70, u71, u72, u73, u74, u75, u76, u77, u78, u79, u80, v81, v82, v83, v84, v85, v86, v87, v88, v89, v90, v91, .bool true, u93, u94, u95, u96, u97, u98, u99, u100, u101, u102, u103, u104, u105], []⟩ W') :
    Code.wp Tryz.prog (codeAt Tryz.f18 [1, 1, 0, 1, 0, 0, 1, 0, 0, 1, 1, 1, 1, 1, 1, 1, 1, 0]) (Exit.then K Q) ⟨#[u0, u1, u2, u3, u4, u5, u6, .slice A n c, u8, .pointer (some ⟨tb, 0, none⟩), u10, u11, .int .i64 (n : Nat), u13, u14, u15, u16, u17, u18, u19, u20, u21, u22, u23, u24, u25, u26, u27, u28, u29, u30, u31, u32, u33, u34, u35, u36, u37, u38, u39, u40, u41, u42, u43, u44, u45, u46, u47, u48, u49, u50, u51, u52, u53, u54, u55, u56, u57, u58, u59, u60, u61, u62, u63, u64, u65, u66, u67, u68, u69, u70, u71, u72, u73, u74, u75, u76, u77, u78, u79, u80, u81, u82, u83, u84, u85, u86, u87, u88, u89, u90, u91, u92, u93, u94, u95, u96, u97, u98, u99, u100, u101, u102, u103, u104, u105], []⟩ X := by
  show Code.wp Tryz.prog (Code.region _ _ _) _ _ _
  dsimp only
  have HQ := Lib.hid hQ
  clear hQ
  have hnn : ((n : Int) == (n : Int)) = true := by simp
  go_region
  all_goals
    show K _ _
    exact HQ.out _ _ _ _ _ _ _ _ _ _ _ _ (Below.refl _ _).drew
end Go.Proofs.YtbkipanlicgooaaGreatDoor
namespace Go.Proofs.YtbkipanlicgooaaGreatDoor
open Go.RowKit

theorem ite_yes {c : Prop} [Decidable c] {A B : Prop} (hc : c) (h : A) : ite c A B := by rw [if_pos hc]; exact h
section
variable {P : Program}
/-- append of a row, as one operation. -/
theorem oper_join {α : Type} {w W : World} {L : List (Nat × Array Value × TypeId)} (B : St w W L) {o : Oper} {a : Act} {K : Act → World → Prop} {Q : Exit → Act → World → Prop} (s x : Operand) {t e : TypeId}
    (hop : o.op = .call { callee := .builtin .append, args := #[s, x], argTypes := #[t, t] }) {i : TypeInfo} {z : Value} {size bytes : Nat} (ht : P.underlying t = some (.slice e)) (hi : P.info? e = some i) (hz : i.zero = some z)
    (hsize : i.size = size) (hby : i.bytes = bytes) (hzs : z.cells.size = size) (hsz : 0 < size) {v : Value} {n : Nat} {xs : List Value} (hs : a.eval s = v) (hown : W.ownsRow w.heap.size e size v n xs) (hno : NoOwn v L)
    {A : Option Addr} {c : Nat} {g : α → Nat → Int} {l : List α} (hx : a.eval x = .slice A l.length c) (hr : RowsAt W A size g l) (hA : A = none → l = []) (h63 : n + l.length ≤ maxLen) (hbytes : (n + l.length) * bytes ≤ 140737488355328)
    (h : ∀ v' W', W'.ownsRow w.heap.size e size v' (n + l.length) (xs ++ rowL g size l) → NoOwn v' L → St w W' L → K (a.put o.dst v') W') : Oper.wp P o a W K Q := by
  obtain ⟨v', W', hrun, h2, h3, h4⟩ := run_join (P := P) (ty := o.type) B ht hi hz hsize hby hzs hsz hown hno (c := c) hr hA h63 hbytes
  unfold Oper.wp execOp
  simp only [hop, resolve, invoke, builtin, Sem.run_bind, Sem.run_pure, Result.andThen_ok, List.map_toArray, List.map_cons, List.map_nil, hs, hx, hrun]
  exact h _ _ h2 h3 h4
/-- append of one element that lies in a block, as one operation. -/
theorem oper_push {w W : World} {L : List (Nat × Array Value × TypeId)} (B : St w W L) {o : Oper} {a : Act} {K : Act → World → Prop} {Q : Exit → Act → World → Prop} (s x : Operand) {t e : TypeId}
    (hop : o.op = .call { callee := .builtin .append, args := #[s, x], argTypes := #[t, t] }) {i : TypeInfo} {z : Value} {size bytes : Nat} (ht : P.underlying t = some (.slice e)) (hi : P.info? e = some i) (hz : i.zero = some z)
    (hsize : i.size = size) (hby : i.bytes = bytes) (hzs : z.cells.size = size) (hsz : 0 < size) {v : Value} {n : Nat} {xs : List Value} (hs : a.eval s = v) (hown : W.ownsRow w.heap.size e size v n xs) (hno : NoOwn v L)
    {b c : Nat} {news : List Value} (hx : a.eval x = .slice (some ⟨b, 0, none⟩) 1 c) (hl : news.length = size) (hb : ∀ j u, news[j]? = some u → W.cell? ⟨b, j, none⟩ = some u) (h1 : ∀ u ∈ news, u.oneCell' = true) (h63 : n + 1 ≤ maxLen) (hbytes : (n + 1) * bytes ≤ 140737488355328)
    (h : ∀ v' W', W'.ownsRow w.heap.size e size v' (n + 1) (xs ++ news) → NoOwn v' L → St w W' L → K (a.put o.dst v') W') : Oper.wp P o a W K Q := by
  obtain ⟨v', W', hr, h2, h3, _, h5⟩ := run_append_own_at (P := P) W w.heap.size t o.type e i z size bytes ht hi hz hsize hby hzs hsz v n xs hown ⟨b, 0, none⟩ 1 c news (by rw [hl, Nat.one_mul])
    (fun j u hu => by
      have e : (⟨b, 0, none⟩ : Addr).add j = ⟨b, j, none⟩ := by unfold Addr.add; split <;> simp_all
      rw [e]
      exact hb j u hu) h1 h63 hbytes B.below.size
  unfold Oper.wp execOp
  simp only [hop, resolve, invoke, builtin, Sem.run_bind, Sem.run_pure, Result.andThen_ok, List.map_toArray, List.map_cons, List.map_nil, hs, hx, hr]
  exact h _ _ h2 (hno.step h5 B.blks) ⟨B.below.grown h3 B.below.size fun g hv => (hown.lt g hv).1, B.blks.kept h3 hno⟩
theorem oper_at {w W : World} {L : List (Nat × Array Value × TypeId)} (_B : St w W L) (dst : Nat) {op : Op} {t : TypeId} {pos : String} {af : Array Edge} {g : Option (Nat × Bool)} {a : Act} {K : Act → World → Prop} {Q : Exit → Act → World → Prop} (h : Oper.wp P ⟨some dst, op, t, pos, af, g⟩ a W K Q) : Oper.wp P ⟨some dst, op, t, pos, af, g⟩ a W K Q := h
end
theorem noown_at {W : World} {n m c : Nat} (hn : W.heap.size ≤ n) : ∀ {L : List (Nat × Array Value × TypeId)}, Blks W L → NoOwn (.slice (some ⟨n, 0, none⟩) m c) L
  | [], _ => trivial
  | p :: L, h => ⟨by
      have := lt_of_block h.1
      intro e
      have e := Option.some.inj e
      simp only at e
      omega, noown_at hn h.2⟩
theorem cells_blk {w W : World} {L : List (Nat × Array Value × TypeId)} {b : Nat} {l : List Value} {t : TypeId} (B : St w W ((b, ⟨l⟩, t) :: L)) : ∀ j u, l[j]? = some u → W.cell? ⟨b, j, none⟩ = some u := fun j u hu => cell_blk B.blks.1 j u (by simpa using hu)
theorem St.tail {w W : World} {p : Nat × Array Value × TypeId} {L : List (Nat × Array Value × TypeId)} (B : St w W (p :: L)) : St w W L := ⟨B.below, B.blks.2⟩
theorem NoOwn.tail {v : Value} {p : Nat × Array Value × TypeId} {L : List (Nat × Array Value × TypeId)} (h : NoOwn v (p :: L)) : NoOwn v L := h.2

theorem rows_take {α : Type} {W : World} {A : Option Addr} {sz : Nat} {g : α → Nat → Int} {l : List α} (k : Nat) (h : RowsAt W A sz g l) : RowsAt W A sz g (l.take k) := by
  intro i x hx
  rw [List.getElem?_take] at hx
  split at hx
  · exact h i x hx
  · cases hx
theorem add_more (a : Addr) (m n : Nat) : (a.add m).add n = a.add (m + n) := by
  unfold Addr.add
  by_cases h1 : m = 0
  · subst h1
    simp
  · by_cases h2 : n = 0
    · subst h2
      simp
    · rw [if_neg h1, if_neg h2, if_neg (by omega)]
      simp [Nat.add_assoc]
theorem rows_drop {α : Type} {W : World} {ad : Addr} {sz : Nat} {g : α → Nat → Int} {l : List α} (k : Nat) (h : RowsAt W (some ad) sz g l) : RowsAt W (some (ad.add (k * sz))) sz g (l.drop k) := by
  intro i x hx
  rw [List.getElem?_drop] at hx
  obtain ⟨ad', he, h0, h1, h2⟩ := h (k + i) x hx
  cases he
  refine ⟨_, rfl, ?_, ?_, fun j hj hs => ?_⟩
  · rw [add_more, ← Nat.add_mul]; exact h0
  · rw [add_more, ← Nat.add_mul]; exact h1
  · rw [add_more, ← Nat.add_mul]; exact h2 j hj hs
theorem cells_new2 (W : World) (cs : List Value) (t : TypeId) (n : Nat) (hn : W.heap.size = n) : ∀ j u, cs[j]? = some u → (W.alloc (.cells cs.toArray t)).cell? ⟨n, j, none⟩ = some u := by
  subst hn
  exact cells_new W cs t
end Go.Proofs.YtbkipanlicgooaaGreatDoor
