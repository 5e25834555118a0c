/-
  repair.Suffix: its second and third loops. No conditions but those in each statement.
-/
import Derived.Test.YtbkipanlicgooaaGreatDoorLd
namespace Go.Proofs.YtbkipanlicgooaaGreatDoor
open Go.RowKit

/-- What becomes of an override. -/
def ovF (u m : Int) (s : Ovr) : Option Ovr := if mx (mx s.f s.n) m ≤ mn s.u u then some ⟨s.k, s.t, s.p, s.i, mx (mx s.f s.n) m, mn s.u u, 0⟩ else none
def ovS (u m : Int) (l : List Ovr) : List Ovr := l.filterMap (ovF u m)
/-- When a defect is known, seen from a moment on. -/
def knw (u at_ m n : Int) : Int := if n ≤ mn m at_ then 0 else if mx u at_ < n then 38399 else n
/-- What becomes of a defect. -/
def dfF (u at_ m : Int) (s : Dfc) : Option Dfc := if mx s.f m ≤ mn s.u u then some ⟨s.t, s.c, mx s.f m, mn s.u u, knw u at_ m s.n⟩ else none
def dfS (u at_ m : Int) (l : List Dfc) : List Dfc := l.filterMap (dfF u at_ m)
def S2 {α : Type} (w : World) (L : Value → List (Nat × Array Value × TypeId)) (e sz : Nat) (g : α → Nat → Int) (q : α → Option α) (l : List α) (vi : Value) (wr : World) : Prop :=
  ∃ (k : Nat) (v : Value), k ≤ l.length ∧ vi = .int .i64 k ∧ wr.ownsRow w.heap.size e sz v ((l.take k).filterMap q).length (rowL g sz ((l.take k).filterMap q)) ∧ NoOwn v (L v) ∧ St w wr (L v)
theorem info49 : (Tryz.prog.info? 49).map (fun i => (i.zero, i.size, i.bytes)) = some (some (.agg #[.int .i64 0, .int .i64 0, .int .i64 0, .int .i64 0, .int .i64 0, .int .i64 0, .int .i64 0]), 7, 56) := by kernel_rfl
theorem info42 : (Tryz.prog.info? 42).map (fun i => (i.zero, i.size, i.bytes)) = some (some (.agg #[.int .i64 0, .int .i64 0, .int .i64 0, .int .i64 0, .int .i64 0]), 5, 40) := by kernel_rfl

set_option maxRecDepth 100000 in
set_option maxHeartbeats 4000000 in
theorem suf_loop1_reg (xk xt xp xi xf xu xn xm u f1 v1 : Int) (f0 : Int) (hM0 : (if xf < xn then xn else xf) = f0) (hM : (if f0 < xm then xm else f0) = f1) (hN : (if u < xu then u else xu) = v1) (a t : Nat) (cs : Array Value) (hcs : cs[1]? = some (.int .i64 u)) (_hat : a ≠ t) {Q : Exit → Act → World → Prop} (u0 u1 u4 u5 u6 u7 u8 u9 u10 u11 u13 u14 u15 u16 u17 u18 u19 u20 u21 u22 u23 u24 u25 u26 u27 u28 u29 u30 u31 u32 u33 u34 u35 u36 u37 u38 u39 u40 u41 u42 u43 u44 u45 u46 u47 u48 u49 u50 u51 u52 u53 u54 u55 u56 u57 u58 u59 u60 u61 u62 u63 u64 u65 u66 u67 u68 u69 u70 u71 u72 u73 u74 u75 u76 u77 u78 u79 u80 u81 u82 u83 u84 u85 u86 u87 u88 u89 u90 u91 u92 u93 u94 u95 u96 u97 u98 u99 u100 u101 u102 u103 u104 u105 u106 u107 u108 u109 u110 u111 u112 u113 u114 u115 u116 u117 u118 u119 u120 u121 u122 u123 u124 u125 u126 u127 u128 u129 u130 u131 u132 u133 u134 u135 u136 u137 u138 u139 u140 u141 u142 u143 u144 u145 u146 u147 u148 u149 u150 u151 u152 u153 u154 u155 u156 u157 u158 u159 u160 u161 u162 u163 u164 u165 u166 u167 u168 u169 u170 u171 u172 u173 u174 u175 u176 u177 u178 u179 : Value) (X : World) (R : ((∀ i, X.cell? ⟨t, i, none⟩ = #[Value.int .i64 xk, .int .i64 xt, .int .i64 xp, .int .i64 xi, .int .i64 xf, .int .i64 xu, .int .i64 xn][i]?) ∧ (∀ i, X.frozen? ⟨t, i, none⟩ = false) ∧ t < X.heap.size) ∧ (∀ i, X.cell? ⟨a, i, none⟩ = cs[i]?) ∧ (∀ i, X.frozen? ⟨a, i, none⟩ = false) ∧ a < X.heap.size)
    (hQ : ∀ (v104 v105 v106 v107 v108 v109 v110 v111 v112 v113 v114 v115 v116 v117 : Value), Q .normal ⟨#[u0, u1, .int .i64 xm, .pointer (some ⟨a, 0, none⟩), u4, u5, u6, u7, u8, u9, u10, u11, .pointer (some ⟨t, 0, none⟩), u13, u14, u15, u16, u17, u18, u19, u20, u21, u22, u23, u24, u25, u26, u27, u28, u29, u30, u31, u32, u33, u34, u35, u36, u37, u38, u39, u40, u41, u42, u43, u44, u45, u46, u47, u48, u49, u50, u51, u52, u53, u54, u55, u56, u57, u58, u59, u60, u61, u62, u63, u64, u65, u66, u67, u68, u69, u70, u71, u72, u73, u74, u75, u76, u77, u78, u79, u80, u81, u82, u83, u84, u85, u86, u87, u88, u89, u90, u91, u92, u93, u94, u95, u96, u97, u98, u99, u100, u101, u102, u103, v104, v105, v106, v107, v108, v109, v110, v111, v112, v113, v114, v115, v116, v117, u118, u119, u120, u121, u122, u123, u124, u125, u126, u127, u128, u129, u130, u131, u132, u133, u134, u135, u136, u137, u138, u139, u140, u141, u142, u143, u144, u145, u146, u147, u148, u149, u150, u151, u152, u153, u154, u155, u156, u157, u158, u159, u160, u161, u162, u163, u164, u165, u166, u167, u168, u169, u170, u171, u172, u173, u174, u175, u176, u177, u178, u179], []⟩ ((((X.setCell ⟨t, 4, none⟩ (.int .i64 f1)).setCell ⟨t, 5, none⟩ (.int .i64 v1)).setCell ⟨t, 6, none⟩ (.int .i64 0)).drew)) :
    Code.wp Tryz.prog (codeAt Tryz.f8 [1, 1, 1, 1, 0, 1, 0, 0, 1, 1, 0, 0, 1, 0]) Q ⟨#[u0, u1, .int .i64 xm, .pointer (some ⟨a, 0, none⟩), u4, u5, u6, u7, u8, u9, u10, u11, .pointer (some ⟨t, 0, none⟩), u13, u14, u15, u16, u17, u18, u19, u20, u21, u22, u23, u24, u25, u26, u27, u28, u29, u30, u31, u32, u33, u34, u35, u36, u37, u38, u39, u40, u41, u42, u43, u44, u45, u46, u47, u48, u49, u50, u51, u52, u53, u54, u55, u56, u57, u58, u59, u60, u61, u62, u63, u64, u65, u66, u67, u68, u69, u70, u71, u72, u73, u74, u75, u76, u77, u78, u79, u80, u81, u82, u83, u84, u85, u86, u87, u88, u89, u90, u91, u92, u93, u94, u95, u96, u97, u98, u99, u100, u101, u102, u103, u104, u105, u106, u107, u108, u109, u110, u111, u112, u113, u114, u115, u116, u117, u118, u119, u120, u121, u122, u123, u124, u125, u126, u127, u128, u129, u130, u131, u132, u133, u134, u135, u136, u137, u138, u139, u140, u141, u142, u143, u144, u145, u146, u147, u148, u149, u150, u151, u152, u153, u154, u155, u156, u157, u158, u159, u160, u161, u162, u163, u164, u165, u166, u167, u168, u169, u170, u171, u172, u173, u174, u175, u176, u177, u178, u179], []⟩ X := by
  show Code.wp Tryz.prog (Code.region _ _ _) _ _ _
  dsimp only
  have HQ := Lib.hid hQ
  clear hQ
  go_region
  exact HQ.out _ _ _ _ _ _ _ _ _ _ _ _ _ _

set_option maxRecDepth 100000 in
set_option maxHeartbeats 4000000 in
theorem suf_loop1 (d : Scr) (A1 A2 A3 A4 A5 : Option Addr) (c1 c2 c3 c4 c5 : Nat) (m F : Int) (hn : d.ov.length ≤ 100) (w : World) (rc zc : Array Value) (b : Nat) (hb : w.heap.size + 2 < b) (E : List (Nat × Array Value × TypeId)) (hE : NotIn b E) (sv py fo : Value) (h : RowsAt w A2 7 Ovr.g d.ov) {K : Act → World → Prop} {Q : Exit → Act → World → Prop} (u0 u1 u4 u5 u6 u7 u9 u10 u11 u12 u13 u14 u15 u16 u17 u18 u19 u20 u21 u22 u23 u24 u25 u26 u27 u28 u29 u30 u31 u32 u33 u34 u35 u36 u37 u38 u39 u40 u41 u42 u43 u44 u45 u46 u47 u48 u49 u50 u51 u52 u53 u54 u55 u56 u57 u58 u59 u60 u61 u62 u63 u64 u65 u66 u67 u68 u69 u70 u71 u72 u73 u74 u75 u76 u77 u78 u79 u80 u81 u82 u83 u84 u85 u86 u87 u88 u89 u90 u91 u92 u93 u94 u95 u96 u97 u101 u102 u103 u104 u105 u106 u107 u108 u109 u110 u111 u112 u113 u114 u115 u116 u117 u118 u119 u120 u121 u122 u123 u124 u125 u126 u127 u128 u129 u130 u131 u132 u133 u134 u135 u136 u137 u138 u139 u140 u141 u142 u143 u144 u145 u146 u147 u148 u149 u150 u151 u152 u153 u154 u155 u156 u157 u158 u159 u160 u161 u162 u163 u164 u165 u166 u167 u168 u169 u170 u171 u172 u173 u174 u175 u176 u177 u178 u179 : Value) (wr : World) (B : St w wr ((b, #[.int .i64 F, .int .i64 d.u, sv, (.slice none 0 0), .slice none 0 0, py, fo], 28) :: (w.heap.size, #[.int .i64 d.f, .int .i64 d.u, .slice A1 d.sp.length c1, .slice A2 d.ov.length c2, .slice A3 d.df.length c3, .slice A4 d.py.length c4, .slice A5 d.fo.length c5], 28) :: (w.heap.size + 1, rc, 33) :: (w.heap.size + 1 + 1, zc, 28) :: E))
    (hK : ∀ (v12 v101 v102 v103 v104 v105 v106 v107 v108 v109 v110 v111 v112 v113 v114 v115 v116 v117 v118 v119 v120 v121 v122 v123 v124 v125 v126 v127 v128 v129 : Value) (v : Value) (w' : World), w'.ownsRow w.heap.size 49 7 v (ovS d.u m d.ov).length (rowL Ovr.g 7 (ovS d.u m d.ov)) → NoOwn v ((b, #[.int .i64 F, .int .i64 d.u, sv, v, .slice none 0 0, py, fo], 28) :: (w.heap.size, #[.int .i64 d.f, .int .i64 d.u, .slice A1 d.sp.length c1, .slice A2 d.ov.length c2, .slice A3 d.df.length c3, .slice A4 d.py.length c4, .slice A5 d.fo.length c5], 28) :: (w.heap.size + 1, rc, 33) :: (w.heap.size + 1 + 1, zc, 28) :: E) → St w w' ((b, #[.int .i64 F, .int .i64 d.u, sv, v, .slice none 0 0, py, fo], 28) :: (w.heap.size, #[.int .i64 d.f, .int .i64 d.u, .slice A1 d.sp.length c1, .slice A2 d.ov.length c2, .slice A3 d.df.length c3, .slice A4 d.py.length c4, .slice A5 d.fo.length c5], 28) :: (w.heap.size + 1, rc, 33) :: (w.heap.size + 1 + 1, zc, 28) :: E) → K ⟨#[u0, u1, .int .i64 m, .pointer (some ⟨w.heap.size, 0, none⟩), u4, u5, u6, u7, .pointer (some ⟨b, 0, none⟩), u9, u10, u11, v12, u13, u14, u15, u16, u17, u18, u19, u20, u21, u22, u23, u24, u25, u26, u27, u28, u29, u30, u31, u32, u33, u34, u35, u36, u37, u38, u39, u40, u41, u42, u43, u44, u45, u46, u47, u48, u49, u50, u51, u52, u53, u54, u55, u56, u57, u58, u59, u60, u61, u62, u63, u64, u65, u66, u67, u68, u69, u70, u71, u72, u73, u74, u75, u76, u77, u78, u79, u80, u81, u82, u83, u84, u85, u86, u87, u88, u89, u90, u91, u92, u93, u94, u95, u96, u97, .slice A2 d.ov.length c2, .int .i64 d.ov.length, .int .i64 d.ov.length, v101, v102, v103, v104, v105, v106, v107, v108, v109, v110, v111, v112, v113, v114, v115, v116, v117, v118, v119, v120, v121, v122, v123, v124, v125, v126, v127, v128, v129, u130, u131, u132, u133, u134, u135, u136, u137, u138, u139, u140, u141, u142, u143, u144, u145, u146, u147, u148, u149, u150, u151, u152, u153, u154, u155, u156, u157, u158, u159, u160, u161, u162, u163, u164, u165, u166, u167, u168, u169, u170, u171, u172, u173, u174, u175, u176, u177, u178, u179], []⟩ w') :
    Code.wp Tryz.prog (codeAt Tryz.f8 [1, 1, 1, 1, 0, 1, 0]) (Exit.inBlock 2 (Exit.then K Q)) ⟨#[u0, u1, .int .i64 m, .pointer (some ⟨w.heap.size, 0, none⟩), u4, u5, u6, u7, .pointer (some ⟨b, 0, none⟩), u9, u10, u11, u12, u13, u14, u15, u16, u17, u18, u19, u20, u21, u22, u23, u24, u25, u26, u27, u28, u29, u30, u31, u32, u33, u34, u35, u36, u37, u38, u39, u40, u41, u42, u43, u44, u45, u46, u47, u48, u49, u50, u51, u52, u53, u54, u55, u56, u57, u58, u59, u60, u61, u62, u63, u64, u65, u66, u67, u68, u69, u70, u71, u72, u73, u74, u75, u76, u77, u78, u79, u80, u81, u82, u83, u84, u85, u86, u87, u88, u89, u90, u91, u92, u93, u94, u95, u96, u97, .slice A2 d.ov.length c2, .int .i64 d.ov.length, .int .i64 0, u101, u102, u103, u104, u105, u106, u107, u108, u109, u110, u111, u112, u113, u114, u115, u116, u117, u118, u119, u120, u121, u122, u123, u124, u125, u126, u127, u128, u129, u130, u131, u132, u133, u134, u135, u136, u137, u138, u139, u140, u141, u142, u143, u144, u145, u146, u147, u148, u149, u150, u151, u152, u153, u154, u155, u156, u157, u158, u159, u160, u161, u162, u163, u164, u165, u166, u167, u168, u169, u170, u171, u172, u173, u174, u175, u176, u177, u178, u179], []⟩ wr := by
  show Code.wp Tryz.prog (Code.loop _) _ _ _
  dsimp only
  have H := Lib.hid h
  have HK := Lib.hid hK
  clear h hK
  obtain ⟨i0, hi0, hz0, hz1, hz2⟩ := info_parts info49
  go_loopw [100] (S2 w (fun v => ((b, #[.int .i64 F, .int .i64 d.u, sv, v, .slice none 0 0, py, fo], 28) :: (w.heap.size, #[.int .i64 d.f, .int .i64 d.u, .slice A1 d.sp.length c1, .slice A2 d.ov.length c2, .slice A3 d.df.length c3, .slice A4 d.py.length c4, .slice A5 d.fo.length c5], 28) :: (w.heap.size + 1, rc, 33) :: (w.heap.size + 1 + 1, zc, 28) :: E)) 49 7 Ovr.g (ovF d.u m) d.ov) (fun v _ => d.ov.length - (intOf v).toNat)
  case atStart => exact ⟨0, .slice none 0 0, by omega, rfl, ⟨by simp [rowL], .inl ⟨rfl, by simp⟩⟩, NoOwn.nil, B⟩
  case round =>
    clear B
    obtain ⟨k, v, hk, rfl, hown, hno, B⟩ := hrel
    have Hown := Lib.hid hown
    have Hno := Lib.hid hno
    clear hown hno
    have R := B.rules
    simp only [Rules] at R
    by_cases hlt : k < d.ov.length
    · have hlt' : (k : Int) < d.ov.length := by omega
      have hx : d.ov[k]? = some d.ov[k] := List.getElem?_eq_getElem hlt
      have HS := Lib.hid (fm_succ (q := ovF d.u m) hx)
      have hfl := fm_len (ovF d.u m) d.ov k
      obtain ⟨ad, ha, hl, e0, e⟩ := (H.out.later B.below) k _ hx
      have e1 := e 1 (by omega) (by omega)
      have e2 := e 2 (by omega) (by omega)
      have e3 := e 3 (by omega) (by omega)
      have e4 := e 4 (by omega) (by omega)
      have e5 := e 5 (by omega) (by omega)
      have e6 := e 6 (by omega) (by omega)
      clear e hx
      generalize d.ov[k] = x at HS e0 e1 e2 e3 e4 e5 e6
      obtain ⟨xk, xt, xp, xi, xf, xu, xn⟩ := x
      simp only [Ovr.g] at e0 e1 e2 e3 e4 e5 e6
      generalize hf : (d.ov.take k).filterMap (ovF d.u m) = fl at Hown HS hfl
      clear hf
      subst ha
      have hnw := notin_new B.blks
      have hsz := B.below.size
      have hon := own_new Hown.out
      go_wp2_with fail
      generalize hX : World.alloc _ _ = X
      have Hown1 := Lib.hid (show X.ownsRow w.heap.size 49 7 v fl.length (rowL Ovr.g 7 fl) from hX ▸ own_alloc Hown.out _)
      replace B := St.cast hX (B.alloc _ _)
      clear hX Hown e0 e1 e2 e3 e4 e5 e6
      have R := B.rules
      simp only [Rules] at R
      have hsp : ovF d.u m ⟨xk, xt, xp, xi, xf, xu, xn⟩ = if mx (mx xf xn) m ≤ mn xu d.u then some ⟨xk, xt, xp, xi, mx (mx xf xn) m, mn xu d.u, 0⟩ else none := rfl
      have hM0 : (if xf < xn then xn else xf) = mx xf xn := rfl
      generalize mx xf xn = f0 at hsp hM0
      have hM : (if f0 < m then m else f0) = mx f0 m := rfl
      have hN : (if d.u < xu then d.u else xu) = mn xu d.u := rfl
      generalize mx f0 m = f1 at hsp hM
      generalize mn xu d.u = v1 at hsp hN
      have Hsp := Lib.hid hsp
      clear hsp
      refine suf_loop1_reg xk xt xp xi xf xu xn m d.u f1 v1 f0 hM0 hM hN w.heap.size wr.heap.size #[.int .i64 d.f, .int .i64 d.u, .slice A1 d.sp.length c1, .slice (some ad) d.ov.length c2, .slice A3 d.df.length c3, .slice A4 d.py.length c4, .slice A5 d.fo.length c5] rfl (by omega) _ _ _ _ _ _ _ _ _ _ _ _ _ _ _ _ _ _ _ _ _ _ _ _ _ _ _ _ _ _ _ _ _ _ _ _ _ _ _ _ _ _ _ _ _ _ _ _ _ _ _ _ _ _ _ _ _ _ _ _ _ _ _ _ _ _ _ _ _ _ _ _ _ _ _ _ _ _ _ _ _ _ _ _ _ _ _ _ _ _ _ _ _ _ _ _ _ _ _ _ _ _ _ _ _ _ _ _ _ _ _ _ _ _ _ _ _ _ _ _ _ _ _ _ _ _ _ _ _ _ _ _ _ _ _ _ _ _ _ _ _ _ _ _ _ _ _ _ _ _ _ _ _ _ _ _ _ _ _ _ _ _ _ _ _ _ _ _ _ _ _ _ _ _ _ _ _ _ ⟨R.1, R.2.2.1⟩ ?_
      intro y0 y1 y2 y3 y4 y5 y6 y7 y8 y9 y10 y11 y12 y13
      dsimp only
      have B1 : St w _ ((wr.heap.size, #[.int .i64 xk, .int .i64 xt, .int .i64 xp, .int .i64 xi, .int .i64 f1, .int .i64 v1, .int .i64 0], 49) :: ((b, #[.int .i64 F, .int .i64 d.u, sv, v, .slice none 0 0, py, fo], 28) :: (w.heap.size, #[.int .i64 d.f, .int .i64 d.u, .slice A1 d.sp.length c1, .slice (some ad) d.ov.length c2, .slice A3 d.df.length c3, .slice A4 d.py.length c4, .slice A5 d.fo.length c5], 28) :: (w.heap.size + 1, rc, 33) :: (w.heap.size + 1 + 1, zc, 28) :: E)) := (((B.put hsz hnw 4 (.int .i64 f1)).put hsz hnw 5 (.int .i64 v1)).put hsz hnw 6 (.int .i64 0)).drew
      have Hown2 := Lib.hid (own_drew (own_put (own_put (own_put Hown1.out hon 4 (.int .i64 f1)) hon 5 (.int .i64 v1)) hon 6 (.int .i64 0)))
      generalize hX : World.drew _ = X2 at B1 Hown2 ⊢
      clear hX R B Hown1 hM hN hnw hsz hon
      have R := B1.rules
      simp only [Rules] at R
      have B0 : St w X2 ((b, #[.int .i64 F, .int .i64 d.u, sv, v, .slice none 0 0, py, fo], 28) :: (w.heap.size, #[.int .i64 d.f, .int .i64 d.u, .slice A1 d.sp.length c1, .slice (some ad) d.ov.length c2, .slice A3 d.df.length c3, .slice A4 d.py.length c4, .slice A5 d.fo.length c5], 28) :: (w.heap.size + 1, rc, 33) :: (w.heap.size + 1 + 1, zc, 28) :: E) := ⟨B1.below, B1.blks.2⟩
      by_cases q3 : f1 ≤ v1
      · have hsp := Hsp.out
        rw [if_pos q3] at hsp
        replace hsp := Lib.hid hsp
        clear Hsp
        go_wp2_with (at_builtin; refine wpList_push (B0.skip _) rfl _ _ rfl Tryz.underlying23 hi0 hz0 hz1 hz2 rfl (by decide) rfl (own_alloc Hown2.out _) Hno.out rfl (news := [.int .i64 xk, .int .i64 xt, .int .i64 xp, .int .i64 xi, .int .i64 f1, .int .i64 v1, .int .i64 0]) rfl (cells_new _ [.int .i64 xk, .int .i64 xt, .int .i64 xp, .int .i64 xi, .int .i64 f1, .int .i64 v1, .int .i64 0] _) (one_cells rfl) (by simp only [maxLen]; omega) (by omega) ?_)
        intro v' w2 hown hno B2
        obtain ⟨A', c', rfl⟩ := own_slice hown
        clear R B1 B0
        have R := B2.rules
        simp only [Rules] at R
        go_wp2
        have hnb : NotIn b ((w.heap.size, #[.int .i64 d.f, .int .i64 d.u, .slice A1 d.sp.length c1, .slice (some ad) d.ov.length c2, .slice A3 d.df.length c3, .slice A4 d.py.length c4, .slice A5 d.fo.length c5], 28) :: (w.heap.size + 1, rc, 33) :: (w.heap.size + 1 + 1, zc, 28) :: E) := ⟨by show w.heap.size ≠ b; omega, by show w.heap.size + 1 ≠ b; omega, by show w.heap.size + 1 + 1 ≠ b; omega, hE⟩
        exact ⟨⟨k + 1, .slice A' _ c', by omega, by go_num, by rw [HS.out, hsp.out]; exact own_put (by simpa [rowL, rowC, List.range, List.range.loop, Ovr.g] using hown) hno.1 _ _, hno.cast rfl, B2.put (by omega) hnb 3 _⟩, by simp [intOf]; omega⟩
      · have hsp := Hsp.out
        rw [if_neg q3] at hsp
        replace hsp := Lib.hid hsp
        clear Hsp
        go_wp2
        exact ⟨⟨k + 1, v, by omega, by go_num, by rw [HS.out, hsp.out]; simpa using Hown2.out, Hno.out, B0⟩, by simp [intOf]; omega⟩
    · obtain rfl : k = d.ov.length := by omega
      rw [List.take_length] at Hown
      go_wp2_with fail
      exact HK.out _ _ _ _ _ _ _ _ _ _ _ _ _ _ _ _ _ _ _ _ _ _ _ _ _ _ _ _ _ _ _ _ Hown.out Hno.out B

end Go.Proofs.YtbkipanlicgooaaGreatDoor
