/-
  repair.Suffix: its third loop. No conditions but those in each statement.
-/
import Derived.Test.YtbkipanlicgooaaGreatDoorLe
namespace Go.Proofs.YtbkipanlicgooaaGreatDoor
open Go.RowKit

set_option maxRecDepth 100000 in
set_option maxHeartbeats 4000000 in
theorem suf_loop2_reg (xt xc xf xu xn xm u f1 v1 : Int) (hM : (if xf < xm then xm else xf) = f1) (hN : (if u < xu then u else xu) = v1) (a t : Nat) (cs : Array Value) (hcs : cs[1]? = some (.int .i64 u)) (_hat : a ≠ t) {Q : Exit → Act → World → Prop} (u0 u1 u4 u5 u6 u7 u8 u9 u10 u11 u12 u13 u15 u16 u17 u18 u19 u20 u21 u22 u23 u24 u25 u26 u27 u28 u29 u30 u31 u32 u33 u34 u35 u36 u37 u38 u39 u40 u41 u42 u43 u44 u45 u46 u47 u48 u49 u50 u51 u52 u53 u54 u55 u56 u57 u58 u59 u60 u61 u62 u63 u64 u65 u66 u67 u68 u69 u70 u71 u72 u73 u74 u75 u76 u77 u78 u79 u80 u81 u82 u83 u84 u85 u86 u87 u88 u89 u90 u91 u92 u93 u94 u95 u96 u97 u98 u99 u100 u101 u102 u103 u104 u105 u106 u107 u108 u109 u110 u111 u112 u113 u114 u115 u116 u117 u118 u119 u120 u121 u122 u123 u124 u125 u126 u127 u128 u129 u130 u131 u132 u133 u134 u135 u136 u137 u138 u139 u140 u141 u142 u143 u144 u145 u146 u147 u148 u149 u150 u151 u152 u153 u154 u155 u156 u157 u158 u159 u160 u161 u162 u163 u164 u165 u166 u167 u168 u169 u170 u171 u172 u173 u174 u175 u176 u177 u178 u179 : Value) (X : World) (R : ((∀ i, X.cell? ⟨t, i, none⟩ = #[Value.int .i64 xt, .int .i64 xc, .int .i64 xf, .int .i64 xu, .int .i64 xn][i]?) ∧ (∀ i, X.frozen? ⟨t, i, none⟩ = false) ∧ t < X.heap.size) ∧ (∀ i, X.cell? ⟨a, i, none⟩ = cs[i]?) ∧ (∀ i, X.frozen? ⟨a, i, none⟩ = false) ∧ a < X.heap.size)
    (hQ : ∀ (v156 v157 v158 v159 v160 v161 v162 v163 v164 v165 v166 : Value), Q .normal ⟨#[u0, u1, .int .i64 xm, .pointer (some ⟨a, 0, none⟩), u4, u5, u6, u7, u8, u9, u10, u11, u12, u13, .pointer (some ⟨t, 0, none⟩), u15, u16, u17, u18, u19, u20, u21, u22, u23, u24, u25, u26, u27, u28, u29, u30, u31, u32, u33, u34, u35, u36, u37, u38, u39, u40, u41, u42, u43, u44, u45, u46, u47, u48, u49, u50, u51, u52, u53, u54, u55, u56, u57, u58, u59, u60, u61, u62, u63, u64, u65, u66, u67, u68, u69, u70, u71, u72, u73, u74, u75, u76, u77, u78, u79, u80, u81, u82, u83, u84, u85, u86, u87, u88, u89, u90, u91, u92, u93, u94, u95, u96, u97, u98, u99, u100, u101, u102, u103, u104, u105, u106, u107, u108, u109, u110, u111, u112, u113, u114, u115, u116, u117, u118, u119, u120, u121, u122, u123, u124, u125, u126, u127, u128, u129, u130, u131, u132, u133, u134, u135, u136, u137, u138, u139, u140, u141, u142, u143, u144, u145, u146, u147, u148, u149, u150, u151, u152, u153, u154, u155, v156, v157, v158, v159, v160, v161, v162, v163, v164, v165, v166, u167, u168, u169, u170, u171, u172, u173, u174, u175, u176, u177, u178, u179], []⟩ (((X.setCell ⟨t, 2, none⟩ (.int .i64 f1)).setCell ⟨t, 3, none⟩ (.int .i64 v1)).drew)) :
    Code.wp Tryz.prog (codeAt Tryz.f8 [1, 1, 1, 1, 1, 0, 1, 0, 0, 1, 1, 0, 0, 1, 1, 0]) Q ⟨#[u0, u1, .int .i64 xm, .pointer (some ⟨a, 0, none⟩), u4, u5, u6, u7, u8, u9, u10, u11, u12, u13, .pointer (some ⟨t, 0, none⟩), u15, u16, u17, u18, u19, u20, u21, u22, u23, u24, u25, u26, u27, u28, u29, u30, u31, u32, u33, u34, u35, u36, u37, u38, u39, u40, u41, u42, u43, u44, u45, u46, u47, u48, u49, u50, u51, u52, u53, u54, u55, u56, u57, u58, u59, u60, u61, u62, u63, u64, u65, u66, u67, u68, u69, u70, u71, u72, u73, u74, u75, u76, u77, u78, u79, u80, u81, u82, u83, u84, u85, u86, u87, u88, u89, u90, u91, u92, u93, u94, u95, u96, u97, u98, u99, u100, u101, u102, u103, u104, u105, u106, u107, u108, u109, u110, u111, u112, u113, u114, u115, u116, u117, u118, u119, u120, u121, u122, u123, u124, u125, u126, u127, u128, u129, u130, u131, u132, u133, u134, u135, u136, u137, u138, u139, u140, u141, u142, u143, u144, u145, u146, u147, u148, u149, u150, u151, u152, u153, u154, u155, u156, u157, u158, u159, u160, u161, u162, u163, u164, u165, u166, u167, u168, u169, u170, u171, u172, u173, u174, u175, u176, u177, u178, u179], []⟩ X := by
  show Code.wp Tryz.prog (Code.region _ _ _) _ _ _
  dsimp only
  have HQ := Lib.hid hQ
  clear hQ
  go_region
  exact HQ.out _ _ _ _ _ _ _ _ _ _ _

set_option maxRecDepth 100000 in
set_option maxHeartbeats 4000000 in
theorem suf_loop2 (d : Scr) (A1 A2 A3 A4 A5 : Option Addr) (c1 c2 c3 c4 c5 : Nat) (m F : Int) (at_ : Int) (hn : d.df.length ≤ 100) (w : World) (rc zc : Array Value) (hrc : rc[4]? = some (.int .i64 at_)) (b : Nat) (hb : w.heap.size + 2 < b) (E : List (Nat × Array Value × TypeId)) (hE : NotIn b E) (sv ov py fo : Value) (h : RowsAt w A3 5 Dfc.g d.df) {K : Act → World → Prop} {Q : Exit → Act → World → Prop} (u0 u1 u5 u6 u7 u9 u10 u11 u12 u13 u14 u15 u16 u17 u18 u19 u20 u21 u22 u23 u24 u25 u26 u27 u28 u29 u30 u31 u32 u33 u34 u35 u36 u37 u38 u39 u40 u41 u42 u43 u44 u45 u46 u47 u48 u49 u50 u51 u52 u53 u54 u55 u56 u57 u58 u59 u60 u61 u62 u63 u64 u65 u66 u67 u68 u69 u70 u71 u72 u73 u74 u75 u76 u77 u78 u79 u80 u81 u82 u83 u84 u85 u86 u87 u88 u89 u90 u91 u92 u93 u94 u95 u96 u97 u98 u99 u100 u101 u102 u103 u104 u105 u106 u107 u108 u109 u110 u111 u112 u113 u114 u115 u116 u117 u118 u119 u120 u121 u122 u123 u124 u125 u126 u127 u128 u129 u130 u134 u135 u136 u137 u138 u139 u140 u141 u142 u143 u144 u145 u146 u147 u148 u149 u150 u151 u152 u153 u154 u155 u156 u157 u158 u159 u160 u161 u162 u163 u164 u165 u166 u167 u168 u169 u170 u171 u172 u173 u174 u175 u176 u177 u178 u179 : Value) (wr : World) (B : St w wr ((b, #[.int .i64 F, .int .i64 d.u, sv, ov, (.slice none 0 0), py, fo], 28) :: (w.heap.size, #[.int .i64 d.f, .int .i64 d.u, .slice A1 d.sp.length c1, .slice A2 d.ov.length c2, .slice A3 d.df.length c3, .slice A4 d.py.length c4, .slice A5 d.fo.length c5], 28) :: (w.heap.size + 1, rc, 33) :: (w.heap.size + 1 + 1, zc, 28) :: E))
    (hK : ∀ (v14 v134 v135 v136 v137 v138 v139 v140 v141 v142 v143 v144 v145 v146 v147 v148 v149 v150 v151 v152 v153 v154 v155 v156 v157 v158 v159 v160 v161 v162 v163 v164 v165 v166 v167 v168 v169 v170 v171 v172 v173 v174 v175 v176 v177 v178 : Value) (v : Value) (w' : World), w'.ownsRow w.heap.size 42 5 v (dfS d.u at_ m d.df).length (rowL Dfc.g 5 (dfS d.u at_ m d.df)) → NoOwn v ((b, #[.int .i64 F, .int .i64 d.u, sv, ov, v, py, fo], 28) :: (w.heap.size, #[.int .i64 d.f, .int .i64 d.u, .slice A1 d.sp.length c1, .slice A2 d.ov.length c2, .slice A3 d.df.length c3, .slice A4 d.py.length c4, .slice A5 d.fo.length c5], 28) :: (w.heap.size + 1, rc, 33) :: (w.heap.size + 1 + 1, zc, 28) :: E) → St w w' ((b, #[.int .i64 F, .int .i64 d.u, sv, ov, v, py, fo], 28) :: (w.heap.size, #[.int .i64 d.f, .int .i64 d.u, .slice A1 d.sp.length c1, .slice A2 d.ov.length c2, .slice A3 d.df.length c3, .slice A4 d.py.length c4, .slice A5 d.fo.length c5], 28) :: (w.heap.size + 1, rc, 33) :: (w.heap.size + 1 + 1, zc, 28) :: E) → K ⟨#[u0, u1, .int .i64 m, .pointer (some ⟨w.heap.size, 0, none⟩), .pointer (some ⟨w.heap.size + 1, 0, none⟩), u5, u6, u7, .pointer (some ⟨b, 0, none⟩), u9, u10, u11, u12, u13, v14, u15, u16, u17, u18, u19, u20, u21, u22, u23, u24, u25, u26, u27, u28, u29, u30, u31, u32, u33, u34, u35, u36, u37, u38, u39, u40, u41, u42, u43, u44, u45, u46, u47, u48, u49, u50, u51, u52, u53, u54, u55, u56, u57, u58, u59, u60, u61, u62, u63, u64, u65, u66, u67, u68, u69, u70, u71, u72, u73, u74, u75, u76, u77, u78, u79, u80, u81, u82, u83, u84, u85, u86, u87, u88, u89, u90, u91, u92, u93, u94, u95, u96, u97, u98, u99, u100, u101, u102, u103, u104, u105, u106, u107, u108, u109, u110, u111, u112, u113, u114, u115, u116, u117, u118, u119, u120, u121, u122, u123, u124, u125, u126, u127, u128, u129, u130, .slice A3 d.df.length c3, .int .i64 d.df.length, .int .i64 d.df.length, v134, v135, v136, v137, v138, v139, v140, v141, v142, v143, v144, v145, v146, v147, v148, v149, v150, v151, v152, v153, v154, v155, v156, v157, v158, v159, v160, v161, v162, v163, v164, v165, v166, v167, v168, v169, v170, v171, v172, v173, v174, v175, v176, v177, v178, u179], []⟩ w') :
    Code.wp Tryz.prog (codeAt Tryz.f8 [1, 1, 1, 1, 1, 0, 1, 0]) (Exit.inBlock 4 (Exit.then K Q)) ⟨#[u0, u1, .int .i64 m, .pointer (some ⟨w.heap.size, 0, none⟩), .pointer (some ⟨w.heap.size + 1, 0, none⟩), u5, u6, u7, .pointer (some ⟨b, 0, none⟩), u9, u10, u11, u12, u13, u14, u15, u16, u17, u18, u19, u20, u21, u22, u23, u24, u25, u26, u27, u28, u29, u30, u31, u32, u33, u34, u35, u36, u37, u38, u39, u40, u41, u42, u43, u44, u45, u46, u47, u48, u49, u50, u51, u52, u53, u54, u55, u56, u57, u58, u59, u60, u61, u62, u63, u64, u65, u66, u67, u68, u69, u70, u71, u72, u73, u74, u75, u76, u77, u78, u79, u80, u81, u82, u83, u84, u85, u86, u87, u88, u89, u90, u91, u92, u93, u94, u95, u96, u97, u98, u99, u100, u101, u102, u103, u104, u105, u106, u107, u108, u109, u110, u111, u112, u113, u114, u115, u116, u117, u118, u119, u120, u121, u122, u123, u124, u125, u126, u127, u128, u129, u130, .slice A3 d.df.length c3, .int .i64 d.df.length, .int .i64 0, u134, u135, u136, u137, u138, u139, u140, u141, u142, u143, u144, u145, u146, u147, u148, u149, u150, u151, u152, u153, u154, u155, u156, u157, u158, u159, u160, u161, u162, u163, u164, u165, u166, u167, u168, u169, u170, u171, u172, u173, u174, u175, u176, u177, u178, u179], []⟩ wr := by
  show Code.wp Tryz.prog (Code.loop _) _ _ _
  dsimp only
  have H := Lib.hid h
  have HK := Lib.hid hK
  clear h hK
  obtain ⟨i0, hi0, hz0, hz1, hz2⟩ := info_parts info42
  go_loopw [133] (S2 w (fun v => ((b, #[.int .i64 F, .int .i64 d.u, sv, ov, v, py, fo], 28) :: (w.heap.size, #[.int .i64 d.f, .int .i64 d.u, .slice A1 d.sp.length c1, .slice A2 d.ov.length c2, .slice A3 d.df.length c3, .slice A4 d.py.length c4, .slice A5 d.fo.length c5], 28) :: (w.heap.size + 1, rc, 33) :: (w.heap.size + 1 + 1, zc, 28) :: E)) 42 5 Dfc.g (dfF d.u at_ m) d.df) (fun v _ => d.df.length - (intOf v).toNat)
  case atStart => exact ⟨0, .slice none 0 0, by omega, rfl, ⟨by simp [rowL], .inl ⟨rfl, by simp⟩⟩, NoOwn.nil, B⟩
  case round =>
    clear B
    obtain ⟨k, v, hk, rfl, hown, hno, B⟩ := hrel
    have Hown := Lib.hid hown
    have Hno := Lib.hid hno
    clear hown hno
    have R := B.rules
    simp only [Rules] at R
    by_cases hlt : k < d.df.length
    · have hlt' : (k : Int) < d.df.length := by omega
      have hx : d.df[k]? = some d.df[k] := List.getElem?_eq_getElem hlt
      have HS := Lib.hid (fm_succ (q := dfF d.u at_ m) hx)
      have hfl := fm_len (dfF d.u at_ m) d.df k
      obtain ⟨ad, ha, hl, e0, e⟩ := (H.out.later B.below) k _ hx
      have e1 := e 1 (by omega) (by omega)
      have e2 := e 2 (by omega) (by omega)
      have e3 := e 3 (by omega) (by omega)
      have e4 := e 4 (by omega) (by omega)
      clear e hx
      generalize d.df[k] = x at HS e0 e1 e2 e3 e4
      obtain ⟨xt, xc, xf, xu, xn⟩ := x
      simp only [Dfc.g] at e0 e1 e2 e3 e4
      generalize hf : (d.df.take k).filterMap (dfF d.u at_ m) = fl at Hown HS hfl
      clear hf
      subst ha
      have hnw := notin_new B.blks
      have hsz := B.below.size
      have hon := own_new Hown.out
      have hsp : dfF d.u at_ m ⟨xt, xc, xf, xu, xn⟩ = if mx xf m ≤ mn xu d.u then some ⟨xt, xc, mx xf m, mn xu d.u, knw d.u at_ m xn⟩ else none := rfl
      have hM : (if xf < m then m else xf) = mx xf m := rfl
      have hN : (if d.u < xu then d.u else xu) = mn xu d.u := rfl
      have hmn : (if at_ < m then at_ else m) = mn m at_ := rfl
      have hmx : (if d.u < at_ then at_ else d.u) = mx d.u at_ := rfl
      generalize mx xf m = f1 at hsp hM
      generalize mn xu d.u = v1 at hsp hN
      have hbw := R.1.2.2
      have hkk : knw d.u at_ m xn = if xn ≤ mn m at_ then 0 else if mx d.u at_ < xn then 38399 else xn := rfl
      generalize knw d.u at_ m xn = n1 at hsp hkk
      generalize mn m at_ = k1 at hkk hmn
      generalize mx d.u at_ = k2 at hkk hmx
      have Hkk := Lib.hid hkk
      clear hkk
      by_cases r1 : xn ≤ k1
      · have r1d : decide (xn ≤ k1) = true := by simp [r1]
        have hkn : n1 = 0 := by rw [Hkk.out]; simp [r1]
        have HKN := Lib.hid hkn
        clear hkn
        go_wp2_with fail
        generalize hX : World.alloc _ _ = X1
        have Hown1 := Lib.hid (show X1.ownsRow w.heap.size 42 5 v fl.length (rowL Dfc.g 5 fl) from by rw [← hX]; exact own_alloc Hown.out _)
        have B1' : St w X1 ((wr.heap.size, #[.int .i64 xt, .int .i64 xc, .int .i64 xf, .int .i64 xu, .int .i64 0], 42) :: ((b, #[.int .i64 F, .int .i64 d.u, sv, ov, v, py, fo], 28) :: (w.heap.size, #[.int .i64 d.f, .int .i64 d.u, .slice A1 d.sp.length c1, .slice A2 d.ov.length c2, .slice (some ad) d.df.length c3, .slice A4 d.py.length c4, .slice A5 d.fo.length c5], 28) :: (w.heap.size + 1, rc, 33) :: (w.heap.size + 1 + 1, zc, 28) :: E)) := St.cast hX (B.alloc _ _)
        clear hX R B Hown e0 e1 e2 e3 e4
        have B := B1'
        clear B1'
        have R := B.rules
        simp only [Rules] at R
        rw [HKN.out] at hsp
        have Hsp := Lib.hid hsp
        clear hsp hmn hmx hrc
        refine suf_loop2_reg xt xc xf xu 0 m d.u f1 v1 hM hN w.heap.size wr.heap.size #[.int .i64 d.f, .int .i64 d.u, .slice A1 d.sp.length c1, .slice A2 d.ov.length c2, .slice (some ad) d.df.length c3, .slice A4 d.py.length c4, .slice A5 d.fo.length c5] rfl (by omega) _ _ _ _ _ _ _ _ _ _ _ _ _ _ _ _ _ _ _ _ _ _ _ _ _ _ _ _ _ _ _ _ _ _ _ _ _ _ _ _ _ _ _ _ _ _ _ _ _ _ _ _ _ _ _ _ _ _ _ _ _ _ _ _ _ _ _ _ _ _ _ _ _ _ _ _ _ _ _ _ _ _ _ _ _ _ _ _ _ _ _ _ _ _ _ _ _ _ _ _ _ _ _ _ _ _ _ _ _ _ _ _ _ _ _ _ _ _ _ _ _ _ _ _ _ _ _ _ _ _ _ _ _ _ _ _ _ _ _ _ _ _ _ _ _ _ _ _ _ _ _ _ _ _ _ _ _ _ _ _ _ _ _ _ _ _ _ _ _ _ _ _ _ _ _ _ _ _ ⟨R.1, R.2.2.1⟩ ?_
        intro y0 y1 y2 y3 y4 y5 y6 y7 y8 y9 y10
        dsimp only
        have B1 : St w _ ((wr.heap.size, #[.int .i64 xt, .int .i64 xc, .int .i64 f1, .int .i64 v1, .int .i64 0], 42) :: ((b, #[.int .i64 F, .int .i64 d.u, sv, ov, v, py, fo], 28) :: (w.heap.size, #[.int .i64 d.f, .int .i64 d.u, .slice A1 d.sp.length c1, .slice A2 d.ov.length c2, .slice (some ad) d.df.length c3, .slice A4 d.py.length c4, .slice A5 d.fo.length c5], 28) :: (w.heap.size + 1, rc, 33) :: (w.heap.size + 1 + 1, zc, 28) :: E)) := ((B.put hsz hnw 2 (.int .i64 f1)).put hsz hnw 3 (.int .i64 v1)).drew
        have Hown2 := Lib.hid (own_drew (own_put (own_put Hown1.out hon 2 (.int .i64 f1)) hon 3 (.int .i64 v1)))
        generalize hX : World.drew _ = X2 at B1 Hown2 ⊢
        clear hX R B Hown1 hM hN hnw hsz hon
        have R := B1.rules
        simp only [Rules] at R
        have B0 : St w X2 ((b, #[.int .i64 F, .int .i64 d.u, sv, ov, v, py, fo], 28) :: (w.heap.size, #[.int .i64 d.f, .int .i64 d.u, .slice A1 d.sp.length c1, .slice A2 d.ov.length c2, .slice (some ad) d.df.length c3, .slice A4 d.py.length c4, .slice A5 d.fo.length c5], 28) :: (w.heap.size + 1, rc, 33) :: (w.heap.size + 1 + 1, zc, 28) :: E) := ⟨B1.below, B1.blks.2⟩
        by_cases q3 : f1 ≤ v1
        · have hsp := Hsp.out
          rw [if_pos q3] at hsp
          replace hsp := Lib.hid hsp
          clear Hsp
          go_wp2_with (at_builtin; refine wpList_push (B0.skip _) rfl _ _ rfl Tryz.underlying24 hi0 hz0 hz1 hz2 rfl (by decide) rfl (own_alloc Hown2.out _) Hno.out rfl (news := [.int .i64 xt, .int .i64 xc, .int .i64 f1, .int .i64 v1, .int .i64 0]) rfl (cells_new _ [.int .i64 xt, .int .i64 xc, .int .i64 f1, .int .i64 v1, .int .i64 0] _) (one_cells rfl) (by simp only [maxLen]; omega) (by omega) ?_)
          intro v' w2 hown hno B2
          obtain ⟨A', c', rfl⟩ := own_slice hown
          clear R B1 B0
          have R := B2.rules
          simp only [Rules] at R
          go_wp2
          have hnb : NotIn b ((w.heap.size, #[.int .i64 d.f, .int .i64 d.u, .slice A1 d.sp.length c1, .slice A2 d.ov.length c2, .slice (some ad) d.df.length c3, .slice A4 d.py.length c4, .slice A5 d.fo.length c5], 28) :: (w.heap.size + 1, rc, 33) :: (w.heap.size + 1 + 1, zc, 28) :: E) := ⟨by show w.heap.size ≠ b; omega, by show w.heap.size + 1 ≠ b; omega, by show w.heap.size + 1 + 1 ≠ b; omega, hE⟩
          exact ⟨⟨k + 1, .slice A' _ c', by omega, by go_num, by rw [HS.out, hsp.out]; exact own_put (by simpa [rowL, rowC, List.range, List.range.loop, Dfc.g] using hown) hno.1 _ _, hno.cast rfl, B2.put (by omega) hnb 4 _⟩, by simp [intOf]; omega⟩
        · have hsp := Hsp.out
          rw [if_neg q3] at hsp
          replace hsp := Lib.hid hsp
          clear Hsp
          go_wp2
          exact ⟨⟨k + 1, v, by omega, by go_num, by rw [HS.out, hsp.out]; simpa using Hown2.out, Hno.out, B0⟩, by simp [intOf]; omega⟩
      by_cases r2 : k2 < xn
      · have r2d : decide (k2 < xn) = true := by simp [r2]
        have hkn : n1 = 38399 := by rw [Hkk.out]; simp [r1, r2]
        have HKN := Lib.hid hkn
        clear hkn
        go_wp2_with fail
        generalize hX : World.alloc _ _ = X1
        have Hown1 := Lib.hid (show X1.ownsRow w.heap.size 42 5 v fl.length (rowL Dfc.g 5 fl) from by rw [← hX]; exact own_alloc Hown.out _)
        have B1' : St w X1 ((wr.heap.size, #[.int .i64 xt, .int .i64 xc, .int .i64 xf, .int .i64 xu, .int .i64 38399], 42) :: ((b, #[.int .i64 F, .int .i64 d.u, sv, ov, v, py, fo], 28) :: (w.heap.size, #[.int .i64 d.f, .int .i64 d.u, .slice A1 d.sp.length c1, .slice A2 d.ov.length c2, .slice (some ad) d.df.length c3, .slice A4 d.py.length c4, .slice A5 d.fo.length c5], 28) :: (w.heap.size + 1, rc, 33) :: (w.heap.size + 1 + 1, zc, 28) :: E)) := St.cast hX (B.alloc _ _)
        clear hX R B Hown e0 e1 e2 e3 e4
        have B := B1'
        clear B1'
        have R := B.rules
        simp only [Rules] at R
        rw [HKN.out] at hsp
        have Hsp := Lib.hid hsp
        clear hsp hmn hmx hrc
        refine suf_loop2_reg xt xc xf xu 38399 m d.u f1 v1 hM hN w.heap.size wr.heap.size #[.int .i64 d.f, .int .i64 d.u, .slice A1 d.sp.length c1, .slice A2 d.ov.length c2, .slice (some ad) d.df.length c3, .slice A4 d.py.length c4, .slice A5 d.fo.length c5] rfl (by omega) _ _ _ _ _ _ _ _ _ _ _ _ _ _ _ _ _ _ _ _ _ _ _ _ _ _ _ _ _ _ _ _ _ _ _ _ _ _ _ _ _ _ _ _ _ _ _ _ _ _ _ _ _ _ _ _ _ _ _ _ _ _ _ _ _ _ _ _ _ _ _ _ _ _ _ _ _ _ _ _ _ _ _ _ _ _ _ _ _ _ _ _ _ _ _ _ _ _ _ _ _ _ _ _ _ _ _ _ _ _ _ _ _ _ _ _ _ _ _ _ _ _ _ _ _ _ _ _ _ _ _ _ _ _ _ _ _ _ _ _ _ _ _ _ _ _ _ _ _ _ _ _ _ _ _ _ _ _ _ _ _ _ _ _ _ _ _ _ _ _ _ _ _ _ _ _ _ _ ⟨R.1, R.2.2.1⟩ ?_
        intro y0 y1 y2 y3 y4 y5 y6 y7 y8 y9 y10
        dsimp only
        have B1 : St w _ ((wr.heap.size, #[.int .i64 xt, .int .i64 xc, .int .i64 f1, .int .i64 v1, .int .i64 38399], 42) :: ((b, #[.int .i64 F, .int .i64 d.u, sv, ov, v, py, fo], 28) :: (w.heap.size, #[.int .i64 d.f, .int .i64 d.u, .slice A1 d.sp.length c1, .slice A2 d.ov.length c2, .slice (some ad) d.df.length c3, .slice A4 d.py.length c4, .slice A5 d.fo.length c5], 28) :: (w.heap.size + 1, rc, 33) :: (w.heap.size + 1 + 1, zc, 28) :: E)) := ((B.put hsz hnw 2 (.int .i64 f1)).put hsz hnw 3 (.int .i64 v1)).drew
        have Hown2 := Lib.hid (own_drew (own_put (own_put Hown1.out hon 2 (.int .i64 f1)) hon 3 (.int .i64 v1)))
        generalize hX : World.drew _ = X2 at B1 Hown2 ⊢
        clear hX R B Hown1 hM hN hnw hsz hon
        have R := B1.rules
        simp only [Rules] at R
        have B0 : St w X2 ((b, #[.int .i64 F, .int .i64 d.u, sv, ov, v, py, fo], 28) :: (w.heap.size, #[.int .i64 d.f, .int .i64 d.u, .slice A1 d.sp.length c1, .slice A2 d.ov.length c2, .slice (some ad) d.df.length c3, .slice A4 d.py.length c4, .slice A5 d.fo.length c5], 28) :: (w.heap.size + 1, rc, 33) :: (w.heap.size + 1 + 1, zc, 28) :: E) := ⟨B1.below, B1.blks.2⟩
        by_cases q3 : f1 ≤ v1
        · have hsp := Hsp.out
          rw [if_pos q3] at hsp
          replace hsp := Lib.hid hsp
          clear Hsp
          go_wp2_with (at_builtin; refine wpList_push (B0.skip _) rfl _ _ rfl Tryz.underlying24 hi0 hz0 hz1 hz2 rfl (by decide) rfl (own_alloc Hown2.out _) Hno.out rfl (news := [.int .i64 xt, .int .i64 xc, .int .i64 f1, .int .i64 v1, .int .i64 38399]) rfl (cells_new _ [.int .i64 xt, .int .i64 xc, .int .i64 f1, .int .i64 v1, .int .i64 38399] _) (one_cells rfl) (by simp only [maxLen]; omega) (by omega) ?_)
          intro v' w2 hown hno B2
          obtain ⟨A', c', rfl⟩ := own_slice hown
          clear R B1 B0
          have R := B2.rules
          simp only [Rules] at R
          go_wp2
          have hnb : NotIn b ((w.heap.size, #[.int .i64 d.f, .int .i64 d.u, .slice A1 d.sp.length c1, .slice A2 d.ov.length c2, .slice (some ad) d.df.length c3, .slice A4 d.py.length c4, .slice A5 d.fo.length c5], 28) :: (w.heap.size + 1, rc, 33) :: (w.heap.size + 1 + 1, zc, 28) :: E) := ⟨by show w.heap.size ≠ b; omega, by show w.heap.size + 1 ≠ b; omega, by show w.heap.size + 1 + 1 ≠ b; omega, hE⟩
          exact ⟨⟨k + 1, .slice A' _ c', by omega, by go_num, by rw [HS.out, hsp.out]; exact own_put (by simpa [rowL, rowC, List.range, List.range.loop, Dfc.g] using hown) hno.1 _ _, hno.cast rfl, B2.put (by omega) hnb 4 _⟩, by simp [intOf]; omega⟩
        · have hsp := Hsp.out
          rw [if_neg q3] at hsp
          replace hsp := Lib.hid hsp
          clear Hsp
          go_wp2
          exact ⟨⟨k + 1, v, by omega, by go_num, by rw [HS.out, hsp.out]; simpa using Hown2.out, Hno.out, B0⟩, by simp [intOf]; omega⟩
      · have r2d : decide (k2 < xn) = false := by simp [r2]
        have hkn : n1 = xn := by rw [Hkk.out]; simp [r1, r2]
        have HKN := Lib.hid hkn
        clear hkn
        go_wp2_with fail
        generalize hX : World.alloc _ _ = X1
        have Hown1 := Lib.hid (show X1.ownsRow w.heap.size 42 5 v fl.length (rowL Dfc.g 5 fl) from by rw [← hX]; exact own_alloc Hown.out _)
        have B1' : St w X1 ((wr.heap.size, #[.int .i64 xt, .int .i64 xc, .int .i64 xf, .int .i64 xu, .int .i64 xn], 42) :: ((b, #[.int .i64 F, .int .i64 d.u, sv, ov, v, py, fo], 28) :: (w.heap.size, #[.int .i64 d.f, .int .i64 d.u, .slice A1 d.sp.length c1, .slice A2 d.ov.length c2, .slice (some ad) d.df.length c3, .slice A4 d.py.length c4, .slice A5 d.fo.length c5], 28) :: (w.heap.size + 1, rc, 33) :: (w.heap.size + 1 + 1, zc, 28) :: E)) := St.cast hX (B.alloc _ _)
        clear hX R B Hown e0 e1 e2 e3 e4
        have B := B1'
        clear B1'
        have R := B.rules
        simp only [Rules] at R
        rw [HKN.out] at hsp
        have Hsp := Lib.hid hsp
        clear hsp hmn hmx hrc
        refine suf_loop2_reg xt xc xf xu xn m d.u f1 v1 hM hN w.heap.size wr.heap.size #[.int .i64 d.f, .int .i64 d.u, .slice A1 d.sp.length c1, .slice A2 d.ov.length c2, .slice (some ad) d.df.length c3, .slice A4 d.py.length c4, .slice A5 d.fo.length c5] rfl (by omega) _ _ _ _ _ _ _ _ _ _ _ _ _ _ _ _ _ _ _ _ _ _ _ _ _ _ _ _ _ _ _ _ _ _ _ _ _ _ _ _ _ _ _ _ _ _ _ _ _ _ _ _ _ _ _ _ _ _ _ _ _ _ _ _ _ _ _ _ _ _ _ _ _ _ _ _ _ _ _ _ _ _ _ _ _ _ _ _ _ _ _ _ _ _ _ _ _ _ _ _ _ _ _ _ _ _ _ _ _ _ _ _ _ _ _ _ _ _ _ _ _ _ _ _ _ _ _ _ _ _ _ _ _ _ _ _ _ _ _ _ _ _ _ _ _ _ _ _ _ _ _ _ _ _ _ _ _ _ _ _ _ _ _ _ _ _ _ _ _ _ _ _ _ _ _ _ _ _ ⟨R.1, R.2.2.1⟩ ?_
        intro y0 y1 y2 y3 y4 y5 y6 y7 y8 y9 y10
        dsimp only
        have B1 : St w _ ((wr.heap.size, #[.int .i64 xt, .int .i64 xc, .int .i64 f1, .int .i64 v1, .int .i64 xn], 42) :: ((b, #[.int .i64 F, .int .i64 d.u, sv, ov, v, py, fo], 28) :: (w.heap.size, #[.int .i64 d.f, .int .i64 d.u, .slice A1 d.sp.length c1, .slice A2 d.ov.length c2, .slice (some ad) d.df.length c3, .slice A4 d.py.length c4, .slice A5 d.fo.length c5], 28) :: (w.heap.size + 1, rc, 33) :: (w.heap.size + 1 + 1, zc, 28) :: E)) := ((B.put hsz hnw 2 (.int .i64 f1)).put hsz hnw 3 (.int .i64 v1)).drew
        have Hown2 := Lib.hid (own_drew (own_put (own_put Hown1.out hon 2 (.int .i64 f1)) hon 3 (.int .i64 v1)))
        generalize hX : World.drew _ = X2 at B1 Hown2 ⊢
        clear hX R B Hown1 hM hN hnw hsz hon
        have R := B1.rules
        simp only [Rules] at R
        have B0 : St w X2 ((b, #[.int .i64 F, .int .i64 d.u, sv, ov, v, py, fo], 28) :: (w.heap.size, #[.int .i64 d.f, .int .i64 d.u, .slice A1 d.sp.length c1, .slice A2 d.ov.length c2, .slice (some ad) d.df.length c3, .slice A4 d.py.length c4, .slice A5 d.fo.length c5], 28) :: (w.heap.size + 1, rc, 33) :: (w.heap.size + 1 + 1, zc, 28) :: E) := ⟨B1.below, B1.blks.2⟩
        by_cases q3 : f1 ≤ v1
        · have hsp := Hsp.out
          rw [if_pos q3] at hsp
          replace hsp := Lib.hid hsp
          clear Hsp
          go_wp2_with (at_builtin; refine wpList_push (B0.skip _) rfl _ _ rfl Tryz.underlying24 hi0 hz0 hz1 hz2 rfl (by decide) rfl (own_alloc Hown2.out _) Hno.out rfl (news := [.int .i64 xt, .int .i64 xc, .int .i64 f1, .int .i64 v1, .int .i64 xn]) rfl (cells_new _ [.int .i64 xt, .int .i64 xc, .int .i64 f1, .int .i64 v1, .int .i64 xn] _) (one_cells rfl) (by simp only [maxLen]; omega) (by omega) ?_)
          intro v' w2 hown hno B2
          obtain ⟨A', c', rfl⟩ := own_slice hown
          clear R B1 B0
          have R := B2.rules
          simp only [Rules] at R
          go_wp2
          have hnb : NotIn b ((w.heap.size, #[.int .i64 d.f, .int .i64 d.u, .slice A1 d.sp.length c1, .slice A2 d.ov.length c2, .slice (some ad) d.df.length c3, .slice A4 d.py.length c4, .slice A5 d.fo.length c5], 28) :: (w.heap.size + 1, rc, 33) :: (w.heap.size + 1 + 1, zc, 28) :: E) := ⟨by show w.heap.size ≠ b; omega, by show w.heap.size + 1 ≠ b; omega, by show w.heap.size + 1 + 1 ≠ b; omega, hE⟩
          exact ⟨⟨k + 1, .slice A' _ c', by omega, by go_num, by rw [HS.out, hsp.out]; exact own_put (by simpa [rowL, rowC, List.range, List.range.loop, Dfc.g] using hown) hno.1 _ _, hno.cast rfl, B2.put (by omega) hnb 4 _⟩, by simp [intOf]; omega⟩
        · have hsp := Hsp.out
          rw [if_neg q3] at hsp
          replace hsp := Lib.hid hsp
          clear Hsp
          go_wp2
          exact ⟨⟨k + 1, v, by omega, by go_num, by rw [HS.out, hsp.out]; simpa using Hown2.out, Hno.out, B0⟩, by simp [intOf]; omega⟩
    · obtain rfl : k = d.df.length := by omega
      rw [List.take_length] at Hown
      go_wp2_with fail
      exact HK.out _ _ _ _ _ _ _ _ _ _ _ _ _ _ _ _ _ _ _ _ _ _ _ _ _ _ _ _ _ _ _ _ _ _ _ _ _ _ _ _ _ _ _ _ _ _ _ _ Hown.out Hno.out B

end Go.Proofs.YtbkipanlicgooaaGreatDoor
