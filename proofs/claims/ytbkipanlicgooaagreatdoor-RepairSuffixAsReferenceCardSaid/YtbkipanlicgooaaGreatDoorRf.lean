/-
  The reference's Suffix: its third loop. No conditions but those in each statement.
-/
import Derived.Test.YtbkipanlicgooaaGreatDoorLe
import Derived.Test.YtbkipanlicgooaaGreatDoorRb
namespace Go.Proofs.YtbkipanlicgooaaGreatDoor
open Go.RowKit

set_option maxRecDepth 100000 in
set_option maxHeartbeats 8000000 in
theorem rsuf_loop2 (d : Scr) (A1 A2 A3 A4 A5 : Option Addr) (c1 c2 c3 c4 c5 : Nat) (m F : Int) (at_ : Int) (hn : d.df.length ≤ 100) (w : World) (rc zc : Array Value) (hrc : rc[4]? = some (.int .i64 at_)) (b : Nat) (hb : w.heap.size + 2 < b) (E : List (Nat × Array Value × TypeId)) (hE : NotIn b E) (sv ov py fo : Value) (h : RowsAt w A3 5 Dfc.g d.df) {K : Act → World → Prop} {Q : Exit → Act → World → Prop} (u0 u1 u5 u6 u7 u9 u10 u11 u12 u14 u15 u16 u17 u18 u19 u20 u21 u22 u23 u24 u25 u26 u27 u28 u29 u30 u31 u32 u33 u34 u35 u36 u37 u38 u39 u40 u41 u42 u43 u44 u45 u46 u47 u48 u49 u50 u51 u52 u53 u54 u55 u56 u57 u58 u59 u60 u61 u62 u63 u64 u65 u66 u67 u68 u69 u70 u71 u72 u73 u74 u75 u76 u77 u78 u79 u80 u81 u82 u83 u84 u85 u86 u87 u88 u89 u90 u91 u92 u93 u94 u95 u96 u97 u98 u99 u100 u101 u102 u103 u104 u105 u106 u107 u108 u109 u110 u111 u112 u113 u114 u115 u116 u117 u118 u119 u120 u121 u122 u123 u124 u125 u126 u127 u128 u129 u130 u131 u132 u133 u134 u135 u136 u137 u138 u139 u140 u141 u142 u143 u144 u145 u146 u147 u148 u149 u150 u151 u152 u153 u154 u155 u156 u157 u158 u159 u160 u161 u162 u163 u164 u165 u166 u167 u168 u169 u170 u171 u172 u173 u174 u175 u176 u177 u178 u179 u180 u181 u182 u183 u184 u185 u186 u187 u188 u189 u190 u191 u192 u193 u194 u195 u196 u197 u198 u199 : Value) (wr : World) (B : St w wr ((b, #[.int .i64 F, .int .i64 d.u, sv, ov, (.slice none 0 0), py, fo], 28) :: (w.heap.size, #[.int .i64 d.f, .int .i64 d.u, .slice A1 d.sp.length c1, .slice A2 d.ov.length c2, .slice A3 d.df.length c3, .slice A4 d.py.length c4, .slice A5 d.fo.length c5], 28) :: (w.heap.size + 1, rc, 33) :: (w.heap.size + 1 + 1, zc, 28) :: E))
    (hK : ∀ (v14 v140 v141 v142 v143 v144 v145 v146 v147 v148 v149 v150 v151 v152 v153 v154 v155 v156 v157 v158 v159 v160 v161 v162 v163 v164 v165 v166 v167 v168 v169 v170 v171 v172 v173 v174 v175 v176 v177 v178 v179 v180 v181 v182 v183 v184 v185 v186 v187 v188 v189 v190 v191 v192 v193 v194 v195 v196 v197 v198 : Value) (v : Value) (w' : World), w'.ownsRow w.heap.size 42 5 v (dfS d.u at_ m d.df).length (rowL Dfc.g 5 (dfS d.u at_ m d.df)) → NoOwn v ((b, #[.int .i64 F, .int .i64 d.u, sv, ov, v, py, fo], 28) :: (w.heap.size, #[.int .i64 d.f, .int .i64 d.u, .slice A1 d.sp.length c1, .slice A2 d.ov.length c2, .slice A3 d.df.length c3, .slice A4 d.py.length c4, .slice A5 d.fo.length c5], 28) :: (w.heap.size + 1, rc, 33) :: (w.heap.size + 1 + 1, zc, 28) :: E) → St w w' ((b, #[.int .i64 F, .int .i64 d.u, sv, ov, v, py, fo], 28) :: (w.heap.size, #[.int .i64 d.f, .int .i64 d.u, .slice A1 d.sp.length c1, .slice A2 d.ov.length c2, .slice A3 d.df.length c3, .slice A4 d.py.length c4, .slice A5 d.fo.length c5], 28) :: (w.heap.size + 1, rc, 33) :: (w.heap.size + 1 + 1, zc, 28) :: E) → K ⟨#[u0, u1, .int .i64 m, .pointer (some ⟨w.heap.size, 0, none⟩), .pointer (some ⟨w.heap.size + 1, 0, none⟩), u5, u6, u7, .pointer (some ⟨b, 0, none⟩), u9, u10, u11, u12, .int .i64 d.df.length, v14, u15, u16, u17, u18, u19, u20, u21, u22, u23, u24, u25, u26, u27, u28, u29, u30, u31, u32, u33, u34, u35, u36, u37, u38, u39, u40, u41, u42, u43, u44, u45, u46, u47, u48, u49, u50, u51, u52, u53, u54, u55, u56, u57, u58, u59, u60, u61, u62, u63, u64, u65, u66, u67, u68, u69, u70, u71, u72, u73, u74, u75, u76, u77, u78, u79, u80, u81, u82, u83, u84, u85, u86, u87, u88, u89, u90, u91, u92, u93, u94, u95, u96, u97, u98, u99, u100, u101, u102, u103, u104, u105, u106, u107, u108, u109, u110, u111, u112, u113, u114, u115, u116, u117, u118, u119, u120, u121, u122, u123, u124, u125, u126, u127, u128, u129, u130, u131, u132, u133, u134, u135, u136, u137, u138, u139, v140, v141, v142, v143, v144, v145, v146, v147, v148, v149, v150, v151, v152, v153, v154, v155, v156, v157, v158, v159, v160, v161, v162, v163, v164, v165, v166, v167, v168, v169, v170, v171, v172, v173, v174, v175, v176, v177, v178, v179, v180, v181, v182, v183, v184, v185, v186, v187, v188, v189, v190, v191, v192, v193, v194, v195, v196, v197, v198, u199], []⟩ w') :
    Code.wp Tryz.prog (codeAt Tryz.f9 [1, 1, 1, 1, 1, 0, 1, 0]) (Exit.inBlock 4 (Exit.then K Q)) ⟨#[u0, u1, .int .i64 m, .pointer (some ⟨w.heap.size, 0, none⟩), .pointer (some ⟨w.heap.size + 1, 0, none⟩), u5, u6, u7, .pointer (some ⟨b, 0, none⟩), u9, u10, u11, u12, .int .i64 0, u14, u15, u16, u17, u18, u19, u20, u21, u22, u23, u24, u25, u26, u27, u28, u29, u30, u31, u32, u33, u34, u35, u36, u37, u38, u39, u40, u41, u42, u43, u44, u45, u46, u47, u48, u49, u50, u51, u52, u53, u54, u55, u56, u57, u58, u59, u60, u61, u62, u63, u64, u65, u66, u67, u68, u69, u70, u71, u72, u73, u74, u75, u76, u77, u78, u79, u80, u81, u82, u83, u84, u85, u86, u87, u88, u89, u90, u91, u92, u93, u94, u95, u96, u97, u98, u99, u100, u101, u102, u103, u104, u105, u106, u107, u108, u109, u110, u111, u112, u113, u114, u115, u116, u117, u118, u119, u120, u121, u122, u123, u124, u125, u126, u127, u128, u129, u130, u131, u132, u133, u134, u135, u136, u137, u138, u139, u140, u141, u142, u143, u144, u145, u146, u147, u148, u149, u150, u151, u152, u153, u154, u155, u156, u157, u158, u159, u160, u161, u162, u163, u164, u165, u166, u167, u168, u169, u170, u171, u172, u173, u174, u175, u176, u177, u178, u179, u180, u181, u182, u183, u184, u185, u186, u187, u188, u189, u190, u191, u192, u193, u194, u195, u196, u197, u198, u199], []⟩ wr := by
  show Code.wp Tryz.prog (Code.loop _) _ _ _
  dsimp only
  have H := Lib.hid h
  have HK := Lib.hid hK
  clear h hK
  obtain ⟨i0, hi0, hz0, hz1, hz2⟩ := info_parts info42
  go_loopw [13] (S2 w (fun v => ((b, #[.int .i64 F, .int .i64 d.u, sv, ov, v, py, fo], 28) :: (w.heap.size, #[.int .i64 d.f, .int .i64 d.u, .slice A1 d.sp.length c1, .slice A2 d.ov.length c2, .slice A3 d.df.length c3, .slice A4 d.py.length c4, .slice A5 d.fo.length c5], 28) :: (w.heap.size + 1, rc, 33) :: (w.heap.size + 1 + 1, zc, 28) :: E)) 42 5 Dfc.g (dfF d.u at_ m) d.df) (fun v _ => d.df.length - (intOf v).toNat)
  case atStart => exact ⟨0, .slice none 0 0, by omega, rfl, ⟨by simp [rowL], .inl ⟨rfl, by simp⟩⟩, NoOwn.nil, B⟩
  case round =>
    clear B
    obtain ⟨k, v, hk, rfl, hown, hno, B⟩ := hrel
    have Hown := Lib.hid hown
    have Hno := Lib.hid hno
    clear hown hno
    have R := B.rules
    simp only [Rules] at R
    by_cases hlt : k < d.df.length
    · have hlt' : (k : Int) < d.df.length := by omega
      have hx : d.df[k]? = some d.df[k] := List.getElem?_eq_getElem hlt
      have HS := Lib.hid (fm_succ (q := dfF d.u at_ m) hx)
      have hfl := fm_len (dfF d.u at_ m) d.df k
      obtain ⟨ad, ha, hl, e0, e⟩ := (H.out.later B.below) k _ hx
      have e1 := e 1 (by omega) (by omega)
      have e2 := e 2 (by omega) (by omega)
      have e3 := e 3 (by omega) (by omega)
      have e4 := e 4 (by omega) (by omega)
      clear e hx
      generalize d.df[k] = x at HS e0 e1 e2 e3 e4
      obtain ⟨xt, xc, xf, xu, xn⟩ := x
      simp only [Dfc.g] at e0 e1 e2 e3 e4
      generalize hf : (d.df.take k).filterMap (dfF d.u at_ m) = fl at Hown HS hfl
      clear hf
      subst ha
      have hsp : dfF d.u at_ m ⟨xt, xc, xf, xu, xn⟩ = if mx xf m ≤ mn xu d.u then some ⟨xt, xc, mx xf m, mn xu d.u, knw d.u at_ m xn⟩ else none := rfl
      have hM : (if xf < m then m else xf) = mx xf m := rfl
      have hN : (if d.u < xu then d.u else xu) = mn xu d.u := rfl
      generalize mx xf m = f1 at hsp hM
      generalize mn xu d.u = v1 at hsp hN
      have Hkk := Lib.hid (show knw d.u at_ m xn = if xn ≤ mn m at_ then 0 else if mx d.u at_ < xn then 38399 else xn from rfl)
      generalize knw d.u at_ m xn = n1 at hsp Hkk
      by_cases a1 : xn ≤ m
      · by_cases a2 : xn ≤ at_
        · have hkn : n1 = 0 := by rw [Hkk.out]; simp only [mn, mx]; repeat (first | rfl | omega | split)
          rw [hkn] at hsp
          have Hsp := Lib.hid hsp
          clear hsp hkn Hkk
          have hsp := Hsp.out
          by_cases q3 : f1 ≤ v1
          · rw [if_pos q3] at hsp
            replace hsp := Lib.hid hsp
            clear Hsp
            go_wp2_with (at_builtin; refine wpList_push ((B.skip _).skip _) rfl _ _ rfl Tryz.underlying24 hi0 hz0 hz1 hz2 rfl (by decide) rfl (own_alloc (own_alloc Hown.out _) _) Hno.out rfl (news := [.int .i64 xt, .int .i64 xc, .int .i64 f1, .int .i64 v1, .int .i64 0]) rfl (by first | exact cells_new _ [.int .i64 xt, .int .i64 xc, .int .i64 f1, .int .i64 v1, .int .i64 0] _ | exact cells_new2 _ [.int .i64 xt, .int .i64 xc, .int .i64 f1, .int .i64 v1, .int .i64 0] _ _ (by simp only [alloc_size])) (one_cells rfl) (by simp only [maxLen]; omega) (by omega) ?_)
            intro v' w2 hown hno B2
            obtain ⟨A', c', rfl⟩ := own_slice hown
            clear R B e0 e1 e2 e3 e4 hM hN hrc
            have R := B2.rules
            simp only [Rules] at R
            go_wp2
            have hnb : NotIn b ((w.heap.size, #[.int .i64 d.f, .int .i64 d.u, .slice A1 d.sp.length c1, .slice A2 d.ov.length c2, .slice (some ad) d.df.length c3, .slice A4 d.py.length c4, .slice A5 d.fo.length c5], 28) :: (w.heap.size + 1, rc, 33) :: (w.heap.size + 1 + 1, zc, 28) :: E) := ⟨by show w.heap.size ≠ b; omega, by show w.heap.size + 1 ≠ b; omega, by show w.heap.size + 1 + 1 ≠ b; omega, hE⟩
            exact ⟨⟨k + 1, .slice A' _ c', by omega, by go_num, by rw [HS.out, hsp.out]; exact own_put (by simpa [rowL, rowC, List.range, List.range.loop, Dfc.g] using hown) hno.1 _ _, hno.cast rfl, B2.put (by omega) hnb 4 _⟩, by simp [intOf]; omega⟩
          · rw [if_neg q3] at hsp
            replace hsp := Lib.hid hsp
            clear Hsp
            go_wp2
            exact ⟨⟨k + 1, v, by omega, by go_num, by rw [HS.out, hsp.out]; simpa using own_alloc Hown.out _, Hno.out, B.skip _⟩, by simp [intOf]; omega⟩
        · have a4 : at_ < xn := by omega
          clear a2
          by_cases a3 : d.u < xn
          · have hkn : n1 = 38399 := by rw [Hkk.out]; simp only [mn, mx]; repeat (first | rfl | omega | split)
            rw [hkn] at hsp
            have Hsp := Lib.hid hsp
            clear hsp hkn Hkk
            have hsp := Hsp.out
            by_cases q3 : f1 ≤ v1
            · exfalso
              revert hM hN
              split <;> split <;> intros <;> omega
            · rw [if_neg q3] at hsp
              replace hsp := Lib.hid hsp
              clear Hsp
              go_wp2
              exact ⟨⟨k + 1, v, by omega, by go_num, by rw [HS.out, hsp.out]; simpa using own_alloc Hown.out _, Hno.out, B.skip _⟩, by simp [intOf]; omega⟩
          · have hkn : n1 = xn := by rw [Hkk.out]; simp only [mn, mx]; repeat (first | rfl | omega | split)
            rw [hkn] at hsp
            have Hsp := Lib.hid hsp
            clear hsp hkn Hkk
            have hsp := Hsp.out
            by_cases q3 : f1 ≤ v1
            · rw [if_pos q3] at hsp
              replace hsp := Lib.hid hsp
              clear Hsp
              go_wp2_with (at_builtin; refine wpList_push ((B.skip _).skip _) rfl _ _ rfl Tryz.underlying24 hi0 hz0 hz1 hz2 rfl (by decide) rfl (own_alloc (own_alloc Hown.out _) _) Hno.out rfl (news := [.int .i64 xt, .int .i64 xc, .int .i64 f1, .int .i64 v1, .int .i64 xn]) rfl (by first | exact cells_new _ [.int .i64 xt, .int .i64 xc, .int .i64 f1, .int .i64 v1, .int .i64 xn] _ | exact cells_new2 _ [.int .i64 xt, .int .i64 xc, .int .i64 f1, .int .i64 v1, .int .i64 xn] _ _ (by simp only [alloc_size])) (one_cells rfl) (by simp only [maxLen]; omega) (by omega) ?_)
              intro v' w2 hown hno B2
              obtain ⟨A', c', rfl⟩ := own_slice hown
              clear R B e0 e1 e2 e3 e4 hM hN hrc
              have R := B2.rules
              simp only [Rules] at R
              go_wp2
              have hnb : NotIn b ((w.heap.size, #[.int .i64 d.f, .int .i64 d.u, .slice A1 d.sp.length c1, .slice A2 d.ov.length c2, .slice (some ad) d.df.length c3, .slice A4 d.py.length c4, .slice A5 d.fo.length c5], 28) :: (w.heap.size + 1, rc, 33) :: (w.heap.size + 1 + 1, zc, 28) :: E) := ⟨by show w.heap.size ≠ b; omega, by show w.heap.size + 1 ≠ b; omega, by show w.heap.size + 1 + 1 ≠ b; omega, hE⟩
              exact ⟨⟨k + 1, .slice A' _ c', by omega, by go_num, by rw [HS.out, hsp.out]; exact own_put (by simpa [rowL, rowC, List.range, List.range.loop, Dfc.g] using hown) hno.1 _ _, hno.cast rfl, B2.put (by omega) hnb 4 _⟩, by simp [intOf]; omega⟩
            · rw [if_neg q3] at hsp
              replace hsp := Lib.hid hsp
              clear Hsp
              go_wp2
              exact ⟨⟨k + 1, v, by omega, by go_num, by rw [HS.out, hsp.out]; simpa using own_alloc Hown.out _, Hno.out, B.skip _⟩, by simp [intOf]; omega⟩
      · by_cases a2 : xn ≤ at_
        · have a4 : ¬ at_ < xn := by omega
          by_cases a3 : d.u < xn
          · have hkn : n1 = xn := by rw [Hkk.out]; simp only [mn, mx]; repeat (first | rfl | omega | split)
            rw [hkn] at hsp
            have Hsp := Lib.hid hsp
            clear hsp hkn Hkk
            have hsp := Hsp.out
            by_cases q3 : f1 ≤ v1
            · rw [if_pos q3] at hsp
              replace hsp := Lib.hid hsp
              clear Hsp
              go_wp2_with (at_builtin; refine wpList_push ((B.skip _).skip _) rfl _ _ rfl Tryz.underlying24 hi0 hz0 hz1 hz2 rfl (by decide) rfl (own_alloc (own_alloc Hown.out _) _) Hno.out rfl (news := [.int .i64 xt, .int .i64 xc, .int .i64 f1, .int .i64 v1, .int .i64 xn]) rfl (by first | exact cells_new _ [.int .i64 xt, .int .i64 xc, .int .i64 f1, .int .i64 v1, .int .i64 xn] _ | exact cells_new2 _ [.int .i64 xt, .int .i64 xc, .int .i64 f1, .int .i64 v1, .int .i64 xn] _ _ (by simp only [alloc_size])) (one_cells rfl) (by simp only [maxLen]; omega) (by omega) ?_)
              intro v' w2 hown hno B2
              obtain ⟨A', c', rfl⟩ := own_slice hown
              clear R B e0 e1 e2 e3 e4 hM hN hrc
              have R := B2.rules
              simp only [Rules] at R
              go_wp2
              have hnb : NotIn b ((w.heap.size, #[.int .i64 d.f, .int .i64 d.u, .slice A1 d.sp.length c1, .slice A2 d.ov.length c2, .slice (some ad) d.df.length c3, .slice A4 d.py.length c4, .slice A5 d.fo.length c5], 28) :: (w.heap.size + 1, rc, 33) :: (w.heap.size + 1 + 1, zc, 28) :: E) := ⟨by show w.heap.size ≠ b; omega, by show w.heap.size + 1 ≠ b; omega, by show w.heap.size + 1 + 1 ≠ b; omega, hE⟩
              exact ⟨⟨k + 1, .slice A' _ c', by omega, by go_num, by rw [HS.out, hsp.out]; exact own_put (by simpa [rowL, rowC, List.range, List.range.loop, Dfc.g] using hown) hno.1 _ _, hno.cast rfl, B2.put (by omega) hnb 4 _⟩, by simp [intOf]; omega⟩
            · rw [if_neg q3] at hsp
              replace hsp := Lib.hid hsp
              clear Hsp
              go_wp2
              exact ⟨⟨k + 1, v, by omega, by go_num, by rw [HS.out, hsp.out]; simpa using own_alloc Hown.out _, Hno.out, B.skip _⟩, by simp [intOf]; omega⟩
          · have hkn : n1 = xn := by rw [Hkk.out]; simp only [mn, mx]; repeat (first | rfl | omega | split)
            rw [hkn] at hsp
            have Hsp := Lib.hid hsp
            clear hsp hkn Hkk
            have hsp := Hsp.out
            by_cases q3 : f1 ≤ v1
            · rw [if_pos q3] at hsp
              replace hsp := Lib.hid hsp
              clear Hsp
              go_wp2_with (at_builtin; refine wpList_push ((B.skip _).skip _) rfl _ _ rfl Tryz.underlying24 hi0 hz0 hz1 hz2 rfl (by decide) rfl (own_alloc (own_alloc Hown.out _) _) Hno.out rfl (news := [.int .i64 xt, .int .i64 xc, .int .i64 f1, .int .i64 v1, .int .i64 xn]) rfl (by first | exact cells_new _ [.int .i64 xt, .int .i64 xc, .int .i64 f1, .int .i64 v1, .int .i64 xn] _ | exact cells_new2 _ [.int .i64 xt, .int .i64 xc, .int .i64 f1, .int .i64 v1, .int .i64 xn] _ _ (by simp only [alloc_size])) (one_cells rfl) (by simp only [maxLen]; omega) (by omega) ?_)
              intro v' w2 hown hno B2
              obtain ⟨A', c', rfl⟩ := own_slice hown
              clear R B e0 e1 e2 e3 e4 hM hN hrc
              have R := B2.rules
              simp only [Rules] at R
              go_wp2
              have hnb : NotIn b ((w.heap.size, #[.int .i64 d.f, .int .i64 d.u, .slice A1 d.sp.length c1, .slice A2 d.ov.length c2, .slice (some ad) d.df.length c3, .slice A4 d.py.length c4, .slice A5 d.fo.length c5], 28) :: (w.heap.size + 1, rc, 33) :: (w.heap.size + 1 + 1, zc, 28) :: E) := ⟨by show w.heap.size ≠ b; omega, by show w.heap.size + 1 ≠ b; omega, by show w.heap.size + 1 + 1 ≠ b; omega, hE⟩
              exact ⟨⟨k + 1, .slice A' _ c', by omega, by go_num, by rw [HS.out, hsp.out]; exact own_put (by simpa [rowL, rowC, List.range, List.range.loop, Dfc.g] using hown) hno.1 _ _, hno.cast rfl, B2.put (by omega) hnb 4 _⟩, by simp [intOf]; omega⟩
            · rw [if_neg q3] at hsp
              replace hsp := Lib.hid hsp
              clear Hsp
              go_wp2
              exact ⟨⟨k + 1, v, by omega, by go_num, by rw [HS.out, hsp.out]; simpa using own_alloc Hown.out _, Hno.out, B.skip _⟩, by simp [intOf]; omega⟩
        · have a4 : at_ < xn := by omega
          by_cases a3 : d.u < xn
          · have hkn : n1 = 38399 := by rw [Hkk.out]; simp only [mn, mx]; repeat (first | rfl | omega | split)
            rw [hkn] at hsp
            have Hsp := Lib.hid hsp
            clear hsp hkn Hkk
            have hsp := Hsp.out
            by_cases q3 : f1 ≤ v1
            · rw [if_pos q3] at hsp
              replace hsp := Lib.hid hsp
              clear Hsp
              go_wp2_with (at_builtin; refine wpList_push ((B.skip _).skip _) rfl _ _ rfl Tryz.underlying24 hi0 hz0 hz1 hz2 rfl (by decide) rfl (own_alloc (own_alloc Hown.out _) _) Hno.out rfl (news := [.int .i64 xt, .int .i64 xc, .int .i64 f1, .int .i64 v1, .int .i64 38399]) rfl (by first | exact cells_new _ [.int .i64 xt, .int .i64 xc, .int .i64 f1, .int .i64 v1, .int .i64 38399] _ | exact cells_new2 _ [.int .i64 xt, .int .i64 xc, .int .i64 f1, .int .i64 v1, .int .i64 38399] _ _ (by simp only [alloc_size])) (one_cells rfl) (by simp only [maxLen]; omega) (by omega) ?_)
              intro v' w2 hown hno B2
              obtain ⟨A', c', rfl⟩ := own_slice hown
              clear R B e0 e1 e2 e3 e4 hM hN hrc
              have R := B2.rules
              simp only [Rules] at R
              go_wp2
              have hnb : NotIn b ((w.heap.size, #[.int .i64 d.f, .int .i64 d.u, .slice A1 d.sp.length c1, .slice A2 d.ov.length c2, .slice (some ad) d.df.length c3, .slice A4 d.py.length c4, .slice A5 d.fo.length c5], 28) :: (w.heap.size + 1, rc, 33) :: (w.heap.size + 1 + 1, zc, 28) :: E) := ⟨by show w.heap.size ≠ b; omega, by show w.heap.size + 1 ≠ b; omega, by show w.heap.size + 1 + 1 ≠ b; omega, hE⟩
              exact ⟨⟨k + 1, .slice A' _ c', by omega, by go_num, by rw [HS.out, hsp.out]; exact own_put (by simpa [rowL, rowC, List.range, List.range.loop, Dfc.g] using hown) hno.1 _ _, hno.cast rfl, B2.put (by omega) hnb 4 _⟩, by simp [intOf]; omega⟩
            · rw [if_neg q3] at hsp
              replace hsp := Lib.hid hsp
              clear Hsp
              go_wp2
              exact ⟨⟨k + 1, v, by omega, by go_num, by rw [HS.out, hsp.out]; simpa using own_alloc Hown.out _, Hno.out, B.skip _⟩, by simp [intOf]; omega⟩
          · have hkn : n1 = xn := by rw [Hkk.out]; simp only [mn, mx]; repeat (first | rfl | omega | split)
            rw [hkn] at hsp
            have Hsp := Lib.hid hsp
            clear hsp hkn Hkk
            have hsp := Hsp.out
            by_cases q3 : f1 ≤ v1
            · rw [if_pos q3] at hsp
              replace hsp := Lib.hid hsp
              clear Hsp
              go_wp2_with (at_builtin; refine wpList_push ((B.skip _).skip _) rfl _ _ rfl Tryz.underlying24 hi0 hz0 hz1 hz2 rfl (by decide) rfl (own_alloc (own_alloc Hown.out _) _) Hno.out rfl (news := [.int .i64 xt, .int .i64 xc, .int .i64 f1, .int .i64 v1, .int .i64 xn]) rfl (by first | exact cells_new _ [.int .i64 xt, .int .i64 xc, .int .i64 f1, .int .i64 v1, .int .i64 xn] _ | exact cells_new2 _ [.int .i64 xt, .int .i64 xc, .int .i64 f1, .int .i64 v1, .int .i64 xn] _ _ (by simp only [alloc_size])) (one_cells rfl) (by simp only [maxLen]; omega) (by omega) ?_)
              intro v' w2 hown hno B2
              obtain ⟨A', c', rfl⟩ := own_slice hown
              clear R B e0 e1 e2 e3 e4 hM hN hrc
              have R := B2.rules
              simp only [Rules] at R
              go_wp2
              have hnb : NotIn b ((w.heap.size, #[.int .i64 d.f, .int .i64 d.u, .slice A1 d.sp.length c1, .slice A2 d.ov.length c2, .slice (some ad) d.df.length c3, .slice A4 d.py.length c4, .slice A5 d.fo.length c5], 28) :: (w.heap.size + 1, rc, 33) :: (w.heap.size + 1 + 1, zc, 28) :: E) := ⟨by show w.heap.size ≠ b; omega, by show w.heap.size + 1 ≠ b; omega, by show w.heap.size + 1 + 1 ≠ b; omega, hE⟩
              exact ⟨⟨k + 1, .slice A' _ c', by omega, by go_num, by rw [HS.out, hsp.out]; exact own_put (by simpa [rowL, rowC, List.range, List.range.loop, Dfc.g] using hown) hno.1 _ _, hno.cast rfl, B2.put (by omega) hnb 4 _⟩, by simp [intOf]; omega⟩
            · rw [if_neg q3] at hsp
              replace hsp := Lib.hid hsp
              clear Hsp
              go_wp2
              exact ⟨⟨k + 1, v, by omega, by go_num, by rw [HS.out, hsp.out]; simpa using own_alloc Hown.out _, Hno.out, B.skip _⟩, by simp [intOf]; omega⟩
    · obtain rfl : k = d.df.length := by omega
      rw [List.take_length] at Hown
      go_wp2_with fail
      exact HK.out _ _ _ _ _ _ _ _ _ _ _ _ _ _ _ _ _ _ _ _ _ _ _ _ _ _ _ _ _ _ _ _ _ _ _ _ _ _ _ _ _ _ _ _ _ _ _ _ _ _ _ _ _ _ _ _ _ _ _ _ _ _ Hown.out Hno.out B
end Go.Proofs.YtbkipanlicgooaaGreatDoor
