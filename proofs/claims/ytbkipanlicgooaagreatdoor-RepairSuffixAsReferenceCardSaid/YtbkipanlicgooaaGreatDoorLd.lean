/-
  repair.payments: what the call returns. No conditions but those in each statement.
-/
import Derived.Test.YtbkipanlicgooaaGreatDoorLc
namespace Go.Proofs.YtbkipanlicgooaaGreatDoor
open Go.RowKit

set_option maxRecDepth 100000 in
set_option maxHeartbeats 4000000 in
theorem pay_loop0 (d : Scr) (A1 A2 A3 A4 A5 : Option Addr) (c1 c2 c3 c4 c5 : Nat) (at_ m : Int) (hm0 : 0 ≤ m) (hm : m ≤ 38400) (hu0 : 0 ≤ d.u) (hu : d.u ≤ 38399) (hn : d.py.length ≤ 100) (w : World) (h : RowsAt w A4 4 Pay.g d.py) {K : Act → World → Prop} {Q : Exit → Act → World → Prop} (u0 u4 u5 u6 u8 u9 u10 u11 u12 u13 u14 u15 u16 u17 u18 u19 u23 u24 u25 u26 u27 u28 u29 u30 u31 u32 u33 u34 u35 u36 u37 u38 u39 u40 u41 u42 u43 u44 u45 u46 u47 u48 u49 u50 u51 u52 u53 u54 u55 u56 u57 u58 u59 u60 u61 u62 u63 u64 u65 u66 u67 u68 u69 u70 u71 u72 u73 u74 u75 u76 u77 u78 u79 u80 u81 : Value) (wr : World) (B : St w wr [(w.heap.size, #[.int .i64 d.f, .int .i64 d.u, .slice A1 d.sp.length c1, .slice A2 d.ov.length c2, .slice A3 d.df.length c3, .slice A4 d.py.length c4, .slice A5 d.fo.length c5], 28)])
    (hK : ∀ (v10 v11 v12 v23 v24 v25 v26 v27 v28 v29 v30 v31 v32 v33 v34 v35 v36 v37 v38 v39 v40 v41 v42 v43 v44 v45 v46 v47 v48 v49 v50 v51 v52 v53 v54 v55 : Value) (v7 : Value) (w' : World), w'.ownsRow w.heap.size 45 4 v7 (d.py.filter (inW d.u at_ m)).length (payL (d.py.filter (inW d.u at_ m))) → NoOwn v7 [(w.heap.size, #[.int .i64 d.f, .int .i64 d.u, .slice A1 d.sp.length c1, .slice A2 d.ov.length c2, .slice A3 d.df.length c3, .slice A4 d.py.length c4, .slice A5 d.fo.length c5], 28)] → St w w' [(w.heap.size, #[.int .i64 d.f, .int .i64 d.u, .slice A1 d.sp.length c1, .slice A2 d.ov.length c2, .slice A3 d.df.length c3, .slice A4 d.py.length c4, .slice A5 d.fo.length c5], 28)] → K ⟨#[u0, .int .i64 at_, .int .i64 m, .pointer (some ⟨w.heap.size, 0, none⟩), u4, u5, u6, v7, u8, u9, v10, v11, v12, u13, u14, u15, u16, u17, u18, u19, .slice A4 d.py.length c4, .int .i64 d.py.length, .int .i64 d.py.length, v23, v24, v25, v26, v27, v28, v29, v30, v31, v32, v33, v34, v35, v36, v37, v38, v39, v40, v41, v42, v43, v44, v45, v46, v47, v48, v49, v50, v51, v52, v53, v54, v55, u56, u57, u58, u59, u60, u61, u62, u63, u64, u65, u66, u67, u68, u69, u70, u71, u72, u73, u74, u75, u76, u77, u78, u79, u80, u81], []⟩ w') :
    Code.wp Tryz.prog (codeAt Tryz.f15 [1, 1, 1, 0, 1, 0]) (Exit.inBlock 0 (Exit.then K Q)) ⟨#[u0, .int .i64 at_, .int .i64 m, .pointer (some ⟨w.heap.size, 0, none⟩), u4, u5, u6, .slice none 0 0, u8, u9, u10, u11, u12, u13, u14, u15, u16, u17, u18, u19, .slice A4 d.py.length c4, .int .i64 d.py.length, .int .i64 0, u23, u24, u25, u26, u27, u28, u29, u30, u31, u32, u33, u34, u35, u36, u37, u38, u39, u40, u41, u42, u43, u44, u45, u46, u47, u48, u49, u50, u51, u52, u53, u54, u55, u56, u57, u58, u59, u60, u61, u62, u63, u64, u65, u66, u67, u68, u69, u70, u71, u72, u73, u74, u75, u76, u77, u78, u79, u80, u81], []⟩ wr := by
  show Code.wp Tryz.prog (Code.loop _) _ _ _
  dsimp only
  have H := Lib.hid h
  have HK := Lib.hid hK
  have CR := Lib.hid (fun k W => reach_any k m d.u hm0 (by omega) hu0 (by omega) W)
  clear h hK
  obtain ⟨i0, hi0, hz0, hz1, hz2⟩ := info_parts info45
  go_loopw [7, 22] (P1 w [(w.heap.size, #[.int .i64 d.f, .int .i64 d.u, .slice A1 d.sp.length c1, .slice A2 d.ov.length c2, .slice A3 d.df.length c3, .slice A4 d.py.length c4, .slice A5 d.fo.length c5], 28)] (inW d.u at_ m) d.py) (fun _ v _ => d.py.length - (intOf v).toNat)
  case atStart => exact ⟨0, by omega, rfl, ⟨by simp [payL], .inl ⟨rfl, by simp⟩⟩, NoOwn.nil, B⟩
  case round =>
    clear B
    obtain ⟨k, hk, rfl, hown, hno, B⟩ := hrel
    have Hown := Lib.hid hown
    have Hno := Lib.hid hno
    clear hown hno
    have R := B.rules
    simp only [Rules] at R
    by_cases hlt : k < d.py.length
    · have hlt' : (k : Int) < d.py.length := by omega
      have hx : d.py[k]? = some d.py[k] := List.getElem?_eq_getElem hlt
      have HS := Lib.hid (filt_succ (q := (inW d.u at_ m)) hx)
      have hfl : ((d.py.take k).filter (inW d.u at_ m)).length ≤ k := Nat.le_trans (List.length_filter_le _ _) (by rw [List.length_take]; omega)
      obtain ⟨ad, ha, hl, e0, e⟩ := (H.out.later B.below) k _ hx
      have e1 := e 1 (by omega) (by omega)
      have e2 := e 2 (by omega) (by omega)
      have e3 := e 3 (by omega) (by omega)
      clear e hx
      generalize d.py[k] = x at HS e0 e1 e2 e3
      simp only [Pay.g] at e0 e1 e2 e3
      have Hq := Lib.hid (show inW d.u at_ m x = (decide (x.a ≤ at_) && (decide (loR x.k m ≤ x.a) && decide (x.a ≤ hiR x.k d.u))) from rfl)
      generalize inW d.u at_ m x = r at HS Hq
      generalize hf : (d.py.take k).filter (inW d.u at_ m) = fl at Hown HS hfl
      clear hf
      subst ha
      go_wp2_with fail
      refine (CR.out _ _).mono ?_
      rintro e' w1 ⟨rfl, rfl⟩
      generalize loR x.k m = lo at Hq
      generalize hiR x.k d.u = hi at Hq
      generalize hX : World.alloc _ _ = X
      have Hown1 := Lib.hid (show X.ownsRow w.heap.size 45 4 u7 fl.length (payL fl) from hX ▸ own_alloc Hown.out _)
      replace B := St.cast hX (B.alloc _ _)
      clear hX R Hown
      have R := B.rules
      simp only [Rules] at R
      have low : r = false → P1 w [(w.heap.size, #[.int .i64 d.f, .int .i64 d.u, .slice A1 d.sp.length c1, .slice A2 d.ov.length c2, .slice A3 d.df.length c3, .slice (some ad) d.py.length c4, .slice A5 d.fo.length c5], 28)] (inW d.u at_ m) d.py u7 (.int .i64 (k + 1 : Nat)) X := fun hr => ⟨k + 1, by omega, rfl, by rw [HS.out, hr]; simpa using Hown1.out, Hno.out, B.below, B.blks.2⟩
      have Low := Lib.hid low
      clear low
      by_cases q1 : x.a ≤ at_
      rotate_left
      · have hr : r = false := by rw [Hq.out]; simp [q1]
        go_wp2
        exact ⟨by simpa using Low.out hr, by simp [intOf]; omega⟩
      by_cases q2 : lo ≤ x.a
      rotate_left
      · have hr : r = false := by rw [Hq.out]; simp [q2]
        go_wp2
        exact ⟨by simpa using Low.out hr, by simp [intOf]; omega⟩
      by_cases q3 : x.a ≤ hi
      rotate_left
      · have hr : r = false := by rw [Hq.out]; simp [q3]
        have q3d : decide (x.a ≤ hi) = false := by simp [q3]
        go_wp2
        exact ⟨by simpa using Low.out hr, by simp [intOf]; omega⟩
      have hr : r = true := by rw [Hq.out]; simp [q1, q2, q3]
      have q3d : decide (x.a ≤ hi) = true := by simp [q3]
      subst hr
      have B0 : St w X [(w.heap.size, #[.int .i64 d.f, .int .i64 d.u, .slice A1 d.sp.length c1, .slice A2 d.ov.length c2, .slice A3 d.df.length c3, .slice (some ad) d.py.length c4, .slice A5 d.fo.length c5], 28)] := ⟨B.below, B.blks.2⟩
      go_wp2_with (at_builtin; refine wpList_push (B0.skip _) rfl _ _ rfl Tryz.underlying25 hi0 hz0 hz1 hz2 rfl (by decide) rfl (own_alloc Hown1.out _) Hno.out rfl (news := payC x) rfl (cells_new _ (payC x) _) (one_cells rfl) (by simp only [maxLen]; omega) (by omega) ?_)
      intro v' w2 hown hno B2
      clear R Low
      have R := B2.rules
      simp only [Rules] at R
      go_wp2
      exact ⟨⟨k + 1, by omega, by go_num, by rw [HS.out]; simpa [payL] using hown, hno, B2⟩, by simp [intOf]; omega⟩
    · obtain rfl : k = d.py.length := by omega
      rw [List.take_length] at Hown
      go_wp2_with fail
      exact HK.out _ _ _ _ _ _ _ _ _ _ _ _ _ _ _ _ _ _ _ _ _ _ _ _ _ _ _ _ _ _ _ _ _ _ _ _ _ _ Hown.out Hno.out B


/-- Each element once, of a list in order. -/
def newAt (s : List Pay) (k : Nat) : Bool := decide (k = 0) || decide (s[k]? ≠ s[k - 1]?)
def dd (s : List Pay) : Nat → List Pay
  | 0 => []
  | k + 1 => dd s k ++ (if newAt s k then (s[k]?).toList else [])
theorem dd_len (s : List Pay) : ∀ k, (dd s k).length ≤ k
  | 0 => by simp [dd]
  | k + 1 => by
    have ih := dd_len s k
    simp only [dd, List.length_append]
    split
    · cases s[k]? <;> simp <;> omega
    · simp; omega
def P2 (w : World) (L : List (Nat × Array Value × TypeId)) (s : List Pay) (v8 v60 : Value) (wr : World) : Prop :=
  ∃ k : Nat, k ≤ s.length ∧ v60 = .int .i64 k ∧ wr.ownsRow w.heap.size 45 4 v8 (dd s k).length (payL (dd s k)) ∧ NoOwn v8 L ∧ St w wr L

set_option maxRecDepth 100000 in
set_option maxHeartbeats 4000000 in
theorem pay_loop1 (A : Option Addr) (c : Nat) (s : List Pay) (hs : s.length ≤ 100) (w : World) (L : List (Nat × Array Value × TypeId)) (hR : ∀ W', St w W' L → RowsAt W' A 4 Pay.g s) {K : Act → World → Prop} {Q : Exit → Act → World → Prop} (u0 u1 u2 u3 u4 u5 u6 u9 u10 u11 u12 u13 u14 u15 u16 u17 u18 u19 u20 u21 u22 u23 u24 u25 u26 u27 u28 u29 u30 u31 u32 u33 u34 u35 u36 u37 u38 u39 u40 u41 u42 u43 u44 u45 u46 u47 u48 u49 u50 u51 u52 u53 u54 u55 u56 u57 u61 u62 u63 u64 u65 u66 u67 u68 u69 u70 u71 u72 u73 u74 u75 u76 u77 u78 u79 u80 u81 : Value) (wr : World) (B : St w wr L)
    (hK : ∀ (v13 v14 v61 v62 v63 v64 v65 v66 v67 v68 v69 v70 v71 v72 v73 v74 v75 v76 v77 v78 v79 v80 : Value) (v8 : Value) (w' : World), w'.ownsRow w.heap.size 45 4 v8 (dd s s.length).length (payL (dd s s.length)) → NoOwn v8 L → St w w' L → K ⟨#[u0, u1, u2, u3, u4, u5, u6, .slice A s.length c, v8, u9, u10, u11, u12, v13, v14, u15, u16, u17, u18, u19, u20, u21, u22, u23, u24, u25, u26, u27, u28, u29, u30, u31, u32, u33, u34, u35, u36, u37, u38, u39, u40, u41, u42, u43, u44, u45, u46, u47, u48, u49, u50, u51, u52, u53, u54, u55, u56, u57, .slice A s.length c, .int .i64 s.length, .int .i64 s.length, v61, v62, v63, v64, v65, v66, v67, v68, v69, v70, v71, v72, v73, v74, v75, v76, v77, v78, v79, v80, u81], []⟩ w') :
    Code.wp Tryz.prog (codeAt Tryz.f15 [1, 1, 1, 1, 1, 0, 1, 0]) (Exit.inBlock 2 (Exit.then K Q)) ⟨#[u0, u1, u2, u3, u4, u5, u6, .slice A s.length c, .slice none 0 0, u9, u10, u11, u12, u13, u14, u15, u16, u17, u18, u19, u20, u21, u22, u23, u24, u25, u26, u27, u28, u29, u30, u31, u32, u33, u34, u35, u36, u37, u38, u39, u40, u41, u42, u43, u44, u45, u46, u47, u48, u49, u50, u51, u52, u53, u54, u55, u56, u57, .slice A s.length c, .int .i64 s.length, .int .i64 0, u61, u62, u63, u64, u65, u66, u67, u68, u69, u70, u71, u72, u73, u74, u75, u76, u77, u78, u79, u80, u81], []⟩ wr := by
  show Code.wp Tryz.prog (Code.loop _) _ _ _
  dsimp only
  have H := Lib.hid hR
  have HK := Lib.hid hK
  clear hR hK
  obtain ⟨i0, hi0, hz0, hz1, hz2⟩ := info_parts info45
  go_loopw [8, 60] (P2 w L s) (fun _ v _ => s.length - (intOf v).toNat)
  case atStart => exact ⟨0, by omega, rfl, ⟨by simp [payL, dd], .inl ⟨rfl, by simp [dd]⟩⟩, NoOwn.nil, B⟩
  case round =>
    clear B
    obtain ⟨k, hk, rfl, hown, hno, B⟩ := hrel
    have Hown := Lib.hid hown
    have Hno := Lib.hid hno
    clear hown hno
    by_cases hlt : k < s.length
    · have hlt' : (k : Int) < s.length := by omega
      have hx : s[k]? = some s[k] := List.getElem?_eq_getElem hlt
      generalize s[k] = x at hx
      have hfl := dd_len s k
      have Hd : dd s (k + 1) = dd s k ++ (if newAt s k then [x] else []) := by rw [dd, hx]; rfl
      have Hn : newAt s k = (decide (k = 0) || decide (s[k]? ≠ s[k - 1]?)) := rfl
      rw [hx] at Hn
      generalize newAt s k = r at Hd Hn
      have HD := Lib.hid Hd
      have HN := Lib.hid Hn
      clear Hd Hn
      obtain ⟨ad, ha, hl, e0, e⟩ := (H.out _ B) k _ hx
      have e1 := e 1 (by omega) (by omega)
      have e2 := e 2 (by omega) (by omega)
      have e3 := e 3 (by omega) (by omega)
      clear e hx
      subst ha
      obtain ⟨xk, xt, xf, xa⟩ := x
      simp only [Pay.g] at e0 e1 e2 e3
      go_wp2_with fail
      generalize hX : World.alloc _ _ = X
      have Hown1 := Lib.hid (show X.ownsRow w.heap.size 45 4 u8 (dd s k).length (payL (dd s k)) from hX ▸ own_alloc Hown.out _)
      replace B := St.cast hX (B.alloc _ _)
      clear hX Hown e0 e1 e2 e3
      have R := B.rules
      simp only [Rules] at R
      have B0 : St w X L := ⟨B.below, B.blks.2⟩
      by_cases h0 : k = 0
      · have hr : r = true := by rw [HN.out, h0]; rfl
        have h0i : (k : Int) = 0 := by omega
        subst hr
        refine wp_region_later (by kernel_rfl) (by kernel_rfl) ?_
        repeat (go_big_quiet_step (fail))
        refine wpQuiet_nil ?_
        rintro _ ⟨⟨wq, hq⟩, rfl⟩
        have Hown2 := Lib.hid (own_later Hown1.out hq)
        replace B := B.later hq
        clear R Hown1 hq B0
        have R := B.rules
        simp only [Rules] at R
        have B0 : St w _ L := ⟨B.below, B.blks.2⟩
        go_wp2_with (at_builtin; refine wpList_push (B0.skip _) rfl _ _ rfl Tryz.underlying25 hi0 hz0 hz1 hz2 rfl (by decide) rfl (own_alloc Hown2.out _) Hno.out rfl (news := payC ⟨xk, xt, xf, xa⟩) rfl (cells_new _ (payC ⟨xk, xt, xf, xa⟩) _) (one_cells rfl) (by simp only [maxLen]; omega) (by omega) ?_)
        intro v' w2 hown hno B2
        clear R h0i
        go_wp2
        exact ⟨⟨k + 1, by omega, by go_num, by rw [HD.out]; simpa [payL, h0] using hown, hno, B2⟩, by simp [intOf]; omega⟩
      · obtain ⟨j, hj⟩ : ∃ j, k = j + 1 := ⟨k - 1, by omega⟩
        have hji : (k : Int) - 1 = (j : Int) := by omega
        have h0d : decide (k = 0) = false := by simp [h0]
        have h0e : ((k : Int) == 0) = false := by simp; omega
        have hy : s[j]? = some (s[j]'(by omega)) := List.getElem?_eq_getElem (by omega)
        generalize s[j]'(by omega) = y at hy
        have hr : r = decide ((⟨xk, xt, xf, xa⟩ : Pay) ≠ y) := by
          rw [HN.out, show k - 1 = j by omega, hy]
          simp [h0]
        have hlj : j < s.length := by omega
        have hlj' : (j : Int) < s.length := by omega
        obtain ⟨yk, yt, yf, ya⟩ := y
        obtain ⟨ad2, ha, hl2, f0, f⟩ := (H.out _ B0) j _ hy
        cases ha
        have f1 := f 1 (by omega) (by omega)
        have f2 := f 2 (by omega) (by omega)
        have f3 := f 3 (by omega) (by omega)
        clear f hy B0
        simp only [Pay.g] at f0 f1 f2 f3
        have Hr := Lib.hid hr
        clear hr hj
        have HSK := Lib.hid h0
        clear h0 h0d
        cases h1 : (xk == yk) with
        | false =>
          have HR := Lib.hid (show r = true from by rw [Hr.out]; simp at h1; simp [h1])
          refine wp_region_later (by kernel_rfl) (by kernel_rfl) ?_
          repeat (go_big_quiet_step (fail))
          refine wpQuiet_nil ?_
          rintro _ ⟨⟨wq, hq⟩, rfl⟩
          have Hown2 := Lib.hid (own_later Hown1.out hq)
          replace B := B.later hq
          clear R Hown1 hq f0 f1 f2 f3
          have R := B.rules
          simp only [Rules] at R
          have B0 : St w _ L := ⟨B.below, B.blks.2⟩
          go_wp2_with (at_builtin; refine wpList_push (B0.skip _) rfl _ _ rfl Tryz.underlying25 hi0 hz0 hz1 hz2 rfl (by decide) rfl (own_alloc Hown2.out _) Hno.out rfl (news := payC ⟨xk, xt, xf, xa⟩) rfl (cells_new _ (payC ⟨xk, xt, xf, xa⟩) _) (one_cells rfl) (by simp only [maxLen]; omega) (by omega) ?_)
          intro v' w2 hown hno B2
          clear R h0e hji
          go_wp2
          exact ⟨⟨k + 1, by omega, by go_num, by rw [HD.out, HR.out]; simpa [payL] using hown, hno, B2⟩, by simp [intOf]; omega⟩
        | true =>
          cases h2 : (xt == yt) with
          | false =>
            have HR := Lib.hid (show r = true from by rw [Hr.out]; simp at h2; simp [h2])
            refine wp_region_later (by kernel_rfl) (by kernel_rfl) ?_
            repeat (go_big_quiet_step (fail))
            refine wpQuiet_nil ?_
            rintro _ ⟨⟨wq, hq⟩, rfl⟩
            have Hown2 := Lib.hid (own_later Hown1.out hq)
            replace B := B.later hq
            clear R Hown1 hq f0 f1 f2 f3
            have R := B.rules
            simp only [Rules] at R
            have B0 : St w _ L := ⟨B.below, B.blks.2⟩
            go_wp2_with (at_builtin; refine wpList_push (B0.skip _) rfl _ _ rfl Tryz.underlying25 hi0 hz0 hz1 hz2 rfl (by decide) rfl (own_alloc Hown2.out _) Hno.out rfl (news := payC ⟨xk, xt, xf, xa⟩) rfl (cells_new _ (payC ⟨xk, xt, xf, xa⟩) _) (one_cells rfl) (by simp only [maxLen]; omega) (by omega) ?_)
            intro v' w2 hown hno B2
            clear R h0e hji
            go_wp2
            exact ⟨⟨k + 1, by omega, by go_num, by rw [HD.out, HR.out]; simpa [payL] using hown, hno, B2⟩, by simp [intOf]; omega⟩
          | true =>
            cases h3 : (xf == yf) with
            | false =>
              have HR := Lib.hid (show r = true from by rw [Hr.out]; simp at h3; simp [h3])
              refine wp_region_later (by kernel_rfl) (by kernel_rfl) ?_
              repeat (go_big_quiet_step (fail))
              refine wpQuiet_nil ?_
              rintro _ ⟨⟨wq, hq⟩, rfl⟩
              have Hown2 := Lib.hid (own_later Hown1.out hq)
              replace B := B.later hq
              clear R Hown1 hq f0 f1 f2 f3
              have R := B.rules
              simp only [Rules] at R
              have B0 : St w _ L := ⟨B.below, B.blks.2⟩
              go_wp2_with (at_builtin; refine wpList_push (B0.skip _) rfl _ _ rfl Tryz.underlying25 hi0 hz0 hz1 hz2 rfl (by decide) rfl (own_alloc Hown2.out _) Hno.out rfl (news := payC ⟨xk, xt, xf, xa⟩) rfl (cells_new _ (payC ⟨xk, xt, xf, xa⟩) _) (one_cells rfl) (by simp only [maxLen]; omega) (by omega) ?_)
              intro v' w2 hown hno B2
              clear R h0e hji
              go_wp2
              exact ⟨⟨k + 1, by omega, by go_num, by rw [HD.out, HR.out]; simpa [payL] using hown, hno, B2⟩, by simp [intOf]; omega⟩
            | true =>
              cases h4 : (xa == ya) with
              | false =>
                have HR := Lib.hid (show r = true from by rw [Hr.out]; simp at h4; simp [h4])
                refine wp_region_later (by kernel_rfl) (by kernel_rfl) ?_
                repeat (go_big_quiet_step (fail))
                refine wpQuiet_nil ?_
                rintro _ ⟨⟨wq, hq⟩, rfl⟩
                have Hown2 := Lib.hid (own_later Hown1.out hq)
                replace B := B.later hq
                clear R Hown1 hq f0 f1 f2 f3
                have R := B.rules
                simp only [Rules] at R
                have B0 : St w _ L := ⟨B.below, B.blks.2⟩
                go_wp2_with (at_builtin; refine wpList_push (B0.skip _) rfl _ _ rfl Tryz.underlying25 hi0 hz0 hz1 hz2 rfl (by decide) rfl (own_alloc Hown2.out _) Hno.out rfl (news := payC ⟨xk, xt, xf, xa⟩) rfl (cells_new _ (payC ⟨xk, xt, xf, xa⟩) _) (one_cells rfl) (by simp only [maxLen]; omega) (by omega) ?_)
                intro v' w2 hown hno B2
                clear R h0e hji
                go_wp2
                exact ⟨⟨k + 1, by omega, by go_num, by rw [HD.out, HR.out]; simpa [payL] using hown, hno, B2⟩, by simp [intOf]; omega⟩
              | true =>
                have HR := Lib.hid (show r = false from by rw [Hr.out]; simp at h1 h2 h3 h4; simp [h1, h2, h3, h4])
                refine wp_region_later (by kernel_rfl) (by kernel_rfl) ?_
                repeat (go_big_quiet_step (fail))
                refine wpQuiet_nil ?_
                rintro _ ⟨⟨wq, hq⟩, rfl⟩
                have Hown2 := Lib.hid (own_later Hown1.out hq)
                replace B := B.later hq
                clear R Hown1 hq f0 f1 f2 f3
                have R := B.rules
                simp only [Rules] at R
                have B0 : St w _ L := ⟨B.below, B.blks.2⟩
                clear R h0e hji
                go_wp2
                exact ⟨⟨k + 1, by omega, by go_num, by rw [HD.out, HR.out]; simpa using Hown2.out, Hno.out, B0⟩, by simp [intOf]; omega⟩
    · obtain rfl : k = s.length := by omega
      go_wp2_with fail
      exact HK.out _ _ _ _ _ _ _ _ _ _ _ _ _ _ _ _ _ _ _ _ _ _ _ _ Hown.out Hno.out B

end Go.Proofs.YtbkipanlicgooaaGreatDoor
namespace Go.Proofs.YtbkipanlicgooaaGreatDoor
open Go.RowKit

/-! ### What an own row holds -/
def rowC {α : Type} (g : α → Nat → Int) (sz : Nat) (x : α) : List Value := (List.range sz).map fun j => .int .i64 (g x j)
def rowL {α : Type} (g : α → Nat → Int) (sz : Nat) (l : List α) : List Value := l.flatMap (rowC g sz)
theorem rowC_len {α : Type} (g : α → Nat → Int) (sz : Nat) (x : α) : (rowC g sz x).length = sz := by simp [rowC]
theorem rowL_get {α : Type} {g : α → Nat → Int} {sz : Nat} : ∀ {l : List α} {i j : Nat} {x : α}, l[i]? = some x → j < sz → (rowL g sz l)[i * sz + j]? = some (.int .i64 (g x j))
  | [], i, j, x, h, _ => by simp at h
  | y :: l, 0, j, x, h, hj => by
    simp only [List.getElem?_cons_zero, Option.some.injEq] at h
    subst h
    simp only [rowL, List.flatMap_cons, Nat.zero_mul, Nat.zero_add]
    rw [List.getElem?_append_left (by rw [rowC_len]; exact hj)]
    simp [rowC, hj]
  | y :: l, i + 1, j, x, h, hj => by
    simp only [List.getElem?_cons_succ] at h
    simp only [rowL, List.flatMap_cons]
    rw [List.getElem?_append_right (by rw [rowC_len, Nat.succ_mul]; omega), rowC_len]
    have := rowL_get (g := g) h hj
    rw [show (i + 1) * sz + j - sz = i * sz + j by rw [Nat.succ_mul]; omega]
    exact this
theorem rowL_len {α : Type} (g : α → Nat → Int) (sz : Nat) : ∀ l : List α, (rowL g sz l).length = l.length * sz
  | [] => by simp [rowL]
  | x :: l => by
    have := rowL_len g sz l
    simp only [rowL] at this ⊢
    rw [List.flatMap_cons, List.length_append, rowC_len, this, List.length_cons, Nat.succ_mul]
    omega
theorem payL_eq (l : List Pay) : payL l = rowL Pay.g 4 l := rfl
theorem lit_add (g k : Nat) : (⟨g, 0, none⟩ : Addr).add k = ⟨g, k, none⟩ := by unfold Addr.add; split <;> simp_all
/-- Cells of a block, as elements. -/
theorem rows_of_blk {α : Type} {W : World} {b : Nat} {cs : Array Value} {t : TypeId} {fz : Nat × Nat} {g : α → Nat → Int} {sz : Nat} {l : List α} (hb : W.heap[b]? = some (.cells cs t fz)) (hsz : 0 < sz) (h : ∀ i x, l[i]? = some x → ∀ j, j < sz → cs[i * sz + j]? = some (.int .i64 (g x j))) :
    RowsAt W (some ⟨b, 0, none⟩) sz g l := by
  intro i x hx
  refine ⟨_, rfl, ?_, ?_, fun j hj hs => ?_⟩
  · rw [lit_add]; exact lt_of_block hb
  · rw [lit_add]; exact cell_blk hb _ _ (by simpa using h i x hx 0 hsz)
  · rw [lit_add]; exact cell_blk hb _ _ (h i x hx j hs)
/-- Behind a slice lies a block of cells, none of them frozen, that was not there when there were n blocks. -/
def Plain (n : Nat) (W : World) (A : Option Addr) : Prop := ∀ ad, A = some ad → n ≤ ad.block ∧ ∃ cs t, W.heap[ad.block]? = some (.cells cs t (0, 0))
theorem Plain.nil {n : Nat} {W : World} : Plain n W none := nofun
theorem Plain.mono {n k : Nat} {W : World} {A : Option Addr} (h : Plain n W A) (hk : k ≤ n) : Plain k W A := fun ad e => ⟨Nat.le_trans hk (h ad e).1, (h ad e).2⟩
theorem Plain.later {n : Nat} {W W' : World} {A : Option Addr} (h : Plain n W A) (hb : Below W.heap.size W W') : Plain n W' A := fun ad e => by
  obtain ⟨h1, cs, t, hh⟩ := h ad e
  exact ⟨h1, cs, t, blk_later hh hb⟩
theorem own_plain {w : World} {base sz n c : Nat} {e : TypeId} {A : Option Addr} {xs : List Value} (h : w.ownsRow base e sz (.slice A n c) n xs) : Plain base w A := by
  intro ad he
  rcases h.2 with ⟨h1, _⟩ | ⟨b, cap, cur, h1, hg, hh, _⟩
  · cases h1; cases he
  · cases h1
    cases he
    exact ⟨hg, _, _, hh⟩
theorem own_rows {α : Type} {w : World} {base sz : Nat} {e : TypeId} {v : Value} {g : α → Nat → Int} {l : List α} (hsz : 0 < sz) (h : w.ownsRow base e sz v l.length (rowL g sz l)) :
    ∃ (A : Option Addr) (c : Nat), v = .slice A l.length c ∧ l.length ≤ c ∧ RowsAt w A sz g l := by
  rcases h.2 with ⟨rfl, hn⟩ | ⟨b, cap, cur, rfl, hb, hh, hnc, _, hcs, htake⟩
  · have : l = [] := List.eq_nil_of_length_eq_zero hn
    subst this
    exact ⟨none, 0, rfl, Nat.le_refl _, fun i x hx => by simp at hx⟩
  · refine ⟨_, _, rfl, hnc, rows_of_blk hh hsz fun i x hx j hj => ?_⟩
    have h1 := rowL_get (g := g) hx hj
    rw [← htake, List.getElem?_take] at h1
    split at h1
    · simpa using h1
    · cases h1
/-- A row that is owned: nil, or a block. -/
theorem own_cases {w : World} {base n : Nat} {v : Value} {l : List Pay} (h : w.ownsRow base 45 4 v n (payL l)) (hn : n = l.length) :
    (v = .slice none 0 0 ∧ l = []) ∨ ∃ g cap cur, v = .slice (some ⟨g, 0, none⟩) l.length cap ∧ base ≤ g ∧ w.heap[g]? = some (.cells cur 45 (0, 0)) ∧ FlatP cur l := by
  rcases h.2 with ⟨rfl, h0⟩ | ⟨b, cap, cur, rfl, hb, hh, hnc, _, hcs, htake⟩
  · exact .inl ⟨rfl, List.eq_nil_of_length_eq_zero (by omega)⟩
  · refine .inr ⟨b, cap, cur, by rw [hn], hb, hh, fun i x hx => ?_⟩
    have key : ∀ j, j < 4 → cur[i * 4 + j]? = some (.int .i64 (x.g j)) := fun j hj => by
      have h1 := rowL_get (g := Pay.g) hx hj
      rw [← payL_eq, ← htake, List.getElem?_take] at h1
      split at h1
      · simpa using h1
      · cases h1
    exact ⟨by simpa [Pay.g] using key 0 (by omega), key 1 (by omega), key 2 (by omega), key 3 (by omega)⟩
theorem FlatP.rows {cs : Array Value} {l : List Pay} (h : FlatP cs l) : ∀ i x, l[i]? = some x → ∀ j, j < 4 → cs[i * 4 + j]? = some (.int .i64 (Pay.g x j)) := by
  intro i x hx j hj
  obtain ⟨h0, h1, h2, h3⟩ := h i x hx
  have : j = 0 ∨ j = 1 ∨ j = 2 ∨ j = 3 := by omega
  rcases this with rfl | rfl | rfl | rfl
  · simpa [Pay.g] using h0
  · exact h1
  · exact h2
  · exact h3

/-! ### Sorting nothing -/
set_option maxRecDepth 100000 in
set_option maxHeartbeats 4000000 in
theorem isort_nil (W : World) : Calls Tryz.prog 114 #[.slice none 0 0, .int .i64 0, .int .i64 0, .func (.func 25) #[] #[]] W (fun e W' => e = .returned (.tuple #[]) ∧ W' = W) := by
  go_enter Tryz.func114, Tryz.ntmps114
  go_wp2_with fail
  go_loopw [8] (fun v8 wr => v8 = .int .i64 1 ∧ wr = W) (fun _ _ => 0)
  case atStart => exact ⟨rfl, rfl⟩
  case round =>
    obtain ⟨rfl, rfl⟩ := hrel
    go_wp2
    go_end0
    exact ⟨rfl, rfl⟩
set_option maxRecDepth 100000 in
set_option maxHeartbeats 4000000 in
theorem pdq_nil (lim : Int) (W : World) : Calls Tryz.prog 53 #[.slice none 0 0, .int .i64 0, .int .i64 0, .int .i64 lim, .func (.func 25) #[] #[]] W (fun e W' => e = .returned (.tuple #[]) ∧ W' = W) := by
  have C := Lib.hid isort_nil
  go_enter Tryz.func53, Tryz.ntmps53
  go_wp2_with fail
  go_loopw [1, 2, 3, 10, 11] (fun v1 v2 v3 v10 v11 wr => v1 = .int .i64 0 ∧ v2 = .int .i64 0 ∧ v3 = .int .i64 lim ∧ v10 = .bool true ∧ v11 = .bool true ∧ wr = W) (fun _ _ _ _ _ _ => 0)
  case atStart => exact ⟨rfl, rfl, rfl, rfl, rfl, rfl⟩
  case round =>
    obtain ⟨rfl, rfl, rfl, rfl, rfl, rfl⟩ := hrel
    go_wp2_with fail
    refine (C.out _).mono ?_
    rintro e' w1 ⟨rfl, rfl⟩
    go_wp2
    exact bodyPost_ret (v := .tuple #[]) (by simp [results, Tryz.results53, go_sem]) rfl ⟨rfl, rfl⟩
set_option maxRecDepth 100000 in
set_option maxHeartbeats 4000000 in
theorem sort_nil (W : World) : Calls Tryz.prog 24 #[.slice none 0 0, .func (.func 25) #[] #[]] W (fun e W' => e = .returned (.tuple #[]) ∧ W' = W) := by
  have C := Lib.hid (fun lim => pdq_nil lim W)
  have CL := Lib.hid (len_any 0 (by omega) W)
  go_enter Tryz.func24, Tryz.ntmps24
  go_wp2_with fail
  refine CL.out.mono ?_
  rintro e' w1 ⟨k, rfl, rfl⟩
  go_wp2_with fail
  refine (C.out k).mono ?_
  rintro e' w2 ⟨rfl, rfl⟩
  go_wp2
  go_end0
  exact ⟨rfl, rfl⟩

/-! ### The whole -/
/-- The payments that can matter from a moment on, in order, each one once. -/
def payS (u at_ m : Int) (l : List Pay) : List Pay := if u < m then [] else dd (srt (l.filter (inW u at_ m)) ((l.filter (inW u at_ m)).length - 1)) (l.filter (inW u at_ m)).length
set_option maxRecDepth 100000 in
set_option maxHeartbeats 4000000 in
theorem payments_any (d : Scr) (A1 A2 A3 A4 A5 : Option Addr) (c1 c2 c3 c4 c5 : Nat) (at_ m : Int) (hm0 : 0 ≤ m) (hm : m ≤ 38400) (hu0 : 0 ≤ d.u) (hu : d.u ≤ 38399) (hn : d.py.length ≤ 100) (hf : (d.py.filter (inW d.u at_ m)).length ≤ 12) (w : World) (h : RowsAt w A4 4 Pay.g d.py) :
    Calls Tryz.prog 15 #[scrV d A1 A2 A3 A4 A5 c1 c2 c3 c4 c5, .int .i64 at_, .int .i64 m] w
      (fun e w' => ∃ A c, e = .returned (.slice A (payS d.u at_ m d.py).length c) ∧ RowsAt w' A 4 Pay.g (payS d.u at_ m d.py) ∧ Plain w.heap.size w' A ∧ Below w.heap.size w w') := by
  have H := Lib.hid h
  clear h
  unfold scrV
  by_cases hum : d.u < m
  · have hp : payS d.u at_ m d.py = [] := by simp [payS, hum]
    rw [hp]
    clear hp
    go_enter Tryz.func15, Tryz.ntmps15
    go_wp2
    go_ret
    exact ⟨none, 0, rfl, fun i x hx => by simp at hx, .nil, by go_grown⟩
  · have hp : payS d.u at_ m d.py = dd (srt (d.py.filter (inW d.u at_ m)) ((d.py.filter (inW d.u at_ m)).length - 1)) (d.py.filter (inW d.u at_ m)).length := by rw [payS, if_neg hum]
    have HP := Lib.hid hp
    clear hp
    have hmu : ¬ (d.u < m) := hum
    go_enter Tryz.func15, Tryz.ntmps15
    have B := St.start w
    go_wp2_with fail
    generalize hX : World.alloc _ _ = X
    replace B := St.cast hX (B.alloc _ _)
    clear hX
    refine pay_loop0 d A1 A2 A3 A4 A5 c1 c2 c3 c4 c5 at_ m hm0 hm hu0 hu hn w H.out _ _ _ _ _ _ _ _ _ _ _ _ _ _ _ _ _ _ _ _ _ _ _ _ _ _ _ _ _ _ _ _ _ _ _ _ _ _ _ _ _ _ _ _ _ _ _ _ _ _ _ _ _ _ _ _ _ _ _ _ _ _ _ _ _ _ _ _ _ _ _ _ _ _ _ _ B ?_
    clear B
    intro v10 v11 v12 v23 v24 v25 v26 v27 v28 v29 v30 v31 v32 v33 v34 v35 v36 v37 v38 v39 v40 v41 v42 v43 v44 v45 v46 v47 v48 v49 v50 v51 v52 v53 v54 v55 v7 w1 hown hno B
    have R := B.rules
    simp only [Rules] at R
    generalize hfl : d.py.filter (inW d.u at_ m) = fl at hown HP hf
    clear hfl
    rcases own_cases hown rfl with ⟨rfl, rfl⟩ | ⟨g, cap, cur, rfl, hg, hh, hfl⟩
    · clear hown hno
      dsimp only
      go_wp2_with fail
      refine (sort_nil _).mono ?_
      rintro e' w2 ⟨rfl, rfl⟩
      go_wp2_with fail
      refine pay_loop1 none 0 [] (by simp) w _ (fun W' _ i x hx => by simp at hx) _ _ _ _ _ _ _ _ _ _ _ _ _ _ _ _ _ _ _ _ _ _ _ _ _ _ _ _ _ _ _ _ _ _ _ _ _ _ _ _ _ _ _ _ _ _ _ _ _ _ _ _ _ _ _ _ _ _ _ _ _ _ _ _ _ _ _ _ _ _ _ _ _ _ _ _ _ _ B ?_
      clear B R
      intro y13 y14 y61 y62 y63 y64 y65 y66 y67 y68 y69 y70 y71 y72 y73 y74 y75 y76 y77 y78 y79 y80 y8 w3 hown hno B
      dsimp only
      obtain ⟨A, c, rfl, _, hr⟩ := own_rows (g := Pay.g) (sz := 4) (Nat.succ_pos 3) hown
      have hp := own_plain hown
      go_wp2
      go_ret
      rw [HP.out]
      exact ⟨A, c, rfl, hr, hp, B.below⟩
    · have hng : NotIn g [(w.heap.size, #[.int .i64 d.f, .int .i64 d.u, .slice A1 d.sp.length c1, .slice A2 d.ov.length c2, .slice A3 d.df.length c3, .slice A4 d.py.length c4, .slice A5 d.fo.length c5], 28)] := ⟨fun e => hno.1 (by rw [e]; rfl), trivial⟩
      have C := Lib.hid (sort_any w g hg _ hng fl hf cap cur hfl w1 (B.more hh))
      have hsl : fl.length = (srt fl (fl.length - 1)).length := (srt_len _ _).symm
      clear hown hno hng hfl hh
      generalize srt fl (fl.length - 1) = s at C HP hsl
      have HP2 := Lib.hid (show payS d.u at_ m d.py = dd s s.length from by rw [HP.out, hsl])
      have HSL := Lib.hid hsl
      clear HP hsl
      dsimp only
      go_wp2_with fail
      refine C.out.mono ?_
      rintro e' w2 ⟨rfl, cs', hcs, B2⟩
      clear C R B
      go_wp2_with fail
      rw [HSL.out]
      have hfs := HSL.out
      refine pay_loop1 (some ⟨g, 0, none⟩) cap s (by omega) w ((g, cs', 45) :: [(w.heap.size, #[.int .i64 d.f, .int .i64 d.u, .slice A1 d.sp.length c1, .slice A2 d.ov.length c2, .slice A3 d.df.length c3, .slice A4 d.py.length c4, .slice A5 d.fo.length c5], 28)]) (fun W' hW => rows_of_blk hW.blks.1 (by omega) hcs.rows) _ _ _ _ _ _ _ _ _ _ _ _ _ _ _ _ _ _ _ _ _ _ _ _ _ _ _ _ _ _ _ _ _ _ _ _ _ _ _ _ _ _ _ _ _ _ _ _ _ _ _ _ _ _ _ _ _ _ _ _ _ _ _ _ _ _ _ _ _ _ _ _ _ _ _ _ _ _ B2 ?_
      clear B2
      intro y13 y14 y61 y62 y63 y64 y65 y66 y67 y68 y69 y70 y71 y72 y73 y74 y75 y76 y77 y78 y79 y80 y8 w3 hown hno B
      dsimp only
      obtain ⟨A, c, rfl, _, hr⟩ := own_rows (g := Pay.g) (sz := 4) (Nat.succ_pos 3) hown
      have hp := own_plain hown
      go_wp2
      go_ret
      rw [HP2.out]
      exact ⟨A, c, rfl, hr, hp, B.below⟩
end Go.Proofs.YtbkipanlicgooaaGreatDoor
namespace Go.Proofs.YtbkipanlicgooaaGreatDoor
open Go.RowKit

theorem add_two (a : Addr) (m k : Nat) (hk : 0 < k) : (⟨(a.add m).block, (a.add m).off + k, none⟩ : Addr) = a.add (m + k) := by
  unfold Addr.add
  by_cases h : m = 0
  · subst h
    rw [if_pos rfl, if_neg (by omega), Nat.zero_add]
  · rw [if_neg h, if_neg (by omega)]
    simp [Nat.add_assoc]
theorem rowL_inv {α : Type} {g : α → Nat → Int} {sz : Nat} {l : List α} (hsz : 0 < sz) {j : Nat} {u : Value} (h : (rowL g sz l)[j]? = some u) : ∃ x, l[j / sz]? = some x ∧ u = .int .i64 (g x (j % sz)) := by
  have hj : j < (rowL g sz l).length := by
    rcases Nat.lt_or_ge j (rowL g sz l).length with h' | h'
    · exact h'
    · rw [List.getElem?_eq_none h'] at h; cases h
  rw [rowL_len] at hj
  have hd : j / sz < l.length := Nat.div_lt_of_lt_mul (by rw [Nat.mul_comm]; exact hj)
  refine ⟨l[j / sz], List.getElem?_eq_getElem hd, ?_⟩
  have := rowL_get (g := g) (sz := sz) (List.getElem?_eq_getElem hd) (Nat.mod_lt j hsz)
  rw [show j / sz * sz + j % sz = j from by rw [Nat.mul_comm]; exact Nat.div_add_mod j sz, h] at this
  exact Option.some.inj this
theorem RowsAt.cells {α : Type} {W : World} {ad : Addr} {sz : Nat} {g : α → Nat → Int} {l : List α} (hsz : 0 < sz) (h : RowsAt W (some ad) sz g l) : ∀ j u, (rowL g sz l)[j]? = some u → W.cell? (ad.add j) = some u := by
  intro j u hu
  obtain ⟨x, hx, rfl⟩ := rowL_inv hsz hu
  obtain ⟨ad', he, _, h0, h1⟩ := h _ _ hx
  cases he
  by_cases hj : j % sz = 0
  · rw [hj]
    have e : j / sz * sz = j := Nat.div_mul_cancel (Nat.dvd_of_mod_eq_zero hj)
    rw [e] at h0
    exact h0
  · have := h1 (j % sz) (by omega) (Nat.mod_lt j hsz)
    rw [add_two _ _ _ (by omega), show j / sz * sz + j % sz = j from by rw [Nat.mul_comm]; exact Nat.div_add_mod j sz] at this
    exact this
theorem rowL_one {α : Type} {g : α → Nat → Int} {sz : Nat} {l : List α} : ∀ u ∈ rowL g sz l, u.oneCell' = true := by
  intro u hu
  obtain ⟨x, _, hx⟩ := List.mem_flatMap.1 hu
  obtain ⟨j, _, rfl⟩ := List.mem_map.1 hx
  rfl
theorem rowL_app {α : Type} (g : α → Nat → Int) (sz : Nat) (l m : List α) : rowL g sz (l ++ m) = rowL g sz l ++ rowL g sz m := by simp [rowL]
theorem own_of_blk {W : World} {base b : Nat} {e : TypeId} (hb : W.heap[b]? = some (.cells #[] e (0, 0))) (hg : base ≤ b) (size : Nat) : W.ownsRow base e size (.slice (some ⟨b, 0, none⟩) 0 0) 0 [] :=
  ⟨by simp, .inr ⟨b, 0, #[], rfl, hg, hb, Nat.le_refl _, by decide, by simp, by simp⟩⟩
section
variable {P : Program}
theorem run_append_nothing (w : World) (base : Nat) (t ty e : TypeId) (i : TypeInfo) (size : Nat) (ht : P.underlying t = some (.slice e)) (hi : P.info? e = some i)
    (v : Value) (n : Nat) (xs : List Value) (hown : w.ownsRow base e size v n xs) (c : Nat) : (Builtin.append_ #[t, t] ty #[v, .slice none 0 c]).run P w = .ok v w := by
  rcases hown.2 with ⟨rfl, rfl⟩ | ⟨g, cap, cur, rfl, _, _, hnc, _⟩
  · simp [Builtin.append_, run_underlying ht, sizeOf, typeInfo, hi, Builtin.lenOf, Builtin.firstCells]
  · simp [Builtin.append_, run_underlying ht, sizeOf, typeInfo, hi, Builtin.lenOf, Builtin.firstCells, hnc, storeCells]
/-- append of a row, run. -/
theorem run_join {α : Type} {w W : World} {L : List (Nat × Array Value × TypeId)} (B : St w W L) {t ty e : TypeId} {i : TypeInfo} {z : Value} {size bytes : Nat} (ht : P.underlying t = some (.slice e)) (hi : P.info? e = some i) (hz : i.zero = some z)
    (hsize : i.size = size) (hby : i.bytes = bytes) (hzs : z.cells.size = size) (hsz : 0 < size) {v : Value} {n : Nat} {xs : List Value} (hown : W.ownsRow w.heap.size e size v n xs) (hno : NoOwn v L)
    {A : Option Addr} {c : Nat} {g : α → Nat → Int} {l : List α} (hr : RowsAt W A size g l) (hA : A = none → l = []) (h63 : n + l.length ≤ maxLen) (hbytes : (n + l.length) * bytes ≤ 140737488355328) :
    ∃ v' W', (Builtin.append_ #[t, t] ty #[v, .slice A l.length c]).run P W = .ok v' W' ∧ W'.ownsRow w.heap.size e size v' (n + l.length) (xs ++ rowL g size l) ∧ NoOwn v' L ∧ St w W' L := by
  rcases A with _ | ad
  · have hl := hA rfl
    subst hl
    exact ⟨v, W, run_append_nothing W w.heap.size t ty e i size ht hi v n _ hown c, by simpa [rowL] using hown, hno, B⟩
  · obtain ⟨v', W', hr', h2, h3, _, h5⟩ := run_append_own_at (P := P) W w.heap.size t ty e i z size bytes ht hi hz hsize hby hzs hsz v n xs hown ad l.length c (rowL g size l) (rowL_len g size l) (hr.cells hsz) rowL_one h63 hbytes B.below.size
    exact ⟨v', W', hr', h2, hno.step h5 B.blks, B.below.grown h3 B.below.size fun g hv => (hown.lt g hv).1, B.blks.kept h3 hno⟩
theorem wpList_join {α : Type} {w W : World} {L : List (Nat × Array Value × TypeId)} (B : St w W L) {ops : Array Oper} {rest : List Oper} {o : Oper} {a : Act} {Q : Exit → Act → World → Prop} (hgd : o.guard = none) (s x : Operand) {t e : TypeId}
    (hop : o.op = .call { callee := .builtin .append, args := #[s, x], argTypes := #[t, t] }) {i : TypeInfo} {z : Value} {size bytes : Nat} (ht : P.underlying t = some (.slice e)) (hi : P.info? e = some i) (hz : i.zero = some z)
    (hsize : i.size = size) (hby : i.bytes = bytes) (hzs : z.cells.size = size) (hsz : 0 < size) {v : Value} {n : Nat} {xs : List Value} (hs : a.eval s = v) (hown : W.ownsRow w.heap.size e size v n xs) (hno : NoOwn v L)
    {A : Option Addr} {c : Nat} {g : α → Nat → Int} {l : List α} (hx : a.eval x = .slice A l.length c) (hr : RowsAt W A size g l) (hA : A = none → l = []) (h63 : n + l.length ≤ maxLen) (hbytes : (n + l.length) * bytes ≤ 140737488355328)
    (h : ∀ v' W', W'.ownsRow w.heap.size e size v' (n + l.length) (xs ++ rowL g size l) → NoOwn v' L → St w W' L → wpList P ops Q rest (a.put o.dst v') W') : wpList P ops Q (o :: rest) a W := by
  refine wpList_plain hgd fun _ hK => ?_
  obtain ⟨v', W', hrun, h2, h3, h4⟩ := run_join (P := P) (ty := o.type) B ht hi hz hsize hby hzs hsz hown hno (c := c) hr hA h63 hbytes
  unfold Oper.wp execOp
  simp only [hop, resolve, invoke, builtin, Sem.run_bind, Sem.run_pure, Result.andThen_ok, List.map_toArray, List.map_cons, List.map_nil, hs, hx, hrun]
  exact hK _ _ (h v' W' h2 h3 h4)
end
theorem RowsAt.none {α : Type} {W : World} {sz : Nat} {g : α → Nat → Int} {l : List α} (h : RowsAt W none sz g l) : l = [] := by
  cases l with
  | nil => rfl
  | cons x l =>
    obtain ⟨ad, he, _⟩ := h 0 x rfl
    cases he
theorem eql26 (A : Option Addr) (n c : Nat) (w : World) : (binOp .eql 26 (.slice A n c) (.slice none 0 0)).run Tryz.prog w = .ok (.bool A.isNone) w := by
  have key : ∀ dep, (Op.equalIn (dep + 1) 26 (.slice A n c) (.slice none 0 0)).run Tryz.prog w = .ok A.isNone w := fun dep => by
    cases A <;> simp [Op.equalIn, run_underlying Tryz.underlying26]
  have h := key 9999
  show ((do let r ← Op.equalIn 10000 26 (.slice A n c) (.slice none 0 0); pure (.bool r)) : Sem Value).run Tryz.prog w = _
  rw [Sem.run_bind, h]
  rfl
theorem info86 : (Tryz.prog.info? 86).map (fun i => (i.zero, i.size, i.bytes)) = some (some (.agg #[.int .i64 0, .int .i64 0, .int .i64 0, .int .i64 0, .int .i64 0, .int .i64 0]), 6, 48) := by kernel_rfl
set_option maxRecDepth 100000 in
set_option maxHeartbeats 4000000 in
theorem clone_any (A : Option Addr) (c : Nat) (l : List Frg) (hn : l.length ≤ 100) (w : World) (h : RowsAt w A 6 Frg.g l) :
    Calls Tryz.prog 16 #[.slice A l.length c] w (fun e w' => ∃ A' c', e = .returned (.slice A' l.length c') ∧ RowsAt w' A' 6 Frg.g l ∧ Plain w.heap.size w' A' ∧ Below w.heap.size w w') := by
  have H := Lib.hid h
  clear h
  obtain ⟨i0, hi0, hz0, hz1, hz2⟩ := info_parts info86
  rcases A with _ | ad
  · have hl := H.out.none
    subst hl
    have E := eql26 none 0 c
    simp only [Option.isNone_none] at E
    go_enter Tryz.func16, Tryz.ntmps16
    go_wp2
    go_ret
    exact ⟨none, 0, rfl, fun i x hx => by simp at hx, .nil, Below.refl _ _⟩
  · have E := eql26 (some ad) l.length c
    simp only [Option.isNone_some] at E
    go_enter Tryz.func16, Tryz.ntmps16
    have B := St.start w
    go_wp2_with (at_builtin; refine wpList_join (B.skip _) rfl _ _ rfl Tryz.underlying26 hi0 hz0 hz1 hz2 rfl (by decide) rfl (own_of_blk (blk_at _ _ _ (by simp)) (by simp) 6) trivial (g := Frg.g) (l := l) rfl (H.out.later (B.skip _).below) nofun (by simp only [maxLen]; omega) (by omega) ?_)
    intro v' w2 hown hno B2
    obtain ⟨A', c', rfl, _, hr⟩ := own_rows (g := Frg.g) (sz := 6) (Nat.succ_pos 5) hown
    have hp := own_plain hown
    go_wp2
    go_ret
    exact ⟨A', c', rfl, hr, hp, B2.below⟩
end Go.Proofs.YtbkipanlicgooaaGreatDoor
namespace Go.Proofs.YtbkipanlicgooaaGreatDoor
open Go.RowKit

def mx (a b : Int) : Int := if a < b then b else a
def mn (a b : Int) : Int := if b < a then b else a
/-- What becomes of a spell. -/
def spF (u m : Int) (s : Spl) : Option Spl := if mx s.f m ≤ mn s.u u then some ⟨s.k, s.q, s.n, mx s.f m, mn s.u u⟩ else none
def spS (u m : Int) (l : List Spl) : List Spl := l.filterMap (spF u m)
theorem notin_new {W : World} : ∀ {L : List (Nat × Array Value × TypeId)}, Blks W L → NotIn W.heap.size L
  | [], _ => trivial
  | p :: L, h => ⟨by have := lt_of_block h.1; omega, notin_new h.2⟩
theorem own_new {W : World} {base e size n : Nat} {v : Value} {xs : List Value} (h : W.ownsRow base e size v n xs) : v.ownBlock ≠ some W.heap.size := by
  rcases h.2 with ⟨rfl, _⟩ | ⟨g, cap, cur, rfl, _, hh, _⟩
  · simp [Value.ownBlock]
  · have := lt_of_block hh
    intro e
    have e := Option.some.inj e
    simp only at e
    omega
theorem own_put {W : World} {base e size n : Nat} {v : Value} {xs : List Value} (h : W.ownsRow base e size v n xs) {y : Nat} (hy : v.ownBlock ≠ some y) (i : Nat) (u : Value) : (W.setCell ⟨y, i, none⟩ u).ownsRow base e size v n xs := by
  rcases h.2 with h2 | ⟨g, cap, cur, rfl, r2, r3, r4⟩
  · exact ⟨h.1, .inl h2⟩
  · refine ⟨h.1, .inr ⟨g, cap, cur, rfl, r2, blk_set_other r3 _ _ (fun e => hy (congrArg some e)), r4⟩⟩
theorem own_slice {W : World} {base e size n : Nat} {v : Value} {xs : List Value} (h : W.ownsRow base e size v n xs) : ∃ A c, v = .slice A n c := by
  rcases h.2 with ⟨rfl, rfl⟩ | ⟨g, cap, cur, rfl, _⟩
  · exact ⟨_, _, rfl⟩
  · exact ⟨_, _, rfl⟩
theorem own_drew {W : World} {base e size n : Nat} {v : Value} {xs : List Value} (h : W.ownsRow base e size v n xs) : W.drew.ownsRow base e size v n xs := h
theorem NoOwn.cast {v : Value} : ∀ {L L' : List (Nat × Array Value × TypeId)}, L.map (·.1) = L'.map (·.1) → NoOwn v L → NoOwn v L'
  | [], [], _, _ => trivial
  | [], _ :: _, h, _ => by simp at h
  | _ :: _, [], h, _ => by simp at h
  | p :: L, q :: L', h, ho => by
    simp only [List.map_cons, List.cons.injEq] at h
    exact ⟨by rw [← h.1]; exact ho.1, ho.2.cast h.2⟩
theorem fm_succ {α : Type} {q : α → Option α} {l : List α} {k : Nat} {x : α} (h : l[k]? = some x) : (l.take (k + 1)).filterMap q = (l.take k).filterMap q ++ (q x).toList := by
  rw [List.take_add_one, h, List.filterMap_append]
  congr 1
theorem fm_len {α : Type} (q : α → Option α) (l : List α) (k : Nat) : ((l.take k).filterMap q).length ≤ k := Nat.le_trans (List.length_filterMap_le _ _) (by rw [List.length_take]; omega)

set_option maxRecDepth 100000 in
set_option maxHeartbeats 4000000 in
theorem suf_reg7 (xk xq xn xf xu m u f1 v1 : Int) (hM : (if xf < m then m else xf) = f1) (hN : (if u < xu then u else xu) = v1) (a t : Nat) (cs : Array Value) (hcs : cs[1]? = some (.int .i64 u)) (_hat : a ≠ t) {Q : Exit → Act → World → Prop} (u0 u1 u4 u5 u6 u7 u8 u9 u11 u12 u13 u14 u15 u16 u17 u18 u19 u20 u21 u22 u23 u24 u25 u26 u27 u28 u29 u30 u31 u32 u33 u34 u35 u36 u37 u38 u39 u40 u41 u42 u43 u44 u45 u46 u47 u48 u49 u50 u51 u52 u53 u54 u55 u56 u57 u58 u59 u60 u61 u62 u63 u64 u65 u66 u67 u68 u69 u70 u71 u72 u73 u74 u75 u76 u77 u78 u79 u80 u81 u82 u83 u84 u85 u86 u87 u88 u89 u90 u91 u92 u93 u94 u95 u96 u97 u98 u99 u100 u101 u102 u103 u104 u105 u106 u107 u108 u109 u110 u111 u112 u113 u114 u115 u116 u117 u118 u119 u120 u121 u122 u123 u124 u125 u126 u127 u128 u129 u130 u131 u132 u133 u134 u135 u136 u137 u138 u139 u140 u141 u142 u143 u144 u145 u146 u147 u148 u149 u150 u151 u152 u153 u154 u155 u156 u157 u158 u159 u160 u161 u162 u163 u164 u165 u166 u167 u168 u169 u170 u171 u172 u173 u174 u175 u176 u177 u178 u179 : Value) (X : World) (R : ((∀ i, X.cell? ⟨t, i, none⟩ = #[Value.int .i64 xk, .int .i64 xq, .int .i64 xn, .int .i64 xf, .int .i64 xu][i]?) ∧ (∀ i, X.frozen? ⟨t, i, none⟩ = false) ∧ t < X.heap.size) ∧ (∀ i, X.cell? ⟨a, i, none⟩ = cs[i]?) ∧ (∀ i, X.frozen? ⟨a, i, none⟩ = false) ∧ a < X.heap.size)
    (hQ : ∀ (v74 v75 v76 v77 v78 v79 v80 v81 v82 v83 v84 : Value), Q .normal ⟨#[u0, u1, .int .i64 m, .pointer (some ⟨a, 0, none⟩), u4, u5, u6, u7, u8, u9, .pointer (some ⟨t, 0, none⟩), u11, u12, u13, u14, u15, u16, u17, u18, u19, u20, u21, u22, u23, u24, u25, u26, u27, u28, u29, u30, u31, u32, u33, u34, u35, u36, u37, u38, u39, u40, u41, u42, u43, u44, u45, u46, u47, u48, u49, u50, u51, u52, u53, u54, u55, u56, u57, u58, u59, u60, u61, u62, u63, u64, u65, u66, u67, u68, u69, u70, u71, u72, u73, v74, v75, v76, v77, v78, v79, v80, v81, v82, v83, v84, u85, u86, u87, u88, u89, u90, u91, u92, u93, u94, u95, u96, u97, u98, u99, u100, u101, u102, u103, u104, u105, u106, u107, u108, u109, u110, u111, u112, u113, u114, u115, u116, u117, u118, u119, u120, u121, u122, u123, u124, u125, u126, u127, u128, u129, u130, u131, u132, u133, u134, u135, u136, u137, u138, u139, u140, u141, u142, u143, u144, u145, u146, u147, u148, u149, u150, u151, u152, u153, u154, u155, u156, u157, u158, u159, u160, u161, u162, u163, u164, u165, u166, u167, u168, u169, u170, u171, u172, u173, u174, u175, u176, u177, u178, u179], []⟩ (((X.setCell ⟨t, 3, none⟩ (.int .i64 f1)).setCell ⟨t, 4, none⟩ (.int .i64 v1)).drew)) :
    Code.wp Tryz.prog (codeAt Tryz.f8 [1, 1, 1, 0, 1, 0, 0, 1, 1, 0, 0, 1, 0]) Q ⟨#[u0, u1, .int .i64 m, .pointer (some ⟨a, 0, none⟩), u4, u5, u6, u7, u8, u9, .pointer (some ⟨t, 0, none⟩), u11, u12, u13, u14, u15, u16, u17, u18, u19, u20, u21, u22, u23, u24, u25, u26, u27, u28, u29, u30, u31, u32, u33, u34, u35, u36, u37, u38, u39, u40, u41, u42, u43, u44, u45, u46, u47, u48, u49, u50, u51, u52, u53, u54, u55, u56, u57, u58, u59, u60, u61, u62, u63, u64, u65, u66, u67, u68, u69, u70, u71, u72, u73, u74, u75, u76, u77, u78, u79, u80, u81, u82, u83, u84, u85, u86, u87, u88, u89, u90, u91, u92, u93, u94, u95, u96, u97, u98, u99, u100, u101, u102, u103, u104, u105, u106, u107, u108, u109, u110, u111, u112, u113, u114, u115, u116, u117, u118, u119, u120, u121, u122, u123, u124, u125, u126, u127, u128, u129, u130, u131, u132, u133, u134, u135, u136, u137, u138, u139, u140, u141, u142, u143, u144, u145, u146, u147, u148, u149, u150, u151, u152, u153, u154, u155, u156, u157, u158, u159, u160, u161, u162, u163, u164, u165, u166, u167, u168, u169, u170, u171, u172, u173, u174, u175, u176, u177, u178, u179], []⟩ X := by
  show Code.wp Tryz.prog (Code.region _ _ _) _ _ _
  dsimp only
  have HQ := Lib.hid hQ
  clear hQ
  go_region
  exact HQ.out _ _ _ _ _ _ _ _ _ _ _

def S1 (w : World) (L : Value → List (Nat × Array Value × TypeId)) (q : Spl → Option Spl) (l : List Spl) (v70 : Value) (wr : World) : Prop :=
  ∃ (k : Nat) (v : Value), k ≤ l.length ∧ v70 = .int .i64 k ∧ wr.ownsRow w.heap.size 47 5 v ((l.take k).filterMap q).length (rowL Spl.g 5 ((l.take k).filterMap q)) ∧ NoOwn v (L v) ∧ St w wr (L v)
theorem info47 : (Tryz.prog.info? 47).map (fun i => (i.zero, i.size, i.bytes)) = some (some (.agg #[.int .i64 0, .int .i64 0, .int .i64 0, .int .i64 0, .int .i64 0]), 5, 40) := by kernel_rfl

set_option maxRecDepth 100000 in
set_option maxHeartbeats 4000000 in
theorem suf_loop0 (d : Scr) (A1 A2 A3 A4 A5 : Option Addr) (c1 c2 c3 c4 c5 : Nat) (m F : Int) (hn : d.sp.length ≤ 100) (w : World) (rc zc : Array Value) (b : Nat) (hb : w.heap.size + 2 < b) (E : List (Nat × Array Value × TypeId)) (hE : NotIn b E) (py fo : Value) (h : RowsAt w A1 5 Spl.g d.sp) {K : Act → World → Prop} {Q : Exit → Act → World → Prop} (u0 u1 u4 u5 u6 u7 u9 u10 u11 u12 u13 u14 u15 u16 u17 u18 u19 u20 u21 u22 u23 u24 u25 u26 u27 u28 u29 u30 u31 u32 u33 u34 u35 u36 u37 u38 u39 u40 u41 u42 u43 u44 u45 u46 u47 u48 u49 u50 u51 u52 u53 u54 u55 u56 u57 u58 u59 u60 u61 u62 u63 u64 u65 u66 u67 u71 u72 u73 u74 u75 u76 u77 u78 u79 u80 u81 u82 u83 u84 u85 u86 u87 u88 u89 u90 u91 u92 u93 u94 u95 u96 u97 u98 u99 u100 u101 u102 u103 u104 u105 u106 u107 u108 u109 u110 u111 u112 u113 u114 u115 u116 u117 u118 u119 u120 u121 u122 u123 u124 u125 u126 u127 u128 u129 u130 u131 u132 u133 u134 u135 u136 u137 u138 u139 u140 u141 u142 u143 u144 u145 u146 u147 u148 u149 u150 u151 u152 u153 u154 u155 u156 u157 u158 u159 u160 u161 u162 u163 u164 u165 u166 u167 u168 u169 u170 u171 u172 u173 u174 u175 u176 u177 u178 u179 : Value) (wr : World) (B : St w wr ((b, #[.int .i64 F, .int .i64 d.u, (.slice none 0 0), .slice none 0 0, .slice none 0 0, py, fo], 28) :: (w.heap.size, #[.int .i64 d.f, .int .i64 d.u, .slice A1 d.sp.length c1, .slice A2 d.ov.length c2, .slice A3 d.df.length c3, .slice A4 d.py.length c4, .slice A5 d.fo.length c5], 28) :: (w.heap.size + 1, rc, 33) :: (w.heap.size + 1 + 1, zc, 28) :: E))
    (hK : ∀ (v10 v71 v72 v73 v74 v75 v76 v77 v78 v79 v80 v81 v82 v83 v84 v85 v86 v87 v88 v89 v90 v91 v92 v93 v94 v95 v96 : Value) (v : Value) (w' : World), w'.ownsRow w.heap.size 47 5 v (spS d.u m d.sp).length (rowL Spl.g 5 (spS d.u m d.sp)) → NoOwn v ((b, #[.int .i64 F, .int .i64 d.u, v, .slice none 0 0, .slice none 0 0, py, fo], 28) :: (w.heap.size, #[.int .i64 d.f, .int .i64 d.u, .slice A1 d.sp.length c1, .slice A2 d.ov.length c2, .slice A3 d.df.length c3, .slice A4 d.py.length c4, .slice A5 d.fo.length c5], 28) :: (w.heap.size + 1, rc, 33) :: (w.heap.size + 1 + 1, zc, 28) :: E) → St w w' ((b, #[.int .i64 F, .int .i64 d.u, v, .slice none 0 0, .slice none 0 0, py, fo], 28) :: (w.heap.size, #[.int .i64 d.f, .int .i64 d.u, .slice A1 d.sp.length c1, .slice A2 d.ov.length c2, .slice A3 d.df.length c3, .slice A4 d.py.length c4, .slice A5 d.fo.length c5], 28) :: (w.heap.size + 1, rc, 33) :: (w.heap.size + 1 + 1, zc, 28) :: E) → K ⟨#[u0, u1, .int .i64 m, .pointer (some ⟨w.heap.size, 0, none⟩), u4, u5, u6, u7, .pointer (some ⟨b, 0, none⟩), u9, v10, u11, u12, u13, u14, u15, u16, u17, u18, u19, u20, u21, u22, u23, u24, u25, u26, u27, u28, u29, u30, u31, u32, u33, u34, u35, u36, u37, u38, u39, u40, u41, u42, u43, u44, u45, u46, u47, u48, u49, u50, u51, u52, u53, u54, u55, u56, u57, u58, u59, u60, u61, u62, u63, u64, u65, u66, u67, .slice A1 d.sp.length c1, .int .i64 d.sp.length, .int .i64 d.sp.length, v71, v72, v73, v74, v75, v76, v77, v78, v79, v80, v81, v82, v83, v84, v85, v86, v87, v88, v89, v90, v91, v92, v93, v94, v95, v96, u97, u98, u99, u100, u101, u102, u103, u104, u105, u106, u107, u108, u109, u110, u111, u112, u113, u114, u115, u116, u117, u118, u119, u120, u121, u122, u123, u124, u125, u126, u127, u128, u129, u130, u131, u132, u133, u134, u135, u136, u137, u138, u139, u140, u141, u142, u143, u144, u145, u146, u147, u148, u149, u150, u151, u152, u153, u154, u155, u156, u157, u158, u159, u160, u161, u162, u163, u164, u165, u166, u167, u168, u169, u170, u171, u172, u173, u174, u175, u176, u177, u178, u179], []⟩ w') :
    Code.wp Tryz.prog (codeAt Tryz.f8 [1, 1, 1, 0, 1, 0]) (Exit.inBlock 0 (Exit.then K Q)) ⟨#[u0, u1, .int .i64 m, .pointer (some ⟨w.heap.size, 0, none⟩), u4, u5, u6, u7, .pointer (some ⟨b, 0, none⟩), u9, u10, u11, u12, u13, u14, u15, u16, u17, u18, u19, u20, u21, u22, u23, u24, u25, u26, u27, u28, u29, u30, u31, u32, u33, u34, u35, u36, u37, u38, u39, u40, u41, u42, u43, u44, u45, u46, u47, u48, u49, u50, u51, u52, u53, u54, u55, u56, u57, u58, u59, u60, u61, u62, u63, u64, u65, u66, u67, .slice A1 d.sp.length c1, .int .i64 d.sp.length, .int .i64 0, u71, u72, u73, u74, u75, u76, u77, u78, u79, u80, u81, u82, u83, u84, u85, u86, u87, u88, u89, u90, u91, u92, u93, u94, u95, u96, u97, u98, u99, u100, u101, u102, u103, u104, u105, u106, u107, u108, u109, u110, u111, u112, u113, u114, u115, u116, u117, u118, u119, u120, u121, u122, u123, u124, u125, u126, u127, u128, u129, u130, u131, u132, u133, u134, u135, u136, u137, u138, u139, u140, u141, u142, u143, u144, u145, u146, u147, u148, u149, u150, u151, u152, u153, u154, u155, u156, u157, u158, u159, u160, u161, u162, u163, u164, u165, u166, u167, u168, u169, u170, u171, u172, u173, u174, u175, u176, u177, u178, u179], []⟩ wr := by
  show Code.wp Tryz.prog (Code.loop _) _ _ _
  dsimp only
  have H := Lib.hid h
  have HK := Lib.hid hK
  clear h hK
  obtain ⟨i0, hi0, hz0, hz1, hz2⟩ := info_parts info47
  go_loopw [70] (S1 w (fun v => ((b, #[.int .i64 F, .int .i64 d.u, v, .slice none 0 0, .slice none 0 0, py, fo], 28) :: (w.heap.size, #[.int .i64 d.f, .int .i64 d.u, .slice A1 d.sp.length c1, .slice A2 d.ov.length c2, .slice A3 d.df.length c3, .slice A4 d.py.length c4, .slice A5 d.fo.length c5], 28) :: (w.heap.size + 1, rc, 33) :: (w.heap.size + 1 + 1, zc, 28) :: E)) (spF d.u m) d.sp) (fun v _ => d.sp.length - (intOf v).toNat)
  case atStart => exact ⟨0, .slice none 0 0, by omega, rfl, ⟨by simp [rowL], .inl ⟨rfl, by simp⟩⟩, NoOwn.nil, B⟩
  case round =>
    clear B
    obtain ⟨k, v, hk, rfl, hown, hno, B⟩ := hrel
    have Hown := Lib.hid hown
    have Hno := Lib.hid hno
    clear hown hno
    have R := B.rules
    simp only [Rules] at R
    by_cases hlt : k < d.sp.length
    · have hlt' : (k : Int) < d.sp.length := by omega
      have hx : d.sp[k]? = some d.sp[k] := List.getElem?_eq_getElem hlt
      have HS := Lib.hid (fm_succ (q := spF d.u m) hx)
      have hfl := fm_len (spF d.u m) d.sp k
      obtain ⟨ad, ha, hl, e0, e⟩ := (H.out.later B.below) k _ hx
      have e1 := e 1 (by omega) (by omega)
      have e2 := e 2 (by omega) (by omega)
      have e3 := e 3 (by omega) (by omega)
      have e4 := e 4 (by omega) (by omega)
      clear e hx
      generalize d.sp[k] = x at HS e0 e1 e2 e3 e4
      obtain ⟨xk, xq, xn, xf, xu⟩ := x
      simp only [Spl.g] at e0 e1 e2 e3 e4
      generalize hf : (d.sp.take k).filterMap (spF d.u m) = fl at Hown HS hfl
      clear hf
      subst ha
      have hnw := notin_new B.blks
      have hsz := B.below.size
      have hon := own_new Hown.out
      go_wp2_with fail
      generalize hX : World.alloc _ _ = X
      have Hown1 := Lib.hid (show X.ownsRow w.heap.size 47 5 v fl.length (rowL Spl.g 5 fl) from hX ▸ own_alloc Hown.out _)
      replace B := St.cast hX (B.alloc _ _)
      clear hX Hown e0 e1 e2 e3 e4
      have R := B.rules
      simp only [Rules] at R
      have hsp : spF d.u m ⟨xk, xq, xn, xf, xu⟩ = if mx xf m ≤ mn xu d.u then some ⟨xk, xq, xn, mx xf m, mn xu d.u⟩ else none := rfl
      have hM : (if xf < m then m else xf) = mx xf m := rfl
      have hN : (if d.u < xu then d.u else xu) = mn xu d.u := rfl
      generalize mx xf m = f1 at hsp hM
      generalize mn xu d.u = v1 at hsp hN
      have Hsp := Lib.hid hsp
      clear hsp
      refine suf_reg7 xk xq xn xf xu m d.u f1 v1 hM hN w.heap.size wr.heap.size #[.int .i64 d.f, .int .i64 d.u, .slice (some ad) d.sp.length c1, .slice A2 d.ov.length c2, .slice A3 d.df.length c3, .slice A4 d.py.length c4, .slice A5 d.fo.length c5] rfl (by omega) _ _ _ _ _ _ _ _ _ _ _ _ _ _ _ _ _ _ _ _ _ _ _ _ _ _ _ _ _ _ _ _ _ _ _ _ _ _ _ _ _ _ _ _ _ _ _ _ _ _ _ _ _ _ _ _ _ _ _ _ _ _ _ _ _ _ _ _ _ _ _ _ _ _ _ _ _ _ _ _ _ _ _ _ _ _ _ _ _ _ _ _ _ _ _ _ _ _ _ _ _ _ _ _ _ _ _ _ _ _ _ _ _ _ _ _ _ _ _ _ _ _ _ _ _ _ _ _ _ _ _ _ _ _ _ _ _ _ _ _ _ _ _ _ _ _ _ _ _ _ _ _ _ _ _ _ _ _ _ _ _ _ _ _ _ _ _ _ _ _ _ _ _ _ _ _ _ X ⟨R.1, R.2.2.1⟩ ?_
      intro y0 y1 y2 y3 y4 y5 y6 y7 y8 y9 y10
      dsimp only
      have B1 : St w _ ((wr.heap.size, #[.int .i64 xk, .int .i64 xq, .int .i64 xn, .int .i64 f1, .int .i64 v1], 47) :: ((b, #[.int .i64 F, .int .i64 d.u, v, .slice none 0 0, .slice none 0 0, py, fo], 28) :: (w.heap.size, #[.int .i64 d.f, .int .i64 d.u, .slice (some ad) d.sp.length c1, .slice A2 d.ov.length c2, .slice A3 d.df.length c3, .slice A4 d.py.length c4, .slice A5 d.fo.length c5], 28) :: (w.heap.size + 1, rc, 33) :: (w.heap.size + 1 + 1, zc, 28) :: E)) := ((B.put hsz hnw 3 (.int .i64 f1)).put hsz hnw 4 (.int .i64 v1)).drew
      have Hown2 := Lib.hid (own_drew (own_put (own_put Hown1.out hon 3 (.int .i64 f1)) hon 4 (.int .i64 v1)))
      generalize hX : World.drew _ = X2 at B1 Hown2 ⊢
      clear hX R B Hown1 hM hN hnw hsz hon
      have R := B1.rules
      simp only [Rules] at R
      have B0 : St w X2 ((b, #[.int .i64 F, .int .i64 d.u, v, .slice none 0 0, .slice none 0 0, py, fo], 28) :: (w.heap.size, #[.int .i64 d.f, .int .i64 d.u, .slice (some ad) d.sp.length c1, .slice A2 d.ov.length c2, .slice A3 d.df.length c3, .slice A4 d.py.length c4, .slice A5 d.fo.length c5], 28) :: (w.heap.size + 1, rc, 33) :: (w.heap.size + 1 + 1, zc, 28) :: E) := ⟨B1.below, B1.blks.2⟩
      by_cases q3 : f1 ≤ v1
      · have hsp := Hsp.out
        rw [if_pos q3] at hsp
        replace hsp := Lib.hid hsp
        clear Hsp
        go_wp2_with (at_builtin; refine wpList_push (B0.skip _) rfl _ _ rfl Tryz.underlying22 hi0 hz0 hz1 hz2 rfl (by decide) rfl (own_alloc Hown2.out _) Hno.out rfl (news := [.int .i64 xk, .int .i64 xq, .int .i64 xn, .int .i64 f1, .int .i64 v1]) rfl (cells_new _ [.int .i64 xk, .int .i64 xq, .int .i64 xn, .int .i64 f1, .int .i64 v1] _) (one_cells rfl) (by simp only [maxLen]; omega) (by omega) ?_)
        intro v' w2 hown hno B2
        obtain ⟨A', c', rfl⟩ := own_slice hown
        clear R B1 B0
        have R := B2.rules
        simp only [Rules] at R
        go_wp2
        have hnb : NotIn b ((w.heap.size, #[.int .i64 d.f, .int .i64 d.u, .slice (some ad) d.sp.length c1, .slice A2 d.ov.length c2, .slice A3 d.df.length c3, .slice A4 d.py.length c4, .slice A5 d.fo.length c5], 28) :: (w.heap.size + 1, rc, 33) :: (w.heap.size + 1 + 1, zc, 28) :: E) := ⟨by show w.heap.size ≠ b; omega, by show w.heap.size + 1 ≠ b; omega, by show w.heap.size + 1 + 1 ≠ b; omega, hE⟩
        exact ⟨⟨k + 1, .slice A' _ c', by omega, by go_num, by rw [HS.out, hsp.out]; exact own_put (by simpa [rowL, rowC, List.range, List.range.loop, Spl.g] using hown) hno.1 _ _, hno.cast rfl, B2.put (by omega) hnb 2 _⟩, by simp [intOf]; omega⟩
      · have hsp := Hsp.out
        rw [if_neg q3] at hsp
        replace hsp := Lib.hid hsp
        clear Hsp
        go_wp2
        exact ⟨⟨k + 1, v, by omega, by go_num, by rw [HS.out, hsp.out]; simpa using Hown2.out, Hno.out, B0⟩, by simp [intOf]; omega⟩
    · obtain rfl : k = d.sp.length := by omega
      rw [List.take_length] at Hown
      go_wp2_with fail
      exact HK.out _ _ _ _ _ _ _ _ _ _ _ _ _ _ _ _ _ _ _ _ _ _ _ _ _ _ _ _ _ Hown.out Hno.out B

end Go.Proofs.YtbkipanlicgooaaGreatDoor
