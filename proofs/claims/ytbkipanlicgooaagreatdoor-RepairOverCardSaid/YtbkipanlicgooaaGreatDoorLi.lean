/-
  The law RepairRests: its loop; its walk. No conditions but those in each statement.
-/
import Derived.Test.YtbkipanlicgooaaGreatDoorLh
import Derived.ProofKit
import Derived.Deep.Slices
import Derived.Deep.Fields
import Derived.Deep.Strs
namespace Go.Proofs.YtbkipanlicgooaaGreatDoor
open Go.RowKit

/-! ### The numbers of a rest are ints -/
theorem i64_mx {a b : Int} (h1 : I64 a) (h2 : I64 b) : I64 (mx a b) := by unfold mx; split <;> assumption
theorem i64_mn {a b : Int} (h1 : I64 a) (h2 : I64 b) : I64 (mn a b) := by unfold mn; split <;> assumption
theorem rowsB_fm {α : Type} {sz : Nat} {g : α → Nat → Int} {q : α → Option α} {l : List α} (h : RowsB sz g l) (hq : ∀ x y, q x = some y → (∀ j, j < sz → I64 (g x j)) → ∀ j, j < sz → I64 (g y j)) : RowsB sz g (l.filterMap q) := by
  intro y hy
  obtain ⟨x, hx, he⟩ := List.mem_filterMap.1 hy
  exact hq x y he (h x hx)
theorem sufS_B {d : Scr} {at_ m : Int} (h : ScrB d) (hB : sufB d at_ m = true) : ScrB (sufS d at_ m) := by
  rw [sufB_iff] at hB
  have im : I64 m := by unfold I64; omega
  have i0 : I64 0 := by unfold I64; omega
  refine ⟨i64_mn im h.u, h.u, ?_, ?_, ?_, ?_, h.n5, ?_, ?_, ?_, ?_, h.b5⟩
  · exact Nat.le_trans (List.length_filterMap_le _ _) h.n1
  · exact Nat.le_trans (List.length_filterMap_le _ _) h.n2
  · exact Nat.le_trans (List.length_filterMap_le _ _) h.n3
  · exact Nat.le_trans (payS_len _ _ _ _) (Nat.le_trans (List.length_filter_le _ _) h.n4)
  · refine rowsB_fm h.b1 fun x y hy hx j hj => ?_
    unfold spF at hy
    split at hy
    · cases hy
      have : j = 0 ∨ j = 1 ∨ j = 2 ∨ j = 3 ∨ j = 4 := by omega
      rcases this with rfl | rfl | rfl | rfl | rfl
      · exact hx 0 (by omega)
      · exact hx 1 (by omega)
      · exact hx 2 (by omega)
      · exact i64_mx (hx 3 (by omega)) im
      · exact i64_mn (hx 4 (by omega)) h.u
    · cases hy
  · refine rowsB_fm h.b2 fun x y hy hx j hj => ?_
    unfold ovF at hy
    split at hy
    · cases hy
      have : j = 0 ∨ j = 1 ∨ j = 2 ∨ j = 3 ∨ j = 4 ∨ j = 5 ∨ j = 6 := by omega
      rcases this with rfl | rfl | rfl | rfl | rfl | rfl | rfl
      · exact hx 0 (by omega)
      · exact hx 1 (by omega)
      · exact hx 2 (by omega)
      · exact hx 3 (by omega)
      · exact i64_mx (i64_mx (hx 4 (by omega)) (hx 6 (by omega))) im
      · exact i64_mn (hx 5 (by omega)) h.u
      · exact i0
    · cases hy
  · refine rowsB_fm h.b3 fun x y hy hx j hj => ?_
    unfold dfF at hy
    split at hy
    · cases hy
      have : j = 0 ∨ j = 1 ∨ j = 2 ∨ j = 3 ∨ j = 4 := by omega
      rcases this with rfl | rfl | rfl | rfl | rfl
      · exact hx 0 (by omega)
      · exact hx 1 (by omega)
      · exact i64_mx (hx 2 (by omega)) im
      · exact i64_mn (hx 3 (by omega)) h.u
      · show I64 (knw _ _ _ _)
        unfold knw
        split
        · exact i0
        · split
          · unfold I64; omega
          · exact hx 4 (by omega)
    · cases hy
  · intro y hy
    exact h.b4 y ((payS_mem _ _ _ _ _).1 hy).2.1
/-- Suffix gives the rest. -/
theorem suffix_any (d : Scr) (A1 A2 A3 A4 A5 : Option Addr) (c1 c2 c3 c4 c5 : Nat) (s1 s2 : ByteArray) (ver : Int) (RB : Option Addr) (rn rc : Nat) (at_ need m : Int) (w : World) (hb : ScrB d) (h12 : d.py.length ≤ 12) (hB : sufB d at_ m = true) (hS : ScrAt w d A1 A2 A3 A4 A5) (d' : Scr) (hd : sufS d at_ m = d') :
    Calls Tryz.prog 8 #[scrV d A1 A2 A3 A4 A5 c1 c2 c3 c4 c5, relV s1 s2 ver RB rn rc at_ need, .int .i64 m] w (fun e w' => ∃ X1 X2 X3 X4 X5 k1 k2 k3 k4 k5, e = .returned (.tuple #[scrV d' X1 X2 X3 X4 X5 k1 k2 k3 k4 k5, .int .i64 0]) ∧ ScrAt w' d' X1 X2 X3 X4 X5 ∧ Below w.heap.size w w') :=
  suffix_ok d A1 A2 A3 A4 A5 c1 c2 c3 c4 c5 s1 s2 ver RB rn rc at_ need m w hB hb.n1 hb.n2 hb.n3 hb.n4 hb.n5 (Nat.le_trans (List.length_filter_le _ _) h12) hS fun X1 X2 X3 X4 X5 k1 k2 k3 k4 k5 w' h1 h2 => by
    subst hd
    exact ⟨X1, X2, X3, X4, X5, k1, k2, k3, k4, k5, rfl, h1, h2⟩

def T0 (l : List Dfc) (wr : World) (v10 : Value) (wx : World) : Prop := ∃ k : Nat, k ≤ l.length ∧ v10 = .int .i64 k ∧ (∀ x ∈ l.take k, x.n ≤ 38399) ∧ wx = wr
set_option maxRecDepth 100000 in
set_option maxHeartbeats 4000000 in
theorem rests_loop (d : Scr) (A1 A2 A3 A4 A5 : Option Addr) (c1 c2 c3 c4 c5 : Nat) (hn : d.df.length ≤ 100) (w : World) (h : RowsAt w A3 5 Dfc.g d.df) {R0 : Ending → World → Prop} {K : Act → World → Prop} (u0 u1 u2 u3 u5 u6 u7 u11 u12 u13 u14 u15 u16 u17 u18 u19 u20 u21 u22 u23 u24 u25 u26 u27 u28 u29 u30 u31 u32 u33 u34 u35 u36 u37 u38 u39 u40 u41 u42 u43 u44 u45 u46 u47 u48 u49 u50 u51 u52 u53 u54 u55 u56 u57 u58 u59 u60 u61 u62 u63 u64 u65 u66 u67 u68 u69 u70 u71 u72 u73 u74 u75 u76 u77 u78 u79 u80 u81 u82 u83 u84 u85 u86 u87 u88 u89 u90 u91 u92 u93 u94 u95 u96 u97 u98 u99 u100 u101 u102 u103 u104 u105 u106 u107 u108 u109 u110 u111 u112 u113 u114 : Value) (wr : World) (rcs : Array Value) (B : St w wr [(w.heap.size, #[.int .i64 d.f, .int .i64 d.u, .slice A1 d.sp.length c1, .slice A2 d.ov.length c2, .slice A3 d.df.length c3, .slice A4 d.py.length c4, .slice A5 d.fo.length c5], 28), (w.heap.size + 1, rcs, 33)]) (hR : R0 (.returned (.bool true)) wr)
    (hK : ∀ (v8 v24 v25 v26 v27 v28 v29 v30 v31 v32 v33 v34 v35 v36 v37 v38 : Value) (w' : World), w' = wr → (∀ x ∈ d.df, x.n ≤ 38399) → K ⟨#[u0, u1, u2, u3, .pointer (some ⟨w.heap.size, 0, none⟩), u5, u6, u7, v8, .bool true, .int .i64 d.df.length, u11, u12, u13, u14, u15, u16, u17, u18, u19, u20, u21, u22, u23, v24, v25, v26, v27, v28, v29, v30, v31, v32, v33, v34, v35, v36, v37, v38, u39, u40, u41, u42, u43, u44, u45, u46, u47, u48, u49, u50, u51, u52, u53, u54, u55, u56, u57, u58, u59, u60, u61, u62, u63, u64, u65, u66, u67, u68, u69, u70, u71, u72, u73, u74, u75, u76, u77, u78, u79, u80, u81, u82, u83, u84, u85, u86, u87, u88, u89, u90, u91, u92, u93, u94, u95, u96, u97, u98, u99, u100, u101, u102, u103, u104, u105, u106, u107, u108, u109, u110, u111, u112, u113, u114], []⟩ w') :
    Code.wp Tryz.prog (codeAt Tryz.f4 [1, 1, 1, 0, 1, 0]) (Exit.inBlock 0 (Exit.then K (bodyPost Tryz.prog Tryz.f4 R0))) ⟨#[u0, u1, u2, u3, .pointer (some ⟨w.heap.size, 0, none⟩), u5, u6, u7, .bool false, .bool true, .int .i64 0, u11, u12, u13, u14, u15, u16, u17, u18, u19, u20, u21, u22, u23, u24, u25, u26, u27, u28, u29, u30, u31, u32, u33, u34, u35, u36, u37, u38, u39, u40, u41, u42, u43, u44, u45, u46, u47, u48, u49, u50, u51, u52, u53, u54, u55, u56, u57, u58, u59, u60, u61, u62, u63, u64, u65, u66, u67, u68, u69, u70, u71, u72, u73, u74, u75, u76, u77, u78, u79, u80, u81, u82, u83, u84, u85, u86, u87, u88, u89, u90, u91, u92, u93, u94, u95, u96, u97, u98, u99, u100, u101, u102, u103, u104, u105, u106, u107, u108, u109, u110, u111, u112, u113, u114], []⟩ wr := by
  show Code.wp Tryz.prog (Code.loop _) _ _ _
  dsimp only
  have H := Lib.hid h
  have HK := Lib.hid hK
  have HR := Lib.hid hR
  clear h hK hR
  have R := B.rules
  simp only [Rules] at R
  go_loopw [10] (T0 d.df wr) (fun v _ => d.df.length - (intOf v).toNat)
  case atStart => exact ⟨0, by omega, rfl, by simp, rfl⟩
  case round =>
    obtain ⟨k, hk, rfl, hall, rfl⟩ := hrel
    have HA := Lib.hid hall
    clear hall
    by_cases hlt : k < d.df.length
    · have hlt' : (k : Int) < d.df.length := by omega
      have hx : d.df[k]? = some d.df[k] := List.getElem?_eq_getElem hlt
      have HX := Lib.hid hx
      obtain ⟨ad, ha, hl, e0, e⟩ := (H.out.later B.below) k _ hx
      have e4 := e 4 (by omega) (by omega)
      clear e e0 hx
      generalize d.df[k] = x at HX e4
      obtain ⟨xt, xc, xf, xu, xn⟩ := x
      simp only [Dfc.g] at e4
      subst ha
      by_cases q : 38399 < xn
      · go_wp2_with fail
        exact HR.out
      · go_wp2
        refine ⟨⟨k + 1, by omega, by go_num, ?_, rfl⟩, by simp [intOf]; omega⟩
        intro y hy
        rw [List.take_add_one, HX.out] at hy
        rcases List.mem_append.1 hy with hy | hy
        · exact HA.out y hy
        · have : y = ⟨xt, xc, xf, xu, xn⟩ := by simpa using hy
          subst this
          show xn ≤ 38399
          omega
    · obtain rfl : k = d.df.length := by omega
      have HA' := HA.out
      rw [List.take_length] at HA'
      replace HA' := Lib.hid HA'
      go_wp2_with fail
      exact HK.out _ _ _ _ _ _ _ _ _ _ _ _ _ _ _ _ _ rfl HA'.out

theorem ScrAt.from {w W : World} {d : Scr} {A1 A2 A3 A4 A5 : Option Addr} (h : ScrAt w d A1 A2 A3 A4 A5) (hb : Below w.heap.size w W) : ScrAt W d A1 A2 A3 A4 A5 := h.later hb
theorem fewB_iff (d : Scr) : fewB d = true ↔ d.sp.length ≤ 8 ∧ d.ov.length ≤ 8 ∧ d.df.length ≤ 8 ∧ d.py.length ≤ 12 ∧ d.fo.length ≤ 8 := by
  simp only [fewB, Bool.and_eq_true, decide_eq_true_eq]
set_option maxRecDepth 100000 in
set_option maxHeartbeats 8000000 in
theorem rests_few (d : Scr) (A1 A2 A3 A4 A5 : Option Addr) (c1 c2 c3 c4 c5 : Nat) (s1 s2 : ByteArray) (ver : Int) (RB : Option Addr) (rn rc : Nat) (at_ need m n : Int) (w : World) (hf : fewB d = false)
    (hH : ∀ W, Below w.heap.size w W → Calls Tryz.prog 6 #[] W (Ret (.bool true) W)) :
    Calls Tryz.prog 4 #[scrV d A1 A2 A3 A4 A5 c1 c2 c3 c4 c5, relV s1 s2 ver RB rn rc at_ need, .int .i64 m, .int .i64 n] w (Ret (.bool true) w) := by
  have HH := Lib.hid hH
  have C7 := Lib.hid (fun W => few_any d A1 A2 A3 A4 A5 c1 c2 c3 c4 c5 W)
  rw [hf] at C7
  clear hH hf
  unfold scrV at C7
  unfold scrV relV
  go_enter Tryz.func4, Tryz.ntmps4
  go_wp2_with fail
  have B : St w _ [(w.heap.size, #[.int .i64 d.f, .int .i64 d.u, .slice A1 d.sp.length c1, .slice A2 d.ov.length c2, .slice A3 d.df.length c3, .slice A4 d.py.length c4, .slice A5 d.fo.length c5], 28), (w.heap.size + 1, #[.string s1, .string s2, .int .i64 ver, .slice RB rn rc, .int .i64 at_, .int .i64 need], 33)] := (let z := ((St.start w).alloc #[.int .i64 d.f, .int .i64 d.u, .slice A1 d.sp.length c1, .slice A2 d.ov.length c2, .slice A3 d.df.length c3, .slice A4 d.py.length c4, .slice A5 d.fo.length c5] 28).alloc #[.string s1, .string s2, .int .i64 ver, .slice RB rn rc, .int .i64 at_, .int .i64 need] 33; ⟨z.below, by simpa using z.blks.2.1, by simpa using z.blks.1, trivial⟩)
  generalize World.alloc _ _ = X at B ⊢
  refine (HH.out _ B.below).mono ?_
  rintro e' w1 ⟨rfl, hb1⟩
  replace B := B.later hb1
  have R := B.rules
  simp only [Rules] at R
  go_wp2_with fail
  refine (C7.out _).mono ?_
  rintro e' w2 ⟨rfl, hb2⟩
  clear R
  replace B := B.later hb2
  go_wp2
  go_ret
  exact ⟨rfl, B.below⟩

theorem ScrAt.cast {W X : World} {d : Scr} {A1 A2 A3 A4 A5 : Option Addr} (hX : W = X) (h : ScrAt W d A1 A2 A3 A4 A5) : ScrAt X d A1 A2 A3 A4 A5 := hX ▸ h
set_option maxRecDepth 100000 in
set_option maxHeartbeats 8000000 in
theorem rests_goff (d : Scr) (A1 A2 A3 A4 A5 : Option Addr) (c1 c2 c3 c4 c5 : Nat) (s1 s2 : ByteArray) (ver : Int) (RB : Option Addr) (rn rc : Nat) (at_ need m n : Int) (w : World) (hb : ScrB d) (hf : fewB d = true) (hS : ScrAt w d A1 A2 A3 A4 A5) (hH : ∀ W, Below w.heap.size w W → Calls Tryz.prog 6 #[] W (Ret (.bool true) W))
    (lo hi : Int) (hN : (if n < m then n else m) = lo) (hM : (if m < n then n else m) = hi) (_hle : lo ≤ hi) (h1 : sufB d at_ lo = false) (h2 : sufB d at_ hi = false) :
    Calls Tryz.prog 4 #[scrV d A1 A2 A3 A4 A5 c1 c2 c3 c4 c5, relV s1 s2 ver RB rn rc at_ need, .int .i64 m, .int .i64 n] w (Ret (.bool true) w) := by
  have HB := Lib.hid hb
  clear hb
  have HH := Lib.hid hH
  have HS := Lib.hid hS
  have C7 := Lib.hid (fun W => few_any d A1 A2 A3 A4 A5 c1 c2 c3 c4 c5 W)
  rw [hf] at C7
  rw [fewB_iff] at hf
  have l3 : d.df.length ≤ 100 := by omega
  have l4 : d.py.length ≤ 12 := by omega
  clear hH hf hS
  unfold scrV at C7
  have C8 := Lib.hid (fun W => suffix_no d A1 A2 A3 A4 A5 c1 c2 c3 c4 c5 s1 s2 ver RB rn rc at_ need lo W h1)
  unfold scrV relV scrZ at C8
  have C9 := Lib.hid (fun W => suffix_no d A1 A2 A3 A4 A5 c1 c2 c3 c4 c5 s1 s2 ver RB rn rc at_ need hi W h2)
  unfold scrV relV scrZ at C9
  clear h1 h2
  unfold scrV relV
  go_enter Tryz.func4, Tryz.ntmps4
  go_wp2_with fail
  have B : St w _ [(w.heap.size, #[.int .i64 d.f, .int .i64 d.u, .slice A1 d.sp.length c1, .slice A2 d.ov.length c2, .slice A3 d.df.length c3, .slice A4 d.py.length c4, .slice A5 d.fo.length c5], 28), (w.heap.size + 1, #[.string s1, .string s2, .int .i64 ver, .slice RB rn rc, .int .i64 at_, .int .i64 need], 33)] := (let z := ((St.start w).alloc #[.int .i64 d.f, .int .i64 d.u, .slice A1 d.sp.length c1, .slice A2 d.ov.length c2, .slice A3 d.df.length c3, .slice A4 d.py.length c4, .slice A5 d.fo.length c5] 28).alloc #[.string s1, .string s2, .int .i64 ver, .slice RB rn rc, .int .i64 at_, .int .i64 need] 33; ⟨z.below, by simpa using z.blks.2.1, by simpa using z.blks.1, trivial⟩)
  generalize World.alloc _ _ = X at B ⊢
  refine (HH.out _ B.below).mono ?_
  rintro e' w1 ⟨rfl, hb1⟩
  replace B := B.later hb1
  have R := B.rules
  simp only [Rules] at R
  go_wp2_with fail
  refine (C7.out _).mono ?_
  rintro e' w2 ⟨rfl, hb2⟩
  clear R C7
  replace B := B.later hb2
  have R := B.rules
  simp only [Rules] at R
  go_wp2_with fail
  refine rests_loop d A1 A2 A3 A4 A5 c1 c2 c3 c4 c5 l3 w HS.out.r3 _ _ _ _ _ _ _ _ _ _ _ _ _ _ _ _ _ _ _ _ _ _ _ _ _ _ _ _ _ _ _ _ _ _ _ _ _ _ _ _ _ _ _ _ _ _ _ _ _ _ _ _ _ _ _ _ _ _ _ _ _ _ _ _ _ _ _ _ _ _ _ _ _ _ _ _ _ _ _ _ _ _ _ _ _ _ _ _ _ _ _ _ _ _ _ _ _ _ _ _ _ _ _ _ _ _ _ _ _ _ _ w2 #[.string s1, .string s2, .int .i64 ver, .slice RB rn rc, .int .i64 at_, .int .i64 need] B ⟨rfl, B.below⟩ ?_
  rintro _ _ _ _ _ _ _ _ _ _ _ _ _ _ _ _ _ rfl hall
  have HK := Lib.hid hall
  clear hall
  dsimp only
  go_wp2_with fail
  refine (C8.out _).mono ?_
  rintro e' w3 ⟨rfl, hb3⟩
  clear R C8
  replace B := B.later hb3
  have R := B.rules
  simp only [Rules] at R
  go_wp2_with fail
  generalize hX : World.alloc _ _ = W3
  replace B := St.cast hX (B.alloc _ _)
  clear hX
  refine (C9.out _).mono ?_
  rintro e' w4 ⟨rfl, hb4⟩
  clear R C9
  replace B := B.later hb4
  have R := B.rules
  simp only [Rules] at R
  go_wp2
  go_ret
  exact ⟨rfl, (B.alloc _ _).below⟩
set_option maxRecDepth 100000 in
set_option maxHeartbeats 8000000 in
theorem rests_goft (d : Scr) (A1 A2 A3 A4 A5 : Option Addr) (c1 c2 c3 c4 c5 : Nat) (s1 s2 : ByteArray) (ver : Int) (RB : Option Addr) (rn rc : Nat) (at_ need m n : Int) (w : World) (hb : ScrB d) (hf : fewB d = true) (hS : ScrAt w d A1 A2 A3 A4 A5) (hH : ∀ W, Below w.heap.size w W → Calls Tryz.prog 6 #[] W (Ret (.bool true) W))
    (lo hi : Int) (hN : (if n < m then n else m) = lo) (hM : (if m < n then n else m) = hi) (_hle : lo ≤ hi) (h1 : sufB d at_ lo = false) (h2 : sufB d at_ hi = true) :
    Calls Tryz.prog 4 #[scrV d A1 A2 A3 A4 A5 c1 c2 c3 c4 c5, relV s1 s2 ver RB rn rc at_ need, .int .i64 m, .int .i64 n] w (Ret (.bool true) w) := by
  have HB := Lib.hid hb
  clear hb
  have HH := Lib.hid hH
  have HS := Lib.hid hS
  have C7 := Lib.hid (fun W => few_any d A1 A2 A3 A4 A5 c1 c2 c3 c4 c5 W)
  rw [hf] at C7
  rw [fewB_iff] at hf
  have l3 : d.df.length ≤ 100 := by omega
  have l4 : d.py.length ≤ 12 := by omega
  clear hH hf hS
  unfold scrV at C7
  have C8 := Lib.hid (fun W => suffix_no d A1 A2 A3 A4 A5 c1 c2 c3 c4 c5 s1 s2 ver RB rn rc at_ need lo W h1)
  unfold scrV relV scrZ at C8
  have C9 := Lib.hid (fun W (hW : Below w.heap.size w W) => suffix_any d A1 A2 A3 A4 A5 c1 c2 c3 c4 c5 s1 s2 ver RB rn rc at_ need hi W HB.out l4 h2 (HS.out.later hW) (sufS d at_ hi) rfl)
  unfold scrV relV at C9
  generalize sufS d at_ hi = d2 at C9
  clear h1 h2
  unfold scrV relV
  go_enter Tryz.func4, Tryz.ntmps4
  go_wp2_with fail
  have B : St w _ [(w.heap.size, #[.int .i64 d.f, .int .i64 d.u, .slice A1 d.sp.length c1, .slice A2 d.ov.length c2, .slice A3 d.df.length c3, .slice A4 d.py.length c4, .slice A5 d.fo.length c5], 28), (w.heap.size + 1, #[.string s1, .string s2, .int .i64 ver, .slice RB rn rc, .int .i64 at_, .int .i64 need], 33)] := (let z := ((St.start w).alloc #[.int .i64 d.f, .int .i64 d.u, .slice A1 d.sp.length c1, .slice A2 d.ov.length c2, .slice A3 d.df.length c3, .slice A4 d.py.length c4, .slice A5 d.fo.length c5] 28).alloc #[.string s1, .string s2, .int .i64 ver, .slice RB rn rc, .int .i64 at_, .int .i64 need] 33; ⟨z.below, by simpa using z.blks.2.1, by simpa using z.blks.1, trivial⟩)
  generalize World.alloc _ _ = X at B ⊢
  refine (HH.out _ B.below).mono ?_
  rintro e' w1 ⟨rfl, hb1⟩
  replace B := B.later hb1
  have R := B.rules
  simp only [Rules] at R
  go_wp2_with fail
  refine (C7.out _).mono ?_
  rintro e' w2 ⟨rfl, hb2⟩
  clear R C7
  replace B := B.later hb2
  have R := B.rules
  simp only [Rules] at R
  go_wp2_with fail
  refine rests_loop d A1 A2 A3 A4 A5 c1 c2 c3 c4 c5 l3 w HS.out.r3 _ _ _ _ _ _ _ _ _ _ _ _ _ _ _ _ _ _ _ _ _ _ _ _ _ _ _ _ _ _ _ _ _ _ _ _ _ _ _ _ _ _ _ _ _ _ _ _ _ _ _ _ _ _ _ _ _ _ _ _ _ _ _ _ _ _ _ _ _ _ _ _ _ _ _ _ _ _ _ _ _ _ _ _ _ _ _ _ _ _ _ _ _ _ _ _ _ _ _ _ _ _ _ _ _ _ _ _ _ _ _ w2 #[.string s1, .string s2, .int .i64 ver, .slice RB rn rc, .int .i64 at_, .int .i64 need] B ⟨rfl, B.below⟩ ?_
  rintro _ _ _ _ _ _ _ _ _ _ _ _ _ _ _ _ _ rfl hall
  have HK := Lib.hid hall
  clear hall
  dsimp only
  go_wp2_with fail
  refine (C8.out _).mono ?_
  rintro e' w3 ⟨rfl, hb3⟩
  clear R C8
  replace B := B.later hb3
  have R := B.rules
  simp only [Rules] at R
  go_wp2_with fail
  generalize hX : World.alloc _ _ = W3
  replace B := St.cast hX (B.alloc _ _)
  clear hX
  refine (C9.out _ B.below).mono ?_
  rintro e' w4 ⟨Y1, Y2, Y3, Y4, Y5, j1, j2, j3, j4, j5, rfl, hS2, hb4⟩
  clear R C9
  replace B := B.later hb4
  have R := B.rules
  simp only [Rules] at R
  go_wp2
  go_ret
  exact ⟨rfl, (B.alloc _ _).below⟩
set_option maxRecDepth 100000 in
set_option maxHeartbeats 8000000 in
theorem rests_gotf (d : Scr) (A1 A2 A3 A4 A5 : Option Addr) (c1 c2 c3 c4 c5 : Nat) (s1 s2 : ByteArray) (ver : Int) (RB : Option Addr) (rn rc : Nat) (at_ need m n : Int) (w : World) (hb : ScrB d) (hf : fewB d = true) (hS : ScrAt w d A1 A2 A3 A4 A5) (hH : ∀ W, Below w.heap.size w W → Calls Tryz.prog 6 #[] W (Ret (.bool true) W))
    (lo hi : Int) (hN : (if n < m then n else m) = lo) (hM : (if m < n then n else m) = hi) (_hle : lo ≤ hi) (h1 : sufB d at_ lo = true) (h2 : sufB d at_ hi = false) :
    Calls Tryz.prog 4 #[scrV d A1 A2 A3 A4 A5 c1 c2 c3 c4 c5, relV s1 s2 ver RB rn rc at_ need, .int .i64 m, .int .i64 n] w (Ret (.bool true) w) := by
  have HB := Lib.hid hb
  clear hb
  have HH := Lib.hid hH
  have HS := Lib.hid hS
  have C7 := Lib.hid (fun W => few_any d A1 A2 A3 A4 A5 c1 c2 c3 c4 c5 W)
  rw [hf] at C7
  rw [fewB_iff] at hf
  have l3 : d.df.length ≤ 100 := by omega
  have l4 : d.py.length ≤ 12 := by omega
  clear hH hf hS
  unfold scrV at C7
  have C8 := Lib.hid (fun W (hW : Below w.heap.size w W) => suffix_any d A1 A2 A3 A4 A5 c1 c2 c3 c4 c5 s1 s2 ver RB rn rc at_ need lo W HB.out l4 h1 (HS.out.later hW) (sufS d at_ lo) rfl)
  unfold scrV relV at C8
  have C9 := Lib.hid (fun W => suffix_no d A1 A2 A3 A4 A5 c1 c2 c3 c4 c5 s1 s2 ver RB rn rc at_ need hi W h2)
  unfold scrV relV scrZ at C9
  generalize sufS d at_ lo = d1 at C8
  clear h1 h2
  unfold scrV relV
  go_enter Tryz.func4, Tryz.ntmps4
  go_wp2_with fail
  have B : St w _ [(w.heap.size, #[.int .i64 d.f, .int .i64 d.u, .slice A1 d.sp.length c1, .slice A2 d.ov.length c2, .slice A3 d.df.length c3, .slice A4 d.py.length c4, .slice A5 d.fo.length c5], 28), (w.heap.size + 1, #[.string s1, .string s2, .int .i64 ver, .slice RB rn rc, .int .i64 at_, .int .i64 need], 33)] := (let z := ((St.start w).alloc #[.int .i64 d.f, .int .i64 d.u, .slice A1 d.sp.length c1, .slice A2 d.ov.length c2, .slice A3 d.df.length c3, .slice A4 d.py.length c4, .slice A5 d.fo.length c5] 28).alloc #[.string s1, .string s2, .int .i64 ver, .slice RB rn rc, .int .i64 at_, .int .i64 need] 33; ⟨z.below, by simpa using z.blks.2.1, by simpa using z.blks.1, trivial⟩)
  generalize World.alloc _ _ = X at B ⊢
  refine (HH.out _ B.below).mono ?_
  rintro e' w1 ⟨rfl, hb1⟩
  replace B := B.later hb1
  have R := B.rules
  simp only [Rules] at R
  go_wp2_with fail
  refine (C7.out _).mono ?_
  rintro e' w2 ⟨rfl, hb2⟩
  clear R C7
  replace B := B.later hb2
  have R := B.rules
  simp only [Rules] at R
  go_wp2_with fail
  refine rests_loop d A1 A2 A3 A4 A5 c1 c2 c3 c4 c5 l3 w HS.out.r3 _ _ _ _ _ _ _ _ _ _ _ _ _ _ _ _ _ _ _ _ _ _ _ _ _ _ _ _ _ _ _ _ _ _ _ _ _ _ _ _ _ _ _ _ _ _ _ _ _ _ _ _ _ _ _ _ _ _ _ _ _ _ _ _ _ _ _ _ _ _ _ _ _ _ _ _ _ _ _ _ _ _ _ _ _ _ _ _ _ _ _ _ _ _ _ _ _ _ _ _ _ _ _ _ _ _ _ _ _ _ _ w2 #[.string s1, .string s2, .int .i64 ver, .slice RB rn rc, .int .i64 at_, .int .i64 need] B ⟨rfl, B.below⟩ ?_
  rintro _ _ _ _ _ _ _ _ _ _ _ _ _ _ _ _ _ rfl hall
  have HK := Lib.hid hall
  clear hall
  dsimp only
  go_wp2_with fail
  refine (C8.out _ B.below).mono ?_
  rintro e' w3 ⟨X1, X2, X3, X4, X5, k1, k2, k3, k4, k5, rfl, hS1, hb3⟩
  clear R C8
  replace B := B.later hb3
  have R := B.rules
  simp only [Rules] at R
  go_wp2_with fail
  generalize hX : World.alloc _ _ = W3
  replace B := St.cast hX (B.alloc _ _)
  replace hS1 := ScrAt.cast hX (hS1.later (below_al _ _))
  clear hX
  refine (C9.out _).mono ?_
  rintro e' w4 ⟨rfl, hb4⟩
  clear R C9
  replace B := B.later hb4
  replace hS1 := hS1.later hb4
  have R := B.rules
  simp only [Rules] at R
  go_wp2
  go_ret
  exact ⟨rfl, (B.alloc _ _).below⟩

end Go.Proofs.YtbkipanlicgooaaGreatDoor
namespace Go.Proofs.YtbkipanlicgooaaGreatDoor
open Go.RowKit
set_option maxRecDepth 100000 in
set_option maxHeartbeats 8000000 in
theorem rests_gott (d : Scr) (A1 A2 A3 A4 A5 : Option Addr) (c1 c2 c3 c4 c5 : Nat) (s1 s2 : ByteArray) (ver : Int) (RB : Option Addr) (rn rc : Nat) (at_ need m n : Int) (w : World) (hb : ScrB d) (hf : fewB d = true) (hS : ScrAt w d A1 A2 A3 A4 A5) (hH : ∀ W, Below w.heap.size w W → Calls Tryz.prog 6 #[] W (Ret (.bool true) W))
    (lo hi : Int) (hN : (if n < m then n else m) = lo) (hM : (if m < n then n else m) = hi) (hle : lo ≤ hi) (h1 : sufB d at_ lo = true) (h2 : sufB d at_ hi = true) :
    Calls Tryz.prog 4 #[scrV d A1 A2 A3 A4 A5 c1 c2 c3 c4 c5, relV s1 s2 ver RB rn rc at_ need, .int .i64 m, .int .i64 n] w (Ret (.bool true) w) := by
  have HB := Lib.hid hb
  clear hb
  have HH := Lib.hid hH
  have HS := Lib.hid hS
  have C7 := Lib.hid (fun W => few_any d A1 A2 A3 A4 A5 c1 c2 c3 c4 c5 W)
  rw [hf] at C7
  rw [fewB_iff] at hf
  have l3 : d.df.length ≤ 100 := by omega
  have l4 : d.py.length ≤ 12 := by omega
  clear hH hf hS
  unfold scrV at C7
  have C8 := Lib.hid (fun W (hW : Below w.heap.size w W) => suffix_any d A1 A2 A3 A4 A5 c1 c2 c3 c4 c5 s1 s2 ver RB rn rc at_ need lo W HB.out l4 h1 (HS.out.later hW) (sufS d at_ lo) rfl)
  unfold scrV relV at C8
  have C9 := Lib.hid (fun W (hW : Below w.heap.size w W) => suffix_any d A1 A2 A3 A4 A5 c1 c2 c3 c4 c5 s1 s2 ver RB rn rc at_ need hi W HB.out l4 h2 (HS.out.later hW) (sufS d at_ hi) rfl)
  unfold scrV relV at C9
  have F1 : (if d.u < lo then d.u else lo) = (sufS d at_ lo).f := rfl
  have F2 : (sufS d at_ lo).u = d.u := rfl
  have HB1 := Lib.hid (sufS_B HB.out h1)
  have HB2 := Lib.hid (sufS_B HB.out h2)
  have H12 := Lib.hid (show (sufS d at_ lo).py.length ≤ 12 from Nat.le_trans (payS_len _ _ _ _) (Nat.le_trans (List.length_filter_le _ _) l4))
  have HR := Lib.hid (fun hk => suf_rest hle h1 h2 hk)
  generalize sufS d at_ lo = d1 at C8 F1 F2 HB1 H12 HR
  generalize sufS d at_ hi = d2 at C9 HB2 HR
  clear h1 h2
  unfold scrV relV
  go_enter Tryz.func4, Tryz.ntmps4
  go_wp2_with fail
  have B : St w _ [(w.heap.size, #[.int .i64 d.f, .int .i64 d.u, .slice A1 d.sp.length c1, .slice A2 d.ov.length c2, .slice A3 d.df.length c3, .slice A4 d.py.length c4, .slice A5 d.fo.length c5], 28), (w.heap.size + 1, #[.string s1, .string s2, .int .i64 ver, .slice RB rn rc, .int .i64 at_, .int .i64 need], 33)] := (let z := ((St.start w).alloc #[.int .i64 d.f, .int .i64 d.u, .slice A1 d.sp.length c1, .slice A2 d.ov.length c2, .slice A3 d.df.length c3, .slice A4 d.py.length c4, .slice A5 d.fo.length c5] 28).alloc #[.string s1, .string s2, .int .i64 ver, .slice RB rn rc, .int .i64 at_, .int .i64 need] 33; ⟨z.below, by simpa using z.blks.2.1, by simpa using z.blks.1, trivial⟩)
  generalize World.alloc _ _ = X at B ⊢
  refine (HH.out _ B.below).mono ?_
  rintro e' w1 ⟨rfl, hb1⟩
  replace B := B.later hb1
  have R := B.rules
  simp only [Rules] at R
  go_wp2_with fail
  refine (C7.out _).mono ?_
  rintro e' w2 ⟨rfl, hb2⟩
  clear R C7
  replace B := B.later hb2
  have R := B.rules
  simp only [Rules] at R
  go_wp2_with fail
  refine rests_loop d A1 A2 A3 A4 A5 c1 c2 c3 c4 c5 l3 w HS.out.r3 _ _ _ _ _ _ _ _ _ _ _ _ _ _ _ _ _ _ _ _ _ _ _ _ _ _ _ _ _ _ _ _ _ _ _ _ _ _ _ _ _ _ _ _ _ _ _ _ _ _ _ _ _ _ _ _ _ _ _ _ _ _ _ _ _ _ _ _ _ _ _ _ _ _ _ _ _ _ _ _ _ _ _ _ _ _ _ _ _ _ _ _ _ _ _ _ _ _ _ _ _ _ _ _ _ _ _ _ _ _ _ w2 #[.string s1, .string s2, .int .i64 ver, .slice RB rn rc, .int .i64 at_, .int .i64 need] B ⟨rfl, B.below⟩ ?_
  rintro _ _ _ _ _ _ _ _ _ _ _ _ _ _ _ _ _ rfl hall
  have HK := Lib.hid hall
  clear hall
  dsimp only
  go_wp2_with fail
  refine (C8.out _ B.below).mono ?_
  rintro e' w3 ⟨X1, X2, X3, X4, X5, k1, k2, k3, k4, k5, rfl, hS1, hb3⟩
  clear R C8
  replace B := B.later hb3
  have R := B.rules
  simp only [Rules] at R
  go_wp2_with fail
  generalize hX : World.alloc _ _ = W3
  replace B := St.cast hX (B.alloc _ _)
  replace hS1 := ScrAt.cast hX (hS1.later (below_al _ _))
  clear hX
  refine (C9.out _ B.below).mono ?_
  rintro e' w4 ⟨Y1, Y2, Y3, Y4, Y5, j1, j2, j3, j4, j5, rfl, hS2, hb4⟩
  clear R C9
  replace B := B.later hb4
  replace hS1 := hS1.later hb4
  have R := B.rules
  simp only [Rules] at R
  go_wp2_with fail
  generalize hX : World.alloc _ _ = W4
  replace B := St.cast hX (B.alloc _ _)
  replace hS1 := ScrAt.cast hX (hS1.later (below_al _ _))
  replace hS2 := ScrAt.cast hX (hS2.later (below_al _ _))
  clear hX
  have C8 := Lib.hid (suffix_any d1 X1 X2 X3 X4 X5 k1 k2 k3 k4 k5 s1 s2 ver RB rn rc at_ need hi W4 HB1.out H12.out (HR.out HK.out).1 hS1 d2 (HR.out HK.out).2)
  unfold scrV relV at C8
  rw [F2] at C8
  (with_reducible refine C8.out.mono ?_)
  rintro e' w5 ⟨Z1, Z2, Z3, Z4, Z5, i1, i2, i3, i4, i5, rfl, hS3, hb5⟩
  clear R C8
  replace B := B.later hb5
  replace hS2 := hS2.later hb5
  have R := B.rules
  simp only [Rules] at R
  have C10 := Lib.hid (fun W (hW : Below w5.heap.size w5 W) => same_any d2 HB2.out Y1 Y2 Y3 Y4 Y5 j1 j2 j3 j4 j5 Z1 Z2 Z3 Z4 Z5 i1 i2 i3 i4 i5 W (hS2.later hW) (hS3.later hW))
  unfold scrV at C10
  go_wp2_with (first | (go_at_call 10; (with_reducible refine (C10.out _ (below_al _ _)).mono ?_); rintro e' w6 ⟨rfl, hb6⟩; have B6 := (B.alloc _ _).later hb6; have R6 := B6.rules; simp only [Rules] at R6))
  go_ret
  exact ⟨by simp, B6.below⟩
/-- Its numbers are ints. -/
structure ScrI (d : Scr) : Prop where
  f : I64 d.f
  u : I64 d.u
  b1 : RowsB 5 Spl.g d.sp
  b2 : RowsB 7 Ovr.g d.ov
  b3 : RowsB 5 Dfc.g d.df
  b4 : RowsB 4 Pay.g d.py
  b5 : RowsB 6 Frg.g d.fo
theorem ScrI.few {d : Scr} (h : ScrI d) (hf : fewB d = true) : ScrB d := by
  rw [fewB_iff] at hf
  exact ⟨h.f, h.u, by omega, by omega, by omega, by omega, by omega, h.b1, h.b2, h.b3, h.b4, h.b5⟩
/-- The law RepairRests returns true. -/
theorem rests_any (d : Scr) (A1 A2 A3 A4 A5 : Option Addr) (c1 c2 c3 c4 c5 : Nat) (s1 s2 : ByteArray) (ver : Int) (RB : Option Addr) (rn rc : Nat) (at_ need m n : Int) (w : World) (hb : ScrI d) (hS : ScrAt w d A1 A2 A3 A4 A5) (hH : ∀ W, Below w.heap.size w W → Calls Tryz.prog 6 #[] W (Ret (.bool true) W)) :
    Calls Tryz.prog 4 #[scrV d A1 A2 A3 A4 A5 c1 c2 c3 c4 c5, relV s1 s2 ver RB rn rc at_ need, .int .i64 m, .int .i64 n] w (Ret (.bool true) w) := by
  cases hf : fewB d with
  | false => exact rests_few d A1 A2 A3 A4 A5 c1 c2 c3 c4 c5 s1 s2 ver RB rn rc at_ need m n w hf hH
  | true =>
    have hB := hb.few hf
    have hle : (if n < m then n else m) ≤ (if m < n then n else m) := by (repeat' split) <;> omega
    cases h1 : sufB d at_ (if n < m then n else m) <;> cases h2 : sufB d at_ (if m < n then n else m)
    · exact rests_goff d A1 A2 A3 A4 A5 c1 c2 c3 c4 c5 s1 s2 ver RB rn rc at_ need m n w hB hf hS hH _ _ rfl rfl hle h1 h2
    · exact rests_goft d A1 A2 A3 A4 A5 c1 c2 c3 c4 c5 s1 s2 ver RB rn rc at_ need m n w hB hf hS hH _ _ rfl rfl hle h1 h2
    · exact rests_gotf d A1 A2 A3 A4 A5 c1 c2 c3 c4 c5 s1 s2 ver RB rn rc at_ need m n w hB hf hS hH _ _ rfl rfl hle h1 h2
    · exact rests_gott d A1 A2 A3 A4 A5 c1 c2 c3 c4 c5 s1 s2 ver RB rn rc at_ need m n w hB hf hS hH _ _ rfl rfl hle h1 h2

end Go.Proofs.YtbkipanlicgooaaGreatDoor
namespace Go.Proofs.YtbkipanlicgooaaGreatDoor
open Go.ChangeShapes Go.WideShapes Go.ChangeAt Go.RowKit Go.Deep

theorem own : ownKnob Tryz.prog.godebug = none := by kernel_rfl

section
variable {H : Type} {enc : TypeId × Value → H} {P : Program}
theorem trodAll_stays (hl : laidOutB P = true) {W W' : World} {sp : Nat → Bool} : ∀ {ts : List TypeId} {vs : List Value} {ds : List (DataW H)} {ps : List MemPlace},
    (ts.all fun t => P.readableRec t && decide (t < P.types.size)) = true → DataW.TrodAll enc P W 0 (fun _ => true) true ts vs ds ps →
    (∀ p ∈ ps, W.sameAt W' p) → (∀ p ∈ ps, sp p.block = true) → DataW.TrodAll enc P W' 0 sp true ts vs ds ps
  | [], [], [], ps, _, h, _, _ => h
  | t :: ts, v :: vs, d :: ds, ps, ht, ⟨p, q, h1, h2, e⟩, hs, hp => by
    simp only [List.all_cons, Bool.and_eq_true, decide_eq_true_eq] at ht
    subst e
    exact ⟨p, q, WideElems.Trod_stays hl ht.1.1 ht.1.2 h1 (fun x hx => hs x (by simp [hx])) (fun x hx => hp x (by simp [hx])),
      trodAll_stays hl ht.2 h2 (fun x hx => hs x (by simp [hx])) (fun x hx => hp x (by simp [hx])), rfl⟩
  | [], _ :: _, _, _, _, h, _, _ => h.elim
  | [], [], _ :: _, _, _, h, _, _ => h.elim
  | _ :: _, [], _, _, _, h, _, _ => h.elim
  | _ :: _, _ :: _, [], _, _, h, _, _ => h.elim

/-- What the row of a law asks, of a call that returns true and leaves what was there as it was. -/
theorem law_post {f : FuncId} {fn : Func} {s : ChangeSpec} {tb : TypeId} {W : World} {args : Array Value} {ds gs : List (DataW H)} {before : List MemPlace}
    (hl : laidOutB P = true) (hts : (fn.params.toList.all fun t => P.readableRec t && decide (t < P.types.size)) = true) (hres : fn.resultTypes = #[tb]) (hb : P.underlying tb = some .bool) (hvars : s.vars = [])
    (hW : DataW.Whole enc P fn.params.toList s.vars false W args.toList ds gs before)
    (hspec : s.fn H (ds ++ gs) = { results := [.lit (.bool true)], args := ds })
    (h : Calls P f args W (Ret (.bool true) W)) : Calls P f args W fun e W' => ∃ v, e = .returned v ∧ s.post enc P fn false true false false W args v W' := by
  refine h.mono fun e W' ⟨he, hbel⟩ => ⟨_, he, ?_⟩
  have hW0 := hW
  obtain ⟨p, q, hA, hV, hpq, _, _⟩ := hW
  have hg : gs = [] ∧ q = [] := by
    rw [hvars] at hV
    cases gs with
    | nil => exact ⟨rfl, hV⟩
    | cons _ _ => exact hV.elim
  obtain ⟨rfl, rfl⟩ := hg
  have hlt : ∀ x ∈ before, x.block < W.heap.size := fun x hx => hW0.lt x hx
  have hb0 : before = p := by simpa using hpq
  subst hb0
  refine ⟨ds, [], before, [], before, [], hW0, ?_, ?_, ?_, hbel.frame _, fun h0 => by cases h0⟩
  · rw [hspec, hres]
    exact trodAll_mk1 (shut_bool hb true)
  · rw [hspec]
    exact trodAll_stays hl hts hA (fun x hx => hbel.same (hlt x hx)) (fun x hx => by simpa using hlt x hx)
  · rw [hspec, hvars]
    exact rfl
end

/-- The number in a cell. -/
def intAt (w : World) (p : Addr) : Int := match w.cell? p with
  | some (.int _ n) => n
  | _ => 0
theorem intAt_eq {w : World} {p : Addr} {n : Int} (h : w.cell? p = some (.int .i64 n)) : intAt w p = n := by
  simp only [intAt, h]

section
variable {H : Type} {enc : TypeId × Value → H} {P : Program} {w : World} {r : Reach} {base b0 : Nat} {spare : Nat → Bool} {held : Bool} {v : Value} {d : DataW H} {p : List MemPlace}

/-- What any field reads as. -/
theorem open_field {t : TypeId} {fs : Array Field} (hs : P.underlying t = some (.struct fs)) (hv : Value.okWide P w r b0 t v) (h : DataW.Trod enc P w base spare held t v d p) :
    ∃ (cs : Array Value) (n : Nat), v = .agg cs ∧ cs.size = P.cellsOf t ∧ ∀ (i : Nat) (f : Field), fs[i]? = some f → ∃ y, DataW.trod enc P w base spare held n f.type ((cs.toList.drop f.offset).take (P.cellsOf f.type)) = some y := by
  obtain ⟨cs, rfl, hsz⟩ := okWide_struct hs hv
  obtain ⟨fuel, hf⟩ := h
  obtain ⟨xs, n, _, _, _, hlen, hg⟩ := DataW.trod_struct hs hf
  refine ⟨cs, n, rfl, hsz, fun i f hi => ?_⟩
  have hlt : i < fs.size := (Array.getElem?_eq_some_iff.1 hi).1
  exact ⟨xs[i]'(by omega), (hg i f hi).trans (List.getElem?_eq_getElem (by omega))⟩
theorem wf_i64 {n : Int} (h : (Lit.int .i64 n).wf = true) : I64 n := by
  simp only [Lit.wf, IntKind.bits, IntKind.signed, IntKind.min, IntKind.max, Bool.and_eq_true, decide_eq_true_eq, if_true] at h
  unfold I64
  omega
/-- Cells of one row after the other. -/
def CellsAt (w : World) (A : Option Addr) (n sz : Nat) : Prop := ∀ i, i < n → ∃ a, A = some a ∧ ∀ j, j < sz → ∃ z, w.cell? (a.add (i * sz + j)) = some (.int .i64 z) ∧ I64 z
/-- A slice of structs whose fields are numbers. -/
theorem open_rows {t e : TypeId} {fs : Array Field} {fuel : Nat} {u : Value} {x : DataW H × List MemPlace} (ht : P.underlying t = some (.slice e)) (he : P.underlying e = some (.struct fs))
    (hone : oneCellFields P fs = true) (hC : P.cellsOf e = fs.size) (h3 : P.underlying 3 = some (.int .i64)) (hint : (fs.all fun f => f.type == 3) = true) (h : DataW.trod enc P w base spare held fuel t [u] = some x) :
    ∃ (A : Option Addr) (n c : Nat), u = .slice A n c ∧ CellsAt w A n fs.size := by
  rcases Go.Deep.open_slice ht h with ⟨e, _⟩ | ⟨a, len, cap, m, n', D, Pl, e, hb, hl, hm, hmm, _, hi⟩
  · simp at e
    exact ⟨none, 0, 0, e, fun i hi => absurd hi (by omega)⟩
  · simp at e
    refine ⟨some a, len, cap, e, fun i hlt => ⟨a, rfl, fun j hj => ?_⟩⟩
    have him : i < m := by
      rw [hmm]
      split <;> omega
    obtain ⟨cs', hc, ht'⟩ := hi i him
    rw [hC] at hc
    obtain ⟨_, hcl, hat⟩ := World.cells?_some hc
    obtain ⟨ys, n2, _, _, _, hyl, hf⟩ := DataW.trod_struct he ht'
    have hj' : fs[j]? = some fs[j] := Array.getElem?_eq_getElem hj
    obtain ⟨ho, hk⟩ := hone_of hone j _ hj'
    have h1 := hf j _ hj'
    have e1 : (cs'.drop j).take 1 = [cs'[j]'(by omega)] := by
      rw [List.drop_eq_getElem_cons (by omega)]
      rfl
    have ht3 : fs[j].type = 3 := by
      have := Array.all_eq_true.1 hint j hj
      simpa using this
    rw [ho, hk, e1, ht3, List.getElem?_eq_getElem (by omega)] at h1
    obtain ⟨z, ez, _, hwf⟩ := DataW.trod_int h3 h1
    simp at ez
    have hcell := hat j hj
    rw [Addr.add_add, List.getElem?_eq_getElem (by omega), ez] at hcell
    exact ⟨z, hcell, wf_i64 hwf⟩
end
/-- Such rows as a list. -/
theorem rows_list {α : Type} {w : World} {A : Option Addr} {n sz : Nat} (hsz : 0 < sz) (mk : (Nat → Int) → α) (g : α → Nat → Int) (hg : ∀ f j, j < sz → g (mk f) j = f j) (h : CellsAt w A n sz) :
    ∃ l : List α, l.length = n ∧ RowsAt w A sz g l ∧ RowsB sz g l := by
  let at_ : Nat → Nat → Int := fun i j => intAt w ((A.getD ⟨0, 0, none⟩).add (i * sz + j))
  have key : ∀ (i : Nat) (x : α), ((List.range n).map fun i => mk (at_ i))[i]? = some x → i < n ∧ x = mk (at_ i) := by
    intro i x hx
    rw [List.getElem?_map] at hx
    by_cases hi : i < n
    · rw [List.getElem?_range hi] at hx
      exact ⟨hi, (Option.some.inj hx).symm⟩
    · rw [List.getElem?_eq_none (by simpa using hi)] at hx
      cases hx
  refine ⟨(List.range n).map fun i => mk (at_ i), by simp, ?_, ?_⟩
  · intro i x hx
    obtain ⟨hi, rfl⟩ := key i x hx
    obtain ⟨a, rfl, hc⟩ := h i hi
    have h0 : ∀ j, j < sz → w.cell? (a.add (i * sz + j)) = some (.int .i64 (g (mk (at_ i)) j)) := by
      intro j hj
      obtain ⟨z, hz, _⟩ := hc j hj
      rw [hg _ _ hj, hz]
      have : at_ i j = z := intAt_eq hz
      rw [this]
    have k0 := h0 0 hsz
    rw [Nat.add_zero] at k0
    refine ⟨a, rfl, World.block_lt_of_cell? _ _ k0, k0, fun j hj hs => ?_⟩
    rw [add_two _ _ _ hj]
    exact h0 j hs
  · intro x hx j hj
    obtain ⟨i, hi⟩ := List.mem_iff_getElem?.1 hx
    obtain ⟨hlt, rfl⟩ := key i x hi
    obtain ⟨a, rfl, hc⟩ := h i hlt
    obtain ⟨z, hz, hI⟩ := hc j hj
    rw [hg _ _ hj]
    have : at_ i j = z := intAt_eq hz
    rw [this]
    exact hI
section
variable {H : Type} {enc : TypeId × Value → H} {w : World} {r : Reach} {base b0 : Nat} {spare : Nat → Bool} {held : Bool} {v : Value} {d : DataW H} {p : List MemPlace}
theorem cells3 : Tryz.prog.cellsOf 3 = 1 := by kernel_rfl
theorem cells9 : Tryz.prog.cellsOf 9 = 1 := by kernel_rfl
theorem cells28 : Tryz.prog.cellsOf 28 = 7 := by kernel_rfl
theorem cells31 : Tryz.prog.cellsOf 31 = 3 := by kernel_rfl
theorem cells33 : Tryz.prog.cellsOf 33 = 6 := by kernel_rfl
theorem cells22 : Tryz.prog.cellsOf 22 = 1 := by kernel_rfl
theorem cells23 : Tryz.prog.cellsOf 23 = 1 := by kernel_rfl
theorem cells24 : Tryz.prog.cellsOf 24 = 1 := by kernel_rfl
theorem cells25 : Tryz.prog.cellsOf 25 = 1 := by kernel_rfl
theorem cells26 : Tryz.prog.cellsOf 26 = 1 := by kernel_rfl
theorem cells84 : Tryz.prog.cellsOf 84 = 5 := by kernel_rfl
theorem cells86 : Tryz.prog.cellsOf 86 = 6 := by kernel_rfl
set_option maxRecDepth 100000 in
theorem int_of {fuel : Nat} {u : Value} {x : DataW H × List MemPlace} (hf : DataW.trod enc Tryz.prog w base spare held fuel 3 [u] = some x) : ∃ a : Int, u = .int .i64 a ∧ I64 a := by
  obtain ⟨a, e, _, hw⟩ := DataW.trod_int Tryz.underlying3 hf
  simp at e
  exact ⟨a, e, wf_i64 hw⟩
set_option maxRecDepth 100000 in
theorem str_of {fuel : Nat} {u : Value} {x : DataW H × List MemPlace} (hf : DataW.trod enc Tryz.prog w base spare held fuel 9 [u] = some x) : ∃ a : ByteArray, u = .string a := by
  obtain ⟨a, e, _⟩ := DataW.trod_string Tryz.underlying9 hf
  simp at e
  exact ⟨a, e⟩
set_option maxRecDepth 100000 in
theorem slice_of {t e : TypeId} {fuel : Nat} {u : Value} {x : DataW H × List MemPlace} (ht : Tryz.prog.underlying t = some (.slice e)) (hf : DataW.trod enc Tryz.prog w base spare held fuel t [u] = some x) : ∃ (A : Option Addr) (n c : Nat), u = .slice A n c := by
  rcases Go.Deep.open_slice ht hf with ⟨e, _⟩ | ⟨a, len, cap, m, n', D, Pl, e, hb, hl, hm, hmm, _, hi⟩
  · simp at e
    exact ⟨_, _, _, e⟩
  · simp at e
    exact ⟨_, _, _, e⟩
set_option maxRecDepth 100000 in
/-- Six cells of a foreign alert. -/
theorem open_alert {m _n : Nat} {cs : List Value} {x : DataW H × List MemPlace} (hl : cs.length = 6) (h : DataW.trod enc Tryz.prog w base spare held m 86 cs = some x) : ∀ j, j < 6 → ∃ z, cs[j]? = some (.int .i64 z) ∧ I64 z := by
  obtain ⟨ys, n2, _, _, _, hyl, hf⟩ := DataW.trod_struct Tryz.underlying86 h
  match cs, hl with
  | [u0, u1, u2, u3, u4, u5], _ =>
    have k0 := hf 0 _ rfl
    have k1 := hf 1 _ rfl
    simp [cells84, cells3] at k0 k1
    match ys, hyl with
    | [y0, y1], _ =>
      obtain ⟨z5, rfl, b5⟩ := int_of k1
      obtain ⟨xs, n3, _, _, _, hxl, hg⟩ := DataW.trod_struct Tryz.underlying84 k0
      have g0 := hg 0 _ rfl
      have g1 := hg 1 _ rfl
      have g2 := hg 2 _ rfl
      have g3 := hg 3 _ rfl
      have g4 := hg 4 _ rfl
      simp [cells3] at g0 g1 g2 g3 g4
      match xs, hxl with
      | [x0, x1, x2, x3, x4], _ =>
        obtain ⟨z0, rfl, b0⟩ := int_of g0
        obtain ⟨z1, rfl, b1⟩ := int_of g1
        obtain ⟨z2, rfl, b2⟩ := int_of g2
        obtain ⟨z3, rfl, b3⟩ := int_of g3
        obtain ⟨z4, rfl, b4⟩ := int_of g4
        intro j hj
        have : j = 0 ∨ j = 1 ∨ j = 2 ∨ j = 3 ∨ j = 4 ∨ j = 5 := by omega
        rcases this with rfl | rfl | rfl | rfl | rfl | rfl
        · exact ⟨z0, rfl, b0⟩
        · exact ⟨z1, rfl, b1⟩
        · exact ⟨z2, rfl, b2⟩
        · exact ⟨z3, rfl, b3⟩
        · exact ⟨z4, rfl, b4⟩
        · exact ⟨z5, rfl, b5⟩
set_option maxRecDepth 100000 in
theorem open_alerts {fuel : Nat} {u : Value} {x : DataW H × List MemPlace} (h : DataW.trod enc Tryz.prog w base spare held fuel 26 [u] = some x) : ∃ (A : Option Addr) (n c : Nat), u = .slice A n c ∧ CellsAt w A n 6 := by
  rcases Go.Deep.open_slice Tryz.underlying26 h with ⟨e, _⟩ | ⟨a, len, cap, m, n', D, Pl, e, hb, hl, hm, hmm, _, hi⟩
  · simp at e
    exact ⟨none, 0, 0, e, fun i hi => absurd hi (by omega)⟩
  · simp at e
    refine ⟨some a, len, cap, e, fun i hlt => ⟨a, rfl, fun j hj => ?_⟩⟩
    have him : i < m := by
      rw [hmm]
      split <;> omega
    obtain ⟨cs', hc, ht'⟩ := hi i him
    rw [cells86] at hc
    obtain ⟨_, hcl, hat⟩ := World.cells?_some hc
    obtain ⟨z, hz, hI⟩ := open_alert (_n := 0) hcl ht' j hj
    have hcell := hat j hj
    rw [Addr.add_add, hz] at hcell
    exact ⟨z, hcell, hI⟩
set_option maxRecDepth 100000 in
/-- A script. -/
theorem open28 (hv : Value.okWide Tryz.prog w r b0 28 v) (h : DataW.Trod enc Tryz.prog w base spare held 28 v d p) :
    ∃ (D : Scr) (A1 A2 A3 A4 A5 : Option Addr) (c1 c2 c3 c4 c5 : Nat), v = scrV D A1 A2 A3 A4 A5 c1 c2 c3 c4 c5 ∧ ScrAt w D A1 A2 A3 A4 A5 ∧ ScrI D := by
  obtain ⟨cs, n, rfl, hsz, hf⟩ := open_field Tryz.underlying28 hv h
  rw [cells28] at hsz
  obtain ⟨l⟩ := cs
  match l, hsz with
  | [u0, u1, u2, u3, u4, u5, u6], _ =>
    obtain ⟨y0, g0⟩ := hf 0 _ rfl
    obtain ⟨y1, g1⟩ := hf 1 _ rfl
    obtain ⟨y2, g2⟩ := hf 2 _ rfl
    obtain ⟨y3, g3⟩ := hf 3 _ rfl
    obtain ⟨y4, g4⟩ := hf 4 _ rfl
    obtain ⟨y5, g5⟩ := hf 5 _ rfl
    obtain ⟨y6, g6⟩ := hf 6 _ rfl
    simp [cells3, cells22, cells23, cells24, cells25, cells26] at g0 g1 g2 g3 g4 g5 g6
    obtain ⟨f, rfl, bf⟩ := int_of g0
    obtain ⟨u, rfl, bu⟩ := int_of g1
    obtain ⟨A1, n1, c1, rfl, k1⟩ := open_rows Tryz.underlying22 Tryz.underlying47 (by kernel_rfl) (by kernel_rfl) Tryz.underlying3 (by kernel_rfl) g2
    obtain ⟨A2, n2, c2, rfl, k2⟩ := open_rows Tryz.underlying23 Tryz.underlying49 (by kernel_rfl) (by kernel_rfl) Tryz.underlying3 (by kernel_rfl) g3
    obtain ⟨A3, n3, c3, rfl, k3⟩ := open_rows Tryz.underlying24 Tryz.underlying42 (by kernel_rfl) (by kernel_rfl) Tryz.underlying3 (by kernel_rfl) g4
    obtain ⟨A4, n4, c4, rfl, k4⟩ := open_rows Tryz.underlying25 Tryz.underlying45 (by kernel_rfl) (by kernel_rfl) Tryz.underlying3 (by kernel_rfl) g5
    obtain ⟨A5, n5, c5, rfl, k5⟩ := open_alerts g6
    obtain ⟨l1, rfl, r1, b1⟩ := rows_list (sz := 5) (by omega) (fun f => (⟨f 0, f 1, f 2, f 3, f 4⟩ : Spl)) Spl.g (fun f j hj => by
      have : j = 0 ∨ j = 1 ∨ j = 2 ∨ j = 3 ∨ j = 4 := by omega
      rcases this with rfl | rfl | rfl | rfl | rfl <;> rfl) k1
    obtain ⟨l2, rfl, r2, b2⟩ := rows_list (sz := 7) (by omega) (fun f => (⟨f 0, f 1, f 2, f 3, f 4, f 5, f 6⟩ : Ovr)) Ovr.g (fun f j hj => by
      have : j = 0 ∨ j = 1 ∨ j = 2 ∨ j = 3 ∨ j = 4 ∨ j = 5 ∨ j = 6 := by omega
      rcases this with rfl | rfl | rfl | rfl | rfl | rfl | rfl <;> rfl) k2
    obtain ⟨l3, rfl, r3, b3⟩ := rows_list (sz := 5) (by omega) (fun f => (⟨f 0, f 1, f 2, f 3, f 4⟩ : Dfc)) Dfc.g (fun f j hj => by
      have : j = 0 ∨ j = 1 ∨ j = 2 ∨ j = 3 ∨ j = 4 := by omega
      rcases this with rfl | rfl | rfl | rfl | rfl <;> rfl) k3
    obtain ⟨l4, rfl, r4, b4⟩ := rows_list (sz := 4) (by omega) (fun f => (⟨f 0, f 1, f 2, f 3⟩ : Pay)) Pay.g (fun f j hj => by
      have : j = 0 ∨ j = 1 ∨ j = 2 ∨ j = 3 := by omega
      rcases this with rfl | rfl | rfl | rfl <;> rfl) k4
    obtain ⟨l5, rfl, r5, b5⟩ := rows_list (sz := 6) (by omega) (fun f => (⟨f 0, f 1, f 2, f 3, f 4, f 5⟩ : Frg)) Frg.g (fun f j hj => by
      have : j = 0 ∨ j = 1 ∨ j = 2 ∨ j = 3 ∨ j = 4 ∨ j = 5 := by omega
      rcases this with rfl | rfl | rfl | rfl | rfl | rfl <;> rfl) k5
    exact ⟨⟨f, u, l1, l2, l3, l4, l5⟩, A1, A2, A3, A4, A5, c1, c2, c3, c4, c5, rfl, ⟨r1, r2, r3, r4, r5⟩, ⟨bf, bu, b1, b2, b3, b4, b5⟩⟩
set_option maxRecDepth 100000 in
/-- A release. -/
theorem open33 (hv : Value.okWide Tryz.prog w r b0 33 v) (h : DataW.Trod enc Tryz.prog w base spare held 33 v d p) :
    ∃ (s1 s2 : ByteArray) (ver : Int) (B : Option Addr) (n c : Nat) (at_ need : Int), v = relV s1 s2 ver B n c at_ need ∧ I64 at_ := by
  obtain ⟨cs, n, rfl, hsz, hf⟩ := open_field Tryz.underlying33 hv h
  rw [cells33] at hsz
  obtain ⟨l⟩ := cs
  match l, hsz with
  | [u0, u1, u2, u3, u4, u5], _ =>
    obtain ⟨y0, g0⟩ := hf 0 _ rfl
    obtain ⟨y1, g1⟩ := hf 1 _ rfl
    obtain ⟨y4, g4⟩ := hf 2 _ rfl
    obtain ⟨y5, g5⟩ := hf 3 _ rfl
    simp [cells31, cells9, cells3] at g0 g1 g4 g5
    obtain ⟨s0, rfl⟩ := str_of g0
    obtain ⟨m, rfl, bm⟩ := int_of g4
    obtain ⟨i5, rfl, _⟩ := int_of g5
    obtain ⟨xs, n2, _, _, _, hlen, hg⟩ := DataW.trod_struct Tryz.underlying31 g1
    have k0 := hg 0 _ rfl
    have k1 := hg 1 _ rfl
    have k2 := hg 2 _ rfl
    have c30 : Tryz.prog.cellsOf 29 = 1 := by kernel_rfl
    simp [cells9, cells3, c30] at k0 k1 k2
    match xs, hlen with
    | [z0, z1, z2], _ =>
      obtain ⟨s1, rfl⟩ := str_of k0
      obtain ⟨i2, rfl, _⟩ := int_of k1
      obtain ⟨A, n3, c3, rfl⟩ := slice_of Tryz.underlying29 k2
      exact ⟨s0, s1, i2, A, n3, c3, m, i5, rfl, bm⟩
end
end Go.Proofs.YtbkipanlicgooaaGreatDoor
