/-
  The reference's Suffix, whole: it gives the rest of the script. No conditions but those in each statement.
-/
import Derived.Test.YtbkipanlicgooaaGreatDoorLh
import Derived.Test.YtbkipanlicgooaaGreatDoorRa
import Derived.Test.YtbkipanlicgooaaGreatDoorRd
import Derived.Test.YtbkipanlicgooaaGreatDoorRe
import Derived.Test.YtbkipanlicgooaaGreatDoorRf
import Derived.ProofKit
import Derived.Deep.Slices
import Derived.Deep.Fields
import Derived.Deep.Strs
namespace Go.Proofs.YtbkipanlicgooaaGreatDoor
open Go.RowKit

set_option maxRecDepth 100000 in
set_option maxHeartbeats 8000000 in
theorem rsuffix_ok (d : Scr) (A1 A2 A3 A4 A5 : Option Addr) (c1 c2 c3 c4 c5 : Nat) (s1 s2 : ByteArray) (ver : Int) (RB : Option Addr) (rn rc : Nat) (at_ need m : Int) (w : World) (hB : sufB d at_ m = true)
    (n1 : d.sp.length ≤ 100) (n2 : d.ov.length ≤ 100) (n3 : d.df.length ≤ 100) (n4 : d.py.length ≤ 100) (n5 : d.fo.length ≤ 100) (hS : ScrAt w d A1 A2 A3 A4 A5) {R : Ending → World → Prop}
    (hR : ∀ X1 X2 X3 X4 X5 k1 k2 k3 k4 k5 w', ScrAt w' (sufS d at_ m) X1 X2 X3 X4 X5 → Below w.heap.size w w' →
      R (.returned (.tuple #[.agg #[.int .i64 (mn m d.u), .int .i64 d.u, .slice X1 (spS d.u m d.sp).length k1, .slice X2 (ovS d.u m d.ov).length k2, .slice X3 (dfS d.u at_ m d.df).length k3, .slice X4 (payS d.u at_ m d.py).length k4, .slice X5 d.fo.length k5], .int .i64 0])) w') :
    Calls Tryz.prog 9 #[scrV d A1 A2 A3 A4 A5 c1 c2 c3 c4 c5, relV s1 s2 ver RB rn rc at_ need, .int .i64 m] w R := by
  rw [sufB_iff] at hB
  obtain ⟨⟨hf0, hf1⟩, ⟨hu0, hu1⟩, hfu, hfm, hmu, ha0, ha1⟩ := hB
  have h2 : ¬ (d.u < d.f) := by omega
  have h3 : ¬ (m < d.f) := by omega
  have h4 : ¬ (d.u + 1 < m) := by omega
  have C0 := Lib.hid (fun W => rmoment_any d.f W)
  have C1 := Lib.hid (fun W => rmoment_any d.u W)
  have C2 := Lib.hid (fun W => rmoment_any at_ W)
  rw [(momB_iff d.f).2 ⟨hf0, hf1⟩] at C0
  rw [(momB_iff d.u).2 ⟨hu0, hu1⟩] at C1
  rw [(momB_iff at_).2 ⟨ha0, ha1⟩] at C2
  have HS := Lib.hid hS
  have HR := Lib.hid hR
  clear hS hR
  unfold scrV relV
  go_enter Tryz.func9, Tryz.ntmps9
  go_wp2_with (first | (go_at_call 17; (with_reducible refine (C0.out _).mono ?_); rintro e' w1 ⟨rfl, rfl⟩) | (go_at_call 17; (with_reducible refine (C1.out _).mono ?_); rintro e' w1 ⟨rfl, rfl⟩) | (go_at_call 17; (with_reducible refine (C2.out _).mono ?_); rintro e' w1 ⟨rfl, rfl⟩))
  clear C0 C1 C2
  have B : St w _ [(w.heap.size, #[.int .i64 d.f, .int .i64 d.u, .slice A1 d.sp.length c1, .slice A2 d.ov.length c2, .slice A3 d.df.length c3, .slice A4 d.py.length c4, .slice A5 d.fo.length c5], 28), (w.heap.size + 1, #[.string s1, .string s2, .int .i64 ver, .slice RB rn rc, .int .i64 at_, .int .i64 need], 33), (w.heap.size + 1 + 1, #[.int .i64 0, .int .i64 0, .slice none 0 0, .slice none 0 0, .slice none 0 0, .slice none 0 0, .slice none 0 0], 28)] := (let z := (((St.start w).alloc #[.int .i64 d.f, .int .i64 d.u, .slice A1 d.sp.length c1, .slice A2 d.ov.length c2, .slice A3 d.df.length c3, .slice A4 d.py.length c4, .slice A5 d.fo.length c5] 28).alloc #[.string s1, .string s2, .int .i64 ver, .slice RB rn rc, .int .i64 at_, .int .i64 need] 33).alloc #[.int .i64 0, .int .i64 0, .slice none 0 0, .slice none 0 0, .slice none 0 0, .slice none 0 0, .slice none 0 0] 28; ⟨z.below, by simpa using z.blks.2.2.1, by simpa using z.blks.2.1, by simpa using z.blks.1, trivial⟩)
  generalize World.alloc _ _ = X at B ⊢
  refine rsuf_reg3 d A1 A2 A3 A4 A5 c1 c2 c3 c4 c5 at_ m (by omega) (by omega) hu0 hu1 n4 n5 w #[.string s1, .string s2, .int .i64 ver, .slice RB rn rc, .int .i64 at_, .int .i64 need] #[.int .i64 0, .int .i64 0, .slice none 0 0, .slice none 0 0, .slice none 0 0, .slice none 0 0, .slice none 0 0] rfl HS.out.r4 HS.out.r5 _ _ _ _ _ _ _ _ _ _ _ _ _ _ _ _ _ _ _ _ _ _ _ _ _ _ _ _ _ _ _ _ _ _ _ _ _ _ _ _ _ _ _ _ _ _ _ _ _ _ _ _ _ _ _ _ _ _ _ _ _ _ _ _ _ _ _ _ _ _ _ _ _ _ _ _ _ _ _ _ _ _ _ _ _ _ _ _ _ _ _ _ _ _ _ _ _ _ _ _ _ _ _ _ _ _ _ _ _ _ _ _ _ _ _ _ _ _ _ _ _ _ _ _ _ _ _ _ _ _ _ _ _ _ _ _ _ _ _ _ _ _ _ _ _ _ _ _ _ _ _ _ _ _ _ _ _ _ _ _ _ _ _ _ _ _ _ _ _ _ _ _ _ _ _ _ _ _ _ _ _ _ _ _ _ _ _ _ _ _ _ _ _ _ _ _ _ X B ?_
  clear B
  intro z52 z53 z54 z55 z56 z57 z58 z59 z60 z61 z62 z63 z64 z65 z66 z67 b X4 X5 k4 k5 w3 E3 hb hz hE B g4 g5
  dsimp only
  have R3 := B.rules
  simp only [Rules] at R3
  generalize hF : mn m d.u = F at B R3 HR
  go_wp2_with fail
  refine rsuf_loop0 d A1 A2 A3 A4 A5 c1 c2 c3 c4 c5 m F n1 w #[.string s1, .string s2, .int .i64 ver, .slice RB rn rc, .int .i64 at_, .int .i64 need] #[.int .i64 0, .int .i64 0, .slice none 0 0, .slice none 0 0, .slice none 0 0, .slice none 0 0, .slice none 0 0] b hb E3 hE _ _ HS.out.r1 _ _ _ _ _ _ _ _ _ _ _ _ _ _ _ _ _ _ _ _ _ _ _ _ _ _ _ _ _ _ _ _ _ _ _ _ _ _ _ _ _ _ _ _ _ _ _ _ _ _ _ _ _ _ _ _ _ _ _ _ _ _ _ _ _ _ _ _ _ _ _ _ _ _ _ _ _ _ _ _ _ _ _ _ _ _ _ _ _ _ _ _ _ _ _ _ _ _ _ _ _ _ _ _ _ _ _ _ _ _ _ _ _ _ _ _ _ _ _ _ _ _ _ _ _ _ _ _ _ _ _ _ _ _ _ _ _ _ _ _ _ _ _ _ _ _ _ _ _ _ _ _ _ _ _ _ _ _ _ _ _ _ _ _ _ _ _ _ _ _ _ _ _ _ _ _ _ _ _ _ _ _ _ _ _ _ _ _ _ _ _ _ _ _ _ _ w3 B ?_
  clear B R3
  intro y0 y1 y2 y3 y4 y5 y6 y7 y8 y9 y10 y11 y12 y13 y14 y15 y16 y17 y18 y19 y20 y21 y22 y23 y24 y25 y26 y27 y28 y29 y30 y31 y32 y33 y34 v4 w4 hown hno B
  obtain ⟨X1, k1, rfl⟩ := own_slice hown
  obtain ⟨E4, o1, g1, o2⟩ := own_ext (Nat.succ_pos 4) hown hno
  replace B := B.ext o1
  replace g4 := g4.ext (E1 := E4)
  replace g5 := g5.ext (E1 := E4)
  replace g1 := g1.new (E := E3)
  replace hE := (o2 _ List.mem_cons_self).app hE
  replace hz := (o2 _ (List.mem_cons_of_mem _ (List.mem_cons_of_mem _ (List.mem_cons_of_mem _ List.mem_cons_self)))).app hz
  clear hown hno o1 o2
  generalize E4 ++ E3 = E5 at B g4 g5 g1 hE hz
  dsimp only
  have R3 := B.rules
  simp only [Rules] at R3
  go_wp2_with fail
  refine rsuf_loop1 d A1 A2 A3 A4 A5 c1 c2 c3 c4 c5 m F n2 w #[.string s1, .string s2, .int .i64 ver, .slice RB rn rc, .int .i64 at_, .int .i64 need] #[.int .i64 0, .int .i64 0, .slice none 0 0, .slice none 0 0, .slice none 0 0, .slice none 0 0, .slice none 0 0] b hb E5 hE _ _ _ HS.out.r2 _ _ _ _ _ _ _ _ _ _ _ _ _ _ _ _ _ _ _ _ _ _ _ _ _ _ _ _ _ _ _ _ _ _ _ _ _ _ _ _ _ _ _ _ _ _ _ _ _ _ _ _ _ _ _ _ _ _ _ _ _ _ _ _ _ _ _ _ _ _ _ _ _ _ _ _ _ _ _ _ _ _ _ _ _ _ _ _ _ _ _ _ _ _ _ _ _ _ _ _ _ _ _ _ _ _ _ _ _ _ _ _ _ _ _ _ _ _ _ _ _ _ _ _ _ _ _ _ _ _ _ _ _ _ _ _ _ _ _ _ _ _ _ _ _ _ _ _ _ _ _ _ _ _ _ _ _ _ _ _ _ _ _ _ _ _ _ _ _ _ _ _ _ _ _ _ _ _ _ _ _ _ _ _ _ _ _ _ _ _ _ _ _ _ _ _ w4 B ?_
  clear B R3
  intro x0 x1 x2 x3 x4 x5 x6 x7 x8 x9 x10 x11 x12 x13 x14 x15 x16 x17 x18 x19 x20 x21 x22 x23 x24 x25 x26 x27 x28 x29 x30 x31 x32 x33 x34 x35 x36 x37 x38 v5 w5 hown hno B
  obtain ⟨X2, k2, rfl⟩ := own_slice hown
  obtain ⟨E6, o1, g2, o2⟩ := own_ext (Nat.succ_pos 6) hown hno
  replace B := B.ext o1
  replace g4 := g4.ext (E1 := E6)
  replace g5 := g5.ext (E1 := E6)
  replace g1 := g1.ext (E1 := E6)
  replace g2 := g2.new (E := E5)
  replace hE := (o2 _ List.mem_cons_self).app hE
  replace hz := (o2 _ (List.mem_cons_of_mem _ (List.mem_cons_of_mem _ (List.mem_cons_of_mem _ List.mem_cons_self)))).app hz
  clear hown hno o1 o2
  generalize E6 ++ E5 = E7 at B g4 g5 g1 g2 hE hz
  dsimp only
  have R3 := B.rules
  simp only [Rules] at R3
  go_wp2_with fail
  refine rsuf_loop2 d A1 A2 A3 A4 A5 c1 c2 c3 c4 c5 m F at_ n3 w #[.string s1, .string s2, .int .i64 ver, .slice RB rn rc, .int .i64 at_, .int .i64 need] #[.int .i64 0, .int .i64 0, .slice none 0 0, .slice none 0 0, .slice none 0 0, .slice none 0 0, .slice none 0 0] rfl b hb E7 hE _ _ _ _ HS.out.r3 _ _ _ _ _ _ _ _ _ _ _ _ _ _ _ _ _ _ _ _ _ _ _ _ _ _ _ _ _ _ _ _ _ _ _ _ _ _ _ _ _ _ _ _ _ _ _ _ _ _ _ _ _ _ _ _ _ _ _ _ _ _ _ _ _ _ _ _ _ _ _ _ _ _ _ _ _ _ _ _ _ _ _ _ _ _ _ _ _ _ _ _ _ _ _ _ _ _ _ _ _ _ _ _ _ _ _ _ _ _ _ _ _ _ _ _ _ _ _ _ _ _ _ _ _ _ _ _ _ _ _ _ _ _ _ _ _ _ _ _ _ _ _ _ _ _ _ _ _ _ _ _ _ _ _ _ _ _ _ _ _ _ _ _ _ _ _ _ _ _ _ _ _ _ _ _ _ _ _ _ _ _ _ _ _ _ _ _ _ _ _ _ _ _ _ w5 B ?_
  clear B R3
  intro q0 q1 q2 q3 q4 q5 q6 q7 q8 q9 q10 q11 q12 q13 q14 q15 q16 q17 q18 q19 q20 q21 q22 q23 q24 q25 q26 q27 q28 q29 q30 q31 q32 q33 q34 q35 q36 q37 q38 q39 q40 q41 q42 q43 q44 q45 q46 q47 q48 q49 q50 q51 q52 q53 q54 q55 q56 q57 q58 q59 v6 w6 hown hno B
  obtain ⟨X3, k3, rfl⟩ := own_slice hown
  obtain ⟨E8, o1, g3, o2⟩ := own_ext (Nat.succ_pos 4) hown hno
  replace B := B.ext o1
  replace g4 := g4.ext (E1 := E8)
  replace g5 := g5.ext (E1 := E8)
  replace g1 := g1.ext (E1 := E8)
  replace g2 := g2.ext (E1 := E8)
  replace g3 := g3.new (E := E7)
  replace hz := (o2 _ (List.mem_cons_of_mem _ (List.mem_cons_of_mem _ (List.mem_cons_of_mem _ List.mem_cons_self)))).app hz
  clear hown hno o1 o2 hE
  generalize E8 ++ E7 = E9 at B g4 g5 g1 g2 g3 hz
  dsimp only
  have R3 := B.rules
  simp only [Rules] at R3
  go_wp2_with fail
  clear R3
  have B' : St w w6 ((w.heap.size + 1 + 1, #[.int .i64 0, .int .i64 0, .slice none 0 0, .slice none 0 0, .slice none 0 0, .slice none 0 0, .slice none 0 0], 28) :: E9) := ⟨B.below, B.blks.2.2.2.1, B.blks.2.2.2.2⟩
  have Bf := B'.put7 (by omega) hz (.int .i64 F) (.int .i64 d.u) (.slice X1 (spS d.u m d.sp).length k1) (.slice X2 (ovS d.u m d.ov).length k2) (.slice X3 (dfS d.u at_ m d.df).length k3) (.slice X4 (payS d.u at_ m d.py).length k4) (.slice X5 d.fo.length k5)
  clear B B'
  generalize World.setCell _ _ _ = Wf at Bf ⊢
  have Rf := Bf.rules
  simp only [Rules] at Rf
  have Rc := Rf.1.1
  clear Rf
  refine bodyPost_ret (v := .tuple #[.agg #[.int .i64 F, .int .i64 d.u, .slice X1 (spS d.u m d.sp).length k1, .slice X2 (ovS d.u m d.ov).length k2, .slice X3 (dfS d.u at_ m d.df).length k3, .slice X4 (payS d.u at_ m d.py).length k4, .slice X5 d.fo.length k5], .int .i64 0]) ?_ rfl (HR.out X1 X2 X3 X4 X5 k1 k2 k3 k4 k5 Wf ⟨g1 _ Bf.blks.2, g2 _ Bf.blks.2, g3 _ Bf.blks.2, g4 _ Bf.blks.2, g5 _ Bf.blks.2⟩ Bf.below)
  simp [results, Tryz.results9, go_sem, Rc]
/-- The reference's Suffix: the rest of the script, or an error. -/
theorem rsuffix_no (d : Scr) (A1 A2 A3 A4 A5 : Option Addr) (c1 c2 c3 c4 c5 : Nat) (s1 s2 : ByteArray) (ver : Int) (RB : Option Addr) (rn rc : Nat) (at_ need m : Int) (w : World) (hB : sufB d at_ m = false) :
    Calls Tryz.prog 9 #[scrV d A1 A2 A3 A4 A5 c1 c2 c3 c4 c5, relV s1 s2 ver RB rn rc at_ need, .int .i64 m] w (Ret (.tuple #[scrZ, .int .i64 1]) w) := by
  cases h0 : momB d.f with
  | false => exact rsuffix_err0 d A1 A2 A3 A4 A5 c1 c2 c3 c4 c5 s1 s2 ver RB rn rc at_ need m w h0
  | true =>
  cases h1 : momB d.u with
  | false => exact rsuffix_err1 d A1 A2 A3 A4 A5 c1 c2 c3 c4 c5 s1 s2 ver RB rn rc at_ need m w h0 h1
  | true =>
  by_cases h2 : d.u < d.f
  · exact rsuffix_err2 d A1 A2 A3 A4 A5 c1 c2 c3 c4 c5 s1 s2 ver RB rn rc at_ need m w h0 h1 h2
  by_cases h3 : m < d.f
  · exact rsuffix_err3 d A1 A2 A3 A4 A5 c1 c2 c3 c4 c5 s1 s2 ver RB rn rc at_ need m w h0 h1 h2 h3
  by_cases h4 : d.u + 1 < m
  · exact rsuffix_err4 d A1 A2 A3 A4 A5 c1 c2 c3 c4 c5 s1 s2 ver RB rn rc at_ need m w h0 h1 h2 h3 h4
  cases h5 : momB at_ with
  | false => exact rsuffix_err5 d A1 A2 A3 A4 A5 c1 c2 c3 c4 c5 s1 s2 ver RB rn rc at_ need m w h0 h1 h2 h3 h4 h5
  | true =>
    exfalso
    have : sufB d at_ m = true := by
      rw [sufB_iff]
      rw [momB_iff] at h0 h1 h5
      omega
    rw [this] at hB
    cases hB
end Go.Proofs.YtbkipanlicgooaaGreatDoor
namespace Go.Proofs.YtbkipanlicgooaaGreatDoor
open Go.RowKit

/-! ### The numbers of a rest are ints -/
theorem i64_mx {a b : Int} (h1 : I64 a) (h2 : I64 b) : I64 (mx a b) := by unfold mx; split <;> assumption
theorem i64_mn {a b : Int} (h1 : I64 a) (h2 : I64 b) : I64 (mn a b) := by unfold mn; split <;> assumption
theorem rowsB_fm {α : Type} {sz : Nat} {g : α → Nat → Int} {q : α → Option α} {l : List α} (h : RowsB sz g l) (hq : ∀ x y, q x = some y → (∀ j, j < sz → I64 (g x j)) → ∀ j, j < sz → I64 (g y j)) : RowsB sz g (l.filterMap q) := by
  intro y hy
  obtain ⟨x, hx, he⟩ := List.mem_filterMap.1 hy
  exact hq x y he (h x hx)
theorem sufS_B {d : Scr} {at_ m : Int} (h : ScrB d) (hB : sufB d at_ m = true) : ScrB (sufS d at_ m) := by
  rw [sufB_iff] at hB
  have im : I64 m := by unfold I64; omega
  have i0 : I64 0 := by unfold I64; omega
  refine ⟨i64_mn im h.u, h.u, ?_, ?_, ?_, ?_, h.n5, ?_, ?_, ?_, ?_, h.b5⟩
  · exact Nat.le_trans (List.length_filterMap_le _ _) h.n1
  · exact Nat.le_trans (List.length_filterMap_le _ _) h.n2
  · exact Nat.le_trans (List.length_filterMap_le _ _) h.n3
  · exact Nat.le_trans (payS_len _ _ _ _) (Nat.le_trans (List.length_filter_le _ _) h.n4)
  · refine rowsB_fm h.b1 fun x y hy hx j hj => ?_
    unfold spF at hy
    split at hy
    · cases hy
      have : j = 0 ∨ j = 1 ∨ j = 2 ∨ j = 3 ∨ j = 4 := by omega
      rcases this with rfl | rfl | rfl | rfl | rfl
      · exact hx 0 (by omega)
      · exact hx 1 (by omega)
      · exact hx 2 (by omega)
      · exact i64_mx (hx 3 (by omega)) im
      · exact i64_mn (hx 4 (by omega)) h.u
    · cases hy
  · refine rowsB_fm h.b2 fun x y hy hx j hj => ?_
    unfold ovF at hy
    split at hy
    · cases hy
      have : j = 0 ∨ j = 1 ∨ j = 2 ∨ j = 3 ∨ j = 4 ∨ j = 5 ∨ j = 6 := by omega
      rcases this with rfl | rfl | rfl | rfl | rfl | rfl | rfl
      · exact hx 0 (by omega)
      · exact hx 1 (by omega)
      · exact hx 2 (by omega)
      · exact hx 3 (by omega)
      · exact i64_mx (i64_mx (hx 4 (by omega)) (hx 6 (by omega))) im
      · exact i64_mn (hx 5 (by omega)) h.u
      · exact i0
    · cases hy
  · refine rowsB_fm h.b3 fun x y hy hx j hj => ?_
    unfold dfF at hy
    split at hy
    · cases hy
      have : j = 0 ∨ j = 1 ∨ j = 2 ∨ j = 3 ∨ j = 4 := by omega
      rcases this with rfl | rfl | rfl | rfl | rfl
      · exact hx 0 (by omega)
      · exact hx 1 (by omega)
      · exact i64_mx (hx 2 (by omega)) im
      · exact i64_mn (hx 3 (by omega)) h.u
      · show I64 (knw _ _ _ _)
        unfold knw
        split
        · exact i0
        · split
          · unfold I64; omega
          · exact hx 4 (by omega)
    · cases hy
  · intro y hy
    exact h.b4 y ((payS_mem _ _ _ _ _).1 hy).2.1
/-- Suffix gives the rest. -/
theorem suffix_any (d : Scr) (A1 A2 A3 A4 A5 : Option Addr) (c1 c2 c3 c4 c5 : Nat) (s1 s2 : ByteArray) (ver : Int) (RB : Option Addr) (rn rc : Nat) (at_ need m : Int) (w : World) (hb : ScrB d) (h12 : d.py.length ≤ 12) (hB : sufB d at_ m = true) (hS : ScrAt w d A1 A2 A3 A4 A5) (d' : Scr) (hd : sufS d at_ m = d') :
    Calls Tryz.prog 8 #[scrV d A1 A2 A3 A4 A5 c1 c2 c3 c4 c5, relV s1 s2 ver RB rn rc at_ need, .int .i64 m] w (fun e w' => ∃ X1 X2 X3 X4 X5 k1 k2 k3 k4 k5, e = .returned (.tuple #[scrV d' X1 X2 X3 X4 X5 k1 k2 k3 k4 k5, .int .i64 0]) ∧ ScrAt w' d' X1 X2 X3 X4 X5 ∧ Below w.heap.size w w') :=
  suffix_ok d A1 A2 A3 A4 A5 c1 c2 c3 c4 c5 s1 s2 ver RB rn rc at_ need m w hB hb.n1 hb.n2 hb.n3 hb.n4 hb.n5 (Nat.le_trans (List.length_filter_le _ _) h12) hS fun X1 X2 X3 X4 X5 k1 k2 k3 k4 k5 w' h1 h2 => by
    subst hd
    exact ⟨X1, X2, X3, X4, X5, k1, k2, k3, k4, k5, rfl, h1, h2⟩

/-- The reference's Suffix gives the rest. -/
theorem rsuffix_any (d : Scr) (A1 A2 A3 A4 A5 : Option Addr) (c1 c2 c3 c4 c5 : Nat) (s1 s2 : ByteArray) (ver : Int) (RB : Option Addr) (rn rc : Nat) (at_ need m : Int) (w : World) (hb : ScrB d) (hB : sufB d at_ m = true) (hS : ScrAt w d A1 A2 A3 A4 A5) (d' : Scr) (hd : sufS d at_ m = d') :
    Calls Tryz.prog 9 #[scrV d A1 A2 A3 A4 A5 c1 c2 c3 c4 c5, relV s1 s2 ver RB rn rc at_ need, .int .i64 m] w (fun e w' => ∃ X1 X2 X3 X4 X5 k1 k2 k3 k4 k5, e = .returned (.tuple #[scrV d' X1 X2 X3 X4 X5 k1 k2 k3 k4 k5, .int .i64 0]) ∧ ScrAt w' d' X1 X2 X3 X4 X5 ∧ Below w.heap.size w w') :=
  rsuffix_ok d A1 A2 A3 A4 A5 c1 c2 c3 c4 c5 s1 s2 ver RB rn rc at_ need m w hB hb.n1 hb.n2 hb.n3 hb.n4 hb.n5 hS fun X1 X2 X3 X4 X5 k1 k2 k3 k4 k5 w' h1 h2 => by
    subst hd
    exact ⟨X1, X2, X3, X4, X5, k1, k2, k3, k4, k5, rfl, h1, h2⟩

theorem ScrAt.cast {W X : World} {d : Scr} {A1 A2 A3 A4 A5 : Option Addr} (hX : W = X) (h : ScrAt W d A1 A2 A3 A4 A5) : ScrAt X d A1 A2 A3 A4 A5 := hX ▸ h
theorem fewB_iff (d : Scr) : fewB d = true ↔ d.sp.length ≤ 8 ∧ d.ov.length ≤ 8 ∧ d.df.length ≤ 8 ∧ d.py.length ≤ 12 ∧ d.fo.length ≤ 8 := by
  simp only [fewB, Bool.and_eq_true, decide_eq_true_eq]
/-- Its numbers are ints. -/
structure ScrI (d : Scr) : Prop where
  f : I64 d.f
  u : I64 d.u
  b1 : RowsB 5 Spl.g d.sp
  b2 : RowsB 7 Ovr.g d.ov
  b3 : RowsB 5 Dfc.g d.df
  b4 : RowsB 4 Pay.g d.py
  b5 : RowsB 6 Frg.g d.fo
theorem ScrI.few {d : Scr} (h : ScrI d) (hf : fewB d = true) : ScrB d := by
  rw [fewB_iff] at hf
  exact ⟨h.f, h.u, by omega, by omega, by omega, by omega, by omega, h.b1, h.b2, h.b3, h.b4, h.b5⟩
theorem zero_B : ScrB ⟨0, 0, [], [], [], [], []⟩ := by
  refine ⟨by unfold I64; simp, by unfold I64; simp, by simp, by simp, by simp, by simp, by simp, ?_, ?_, ?_, ?_, ?_⟩ <;> (intro y hy; cases hy)
theorem zero_at (W : World) : ScrAt W ⟨0, 0, [], [], [], [], []⟩ none none none none none := by
  refine ⟨?_, ?_, ?_, ?_, ?_⟩ <;> (intro i y hy; simp at hy)

set_option maxRecDepth 100000 in
set_option maxHeartbeats 8000000 in
theorem asref_few (d : Scr) (A1 A2 A3 A4 A5 : Option Addr) (c1 c2 c3 c4 c5 : Nat) (s1 s2 : ByteArray) (ver : Int) (RB : Option Addr) (rn rc : Nat) (at_ need m : Int) (w : World) (hf : fewB d = false) (hH : ∀ W, Below w.heap.size w W → Calls Tryz.prog 6 #[] W (Ret (.bool true) W)) :
    Calls Tryz.prog 3 #[scrV d A1 A2 A3 A4 A5 c1 c2 c3 c4 c5, relV s1 s2 ver RB rn rc at_ need, .int .i64 m] w (Ret (.bool true) w) := by
  have HH := Lib.hid hH
  have C7 := Lib.hid (fun W => few_any d A1 A2 A3 A4 A5 c1 c2 c3 c4 c5 W)
  rw [hf] at C7
  clear hH hf
  unfold scrV at C7
  unfold scrV relV
  go_enter Tryz.func3, Tryz.ntmps3
  go_wp2_with fail
  have B : St w _ [(w.heap.size, #[.int .i64 d.f, .int .i64 d.u, .slice A1 d.sp.length c1, .slice A2 d.ov.length c2, .slice A3 d.df.length c3, .slice A4 d.py.length c4, .slice A5 d.fo.length c5], 28), (w.heap.size + 1, #[.string s1, .string s2, .int .i64 ver, .slice RB rn rc, .int .i64 at_, .int .i64 need], 33)] := (let z := ((St.start w).alloc #[.int .i64 d.f, .int .i64 d.u, .slice A1 d.sp.length c1, .slice A2 d.ov.length c2, .slice A3 d.df.length c3, .slice A4 d.py.length c4, .slice A5 d.fo.length c5] 28).alloc #[.string s1, .string s2, .int .i64 ver, .slice RB rn rc, .int .i64 at_, .int .i64 need] 33; ⟨z.below, by simpa using z.blks.2.1, by simpa using z.blks.1, trivial⟩)
  generalize World.alloc _ _ = X at B ⊢
  refine (HH.out _ B.below).mono ?_
  rintro e' w1 ⟨rfl, hb1⟩
  replace B := B.later hb1
  have R := B.rules
  simp only [Rules] at R
  go_wp2_with fail
  refine (C7.out _).mono ?_
  rintro e' w2 ⟨rfl, hb2⟩
  clear R
  replace B := B.later hb2
  go_wp2
  go_ret
  exact ⟨rfl, B.below⟩
set_option maxRecDepth 100000 in
set_option maxHeartbeats 8000000 in
theorem asref_no (d : Scr) (A1 A2 A3 A4 A5 : Option Addr) (c1 c2 c3 c4 c5 : Nat) (s1 s2 : ByteArray) (ver : Int) (RB : Option Addr) (rn rc : Nat) (at_ need m : Int) (w : World) (hf : fewB d = true) (h1 : sufB d at_ m = false) (hH : ∀ W, Below w.heap.size w W → Calls Tryz.prog 6 #[] W (Ret (.bool true) W)) :
    Calls Tryz.prog 3 #[scrV d A1 A2 A3 A4 A5 c1 c2 c3 c4 c5, relV s1 s2 ver RB rn rc at_ need, .int .i64 m] w (Ret (.bool true) w) := by
  have HH := Lib.hid hH
  have C7 := Lib.hid (fun W => few_any d A1 A2 A3 A4 A5 c1 c2 c3 c4 c5 W)
  rw [hf] at C7
  have C8 := Lib.hid (fun W => suffix_no d A1 A2 A3 A4 A5 c1 c2 c3 c4 c5 s1 s2 ver RB rn rc at_ need m W h1)
  have C9 := Lib.hid (fun W => rsuffix_no d A1 A2 A3 A4 A5 c1 c2 c3 c4 c5 s1 s2 ver RB rn rc at_ need m W h1)
  clear hH hf h1
  unfold scrV at C7
  unfold scrV relV scrZ at C8 C9
  unfold scrV relV
  go_enter Tryz.func3, Tryz.ntmps3
  go_wp2_with fail
  have B : St w _ [(w.heap.size, #[.int .i64 d.f, .int .i64 d.u, .slice A1 d.sp.length c1, .slice A2 d.ov.length c2, .slice A3 d.df.length c3, .slice A4 d.py.length c4, .slice A5 d.fo.length c5], 28), (w.heap.size + 1, #[.string s1, .string s2, .int .i64 ver, .slice RB rn rc, .int .i64 at_, .int .i64 need], 33)] := (let z := ((St.start w).alloc #[.int .i64 d.f, .int .i64 d.u, .slice A1 d.sp.length c1, .slice A2 d.ov.length c2, .slice A3 d.df.length c3, .slice A4 d.py.length c4, .slice A5 d.fo.length c5] 28).alloc #[.string s1, .string s2, .int .i64 ver, .slice RB rn rc, .int .i64 at_, .int .i64 need] 33; ⟨z.below, by simpa using z.blks.2.1, by simpa using z.blks.1, trivial⟩)
  generalize World.alloc _ _ = X at B ⊢
  refine (HH.out _ B.below).mono ?_
  rintro e' w1 ⟨rfl, hb1⟩
  replace B := B.later hb1
  have R := B.rules
  simp only [Rules] at R
  go_wp2_with fail
  refine (C7.out _).mono ?_
  rintro e' w2 ⟨rfl, hb2⟩
  clear R
  replace B := B.later hb2
  have R := B.rules
  simp only [Rules] at R
  go_wp2_with fail
  refine (C8.out _).mono ?_
  rintro e' w3 ⟨rfl, hb3⟩
  clear R C8
  replace B := B.later hb3
  have R := B.rules
  simp only [Rules] at R
  go_wp2_with fail
  generalize hX : World.alloc _ _ = W3
  replace B := St.cast hX (B.alloc _ _)
  clear hX
  refine (C9.out _).mono ?_
  rintro e' w4 ⟨rfl, hb4⟩
  clear R C9
  replace B := B.later hb4
  have R := B.rules
  simp only [Rules] at R
  have C10 := Lib.hid (fun W (_hW : Below w4.heap.size w4 W) => same_any ⟨0, 0, [], [], [], [], []⟩ zero_B none none none none none 0 0 0 0 0 none none none none none 0 0 0 0 0 W (zero_at W) (zero_at W))
  unfold scrV at C10
  try dsimp only [List.length_nil] at C10
  go_wp2_with (first | (go_at_call 10; (with_reducible refine (C10.out _ (below_al _ _)).mono ?_); rintro e' w6 ⟨rfl, hb6⟩; have B6 := (B.alloc _ _).later hb6))
  go_ret
  exact ⟨by simp, B6.below⟩
set_option maxRecDepth 100000 in
set_option maxHeartbeats 8000000 in
theorem asref_ok (d : Scr) (A1 A2 A3 A4 A5 : Option Addr) (c1 c2 c3 c4 c5 : Nat) (s1 s2 : ByteArray) (ver : Int) (RB : Option Addr) (rn rc : Nat) (at_ need m : Int) (w : World) (hb : ScrB d) (hf : fewB d = true) (hS : ScrAt w d A1 A2 A3 A4 A5) (h1 : sufB d at_ m = true) (hH : ∀ W, Below w.heap.size w W → Calls Tryz.prog 6 #[] W (Ret (.bool true) W)) :
    Calls Tryz.prog 3 #[scrV d A1 A2 A3 A4 A5 c1 c2 c3 c4 c5, relV s1 s2 ver RB rn rc at_ need, .int .i64 m] w (Ret (.bool true) w) := by
  have HB := Lib.hid hb
  have HH := Lib.hid hH
  have HS := Lib.hid hS
  have C7 := Lib.hid (fun W => few_any d A1 A2 A3 A4 A5 c1 c2 c3 c4 c5 W)
  rw [hf] at C7
  rw [fewB_iff] at hf
  have l4 : d.py.length ≤ 12 := by omega
  have C8 := Lib.hid (fun W (hW : Below w.heap.size w W) => suffix_any d A1 A2 A3 A4 A5 c1 c2 c3 c4 c5 s1 s2 ver RB rn rc at_ need m W HB.out l4 h1 (HS.out.later hW) (sufS d at_ m) rfl)
  have C9 := Lib.hid (fun W (hW : Below w.heap.size w W) => rsuffix_any d A1 A2 A3 A4 A5 c1 c2 c3 c4 c5 s1 s2 ver RB rn rc at_ need m W HB.out h1 (HS.out.later hW) (sufS d at_ m) rfl)
  have HB1 := Lib.hid (sufS_B HB.out h1)
  generalize sufS d at_ m = d1 at C8 C9 HB1
  clear hH hf hS hb h1
  unfold scrV at C7
  unfold scrV relV at C8 C9
  unfold scrV relV
  go_enter Tryz.func3, Tryz.ntmps3
  go_wp2_with fail
  have B : St w _ [(w.heap.size, #[.int .i64 d.f, .int .i64 d.u, .slice A1 d.sp.length c1, .slice A2 d.ov.length c2, .slice A3 d.df.length c3, .slice A4 d.py.length c4, .slice A5 d.fo.length c5], 28), (w.heap.size + 1, #[.string s1, .string s2, .int .i64 ver, .slice RB rn rc, .int .i64 at_, .int .i64 need], 33)] := (let z := ((St.start w).alloc #[.int .i64 d.f, .int .i64 d.u, .slice A1 d.sp.length c1, .slice A2 d.ov.length c2, .slice A3 d.df.length c3, .slice A4 d.py.length c4, .slice A5 d.fo.length c5] 28).alloc #[.string s1, .string s2, .int .i64 ver, .slice RB rn rc, .int .i64 at_, .int .i64 need] 33; ⟨z.below, by simpa using z.blks.2.1, by simpa using z.blks.1, trivial⟩)
  generalize World.alloc _ _ = X at B ⊢
  refine (HH.out _ B.below).mono ?_
  rintro e' w1 ⟨rfl, hb1⟩
  replace B := B.later hb1
  have R := B.rules
  simp only [Rules] at R
  go_wp2_with fail
  refine (C7.out _).mono ?_
  rintro e' w2 ⟨rfl, hb2⟩
  clear R
  replace B := B.later hb2
  have R := B.rules
  simp only [Rules] at R
  go_wp2_with fail
  refine (C8.out _ B.below).mono ?_
  rintro e' w3 ⟨X1, X2, X3, X4, X5, k1, k2, k3, k4, k5, rfl, hS1, hb3⟩
  clear R C8
  replace B := B.later hb3
  have R := B.rules
  simp only [Rules] at R
  go_wp2_with fail
  generalize hX : World.alloc _ _ = W3
  replace B := St.cast hX (B.alloc _ _)
  replace hS1 := ScrAt.cast hX (hS1.later (below_al _ _))
  clear hX
  refine (C9.out _ B.below).mono ?_
  rintro e' w4 ⟨Y1, Y2, Y3, Y4, Y5, j1, j2, j3, j4, j5, rfl, hS2, hb4⟩
  clear R C9
  replace B := B.later hb4
  replace hS1 := hS1.later hb4
  have R := B.rules
  simp only [Rules] at R
  have C10 := Lib.hid (fun W (hW : Below w4.heap.size w4 W) => same_any d1 HB1.out X1 X2 X3 X4 X5 k1 k2 k3 k4 k5 Y1 Y2 Y3 Y4 Y5 j1 j2 j3 j4 j5 W (hS1.later hW) (hS2.later hW))
  unfold scrV at C10
  go_wp2_with (first | (go_at_call 10; (with_reducible refine (C10.out _ (below_al _ _)).mono ?_); rintro e' w6 ⟨rfl, hb6⟩; have B6 := (B.alloc _ _).later hb6))
  go_ret
  exact ⟨by simp, B6.below⟩
/-- The law RepairSuffixAsReference returns true. -/
theorem asref_any (d : Scr) (A1 A2 A3 A4 A5 : Option Addr) (c1 c2 c3 c4 c5 : Nat) (s1 s2 : ByteArray) (ver : Int) (RB : Option Addr) (rn rc : Nat) (at_ need m : Int) (w : World) (hb : ScrI d) (hS : ScrAt w d A1 A2 A3 A4 A5) (hH : ∀ W, Below w.heap.size w W → Calls Tryz.prog 6 #[] W (Ret (.bool true) W)) :
    Calls Tryz.prog 3 #[scrV d A1 A2 A3 A4 A5 c1 c2 c3 c4 c5, relV s1 s2 ver RB rn rc at_ need, .int .i64 m] w (Ret (.bool true) w) := by
  cases hf : fewB d with
  | false => exact asref_few d A1 A2 A3 A4 A5 c1 c2 c3 c4 c5 s1 s2 ver RB rn rc at_ need m w hf hH
  | true =>
    cases h1 : sufB d at_ m with
    | false => exact asref_no d A1 A2 A3 A4 A5 c1 c2 c3 c4 c5 s1 s2 ver RB rn rc at_ need m w hf h1 hH
    | true => exact asref_ok d A1 A2 A3 A4 A5 c1 c2 c3 c4 c5 s1 s2 ver RB rn rc at_ need m w (hb.few hf) hf hS h1 hH
end Go.Proofs.YtbkipanlicgooaaGreatDoor
namespace Go.Proofs.YtbkipanlicgooaaGreatDoor
open Go.ChangeShapes Go.WideShapes Go.ChangeAt Go.RowKit Go.Deep

theorem own : ownKnob Tryz.prog.godebug = none := by kernel_rfl

section
variable {H : Type} {enc : TypeId × Value → H} {P : Program}
theorem trodAll_stays (hl : laidOutB P = true) {W W' : World} {sp : Nat → Bool} : ∀ {ts : List TypeId} {vs : List Value} {ds : List (DataW H)} {ps : List MemPlace},
    (ts.all fun t => P.readableRec t && decide (t < P.types.size)) = true → DataW.TrodAll enc P W 0 (fun _ => true) true ts vs ds ps →
    (∀ p ∈ ps, W.sameAt W' p) → (∀ p ∈ ps, sp p.block = true) → DataW.TrodAll enc P W' 0 sp true ts vs ds ps
  | [], [], [], ps, _, h, _, _ => h
  | t :: ts, v :: vs, d :: ds, ps, ht, ⟨p, q, h1, h2, e⟩, hs, hp => by
    simp only [List.all_cons, Bool.and_eq_true, decide_eq_true_eq] at ht
    subst e
    exact ⟨p, q, WideElems.Trod_stays hl ht.1.1 ht.1.2 h1 (fun x hx => hs x (by simp [hx])) (fun x hx => hp x (by simp [hx])),
      trodAll_stays hl ht.2 h2 (fun x hx => hs x (by simp [hx])) (fun x hx => hp x (by simp [hx])), rfl⟩
  | [], _ :: _, _, _, _, h, _, _ => h.elim
  | [], [], _ :: _, _, _, h, _, _ => h.elim
  | _ :: _, [], _, _, _, h, _, _ => h.elim
  | _ :: _, _ :: _, [], _, _, h, _, _ => h.elim

/-- What the row of a law asks, of a call that returns true and leaves what was there as it was. -/
theorem law_post {f : FuncId} {fn : Func} {s : ChangeSpec} {tb : TypeId} {W : World} {args : Array Value} {ds gs : List (DataW H)} {before : List MemPlace}
    (hl : laidOutB P = true) (hts : (fn.params.toList.all fun t => P.readableRec t && decide (t < P.types.size)) = true) (hres : fn.resultTypes = #[tb]) (hb : P.underlying tb = some .bool) (hvars : s.vars = [])
    (hW : DataW.Whole enc P fn.params.toList s.vars false W args.toList ds gs before)
    (hspec : s.fn H (ds ++ gs) = { results := [.lit (.bool true)], args := ds })
    (h : Calls P f args W (Ret (.bool true) W)) : Calls P f args W fun e W' => ∃ v, e = .returned v ∧ s.post enc P fn false true false false W args v W' := by
  refine h.mono fun e W' ⟨he, hbel⟩ => ⟨_, he, ?_⟩
  have hW0 := hW
  obtain ⟨p, q, hA, hV, hpq, _, _⟩ := hW
  have hg : gs = [] ∧ q = [] := by
    rw [hvars] at hV
    cases gs with
    | nil => exact ⟨rfl, hV⟩
    | cons _ _ => exact hV.elim
  obtain ⟨rfl, rfl⟩ := hg
  have hlt : ∀ x ∈ before, x.block < W.heap.size := fun x hx => hW0.lt x hx
  have hb0 : before = p := by simpa using hpq
  subst hb0
  refine ⟨ds, [], before, [], before, [], hW0, ?_, ?_, ?_, hbel.frame _, fun h0 => by cases h0⟩
  · rw [hspec, hres]
    exact trodAll_mk1 (shut_bool hb true)
  · rw [hspec]
    exact trodAll_stays hl hts hA (fun x hx => hbel.same (hlt x hx)) (fun x hx => by simpa using hlt x hx)
  · rw [hspec, hvars]
    exact rfl
end

/-- The number in a cell. -/
def intAt (w : World) (p : Addr) : Int := match w.cell? p with
  | some (.int _ n) => n
  | _ => 0
theorem intAt_eq {w : World} {p : Addr} {n : Int} (h : w.cell? p = some (.int .i64 n)) : intAt w p = n := by
  simp only [intAt, h]

section
variable {H : Type} {enc : TypeId × Value → H} {P : Program} {w : World} {r : Reach} {base b0 : Nat} {spare : Nat → Bool} {held : Bool} {v : Value} {d : DataW H} {p : List MemPlace}

/-- What any field reads as. -/
theorem open_field {t : TypeId} {fs : Array Field} (hs : P.underlying t = some (.struct fs)) (hv : Value.okWide P w r b0 t v) (h : DataW.Trod enc P w base spare held t v d p) :
    ∃ (cs : Array Value) (n : Nat), v = .agg cs ∧ cs.size = P.cellsOf t ∧ ∀ (i : Nat) (f : Field), fs[i]? = some f → ∃ y, DataW.trod enc P w base spare held n f.type ((cs.toList.drop f.offset).take (P.cellsOf f.type)) = some y := by
  obtain ⟨cs, rfl, hsz⟩ := okWide_struct hs hv
  obtain ⟨fuel, hf⟩ := h
  obtain ⟨xs, n, _, _, _, hlen, hg⟩ := DataW.trod_struct hs hf
  refine ⟨cs, n, rfl, hsz, fun i f hi => ?_⟩
  have hlt : i < fs.size := (Array.getElem?_eq_some_iff.1 hi).1
  exact ⟨xs[i]'(by omega), (hg i f hi).trans (List.getElem?_eq_getElem (by omega))⟩
theorem wf_i64 {n : Int} (h : (Lit.int .i64 n).wf = true) : I64 n := by
  simp only [Lit.wf, IntKind.bits, IntKind.signed, IntKind.min, IntKind.max, Bool.and_eq_true, decide_eq_true_eq, if_true] at h
  unfold I64
  omega
/-- Cells of one row after the other. -/
def CellsAt (w : World) (A : Option Addr) (n sz : Nat) : Prop := ∀ i, i < n → ∃ a, A = some a ∧ ∀ j, j < sz → ∃ z, w.cell? (a.add (i * sz + j)) = some (.int .i64 z) ∧ I64 z
/-- A slice of structs whose fields are numbers. -/
theorem open_rows {t e : TypeId} {fs : Array Field} {fuel : Nat} {u : Value} {x : DataW H × List MemPlace} (ht : P.underlying t = some (.slice e)) (he : P.underlying e = some (.struct fs))
    (hone : oneCellFields P fs = true) (hC : P.cellsOf e = fs.size) (h3 : P.underlying 3 = some (.int .i64)) (hint : (fs.all fun f => f.type == 3) = true) (h : DataW.trod enc P w base spare held fuel t [u] = some x) :
    ∃ (A : Option Addr) (n c : Nat), u = .slice A n c ∧ CellsAt w A n fs.size := by
  rcases Go.Deep.open_slice ht h with ⟨e, _⟩ | ⟨a, len, cap, m, n', D, Pl, e, hb, hl, hm, hmm, _, hi⟩
  · simp at e
    exact ⟨none, 0, 0, e, fun i hi => absurd hi (by omega)⟩
  · simp at e
    refine ⟨some a, len, cap, e, fun i hlt => ⟨a, rfl, fun j hj => ?_⟩⟩
    have him : i < m := by
      rw [hmm]
      split <;> omega
    obtain ⟨cs', hc, ht'⟩ := hi i him
    rw [hC] at hc
    obtain ⟨_, hcl, hat⟩ := World.cells?_some hc
    obtain ⟨ys, n2, _, _, _, hyl, hf⟩ := DataW.trod_struct he ht'
    have hj' : fs[j]? = some fs[j] := Array.getElem?_eq_getElem hj
    obtain ⟨ho, hk⟩ := hone_of hone j _ hj'
    have h1 := hf j _ hj'
    have e1 : (cs'.drop j).take 1 = [cs'[j]'(by omega)] := by
      rw [List.drop_eq_getElem_cons (by omega)]
      rfl
    have ht3 : fs[j].type = 3 := by
      have := Array.all_eq_true.1 hint j hj
      simpa using this
    rw [ho, hk, e1, ht3, List.getElem?_eq_getElem (by omega)] at h1
    obtain ⟨z, ez, _, hwf⟩ := DataW.trod_int h3 h1
    simp at ez
    have hcell := hat j hj
    rw [Addr.add_add, List.getElem?_eq_getElem (by omega), ez] at hcell
    exact ⟨z, hcell, wf_i64 hwf⟩
end
/-- Such rows as a list. -/
theorem rows_list {α : Type} {w : World} {A : Option Addr} {n sz : Nat} (hsz : 0 < sz) (mk : (Nat → Int) → α) (g : α → Nat → Int) (hg : ∀ f j, j < sz → g (mk f) j = f j) (h : CellsAt w A n sz) :
    ∃ l : List α, l.length = n ∧ RowsAt w A sz g l ∧ RowsB sz g l := by
  let at_ : Nat → Nat → Int := fun i j => intAt w ((A.getD ⟨0, 0, none⟩).add (i * sz + j))
  have key : ∀ (i : Nat) (x : α), ((List.range n).map fun i => mk (at_ i))[i]? = some x → i < n ∧ x = mk (at_ i) := by
    intro i x hx
    rw [List.getElem?_map] at hx
    by_cases hi : i < n
    · rw [List.getElem?_range hi] at hx
      exact ⟨hi, (Option.some.inj hx).symm⟩
    · rw [List.getElem?_eq_none (by simpa using hi)] at hx
      cases hx
  refine ⟨(List.range n).map fun i => mk (at_ i), by simp, ?_, ?_⟩
  · intro i x hx
    obtain ⟨hi, rfl⟩ := key i x hx
    obtain ⟨a, rfl, hc⟩ := h i hi
    have h0 : ∀ j, j < sz → w.cell? (a.add (i * sz + j)) = some (.int .i64 (g (mk (at_ i)) j)) := by
      intro j hj
      obtain ⟨z, hz, _⟩ := hc j hj
      rw [hg _ _ hj, hz]
      have : at_ i j = z := intAt_eq hz
      rw [this]
    have k0 := h0 0 hsz
    rw [Nat.add_zero] at k0
    refine ⟨a, rfl, World.block_lt_of_cell? _ _ k0, k0, fun j hj hs => ?_⟩
    rw [add_two _ _ _ hj]
    exact h0 j hs
  · intro x hx j hj
    obtain ⟨i, hi⟩ := List.mem_iff_getElem?.1 hx
    obtain ⟨hlt, rfl⟩ := key i x hi
    obtain ⟨a, rfl, hc⟩ := h i hlt
    obtain ⟨z, hz, hI⟩ := hc j hj
    rw [hg _ _ hj]
    have : at_ i j = z := intAt_eq hz
    rw [this]
    exact hI
section
variable {H : Type} {enc : TypeId × Value → H} {w : World} {r : Reach} {base b0 : Nat} {spare : Nat → Bool} {held : Bool} {v : Value} {d : DataW H} {p : List MemPlace}
theorem cells3 : Tryz.prog.cellsOf 3 = 1 := by kernel_rfl
theorem cells9 : Tryz.prog.cellsOf 9 = 1 := by kernel_rfl
theorem cells28 : Tryz.prog.cellsOf 28 = 7 := by kernel_rfl
theorem cells31 : Tryz.prog.cellsOf 31 = 3 := by kernel_rfl
theorem cells33 : Tryz.prog.cellsOf 33 = 6 := by kernel_rfl
theorem cells22 : Tryz.prog.cellsOf 22 = 1 := by kernel_rfl
theorem cells23 : Tryz.prog.cellsOf 23 = 1 := by kernel_rfl
theorem cells24 : Tryz.prog.cellsOf 24 = 1 := by kernel_rfl
theorem cells25 : Tryz.prog.cellsOf 25 = 1 := by kernel_rfl
theorem cells26 : Tryz.prog.cellsOf 26 = 1 := by kernel_rfl
theorem cells84 : Tryz.prog.cellsOf 84 = 5 := by kernel_rfl
theorem cells86 : Tryz.prog.cellsOf 86 = 6 := by kernel_rfl
set_option maxRecDepth 100000 in
theorem int_of {fuel : Nat} {u : Value} {x : DataW H × List MemPlace} (hf : DataW.trod enc Tryz.prog w base spare held fuel 3 [u] = some x) : ∃ a : Int, u = .int .i64 a ∧ I64 a := by
  obtain ⟨a, e, _, hw⟩ := DataW.trod_int Tryz.underlying3 hf
  simp at e
  exact ⟨a, e, wf_i64 hw⟩
set_option maxRecDepth 100000 in
theorem str_of {fuel : Nat} {u : Value} {x : DataW H × List MemPlace} (hf : DataW.trod enc Tryz.prog w base spare held fuel 9 [u] = some x) : ∃ a : ByteArray, u = .string a := by
  obtain ⟨a, e, _⟩ := DataW.trod_string Tryz.underlying9 hf
  simp at e
  exact ⟨a, e⟩
set_option maxRecDepth 100000 in
theorem slice_of {t e : TypeId} {fuel : Nat} {u : Value} {x : DataW H × List MemPlace} (ht : Tryz.prog.underlying t = some (.slice e)) (hf : DataW.trod enc Tryz.prog w base spare held fuel t [u] = some x) : ∃ (A : Option Addr) (n c : Nat), u = .slice A n c := by
  rcases Go.Deep.open_slice ht hf with ⟨e, _⟩ | ⟨a, len, cap, m, n', D, Pl, e, hb, hl, hm, hmm, _, hi⟩
  · simp at e
    exact ⟨_, _, _, e⟩
  · simp at e
    exact ⟨_, _, _, e⟩
set_option maxRecDepth 100000 in
/-- Six cells of a foreign alert. -/
theorem open_alert {m _n : Nat} {cs : List Value} {x : DataW H × List MemPlace} (hl : cs.length = 6) (h : DataW.trod enc Tryz.prog w base spare held m 86 cs = some x) : ∀ j, j < 6 → ∃ z, cs[j]? = some (.int .i64 z) ∧ I64 z := by
  obtain ⟨ys, n2, _, _, _, hyl, hf⟩ := DataW.trod_struct Tryz.underlying86 h
  match cs, hl with
  | [u0, u1, u2, u3, u4, u5], _ =>
    have k0 := hf 0 _ rfl
    have k1 := hf 1 _ rfl
    simp [cells84, cells3] at k0 k1
    match ys, hyl with
    | [y0, y1], _ =>
      obtain ⟨z5, rfl, b5⟩ := int_of k1
      obtain ⟨xs, n3, _, _, _, hxl, hg⟩ := DataW.trod_struct Tryz.underlying84 k0
      have g0 := hg 0 _ rfl
      have g1 := hg 1 _ rfl
      have g2 := hg 2 _ rfl
      have g3 := hg 3 _ rfl
      have g4 := hg 4 _ rfl
      simp [cells3] at g0 g1 g2 g3 g4
      match xs, hxl with
      | [x0, x1, x2, x3, x4], _ =>
        obtain ⟨z0, rfl, b0⟩ := int_of g0
        obtain ⟨z1, rfl, b1⟩ := int_of g1
        obtain ⟨z2, rfl, b2⟩ := int_of g2
        obtain ⟨z3, rfl, b3⟩ := int_of g3
        obtain ⟨z4, rfl, b4⟩ := int_of g4
        intro j hj
        have : j = 0 ∨ j = 1 ∨ j = 2 ∨ j = 3 ∨ j = 4 ∨ j = 5 := by omega
        rcases this with rfl | rfl | rfl | rfl | rfl | rfl
        · exact ⟨z0, rfl, b0⟩
        · exact ⟨z1, rfl, b1⟩
        · exact ⟨z2, rfl, b2⟩
        · exact ⟨z3, rfl, b3⟩
        · exact ⟨z4, rfl, b4⟩
        · exact ⟨z5, rfl, b5⟩
set_option maxRecDepth 100000 in
theorem open_alerts {fuel : Nat} {u : Value} {x : DataW H × List MemPlace} (h : DataW.trod enc Tryz.prog w base spare held fuel 26 [u] = some x) : ∃ (A : Option Addr) (n c : Nat), u = .slice A n c ∧ CellsAt w A n 6 := by
  rcases Go.Deep.open_slice Tryz.underlying26 h with ⟨e, _⟩ | ⟨a, len, cap, m, n', D, Pl, e, hb, hl, hm, hmm, _, hi⟩
  · simp at e
    exact ⟨none, 0, 0, e, fun i hi => absurd hi (by omega)⟩
  · simp at e
    refine ⟨some a, len, cap, e, fun i hlt => ⟨a, rfl, fun j hj => ?_⟩⟩
    have him : i < m := by
      rw [hmm]
      split <;> omega
    obtain ⟨cs', hc, ht'⟩ := hi i him
    rw [cells86] at hc
    obtain ⟨_, hcl, hat⟩ := World.cells?_some hc
    obtain ⟨z, hz, hI⟩ := open_alert (_n := 0) hcl ht' j hj
    have hcell := hat j hj
    rw [Addr.add_add, hz] at hcell
    exact ⟨z, hcell, hI⟩
set_option maxRecDepth 100000 in
/-- A script. -/
theorem open28 (hv : Value.okWide Tryz.prog w r b0 28 v) (h : DataW.Trod enc Tryz.prog w base spare held 28 v d p) :
    ∃ (D : Scr) (A1 A2 A3 A4 A5 : Option Addr) (c1 c2 c3 c4 c5 : Nat), v = scrV D A1 A2 A3 A4 A5 c1 c2 c3 c4 c5 ∧ ScrAt w D A1 A2 A3 A4 A5 ∧ ScrI D := by
  obtain ⟨cs, n, rfl, hsz, hf⟩ := open_field Tryz.underlying28 hv h
  rw [cells28] at hsz
  obtain ⟨l⟩ := cs
  match l, hsz with
  | [u0, u1, u2, u3, u4, u5, u6], _ =>
    obtain ⟨y0, g0⟩ := hf 0 _ rfl
    obtain ⟨y1, g1⟩ := hf 1 _ rfl
    obtain ⟨y2, g2⟩ := hf 2 _ rfl
    obtain ⟨y3, g3⟩ := hf 3 _ rfl
    obtain ⟨y4, g4⟩ := hf 4 _ rfl
    obtain ⟨y5, g5⟩ := hf 5 _ rfl
    obtain ⟨y6, g6⟩ := hf 6 _ rfl
    simp [cells3, cells22, cells23, cells24, cells25, cells26] at g0 g1 g2 g3 g4 g5 g6
    obtain ⟨f, rfl, bf⟩ := int_of g0
    obtain ⟨u, rfl, bu⟩ := int_of g1
    obtain ⟨A1, n1, c1, rfl, k1⟩ := open_rows Tryz.underlying22 Tryz.underlying47 (by kernel_rfl) (by kernel_rfl) Tryz.underlying3 (by kernel_rfl) g2
    obtain ⟨A2, n2, c2, rfl, k2⟩ := open_rows Tryz.underlying23 Tryz.underlying49 (by kernel_rfl) (by kernel_rfl) Tryz.underlying3 (by kernel_rfl) g3
    obtain ⟨A3, n3, c3, rfl, k3⟩ := open_rows Tryz.underlying24 Tryz.underlying42 (by kernel_rfl) (by kernel_rfl) Tryz.underlying3 (by kernel_rfl) g4
    obtain ⟨A4, n4, c4, rfl, k4⟩ := open_rows Tryz.underlying25 Tryz.underlying45 (by kernel_rfl) (by kernel_rfl) Tryz.underlying3 (by kernel_rfl) g5
    obtain ⟨A5, n5, c5, rfl, k5⟩ := open_alerts g6
    obtain ⟨l1, rfl, r1, b1⟩ := rows_list (sz := 5) (by omega) (fun f => (⟨f 0, f 1, f 2, f 3, f 4⟩ : Spl)) Spl.g (fun f j hj => by
      have : j = 0 ∨ j = 1 ∨ j = 2 ∨ j = 3 ∨ j = 4 := by omega
      rcases this with rfl | rfl | rfl | rfl | rfl <;> rfl) k1
    obtain ⟨l2, rfl, r2, b2⟩ := rows_list (sz := 7) (by omega) (fun f => (⟨f 0, f 1, f 2, f 3, f 4, f 5, f 6⟩ : Ovr)) Ovr.g (fun f j hj => by
      have : j = 0 ∨ j = 1 ∨ j = 2 ∨ j = 3 ∨ j = 4 ∨ j = 5 ∨ j = 6 := by omega
      rcases this with rfl | rfl | rfl | rfl | rfl | rfl | rfl <;> rfl) k2
    obtain ⟨l3, rfl, r3, b3⟩ := rows_list (sz := 5) (by omega) (fun f => (⟨f 0, f 1, f 2, f 3, f 4⟩ : Dfc)) Dfc.g (fun f j hj => by
      have : j = 0 ∨ j = 1 ∨ j = 2 ∨ j = 3 ∨ j = 4 := by omega
      rcases this with rfl | rfl | rfl | rfl | rfl <;> rfl) k3
    obtain ⟨l4, rfl, r4, b4⟩ := rows_list (sz := 4) (by omega) (fun f => (⟨f 0, f 1, f 2, f 3⟩ : Pay)) Pay.g (fun f j hj => by
      have : j = 0 ∨ j = 1 ∨ j = 2 ∨ j = 3 := by omega
      rcases this with rfl | rfl | rfl | rfl <;> rfl) k4
    obtain ⟨l5, rfl, r5, b5⟩ := rows_list (sz := 6) (by omega) (fun f => (⟨f 0, f 1, f 2, f 3, f 4, f 5⟩ : Frg)) Frg.g (fun f j hj => by
      have : j = 0 ∨ j = 1 ∨ j = 2 ∨ j = 3 ∨ j = 4 ∨ j = 5 := by omega
      rcases this with rfl | rfl | rfl | rfl | rfl | rfl <;> rfl) k5
    exact ⟨⟨f, u, l1, l2, l3, l4, l5⟩, A1, A2, A3, A4, A5, c1, c2, c3, c4, c5, rfl, ⟨r1, r2, r3, r4, r5⟩, ⟨bf, bu, b1, b2, b3, b4, b5⟩⟩
set_option maxRecDepth 100000 in
/-- A release. -/
theorem open33 (hv : Value.okWide Tryz.prog w r b0 33 v) (h : DataW.Trod enc Tryz.prog w base spare held 33 v d p) :
    ∃ (s1 s2 : ByteArray) (ver : Int) (B : Option Addr) (n c : Nat) (at_ need : Int), v = relV s1 s2 ver B n c at_ need ∧ I64 at_ := by
  obtain ⟨cs, n, rfl, hsz, hf⟩ := open_field Tryz.underlying33 hv h
  rw [cells33] at hsz
  obtain ⟨l⟩ := cs
  match l, hsz with
  | [u0, u1, u2, u3, u4, u5], _ =>
    obtain ⟨y0, g0⟩ := hf 0 _ rfl
    obtain ⟨y1, g1⟩ := hf 1 _ rfl
    obtain ⟨y4, g4⟩ := hf 2 _ rfl
    obtain ⟨y5, g5⟩ := hf 3 _ rfl
    simp [cells31, cells9, cells3] at g0 g1 g4 g5
    obtain ⟨s0, rfl⟩ := str_of g0
    obtain ⟨m, rfl, bm⟩ := int_of g4
    obtain ⟨i5, rfl, _⟩ := int_of g5
    obtain ⟨xs, n2, _, _, _, hlen, hg⟩ := DataW.trod_struct Tryz.underlying31 g1
    have k0 := hg 0 _ rfl
    have k1 := hg 1 _ rfl
    have k2 := hg 2 _ rfl
    have c30 : Tryz.prog.cellsOf 29 = 1 := by kernel_rfl
    simp [cells9, cells3, c30] at k0 k1 k2
    match xs, hlen with
    | [z0, z1, z2], _ =>
      obtain ⟨s1, rfl⟩ := str_of k0
      obtain ⟨i2, rfl, _⟩ := int_of k1
      obtain ⟨A, n3, c3, rfl⟩ := slice_of Tryz.underlying29 k2
      exact ⟨s0, s1, i2, A, n3, c3, m, i5, rfl, bm⟩
end
end Go.Proofs.YtbkipanlicgooaaGreatDoor
