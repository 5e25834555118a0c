/-
  RepairOver: the statement, the card. Its conditions are the row's.
-/
import Derived.Test.YtbkipanlicgooaaGreatDoorE3
import Derived.Test.YtbkipanlicgooaaGreatDoorTab
import Derived.Test.YtbkipanlicgooaaGreatDoorRows
import Derived.Test.YtbkipanlicgooaaGreatDoorLi
import Derived.Test.YtbkipanlicgooaaGreatDoorLj
import Derived.Test.YtbkipanlicgooaaGreatDoorHead
import Derived.Test.YtbkipanlicgooaaGreatDoorFac
import Derived.Test.YtbkipanlicgooaaGreatDoorJfO
import Derived.Test.YtbkipanlicgooaaGreatDoorWit
import Derived.Test.YtbkipanlicgooaaGreatDoorLout
import Derived.Test.YtbkipanlicgooaaGreatDoorCards
import Derived.Test.YtbkipanlicgooaaGreatDoorTieZ
namespace Go.Proofs.YtbkipanlicgooaaGreatDoor
open YtbkipanlicgooaaGreatDoor
theorem glob_ck : H0.t.ck (gCk Tryz.prog Rows.repairSuffixAsReferenceRow.laid) 1 0 = true := by kernel_rfl
theorem glob_size : Tryz.prog.globals.size = 11 := by kernel_rfl
theorem laid_plain : (Rows.repairSuffixAsReferenceRow.laid.filter fun x => x.2.handleName?.isSome) = [] := by kernel_rfl
theorem laid2 : Rows.repairRestsRow.laid = Rows.repairSuffixAsReferenceRow.laid := rfl
theorem laid3 : Rows.repairOverRow.laid = Rows.repairSuffixAsReferenceRow.laid := rfl
theorem glb {ok : FuncId → Code → Prop} {w : World} (hs : w.ShapedOpen Tryz.prog) (hl : laidMetH Tryz.prog Rows.repairSuffixAsReferenceRow.laid w) : Glb Tryz.prog ok 11 H0 w :=
  glb_of rfl glob_size glob_ck hs (laidMet_of laid_plain hl)
end Go.Proofs.YtbkipanlicgooaaGreatDoor
namespace Go.Proofs.YtbkipanlicgooaaGreatDoor
open Go.ChangeShapes Go.WideShapes Go.ChangeAt Go.RowKit Go.Deep YtbkipanlicgooaaGreatDoor Q

/-- The head, in every later world. -/
theorem head_later {W : World} (hs : W.ShapedOpen Tryz.prog) (hl : laidMetH Tryz.prog Rows.repairSuffixAsReferenceRow.laid W) : ∀ W', Below W.heap.size W W' → Calls Tryz.prog 6 #[] W' (Ret (.bool true) W') := fun W' hb => by
  have h := glb (ok := okG (gl (lvM 36 kM))) hs hl
  exact head_calls (h.later fun b ob hb' => blk_later hb' hb)
def zeroScr : Value := .agg #[.int .i64 0, .int .i64 0, .slice none 0 0, .slice none 0 0, .slice none 0 0, .slice none 0 0, .slice none 0 0]
def zeroRel : Value := .agg #[.string ⟨#[]⟩, .string ⟨#[]⟩, .int .i64 0, .slice none 0 0, .int .i64 0, .int .i64 0]
section
variable {H : Type} {enc : TypeId × Value → H} {w : World} {r : Reach} {base b0 : Nat} {spare : Nat → Bool} {held : Bool} {v : Value} {d : DataW H} {p : List MemPlace}
set_option maxRecDepth 100000 in
theorem open45 (hv : Value.okWide Tryz.prog w r b0 45 v) (h : DataW.Trod enc Tryz.prog w base spare held 45 v d p) : ∃ y : Pay, v = .agg #[.int .i64 y.k, .int .i64 y.t, .int .i64 y.f, .int .i64 y.a] := by
  obtain ⟨cs, n, rfl, hsz, hf⟩ := open_field Tryz.underlying45 hv h
  have hc : Tryz.prog.cellsOf 45 = 4 := by kernel_rfl
  rw [hc] at hsz
  obtain ⟨l⟩ := cs
  match l, hsz with
  | [u0, u1, u2, u3], _ =>
    obtain ⟨y0, g0⟩ := hf 0 _ rfl
    obtain ⟨y1, g1⟩ := hf 1 _ rfl
    obtain ⟨y2, g2⟩ := hf 2 _ rfl
    obtain ⟨y3, g3⟩ := hf 3 _ rfl
    simp [cells3] at g0 g1 g2 g3
    obtain ⟨z0, rfl, _⟩ := int_of g0
    obtain ⟨z1, rfl, _⟩ := int_of g1
    obtain ⟨z2, rfl, _⟩ := int_of g2
    obtain ⟨z3, rfl, _⟩ := int_of g3
    exact ⟨⟨z0, z1, z2, z3⟩, rfl⟩
end
section
variable {H : Type} {enc : TypeId × Value → H} {w : World} {r : Reach} {base b0 : Nat} {spare : Nat → Bool} {held : Bool} {v : Value} {d : DataW H} {p : List MemPlace}
set_option maxRecDepth 100000 in
theorem open47 (hv : Value.okWide Tryz.prog w r b0 47 v) (h : DataW.Trod enc Tryz.prog w base spare held 47 v d p) : ∃ y : Spl, v = .agg #[.int .i64 y.k, .int .i64 y.q, .int .i64 y.n, .int .i64 y.f, .int .i64 y.u] := by
  obtain ⟨cs, n, rfl, hsz, hf⟩ := open_field Tryz.underlying47 hv h
  have hc : Tryz.prog.cellsOf 47 = 5 := by kernel_rfl
  rw [hc] at hsz
  obtain ⟨l⟩ := cs
  match l, hsz with
  | [u0, u1, u2, u3, u4], _ =>
    obtain ⟨y0, g0⟩ := hf 0 _ rfl
    obtain ⟨y1, g1⟩ := hf 1 _ rfl
    obtain ⟨y2, g2⟩ := hf 2 _ rfl
    obtain ⟨y3, g3⟩ := hf 3 _ rfl
    obtain ⟨y4, g4⟩ := hf 4 _ rfl
    simp [cells3] at g0 g1 g2 g3 g4
    obtain ⟨z0, rfl, _⟩ := int_of g0
    obtain ⟨z1, rfl, _⟩ := int_of g1
    obtain ⟨z2, rfl, _⟩ := int_of g2
    obtain ⟨z3, rfl, _⟩ := int_of g3
    obtain ⟨z4, rfl, _⟩ := int_of g4
    exact ⟨⟨z0, z1, z2, z3, z4⟩, rfl⟩
end
section
variable {H : Type} {enc : TypeId × Value → H} {w : World} {r : Reach} {base b0 : Nat} {spare : Nat → Bool} {held : Bool} {v : Value} {d : DataW H} {p : List MemPlace}
set_option maxRecDepth 100000 in
theorem open42 (hv : Value.okWide Tryz.prog w r b0 42 v) (h : DataW.Trod enc Tryz.prog w base spare held 42 v d p) : ∃ y : Dfc, v = .agg #[.int .i64 y.t, .int .i64 y.c, .int .i64 y.f, .int .i64 y.u, .int .i64 y.n] := by
  obtain ⟨cs, n, rfl, hsz, hf⟩ := open_field Tryz.underlying42 hv h
  have hc : Tryz.prog.cellsOf 42 = 5 := by kernel_rfl
  rw [hc] at hsz
  obtain ⟨l⟩ := cs
  match l, hsz with
  | [u0, u1, u2, u3, u4], _ =>
    obtain ⟨y0, g0⟩ := hf 0 _ rfl
    obtain ⟨y1, g1⟩ := hf 1 _ rfl
    obtain ⟨y2, g2⟩ := hf 2 _ rfl
    obtain ⟨y3, g3⟩ := hf 3 _ rfl
    obtain ⟨y4, g4⟩ := hf 4 _ rfl
    simp [cells3] at g0 g1 g2 g3 g4
    obtain ⟨z0, rfl, _⟩ := int_of g0
    obtain ⟨z1, rfl, _⟩ := int_of g1
    obtain ⟨z2, rfl, _⟩ := int_of g2
    obtain ⟨z3, rfl, _⟩ := int_of g3
    obtain ⟨z4, rfl, _⟩ := int_of g4
    exact ⟨⟨z0, z1, z2, z3, z4⟩, rfl⟩
end
section
variable {H : Type} {enc : TypeId × Value → H} {w : World} {r : Reach} {base b0 : Nat} {spare : Nat → Bool} {held : Bool} {v : Value} {d : DataW H} {p : List MemPlace}
set_option maxRecDepth 100000 in
theorem open49 (hv : Value.okWide Tryz.prog w r b0 49 v) (h : DataW.Trod enc Tryz.prog w base spare held 49 v d p) : ∃ y : Ovr, v = .agg #[.int .i64 y.k, .int .i64 y.t, .int .i64 y.p, .int .i64 y.i, .int .i64 y.f, .int .i64 y.u, .int .i64 y.n] := by
  obtain ⟨cs, n, rfl, hsz, hf⟩ := open_field Tryz.underlying49 hv h
  have hc : Tryz.prog.cellsOf 49 = 7 := by kernel_rfl
  rw [hc] at hsz
  obtain ⟨l⟩ := cs
  match l, hsz with
  | [u0, u1, u2, u3, u4, u5, u6], _ =>
    obtain ⟨y0, g0⟩ := hf 0 _ rfl
    obtain ⟨y1, g1⟩ := hf 1 _ rfl
    obtain ⟨y2, g2⟩ := hf 2 _ rfl
    obtain ⟨y3, g3⟩ := hf 3 _ rfl
    obtain ⟨y4, g4⟩ := hf 4 _ rfl
    obtain ⟨y5, g5⟩ := hf 5 _ rfl
    obtain ⟨y6, g6⟩ := hf 6 _ rfl
    simp [cells3] at g0 g1 g2 g3 g4 g5 g6
    obtain ⟨z0, rfl, _⟩ := int_of g0
    obtain ⟨z1, rfl, _⟩ := int_of g1
    obtain ⟨z2, rfl, _⟩ := int_of g2
    obtain ⟨z3, rfl, _⟩ := int_of g3
    obtain ⟨z4, rfl, _⟩ := int_of g4
    obtain ⟨z5, rfl, _⟩ := int_of g5
    obtain ⟨z6, rfl, _⟩ := int_of g6
    exact ⟨⟨z0, z1, z2, z3, z4, z5, z6⟩, rfl⟩
end
/-- The law RepairOver returns true. -/
theorem over_any (d : Scr) (A1 A2 A3 A4 A5 : Option Addr) (c1 c2 c3 c4 c5 : Nat) (s1 s2 : ByteArray) (ver : Int) (RB : Option Addr) (rn rc : Nat) (at_ need m : Int) (p : Pay) (s : Spl) (x : Dfc) (o : Ovr) (w : World) (hb : ScrI d) (hS : ScrAt w d A1 A2 A3 A4 A5) (hH : ∀ W, Below w.heap.size w W → Calls Tryz.prog 6 #[] W (Ret (.bool true) W)) :
    Calls Tryz.prog 5 #[scrV d A1 A2 A3 A4 A5 c1 c2 c3 c4 c5, relV s1 s2 ver RB rn rc at_ need, .int .i64 m, .agg #[.int .i64 p.k, .int .i64 p.t, .int .i64 p.f, .int .i64 p.a], .agg #[.int .i64 s.k, .int .i64 s.q, .int .i64 s.n, .int .i64 s.f, .int .i64 s.u], .agg #[.int .i64 x.t, .int .i64 x.c, .int .i64 x.f, .int .i64 x.u, .int .i64 x.n], .agg #[.int .i64 o.k, .int .i64 o.t, .int .i64 o.p, .int .i64 o.i, .int .i64 o.f, .int .i64 o.u, .int .i64 o.n]] w (Ret (.bool true) w) := by
  cases hf : fewB d with
  | false => exact over_skip0 d A1 A2 A3 A4 A5 c1 c2 c3 c4 c5 s1 s2 ver RB rn rc at_ need m p s x o w hf hH
  | true =>
    have hB := hb.few hf
    by_cases q1 : p.a ≤ at_
    · exact over_skip1 d A1 A2 A3 A4 A5 c1 c2 c3 c4 c5 s1 s2 ver RB rn rc at_ need m p s x o w hf q1 hH
    by_cases q2 : m ≤ s.u
    · exact over_skip2 d A1 A2 A3 A4 A5 c1 c2 c3 c4 c5 s1 s2 ver RB rn rc at_ need m p s x o w hf q1 q2 hH
    by_cases q3 : m ≤ x.u
    · exact over_skip3 d A1 A2 A3 A4 A5 c1 c2 c3 c4 c5 s1 s2 ver RB rn rc at_ need m p s x o w hf q1 q2 q3 hH
    by_cases q4 : m ≤ o.u
    · by_cases q5 : o.n ≤ d.u
      · exact over_skip4 d A1 A2 A3 A4 A5 c1 c2 c3 c4 c5 s1 s2 ver RB rn rc at_ need m p s x o w hf q1 q2 q3 q4 q5 hH
      · cases h1 : sufB d at_ m with
        | true => exact over_gobt d A1 A2 A3 A4 A5 c1 c2 c3 c4 c5 s1 s2 ver RB rn rc at_ need m p s x o w hB hf hS hH q1 q2 q3 q4 q5 h1
        | false => exact over_gobf d A1 A2 A3 A4 A5 c1 c2 c3 c4 c5 s1 s2 ver RB rn rc at_ need m p s x o w hB hf hS hH q1 q2 q3 q4 q5 h1
    · cases h1 : sufB d at_ m with
      | true => exact over_goat d A1 A2 A3 A4 A5 c1 c2 c3 c4 c5 s1 s2 ver RB rn rc at_ need m p s x o w hB hf hS hH q1 q2 q3 q4 h1
      | false => exact over_goaf d A1 A2 A3 A4 A5 c1 c2 c3 c4 c5 s1 s2 ver RB rn rc at_ need m p s x o w hB hf hS hH q1 q2 q3 q4 h1
set_option maxRecDepth 100000 in
set_option maxHeartbeats 4000000 in
theorem repairOver_lifted (os : Os) (started : os.Started) (H : Type) (enc : TypeId × Value → H) :
    ReturnsInHanded {} Tryz.checked os 5 .any (fun w args => (Rows.repairOverSpec.pre enc Tryz.prog Tryz.f5 Rows.repairOverRow.domain false w args ∧ laidMetH Tryz.prog Rows.repairSuffixAsReferenceRow.laid w) ∧ sizedMet enc Tryz.prog Tryz.f5 (OpenSpec.ofChange Rows.repairOverSpec) false w args)
      (Rows.repairOverSpec.post enc Tryz.prog Tryz.f5 false true false false) := by
  refine returns_laid (C := Tryz.checked) (X := fun w _ => laidMetH Tryz.prog Rows.repairSuffixAsReferenceRow.laid w) (fun _ _ _ hh h => h.of_heap hh) own started (by kernel_rfl) Tryz.func5
    (ChangeSpec.witness_shaped (enc := enc) (C := Tryz.checked) (os := os) (X := fun w _ => laidMetH Tryz.prog Rows.repairSuffixAsReferenceRow.laid w) false (witW os) #[zeroScr, zeroRel, .int .i64 0, .agg #[.int .i64 0, .int .i64 0, .int .i64 0, .int .i64 0], .agg #[.int .i64 0, .int .i64 0, .int .i64 0, .int .i64 0, .int .i64 0], .agg #[.int .i64 0, .int .i64 0, .int .i64 0, .int .i64 0, .int .i64 0], .agg #[.int .i64 0, .int .i64 0, .int .i64 0, .int .i64 0, .int .i64 0, .int .i64 0, .int .i64 0]] 8 (witW_os os)
      (wit_shaped os _) (by kernel_rfl) (by kernel_rfl) (by kernel_rfl) (wit_laid os _)) ?_
  intro W base args ds gs before hval0 hW hs hl
  have hval : ∀ (j : Nat) t v, Tryz.f5.params[j]? = some t → args[j]? = some v → Value.okWide Tryz.prog W .any base t v := hval0
  have hW' := hW
  obtain ⟨p, q, hA0, hV, _, _, _⟩ := hW
  have hA : DataW.TrodAll enc Tryz.prog W 0 (fun _ => true) true Tryz.f5.params.toList args.toList ds p := hA0
  rw [Tryz.params5] at hA hval
  obtain ⟨v0, vs0, d0, ds0, p0, q0, hargs, rfl, _, h0, r0⟩ := trodAll_cons hA
  obtain ⟨v1, vs1, d1, ds1, p1, q1, rfl, rfl, rfl, h1, r1⟩ := trodAll_cons r0
  obtain ⟨v2, vs2, d2, ds2, p2, q2, rfl, rfl, rfl, h2, r2⟩ := trodAll_cons r1
  obtain ⟨v3, vs3, d3, ds3, p3, q3, rfl, rfl, rfl, h3, r3⟩ := trodAll_cons r2
  obtain ⟨v4, vs4, d4, ds4, p4, q4, rfl, rfl, rfl, h4, r4⟩ := trodAll_cons r3
  obtain ⟨v5, vs5, d5, ds5, p5, q5, rfl, rfl, rfl, h5, r5⟩ := trodAll_cons r4
  obtain ⟨v6, vs6, d6, ds6, p6, q6, rfl, rfl, rfl, h6, r6⟩ := trodAll_cons r5
  obtain ⟨rfl, rfl, rfl⟩ := trodAll_nil r6
  obtain rfl : args = #[v0, v1, v2, v3, v4, v5, v6] := by cases args; simp_all
  obtain ⟨rfl, rfl⟩ := trodVars_none hV
  obtain ⟨D, A1, A2, A3, A4, A5, c1, c2, c3, c4, c5, rfl, hS, hI⟩ := open28 (hval 0 28 v0 rfl rfl) h0
  obtain ⟨s1, s2, ver, RB, rn, rc, at_, need, rfl, _⟩ := open33 (hval 1 33 v1 rfl rfl) h1
  obtain ⟨m, rfl, _⟩ := open_int Tryz.underlying3 (hval 2 3 v2 rfl rfl) h2
  obtain ⟨P0, rfl⟩ := open45 (hval 3 45 v3 rfl rfl) h3
  obtain ⟨S0, rfl⟩ := open47 (hval 4 47 v4 rfl rfl) h4
  obtain ⟨X0, rfl⟩ := open42 (hval 5 42 v5 rfl rfl) h5
  obtain ⟨O0, rfl⟩ := open49 (hval 6 49 v6 rfl rfl) h6
  exact law_post (f := 5) laidOut (by kernel_rfl) rfl Tryz.underlying4 rfl hW' rfl (over_any D A1 A2 A3 A4 A5 c1 c2 c3 c4 c5 s1 s2 ver RB rn rc at_ need m P0 S0 X0 O0 W hI hS (head_later hs hl))
set_option maxRecDepth 100000 in
theorem k_5_facts : joinedFacts Tryz.prog 5 Tryz.f5 Rows.repairOverSpec Rows.repairOverRow = true := by
  unfold joinedFacts
  exact and_t (and_t (and_t (and_t (and_t (and_t (and_t (and_t (and_t (and_t (and_t (and_t (and_t (and_t (and_t (and_t (and_t (and_t (and_t (and_t (and_t (and_t (and_t (and_t (and_t (and_t (and_t (and_t (and_t (and_t (and_t (k_5_wf) laidOut) f_mapsRowed) k_5_rec) k_5_tie) k_5_s1) k_5_s2) k_5_s3) k_5_s4) k_5_inPlace) k_5_unfollowed) k_5_recurses) k_5_named) k_5_maps) k_5_ifaces) k_5_mapsOut) k_5_loops) k_5_wide) k_5_vars) k_5_res) k_5_ifo) k_5_loo) k_5_pk) k_5_st) f_heard) f_mayEnter) k_5_li) k_5_mk) k_5_ki) k_5_pi) k_5_ve) k_5_fi
/-- The statement. -/
theorem repairOver_holds : Rows.RepairOverSaid :=
  OpenClaim.holds_of_wide 5 Tryz.f5 rfl rfl rfl rfl rfl rfl rfl ⟨rfl, rfl, rfl, rfl, rfl⟩ rfl rfl rfl rfl rfl k_5_fn Tryz.func5 k_5_facts f_inst5 f_wrap5
    (fun os started H enc _ => repairOver_lifted os started H enc)
theorem no_parts {α : Type} {p : α → Prop} : ∀ D ∈ ([] : List α), p D := fun _ h => by cases h
/-- The card. -/
theorem repairOver_card : Rows.RepairOverCardSaid :=
  Claim7.holds_tied_plain_at .later [] [.sentinel, .sentinel, .data, .data, .data, .pinned, .data, .data, .data, .data] true (true, "1af072d20b9693068d8095a7d09e503804c1f652f8c42e2285a9f11bf2f6cd12") true
    repairOver_holds no_parts f_wf5 no_parts repairOver_row_tie rfl ⟨rfl, rfl⟩ f_main rfl
    (fun f fn hf hfn => by
      obtain rfl : f = 5 := Option.some.inj (k_5_fn.symm.trans hf) |>.symm
      obtain rfl : fn = Tryz.f5 := (Option.some.inj (Tryz.func5.symm.trans hfn)).symm
      refine ⟨f_looks, fun j t ht => ?_⟩
      rw [Tryz.params5] at ht
      match j, ht with
      | 0, ht => obtain rfl : 28 = t := by simpa using ht
                 exact f_ws28
      | 1, ht => obtain rfl : 33 = t := by simpa using ht
                 exact f_ws33
      | 2, ht => obtain rfl : 3 = t := by simpa using ht
                 exact f_ws3
      | 3, ht => obtain rfl : 45 = t := by simpa using ht
                 exact f_ws45
      | 4, ht => obtain rfl : 47 = t := by simpa using ht
                 exact f_ws47
      | 5, ht => obtain rfl : 42 = t := by simpa using ht
                 exact f_ws42
      | 6, ht => obtain rfl : 49 = t := by simpa using ht
                 exact f_ws49
      | j + 7, ht => simp at ht)
    (goesBy_none f_goes rfl)
#print axioms repairOver_card
end Go.Proofs.YtbkipanlicgooaaGreatDoor
