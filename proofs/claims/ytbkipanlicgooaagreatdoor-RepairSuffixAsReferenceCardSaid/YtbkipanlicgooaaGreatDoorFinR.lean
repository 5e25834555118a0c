/-
  RepairSuffixAsReference: the statement, the card. Its conditions are the row's.
-/
import Derived.Test.YtbkipanlicgooaaGreatDoorE3
import Derived.Test.YtbkipanlicgooaaGreatDoorTab
import Derived.Test.YtbkipanlicgooaaGreatDoorRows
import Derived.Test.YtbkipanlicgooaaGreatDoorRg
import Derived.Test.YtbkipanlicgooaaGreatDoorHead
import Derived.Test.YtbkipanlicgooaaGreatDoorFac
import Derived.Test.YtbkipanlicgooaaGreatDoorJfR
import Derived.Test.YtbkipanlicgooaaGreatDoorWit
import Derived.Test.YtbkipanlicgooaaGreatDoorLout
import Derived.Test.YtbkipanlicgooaaGreatDoorCards
import Derived.Test.YtbkipanlicgooaaGreatDoorTieZ
namespace Go.Proofs.YtbkipanlicgooaaGreatDoor
open YtbkipanlicgooaaGreatDoor
theorem glob_ck : H0.t.ck (gCk Tryz.prog Rows.repairSuffixAsReferenceRow.laid) 1 0 = true := by kernel_rfl
theorem glob_size : Tryz.prog.globals.size = 11 := by kernel_rfl
theorem laid_plain : (Rows.repairSuffixAsReferenceRow.laid.filter fun x => x.2.handleName?.isSome) = [] := by kernel_rfl
theorem laid2 : Rows.repairRestsRow.laid = Rows.repairSuffixAsReferenceRow.laid := rfl
theorem laid3 : Rows.repairOverRow.laid = Rows.repairSuffixAsReferenceRow.laid := rfl
theorem glb {ok : FuncId → Code → Prop} {w : World} (hs : w.ShapedOpen Tryz.prog) (hl : laidMetH Tryz.prog Rows.repairSuffixAsReferenceRow.laid w) : Glb Tryz.prog ok 11 H0 w :=
  glb_of rfl glob_size glob_ck hs (laidMet_of laid_plain hl)
end Go.Proofs.YtbkipanlicgooaaGreatDoor
namespace Go.Proofs.YtbkipanlicgooaaGreatDoor
open Go.ChangeShapes Go.WideShapes Go.ChangeAt Go.RowKit Go.Deep YtbkipanlicgooaaGreatDoor Q

/-- The head, in every later world. -/
theorem head_later {W : World} (hs : W.ShapedOpen Tryz.prog) (hl : laidMetH Tryz.prog Rows.repairSuffixAsReferenceRow.laid W) : ∀ W', Below W.heap.size W W' → Calls Tryz.prog 6 #[] W' (Ret (.bool true) W') := fun W' hb => by
  have h := glb (ok := okG (gl (lvM 36 kM))) hs hl
  exact head_calls (h.later fun b ob hb' => blk_later hb' hb)
def zeroScr : Value := .agg #[.int .i64 0, .int .i64 0, .slice none 0 0, .slice none 0 0, .slice none 0 0, .slice none 0 0, .slice none 0 0]
def zeroRel : Value := .agg #[.string ⟨#[]⟩, .string ⟨#[]⟩, .int .i64 0, .slice none 0 0, .int .i64 0, .int .i64 0]
set_option maxRecDepth 100000 in
set_option maxHeartbeats 4000000 in
theorem repairSuffixAsReference_lifted (os : Os) (started : os.Started) (H : Type) (enc : TypeId × Value → H) :
    ReturnsInHanded {} Tryz.checked os 3 .any (fun w args => (Rows.repairSuffixAsReferenceSpec.pre enc Tryz.prog Tryz.f3 Rows.repairSuffixAsReferenceRow.domain false w args ∧ laidMetH Tryz.prog Rows.repairSuffixAsReferenceRow.laid w) ∧ sizedMet enc Tryz.prog Tryz.f3 (OpenSpec.ofChange Rows.repairSuffixAsReferenceSpec) false w args)
      (Rows.repairSuffixAsReferenceSpec.post enc Tryz.prog Tryz.f3 false true false false) := by
  refine returns_laid (C := Tryz.checked) (X := fun w _ => laidMetH Tryz.prog Rows.repairSuffixAsReferenceRow.laid w) (fun _ _ _ hh h => h.of_heap hh) own started (by kernel_rfl) Tryz.func3
    (ChangeSpec.witness_shaped (enc := enc) (C := Tryz.checked) (os := os) (X := fun w _ => laidMetH Tryz.prog Rows.repairSuffixAsReferenceRow.laid w) false (witW os) #[zeroScr, zeroRel, .int .i64 0] 8 (witW_os os)
      (wit_shaped os _) (by kernel_rfl) (by kernel_rfl) (by kernel_rfl) (wit_laid os _)) ?_
  intro W base args ds gs before hval0 hW hs hl
  have hval : ∀ (j : Nat) t v, Tryz.f3.params[j]? = some t → args[j]? = some v → Value.okWide Tryz.prog W .any base t v := hval0
  have hW' := hW
  obtain ⟨p, q, hA0, hV, _, _, _⟩ := hW
  have hA : DataW.TrodAll enc Tryz.prog W 0 (fun _ => true) true Tryz.f3.params.toList args.toList ds p := hA0
  rw [Tryz.params3] at hA hval
  obtain ⟨v0, vs0, d0, ds0, p0, q0, hargs, rfl, _, h0, r0⟩ := trodAll_cons hA
  obtain ⟨v1, vs1, d1, ds1, p1, q1, rfl, rfl, rfl, h1, r1⟩ := trodAll_cons r0
  obtain ⟨v2, vs2, d2, ds2, p2, q2, rfl, rfl, rfl, h2, r2⟩ := trodAll_cons r1
  obtain ⟨rfl, rfl, rfl⟩ := trodAll_nil r2
  obtain rfl : args = #[v0, v1, v2] := by cases args; simp_all
  obtain ⟨rfl, rfl⟩ := trodVars_none hV
  obtain ⟨D, A1, A2, A3, A4, A5, c1, c2, c3, c4, c5, rfl, hS, hI⟩ := open28 (hval 0 28 v0 rfl rfl) h0
  obtain ⟨s1, s2, ver, RB, rn, rc, at_, need, rfl, _⟩ := open33 (hval 1 33 v1 rfl rfl) h1
  obtain ⟨m, rfl, _⟩ := open_int Tryz.underlying3 (hval 2 3 v2 rfl rfl) h2
  exact law_post (f := 3) laidOut (by kernel_rfl) rfl Tryz.underlying4 rfl hW' rfl (asref_any D A1 A2 A3 A4 A5 c1 c2 c3 c4 c5 s1 s2 ver RB rn rc at_ need m W hI hS (head_later hs hl))
set_option maxRecDepth 100000 in
theorem k_3_facts : joinedFacts Tryz.prog 3 Tryz.f3 Rows.repairSuffixAsReferenceSpec Rows.repairSuffixAsReferenceRow = true := by
  unfold joinedFacts
  exact and_t (and_t (and_t (and_t (and_t (and_t (and_t (and_t (and_t (and_t (and_t (and_t (and_t (and_t (and_t (and_t (and_t (and_t (and_t (and_t (and_t (and_t (and_t (and_t (and_t (and_t (and_t (and_t (and_t (and_t (and_t (k_3_wf) laidOut) f_mapsRowed) k_3_rec) k_3_tie) k_3_s1) k_3_s2) k_3_s3) k_3_s4) k_3_inPlace) k_3_unfollowed) k_3_recurses) k_3_named) k_3_maps) k_3_ifaces) k_3_mapsOut) k_3_loops) k_3_wide) k_3_vars) k_3_res) k_3_ifo) k_3_loo) k_3_pk) k_3_st) f_heard) f_mayEnter) k_3_li) k_3_mk) k_3_ki) k_3_pi) k_3_ve) k_3_fi
/-- The statement. -/
theorem repairSuffixAsReference_holds : Rows.RepairSuffixAsReferenceSaid :=
  OpenClaim.holds_of_wide 3 Tryz.f3 rfl rfl rfl rfl rfl rfl rfl ⟨rfl, rfl, rfl, rfl, rfl⟩ rfl rfl rfl rfl rfl k_3_fn Tryz.func3 k_3_facts f_inst3 f_wrap3
    (fun os started H enc _ => repairSuffixAsReference_lifted os started H enc)
theorem no_parts {α : Type} {p : α → Prop} : ∀ D ∈ ([] : List α), p D := fun _ h => by cases h
/-- The card. -/
theorem repairSuffixAsReference_card : Rows.RepairSuffixAsReferenceCardSaid :=
  Claim7.holds_tied_plain_at .later [] [.sentinel, .sentinel, .data, .data, .data, .pinned, .data, .data, .data, .data] true (true, "1af072d20b9693068d8095a7d09e503804c1f652f8c42e2285a9f11bf2f6cd12") true
    repairSuffixAsReference_holds no_parts f_wf3 no_parts repairSuffixAsReference_row_tie rfl ⟨rfl, rfl⟩ f_main rfl
    (fun f fn hf hfn => by
      obtain rfl : f = 3 := Option.some.inj (k_3_fn.symm.trans hf) |>.symm
      obtain rfl : fn = Tryz.f3 := (Option.some.inj (Tryz.func3.symm.trans hfn)).symm
      refine ⟨f_looks, fun j t ht => ?_⟩
      rw [Tryz.params3] at ht
      match j, ht with
      | 0, ht => obtain rfl : 28 = t := by simpa using ht
                 exact f_ws28
      | 1, ht => obtain rfl : 33 = t := by simpa using ht
                 exact f_ws33
      | 2, ht => obtain rfl : 3 = t := by simpa using ht
                 exact f_ws3
      | j + 3, ht => simp at ht)
    (goesBy_none f_goes rfl)
#print axioms repairSuffixAsReference_card
end Go.Proofs.YtbkipanlicgooaaGreatDoor
