/-
  RepairRests: the statement, the card. Its conditions are the row's.
-/
import Derived.Test.YtbkipanlicgooaaGreatDoorE3
import Derived.Test.YtbkipanlicgooaaGreatDoorTab
import Derived.Test.YtbkipanlicgooaaGreatDoorRows
import Derived.Test.YtbkipanlicgooaaGreatDoorLi
import Derived.Test.YtbkipanlicgooaaGreatDoorHead
import Derived.Test.YtbkipanlicgooaaGreatDoorFac
import Derived.Test.YtbkipanlicgooaaGreatDoorJf
import Derived.Test.YtbkipanlicgooaaGreatDoorWit
import Derived.Test.YtbkipanlicgooaaGreatDoorLout
import Derived.Test.YtbkipanlicgooaaGreatDoorCards
import Derived.Test.YtbkipanlicgooaaGreatDoorTieZ
namespace Go.Proofs.YtbkipanlicgooaaGreatDoor
open YtbkipanlicgooaaGreatDoor
theorem glob_ck : H0.t.ck (gCk Tryz.prog Rows.repairSuffixAsReferenceRow.laid) 1 0 = true := by kernel_rfl
theorem glob_size : Tryz.prog.globals.size = 11 := by kernel_rfl
theorem laid_plain : (Rows.repairSuffixAsReferenceRow.laid.filter fun x => x.2.handleName?.isSome) = [] := by kernel_rfl
theorem laid2 : Rows.repairRestsRow.laid = Rows.repairSuffixAsReferenceRow.laid := rfl
theorem laid3 : Rows.repairOverRow.laid = Rows.repairSuffixAsReferenceRow.laid := rfl
theorem glb {ok : FuncId → Code → Prop} {w : World} (hs : w.ShapedOpen Tryz.prog) (hl : laidMetH Tryz.prog Rows.repairSuffixAsReferenceRow.laid w) : Glb Tryz.prog ok 11 H0 w :=
  glb_of rfl glob_size glob_ck hs (laidMet_of laid_plain hl)
end Go.Proofs.YtbkipanlicgooaaGreatDoor
namespace Go.Proofs.YtbkipanlicgooaaGreatDoor
open Go.ChangeShapes Go.WideShapes Go.ChangeAt Go.RowKit Go.Deep YtbkipanlicgooaaGreatDoor Q

/-- The head, in every later world. -/
theorem head_later {W : World} (hs : W.ShapedOpen Tryz.prog) (hl : laidMetH Tryz.prog Rows.repairSuffixAsReferenceRow.laid W) : ∀ W', Below W.heap.size W W' → Calls Tryz.prog 6 #[] W' (Ret (.bool true) W') := fun W' hb => by
  have h := glb (ok := okG (gl (lvM 36 kM))) hs hl
  exact head_calls (h.later fun b ob hb' => blk_later hb' hb)
def zeroScr : Value := .agg #[.int .i64 0, .int .i64 0, .slice none 0 0, .slice none 0 0, .slice none 0 0, .slice none 0 0, .slice none 0 0]
def zeroRel : Value := .agg #[.string ⟨#[]⟩, .string ⟨#[]⟩, .int .i64 0, .slice none 0 0, .int .i64 0, .int .i64 0]
set_option maxRecDepth 100000 in
set_option maxHeartbeats 4000000 in
theorem repairRests_lifted (os : Os) (started : os.Started) (H : Type) (enc : TypeId × Value → H) :
    ReturnsInHanded {} Tryz.checked os 4 .any (fun w args => (Rows.repairRestsSpec.pre enc Tryz.prog Tryz.f4 Rows.repairRestsRow.domain false w args ∧ laidMetH Tryz.prog Rows.repairSuffixAsReferenceRow.laid w) ∧ sizedMet enc Tryz.prog Tryz.f4 (OpenSpec.ofChange Rows.repairRestsSpec) false w args)
      (Rows.repairRestsSpec.post enc Tryz.prog Tryz.f4 false true false false) := by
  refine returns_laid (C := Tryz.checked) (X := fun w _ => laidMetH Tryz.prog Rows.repairSuffixAsReferenceRow.laid w) (fun _ _ _ hh h => h.of_heap hh) own started (by kernel_rfl) Tryz.func4
    (ChangeSpec.witness_shaped (enc := enc) (C := Tryz.checked) (os := os) (X := fun w _ => laidMetH Tryz.prog Rows.repairSuffixAsReferenceRow.laid w) false (witW os) #[zeroScr, zeroRel, .int .i64 0, .int .i64 0] 8 (witW_os os)
      (wit_shaped os _) (by kernel_rfl) (by kernel_rfl) (by kernel_rfl) (wit_laid os _)) ?_
  intro W base args ds gs before hval0 hW hs hl
  have hval : ∀ (j : Nat) t v, Tryz.f4.params[j]? = some t → args[j]? = some v → Value.okWide Tryz.prog W .any base t v := hval0
  have hW' := hW
  obtain ⟨p, q, hA0, hV, _, _, _⟩ := hW
  have hA : DataW.TrodAll enc Tryz.prog W 0 (fun _ => true) true Tryz.f4.params.toList args.toList ds p := hA0
  rw [Tryz.params4] at hA hval
  obtain ⟨v0, vs0, d0, ds0, p0, q0, hargs, rfl, _, h0, r0⟩ := trodAll_cons hA
  obtain ⟨v1, vs1, d1, ds1, p1, q1, rfl, rfl, rfl, h1, r1⟩ := trodAll_cons r0
  obtain ⟨v2, vs2, d2, ds2, p2, q2, rfl, rfl, rfl, h2, r2⟩ := trodAll_cons r1
  obtain ⟨v3, vs3, d3, ds3, p3, q3, rfl, rfl, rfl, h3, r3⟩ := trodAll_cons r2
  obtain ⟨rfl, rfl, rfl⟩ := trodAll_nil r3
  obtain rfl : args = #[v0, v1, v2, v3] := by cases args; simp_all
  obtain ⟨rfl, rfl⟩ := trodVars_none hV
  obtain ⟨D, A1, A2, A3, A4, A5, c1, c2, c3, c4, c5, rfl, hS, hI⟩ := open28 (hval 0 28 v0 rfl rfl) h0
  obtain ⟨s1, s2, ver, RB, rn, rc, at_, need, rfl, _⟩ := open33 (hval 1 33 v1 rfl rfl) h1
  obtain ⟨m, rfl, _⟩ := open_int Tryz.underlying3 (hval 2 3 v2 rfl rfl) h2
  obtain ⟨n, rfl, _⟩ := open_int Tryz.underlying3 (hval 3 3 v3 rfl rfl) h3
  exact law_post (f := 4) laidOut (by kernel_rfl) rfl Tryz.underlying4 rfl hW' rfl (rests_any D A1 A2 A3 A4 A5 c1 c2 c3 c4 c5 s1 s2 ver RB rn rc at_ need m n W hI hS (head_later hs hl))
set_option maxRecDepth 100000 in
theorem k_4_facts : joinedFacts Tryz.prog 4 Tryz.f4 Rows.repairRestsSpec Rows.repairRestsRow = true := by
  unfold joinedFacts
  exact and_t (and_t (and_t (and_t (and_t (and_t (and_t (and_t (and_t (and_t (and_t (and_t (and_t (and_t (and_t (and_t (and_t (and_t (and_t (and_t (and_t (and_t (and_t (and_t (and_t (and_t (and_t (and_t (and_t (and_t (and_t (k_4_wf) laidOut) f_mapsRowed) k_4_rec) k_4_tie) k_4_s1) k_4_s2) k_4_s3) k_4_s4) k_4_inPlace) k_4_unfollowed) k_4_recurses) k_4_named) k_4_maps) k_4_ifaces) k_4_mapsOut) k_4_loops) k_4_wide) k_4_vars) k_4_res) k_4_ifo) k_4_loo) k_4_pk) k_4_st) f_heard) f_mayEnter) k_4_li) k_4_mk) k_4_ki) k_4_pi) k_4_ve) k_4_fi
/-- The statement. -/
theorem repairRests_holds : Rows.RepairRestsSaid :=
  OpenClaim.holds_of_wide 4 Tryz.f4 rfl rfl rfl rfl rfl rfl rfl ⟨rfl, rfl, rfl, rfl, rfl⟩ rfl rfl rfl rfl rfl k_4_fn Tryz.func4 k_4_facts f_inst4 f_wrap4
    (fun os started H enc _ => repairRests_lifted os started H enc)
theorem no_parts {α : Type} {p : α → Prop} : ∀ D ∈ ([] : List α), p D := fun _ h => by cases h
/-- The card. -/
theorem repairRests_card : Rows.RepairRestsCardSaid :=
  Claim7.holds_tied_plain_at .later [] [.sentinel, .sentinel, .data, .data, .data, .pinned, .data, .data, .data, .data] true (true, "1af072d20b9693068d8095a7d09e503804c1f652f8c42e2285a9f11bf2f6cd12") true
    repairRests_holds no_parts f_wf4 no_parts repairRests_row_tie rfl ⟨rfl, rfl⟩ f_main rfl
    (fun f fn hf hfn => by
      obtain rfl : f = 4 := Option.some.inj (k_4_fn.symm.trans hf) |>.symm
      obtain rfl : fn = Tryz.f4 := (Option.some.inj (Tryz.func4.symm.trans hfn)).symm
      refine ⟨f_looks, fun j t ht => ?_⟩
      rw [Tryz.params4] at ht
      match j, ht with
      | 0, ht => obtain rfl : 28 = t := by simpa using ht
                 exact f_ws28
      | 1, ht => obtain rfl : 33 = t := by simpa using ht
                 exact f_ws33
      | 2, ht => obtain rfl : 3 = t := by simpa using ht
                 exact f_ws3
      | 3, ht => obtain rfl : 3 = t := by simpa using ht
                 exact f_ws3
      | j + 4, ht => simp at ht)
    (goesBy_none f_goes rfl)
#print axioms repairRests_card
end Go.Proofs.YtbkipanlicgooaaGreatDoor
