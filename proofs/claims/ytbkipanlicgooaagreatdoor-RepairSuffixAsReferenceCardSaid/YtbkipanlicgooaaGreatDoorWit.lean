/-
  A world that meets the rows' premise: the listed variables laid. The type of the errors is found with few comparisons. No conditions but those in each statement.
-/
import Derived.Test.YtbkipanlicgooaaGreatDoorRows
import Derived.Lay
import Derived.MakeChecks
namespace Go.Proofs.YtbkipanlicgooaaGreatDoor
open YtbkipanlicgooaaGreatDoor

section
variable (P : Program)
/-- The name of this type is not this one (looked at cheaply). -/
def notPlain (u : TypeId) : Bool :=
  match P.info? u with
  | some i => match i.desc with
    | .named n _ => n != "errors.errorString"
    | .pointer _ => true
    | .bool | .int _ | .float _ | .string => i.str != "errors.errorString"
    | _ => true
  | none => true
def notStarI (i : TypeInfo) : Bool :=
  match i.desc with
  | .named n _ => n != "*errors.errorString"
  | .pointer e => notPlain P e
  | .bool | .int _ | .float _ | .string => i.str != "*errors.errorString"
  | _ => true
end
theorem star_ne (m : String) : "*" ++ m ≠ "errors.errorString" := by
  intro h
  have := congrArg (fun s => s.toList.head?) h
  simp at this
theorem star_eq {m : String} (h : "*" ++ m = "*errors.errorString") : m = "errors.errorString" := by
  have h1 := congrArg String.toList h
  rw [String.toList_append] at h1
  have h2 : ("*errors.errorString" : String).toList = ("*" : String).toList ++ ("errors.errorString" : String).toList := by decide
  rw [h2] at h1
  exact String.toList_inj.1 (List.append_cancel_left h1)
theorem notPlain_ok {P : Program} : ∀ (d : Nat) (u : TypeId), notPlain P u = true → P.typeName? d u ≠ some "errors.errorString"
  | 0, _, _ => by simp [Program.typeName?]
  | d + 1, u, h => by
    unfold notPlain at h
    unfold Program.typeName?
    cases hi : P.info? u with
    | none => simp
    | some i =>
      rw [hi] at h
      simp only at h ⊢
      cases hd : i.desc <;> rw [hd] at h <;> simp only at h ⊢ <;> first
        | (intro h'; cases h')
        | (intro h'; split at h'
           · cases h'
           · have h' := Option.some.inj h'; rw [h'] at h; simp at h)
        | (intro h'; split at h'
           · have h' := Option.some.inj h'; rw [h'] at h; simp at h
           · cases h')
        | (intro h'; obtain ⟨m, _, hm⟩ := Option.map_eq_some_iff.1 h'; exact star_ne m hm)
theorem notStar_ok {P : Program} : ∀ (d : Nat) (u : TypeId), (∀ i, P.info? u = some i → notStarI P i = true) → P.typeName? d u ≠ some "*errors.errorString"
  | 0, _, _ => by simp [Program.typeName?]
  | d + 1, u, h => by
    unfold Program.typeName?
    cases hi : P.info? u with
    | none => simp
    | some i =>
      replace h := h i hi
      unfold notStarI at h
      simp only at h ⊢
      cases hd : i.desc <;> rw [hd] at h <;> simp only at h ⊢ <;> first
        | (intro h'; cases h')
        | (intro h'; split at h'
           · cases h'
           · have h' := Option.some.inj h'; rw [h'] at h; simp at h)
        | (intro h'; split at h'
           · have h' := Option.some.inj h'; rw [h'] at h; simp at h
           · cases h')
        | (intro h'; obtain ⟨m, hm0, hm⟩ := Option.map_eq_some_iff.1 h'; exact notPlain_ok d _ h (by rw [hm0, star_eq hm]))
theorem info_types {P : Program} {j : Nat} {i : TypeInfo} (hj : j < P.types.size) (h : P.info? j = some i) : P.types.toList[j]? = some i := by
  unfold Tables.info? at h
  rw [if_pos hj] at h
  rw [Array.getElem?_toList]
  exact h
theorem star_all : (Tryz.prog.types.toList.take 773).all (notStarI Tryz.prog) = true := by kernel_rfl
theorem star_is : (Tryz.prog.typeName? 3 773 == some "*errors.errorString") = true := by kernel_rfl
theorem star_lt : decide (773 < Tryz.prog.types.size) = true := by kernel_rfl
theorem star_find : ((List.range Tryz.prog.types.size).find? fun u => Tryz.prog.typeName? 3 u == some "*errors.errorString") = some 773 := by
  rw [List.find?_range_eq_some]
  refine ⟨star_is, List.mem_range.2 (of_decide_eq_true star_lt), fun j hj => ?_⟩
  have := notStar_ok (P := Tryz.prog) 3 j (fun i hi => List.all_eq_true.1 star_all i (by
    have hi := info_types (Nat.lt_trans hj (of_decide_eq_true star_lt)) hi
    rw [List.mem_iff_getElem?]
    exact ⟨j, by rw [List.getElem?_take, if_pos hj]; exact hi⟩))
  simpa using this
/-- A datum laid, the type of the errors given. -/
def lay' (P : Program) (t : TypeId) (n : Nat) (x : DataW Unit) : Option (List Value × List Obj) :=
  match x with
  | .iface name d => if name = "*errors.errorString" then (match P.underlying t with
    | some (.interface _) => match d.lay P 773 n with
      | some x => match Lay.pack P 773 x.1 with
        | some v => some ([.iface 773 v], x.2)
        | none => none
      | none => none
    | _ => none) else (DataW.iface name d).lay P t n
  | x => x.lay P t n
set_option maxRecDepth 100000 in
theorem lay'_eq (t : TypeId) (n : Nat) (x : DataW Unit) : x.lay Tryz.prog t n = lay' Tryz.prog t n x := by
  cases x with
  | iface name d =>
    unfold lay'
    simp only
    by_cases h : name = "*errors.errorString"
    · subst h
      rw [if_pos rfl]
      rw [DataW.lay, star_find]
      cases Tryz.prog.underlying t with
      | none => rfl
      | some y => cases y <;> rfl
    · rw [if_neg h]
  | _ => rfl
def layList' (P : Program) (n : Nat) : List (String × DataW Unit) → Option (List (Nat × List Value) × List Obj)
  | [] => some ([], [])
  | x :: r => match P.globalNamed x.1 with
    | some g => match P.globals[g]? with
      | some gl => match lay' P gl.type n x.2 with
        | some y => match layList' P (n + y.2.length) r with
          | some z => some ((g, y.1) :: z.1, y.2 ++ z.2)
          | none => none
        | none => none
      | none => none
    | none => none
theorem layList'_eq : ∀ (l : List (String × DataW Unit)) (n : Nat), Lay.layList Tryz.prog n l = layList' Tryz.prog n l
  | [], _ => rfl
  | x :: r, n => by
    rw [Lay.layList, layList']
    cases Tryz.prog.globalNamed x.1 with
    | none => rfl
    | some g =>
      simp only
      cases Tryz.prog.globals[g]? with
      | none => rfl
      | some gl =>
        simp only
        rw [lay'_eq]
        cases lay' Tryz.prog gl.type n x.2 with
        | none => rfl
        | some y =>
          simp only
          rw [layList'_eq r]
          rfl
def layVars' (P : Program) (w : World) (l : List (String × DataW Unit)) : World :=
  match layList' P w.heap.size l with
  | some y => { w with heap := ⟨Lay.setRows w.heap.toList y.1 ++ y.2⟩ }
  | none => w
theorem layVars'_eq (w : World) (l : List (String × DataW Unit)) : World.layVars Tryz.prog w l = layVars' Tryz.prog w l := by
  unfold World.layVars layVars'
  rw [layList'_eq]
  cases layList' Tryz.prog w.heap.size l <;> rfl
/-- The witness. -/
noncomputable def witW (os : Os) : World := layVars' Tryz.prog (World.holding Tryz.prog os ⟨#[], #[], []⟩) Rows.repairSuffixAsReferenceRow.laid
theorem witW_eq (os : Os) : World.laidAll Tryz.prog os Rows.repairSuffixAsReferenceRow.laid = witW os := layVars'_eq _ _
theorem witW_os (os : Os) : (witW os).os = os := by rw [← witW_eq]; exact World.laidAll_os _ _ _
def layFits' (P : Program) (w : World) (l : List (String × DataW Unit)) (B : List Nat) : Bool :=
  match layList' P w.heap.size l with
  | some y => decide (y.1.map (·.1)).Nodup && (y.1.all fun r => Lay.isRow w.heap.toList[r.1]? && !B.contains r.1) && B.all (· < w.heap.size)
  | none => false
theorem layFits'_eq (w : World) (l : List (String × DataW Unit)) (B : List Nat) : w.layFits Tryz.prog l B = layFits' Tryz.prog w l B := by
  unfold World.layFits layFits'
  rw [layList'_eq]
  cases layList' Tryz.prog w.heap.size l <;> rfl
def layIfaces' (P : Program) (w : World) (l : List (String × DataW Unit)) (w' : World) : Bool :=
  match layList' P w.heap.size l with
  | some y => (y.1.all fun r => r.2.all (Lay.okV P w')) && y.2.all (Lay.okO P w')
  | none => false
theorem layIfaces'_eq (w : World) (l : List (String × DataW Unit)) (w' : World) : w.layIfaces Tryz.prog l w' = layIfaces' Tryz.prog w l w' := by
  unfold World.layIfaces layIfaces'
  rw [layList'_eq]
  cases layList' Tryz.prog w.heap.size l <;> rfl
theorem wit_fits (os : Os) : (World.holding Tryz.prog os ⟨#[], #[], []⟩).layFits Tryz.prog Rows.repairSuffixAsReferenceRow.laid [] = true := (layFits'_eq _ _ _).trans (by kernel_rfl)
theorem wit_ifaces (os : Os) : (World.holding Tryz.prog os ⟨#[], #[], []⟩).layIfaces Tryz.prog Rows.repairSuffixAsReferenceRow.laid (World.laidAll Tryz.prog os Rows.repairSuffixAsReferenceRow.laid) = true := by
  rw [witW_eq]
  exact (layIfaces'_eq _ _ _).trans (by kernel_rfl)
theorem wit_vars (os : Os) (args : Array Value) : ((witW os).forCall (fun _ _ => 0) ⟨#[], args, []⟩).variablesZipB Tryz.prog = true := by kernel_rfl
theorem wit_heap (os : Os) (args : Array Value) : (((witW os).forCall (fun _ _ => 0) ⟨#[], args, []⟩).heap.toList.drop Tryz.prog.globals.size).take ((begin Tryz.prog (fun _ _ => 0) default).world.heap.size - Tryz.prog.globals.size) =
    (begin Tryz.prog (fun _ _ => 0) default).world.heap.toList.drop Tryz.prog.globals.size := by kernel_rfl
theorem wit_shaped (os : Os) (args : Array Value) : ((witW os).forCall (fun _ _ => 0) ⟨#[], args, []⟩).Shaped Tryz.prog := World.shaped_of_ZipB (wit_vars os args) (wit_heap os args)
theorem laid_plain' : (Rows.repairSuffixAsReferenceRow.laid.all fun x => x.2.handleName?.isNone) = true := by kernel_rfl
theorem wit_laid (os : Os) (args : Array Value) : laidMetH Tryz.prog Rows.repairSuffixAsReferenceRow.laid ((witW os).forCall (fun _ _ => 0) ⟨#[], args, []⟩).memory := by
  rw [MakeChecks.laidMetH_plain _ _ _ laid_plain', ← witW_eq]
  exact laidMet_laidAll _ (wit_fits os) (wit_ifaces os)
end Go.Proofs.YtbkipanlicgooaaGreatDoor
