/-
  The abstract machine: the operations that change nothing, second part. Each theorem holds under the conditions that it names.
-/
import Derived.Test.YtbkipanlicgooaaGreatDoorE0
import Derived.Laws.AppendOwn
namespace Go.Proofs.YtbkipanlicgooaaGreatDoor

section
variable {P : Program} {G : Glob} {ok : FuncId → Code → Prop} {c : Ctx} {H : AH} {w : World}

/-! ### Two operands, one operand -/
def eqL : V → Bool
  | .i .. => false
  | .s _ => false
  | .dp .. => false
  | .y _ => false
  | .tup _ => false
  | _ => true
theorem aEq_left {ti : TI} {cst : Bool} {x y : V} {r : Bool} (h : aEq G ti cst x y = some r) :
    eqL x = true := by
  unfold aEq at h
  cases x <;> first | rfl | (exfalso; revert h; cases ti.k <;> cases y <;> simp)
theorem binOp_eql {t : TypeId} {x : V} {X Y : Value} (hx : Rep c x X) (hk : eqL x = true) :
    binOp .eql t X Y = (do pure (.bool (← Op.equal t X Y))) ∧ binOp .neq t X Y = (do pure (.bool (!(← Op.equal t X Y)))) := by
  have hX : ∀ k n, X ≠ .int k n := by
    rintro k n rfl
    cases x <;> simp only [eqL, Bool.false_eq_true] at hk <;> simp [Rep] at hx
  have hX2 : ∀ k n, X ≠ .float k n := by
    rintro k n rfl
    cases x <;> simp only [eqL, Bool.false_eq_true] at hk <;> simp [Rep] at hx
  have hX3 : ∀ k n m, X ≠ .complex k n m := by
    rintro k n m rfl
    cases x <;> simp only [eqL, Bool.false_eq_true] at hk <;> simp [Rep] at hx
  have hX4 : ∀ s, X ≠ .string s := by
    rintro s rfl
    cases x <;> simp only [eqL, Bool.false_eq_true] at hk <;> simp [Rep] at hx
  cases X <;> first
    | exact absurd rfl (hX _ _)
    | exact absurd rfl (hX2 _ _)
    | exact absurd rfl (hX3 _ _ _)
    | exact absurd rfl (hX4 _)
    | (cases Y <;> exact ⟨rfl, rfl⟩)
theorem eqGuard_int (op : BinOp) (t : TypeId) (a b : Operand) (k k' : IntKind) (m n : Int) : (eqGuard op t a b (.int k m) (.int k' n)).run P w = .ok () w := by cases op <;> rfl
theorem eqGuard_str (op : BinOp) (t : TypeId) (a b : Operand) (x y : ByteArray) : (eqGuard op t a b (.string x) (.string y)).run P w = .ok () w := by cases op <;> rfl
theorem armBin_ok {op : BinOp} {t : TypeId} {cst : Bool} {x y v : V} {X Y : Value} {a b : Operand} (hG : TabOk P G) (h : armBin G op t cst x y = some v) (hx : Rep c x X) (hy : Rep c y Y)
    (hab : cst = true → isNilC a = true ∨ isNilC b = true) : ∃ z, (do eqGuard op t a b X Y; binOp op t X Y : Sem Value).run P w = .ok z w ∧ Rep c v z := by
  unfold armBin at h
  split at h
  · rename_i k m k' n
    have := hx.int
    have := hy.int
    subst X Y
    have goal : ∃ z, (binOp op t (.int k m) (.int k' n)).run P w = .ok z w ∧ Rep c v z := by
      split at h
      · exact aShift_ok h
      · exact aShift_ok h
      · rename_i h1 h2
        split at h
        · rename_i hk
          have := of_decide_eq_true hk
          subst this
          exact aBin_ok h h1 h2
        · cases h
    obtain ⟨z, h1, h2⟩ := goal
    exact ⟨z, by simp only [Sem.run_bind, eqGuard_int, Result.andThen_ok, h1], h2⟩
  · rename_i m n
    simp only [Rep] at hx hy
    obtain ⟨hm, rfl⟩ := hx
    obtain ⟨hn, rfl⟩ := hy
    obtain ⟨z, h1, h2⟩ := aStr_ok (P := P) (w := w) (c := c) (t := t) h hm hn
    exact ⟨z, by simp only [Sem.run_bind, eqGuard_str, Result.andThen_ok, h1], h2⟩
  · split at h
    · rename_i ti hti
      split at h
      · rename_i r hr
        cases h
        obtain ⟨h1, h2⟩ := aEq_ok (w := w) hG (hG.ty _ _ hti) hr hx hy
        refine ⟨.bool r, ?_, rep_bool ..⟩
        rw [(binOp_eql hx (aEq_left hr)).1]
        simp only [Sem.run_bind, h2 _ _ _ hab, Result.andThen_ok, h1, Sem.run_pure]
      · cases h
    · rename_i ti hti
      split at h
      · rename_i r hr
        cases h
        obtain ⟨h1, h2⟩ := aEq_ok (w := w) hG (hG.ty _ _ hti) hr hx hy
        refine ⟨.bool (!r), ?_, rep_bool ..⟩
        rw [(binOp_eql hx (aEq_left hr)).2]
        simp only [Sem.run_bind, h2 _ _ _ hab, Result.andThen_ok, h1, Sem.run_pure]
      · cases h
    · cases h
theorem armUn_ok {op : UnOp} {x v : V} {X : Value} (h : armUn op x = some v) (hx : Rep c x X) : ∃ z, (Op.unary op X).run P w = .ok z w ∧ Rep c v z := by
  unfold armUn at h
  split at h
  · cases h
    have := hx.bool
    subst X
    exact ⟨_, rfl, rep_bool ..⟩
  · cases h
    have := hx.int
    subst X
    exact ⟨_, by simp [Op.unary, Op.intArith, wr], rep_int ..⟩
  · rename_i k n
    have := hx.int
    subst X
    obtain ⟨z, h1, h2⟩ := aBin_ok (P := P) (w := w) (c := c) (t := 0) h (by simp) (by simp)
    exact ⟨z, by rw [← h1]; simp [Op.unary, binOp], h2⟩
  · cases h

/-! ### Addresses, fields, elements -/
theorem inB_iff {n : Int} {len : Nat} (h : inB n len = true) : 0 ≤ n ∧ n < len := by
  simp only [inB, Bool.and_eq_true, decide_eq_true_eq] at h
  exact h
theorem armFieldAddr_ok {t : TypeId} {f : Nat} {x v : V} {X : Value} (hG : TabOk P G) (h : armFieldAddr G t f x = some v) (hx : Rep c x X) : ∃ z, (Instr.fieldAt t X f).run P w = .ok z w ∧ Rep c v z := by
  unfold armFieldAddr at h
  split at h
  · rename_i ti hti
    obtain ⟨d, hd, hk, _⟩ := (hG.ty _ _ hti).und
    split at h
    · rename_i fs hfs
      rw [hfs] at hk
      obtain ⟨F, rfl, hl, hi⟩ := hk.struct
      subst hl
      split at h
      · rename_i o sz ty hn
        obtain ⟨fd, hf, he⟩ := nthF_map _ _ _ _ hn
        cases he
        split at h
        · cases h
        · rename_i hz
          have hz := Nat.ne_of_beq_eq_false hz
          have hf' : F[f]? = some fd := by simpa using hf
          have hfi := hi fd (List.mem_of_getElem? hf)
          have key : ∀ b q, (Instr.fieldAt t (.pointer (some ⟨b, q, none⟩)) f).run P w = .ok (.pointer (some ⟨b, q + fd.offset, none⟩)) w := by
            intro b q
            unfold Instr.fieldAt
            simp only [Sem.run_bind, run_underlying hd, Result.andThen_ok, hf', Instr.sureAddr, Sem.run_pure, fieldPlace, cellsOf_run hfi, hz, if_false, add_at]
          split at h
          · cases h
            simp only [Rep] at hx ⊢
            obtain ⟨l, h1, rfl⟩ := hx
            exact ⟨_, key _ _, l, h1, rfl⟩
          · cases h
            simp only [Rep] at hx ⊢
            obtain ⟨b, q, C, e, fz, rfl, h1⟩ := hx
            exact ⟨_, key _ _, b, q, C, e, fz, by rw [Nat.add_assoc], h1⟩
          · cases h
      · cases h
    · cases h
  · cases h
theorem armIndexAddr_ok {t : TypeId} {x ix v : V} {X I : Value} (hG : TabOk P G) (h : armIndexAddr G t x ix = some v) (hx : Rep c x X) (hi : Rep c ix I) :
    ∃ z, (Instr.indexAt t X I).run P w = .ok z w ∧ Rep c v z := by
  unfold armIndexAddr at h
  split at h
  · rename_i ti k n hti
    obtain ⟨d, hd, hk, _⟩ := (hG.ty _ _ hti).und
    have := hi.int
    subst I
    split at h
    · rename_i e sz id off len cap fix hks
      split at h
      · rename_i hb
        cases h
        rw [hks] at hk
        obtain ⟨rfl, rfl, hinf⟩ := hk.slice
        have hb := inB_iff hb
        simp only [Rep] at hx ⊢
        obtain ⟨l, h1, _, rfl⟩ := hx
        refine ⟨_, ?_, l, h1, rfl⟩
        unfold Instr.indexAt
        simp only [asIntOf, Sem.run_bind, Sem.run_pure, Result.andThen_ok, run_underlying hd]
        simp [hb, cellsOf_run hinf, add_at]
      · cases h
    · rename_i e sz old cs len hks
      split at h
      · rename_i hb
        cases h
        rw [hks] at hk
        obtain ⟨rfl, rfl, hinf⟩ := hk.slice
        have hb := inB_iff hb
        simp only [Rep] at hx ⊢
        obtain ⟨b, o, q, C, e', fz, rfl, _, h2, h3, h4⟩ := hx
        refine ⟨_, ?_, b, o, C, e', fz, rfl, h2, h3, h4⟩
        unfold Instr.indexAt
        simp only [asIntOf, Sem.run_bind, Sem.run_pure, Result.andThen_ok, run_underlying hd]
        simp [hb, cellsOf_run hinf, add_at]
      · cases h
    · rename_i len e sz id off hks
      split at h
      · rename_i hb
        cases h
        rw [hks] at hk
        obtain ⟨rfl, rfl, hinf⟩ := hk.array
        have hb := inB_iff hb
        simp only [Rep] at hx ⊢
        obtain ⟨l, h1, rfl⟩ := hx
        refine ⟨_, ?_, l, h1, rfl⟩
        unfold Instr.indexAt
        simp only [asIntOf, Sem.run_bind, Sem.run_pure, Result.andThen_ok, run_underlying hd, Instr.sureAddr]
        simp [hb, cellsOf_run hinf, add_at]
      · cases h
    · rename_i len e sz old cs off hks
      split at h
      · rename_i hb
        cases h
        rw [hks] at hk
        obtain ⟨rfl, rfl, hinf⟩ := hk.array
        have hb := inB_iff hb
        simp only [Rep] at hx ⊢
        obtain ⟨b, o, C, e', fz, rfl, h2⟩ := hx
        refine ⟨_, ?_, b, o, C, e', fz, rfl, h2⟩
        unfold Instr.indexAt
        simp only [asIntOf, Sem.run_bind, Sem.run_pure, Result.andThen_ok, run_underlying hd, Instr.sureAddr]
        simp [hb, cellsOf_run hinf, add_at, Nat.add_assoc]
      · cases h
    · cases h
  · cases h
theorem str_get {l : List Nat} {n b : Nat} (h : byteAt l n = some b) : (str l)[n]? = some (UInt8.ofNat b) := by
  rw [byteAt_eq] at h
  have hlt : n < l.length := (List.getElem?_eq_some_iff.1 h).1
  have hs : n < (str l).size := by rw [str_size]; exact hlt
  rw [getElem?_pos (str l) n hs]
  congr 1
  have := (List.getElem?_eq_some_iff.1 h).2
  show (str l).data[n] = _
  simp [str, this]
theorem armIndex_ok {t : TypeId} {x ix v : V} {X I : Value} (hG : TabOk P G) (h : armIndex G t x ix = some v) (hx : Rep c x X) (hi : Rep c ix I) :
    ∃ z, (Instr.index t X I).run P w = .ok z w ∧ Rep c v z := by
  unfold armIndex at h
  split at h
  · rename_i ti k n hti
    obtain ⟨d, hd, hk, _⟩ := (hG.ty _ _ hti).und
    have := hi.int
    subst I
    split at h
    · rename_i l hks
      rw [hks] at hk
      have := hk.str
      subst this
      split at h
      · rename_i h0
        have h0 := of_decide_eq_true h0
        split at h
        · rename_i b hb
          cases h
          simp only [Rep] at hx
          obtain ⟨hl, rfl⟩ := hx
          have hb256 : b < 256 := hl b (by rw [byteAt_eq] at hb; exact List.mem_of_getElem? hb)
          refine ⟨.int .u8 (UInt8.ofNat b).toNat, ?_, by rw [u8_toNat hb256]; exact rep_int ..⟩
          unfold Instr.index
          simp only [asIntOf, Sem.run_bind, Sem.run_pure, Result.andThen_ok, run_underlying hd, h0, if_true, str_get hb]
        · cases h
      · cases h
    · rename_i len e sz cs hks
      rw [hks] at hk
      obtain ⟨rfl, rfl, hinf⟩ := hk.array
      split at h
      · rename_i te hb hte
        split at h
        · rename_i hsz
          have hb := inB_iff hb
          simp only [Rep] at hx
          obtain ⟨A, rfl, hA⟩ := hx
          obtain ⟨z, h1, h2⟩ := part_ok (P := P) (w := w) (hG.ty _ _ hte) hA h
          refine ⟨z, ?_, h2⟩
          unfold Instr.index
          simp only [asIntOf, Sem.run_bind, Sem.run_pure, Result.andThen_ok, run_underlying hd, hb, and_self, if_true, cellsOf_run hinf, h1]
        · cases h
      · cases h
    · cases h
  · cases h
theorem armField_ok {t : TypeId} {f : Nat} {x v : V} {X : Value} (hG : TabOk P G) (h : armField G t f x = some v) (hx : Rep c x X) : ∃ z, (Instr.field t X f).run P w = .ok z w ∧ Rep c v z := by
  unfold armField at h
  split at h
  · rename_i ti cs hti
    obtain ⟨d, hd, hk, _⟩ := (hG.ty _ _ hti).und
    split at h
    · rename_i fs hfs
      rw [hfs] at hk
      obtain ⟨F, rfl, hl, hi⟩ := hk.struct
      subst hl
      split at h
      · rename_i o sz ty hn
        obtain ⟨fd, hf, he⟩ := nthF_map _ _ _ _ hn
        cases he
        split at h
        · rename_i te hte
          have hf' : F[f]? = some fd := by simpa using hf
          simp only [Rep] at hx
          obtain ⟨A, rfl, hA⟩ := hx
          obtain ⟨z, h1, h2⟩ := part_ok (P := P) (w := w) (hG.ty _ _ hte) hA h
          refine ⟨z, ?_, h2⟩
          unfold Instr.field
          simp only [Sem.run_bind, run_underlying hd, Result.andThen_ok, hf', asAgg, Sem.run_pure, h1]
        · cases h
      · cases h
    · cases h
  · cases h

/-! ### Composites -/
def PartsR (c : Ctx) : List (Nat × V) → List (Nat × Value) → Prop
  | [], l => l = []
  | p :: ps, l => ∃ y ys, l = (p.1, y) :: ys ∧ Rep c p.2 y ∧ PartsR c ps ys
theorem setAll_spec (off : Nat) : ∀ (l : List Value) (k : Nat) (cells : Array Value), off + k + l.length ≤ cells.size →
    ((l.zipIdx k).foldl (fun cs p => cs.setIfInBounds (off + p.2) p.1) cells).size = cells.size ∧
    (∀ j y, l[j]? = some y → ((l.zipIdx k).foldl (fun cs p => cs.setIfInBounds (off + p.2) p.1) cells)[off + k + j]? = some y) ∧
    (∀ j, j < off + k ∨ off + k + l.length ≤ j → ((l.zipIdx k).foldl (fun cs p => cs.setIfInBounds (off + p.2) p.1) cells)[j]? = cells[j]?)
  | [], k, cells, h => by simp
  | x :: l, k, cells, h => by
    simp only [List.length_cons] at h
    obtain ⟨h1, h2, h3⟩ := setAll_spec off l (k + 1) (cells.setIfInBounds (off + k) x) (by simp; omega)
    simp only [List.zipIdx_cons, List.foldl_cons]
    refine ⟨by rw [h1]; simp, fun j y hj => ?_, fun j hj => ?_⟩
    · cases j with
      | zero =>
        simp only [List.getElem?_cons_zero, Option.some.injEq] at hj
        subst hj
        have hlt : off + k < cells.size := by omega
        rw [h3 _ (by left; omega), Nat.add_zero, Array.getElem?_setIfInBounds]
        simp [hlt]
      | succ j =>
        have := h2 j y (by simpa using hj)
        rw [← this]; congr 1; omega
    · rw [h3 j (by simp only [List.length_cons] at hj; omega), Array.getElem?_setIfInBounds_ne (by simp only [List.length_cons] at hj; omega)]
theorem fold_toList (off : Nat) (v cells : Array Value) : v.zipIdx.foldl (fun cs (c, j) => cs.setIfInBounds (off + j) c) cells = (v.toList.zipIdx 0).foldl (fun cs p => cs.setIfInBounds (off + p.2) p.1) cells := by
  rw [← Array.foldl_toList, Array.toList_zipIdx]
theorem Reps.cells_len {c : Ctx} {v : V} {y : Value} (h : Rep c v y) : y.cells.size = v.cells.length := by
  have := (Rep.cells h).length
  simpa using this
theorem fillS_ok {fs : List (Nat × Nat × TypeId)} {pl : Nat → Option (Nat × Nat)} (hp : ∀ i o sz ty, nthF fs i = some (o, sz, ty) → pl i = some (o, sz)) :
    ∀ {ps : List (Nat × V)} {ys : List (Nat × Value)} {cs cs' : List V} {C : Array Value}, fillS fs cs ps = some cs' → PartsR c ps ys → RepC c cs C 0 → (cs = [] → True) → cs.length = C.size →
      ∃ C', Instr.fill pl C ys = some C' ∧ RepC c cs' C' 0 ∧ cs'.length = C'.size
  | [], ys, cs, cs', C, h, hP, hC, _, hl => by
    simp only [fillS, Option.some.injEq] at h
    simp only [PartsR] at hP
    subst h hP
    exact ⟨C, rfl, hC, hl⟩
  | (i, v) :: ps, ys, cs, cs', C, h, hP, hC, _, hl => by
    simp only [fillS] at h
    simp only [PartsR] at hP
    obtain ⟨y, ys', rfl, hy, hP⟩ := hP
    split at h
    · rename_i o sz ty hn
      split at h
      · rename_i hsz
        have hsz := Nat.eq_of_beq_eq_true hsz
        split at h
        · rename_i cs1 hs
          have hlen := splice_len hs
          have hcl := Reps.cells_len hy
          obtain ⟨h1, h2, h3⟩ := setAll_spec o y.cells.toList 0 C (by simp only [Array.length_toList]; omega)
          have hfit : ¬ (y.cells.size ≠ sz || o + y.cells.size > C.size) = true := by
            simp only [Bool.or_eq_true, decide_eq_true_eq, not_or]
            constructor
            · simp; omega
            · omega
          obtain ⟨C', k1, k2, k3⟩ := fillS_ok hp (C := (y.cells.toList.zipIdx 0).foldl (fun cs p => cs.setIfInBounds (o + p.2) p.1) C) h hP
            (RepC.splice hC hs (Rep.cells hy) (fun j z hj => by simpa using h2 j z hj) (fun j hj => h3 j (by simp only [Array.length_toList]; omega))) (fun _ => trivial) (by rw [h1]; omega)
          refine ⟨C', ?_, k2, k3⟩
          simp only [Instr.fill, hp i o sz ty hn]
          rw [if_neg (by simpa using hfit), fold_toList]
          exact k1
        · cases h
      · cases h
    · cases h
theorem fillA_ok {sz : Nat} : ∀ {ps : List (Nat × V)} {ys : List (Nat × Value)} {cs cs' : List V} {C : Array Value}, fillA sz cs ps = some cs' → PartsR c ps ys → RepC c cs C 0 → cs.length = C.size →
      ∃ C', Instr.fill (fun i => some (i * sz, sz)) C ys = some C' ∧ RepC c cs' C' 0 ∧ cs'.length = C'.size
  | [], ys, cs, cs', C, h, hP, hC, hl => by
    simp only [fillA, Option.some.injEq] at h
    simp only [PartsR] at hP
    subst h hP
    exact ⟨C, rfl, hC, hl⟩
  | (i, v) :: ps, ys, cs, cs', C, h, hP, hC, hl => by
    simp only [fillA] at h
    simp only [PartsR] at hP
    obtain ⟨y, ys', rfl, hy, hP⟩ := hP
    split at h
    · rename_i hsz
      have hsz := Nat.eq_of_beq_eq_true hsz
      split at h
      · rename_i cs1 hs
        have hlen := splice_len hs
        have hcl := Reps.cells_len hy
        obtain ⟨h1, h2, h3⟩ := setAll_spec (i * sz) y.cells.toList 0 C (by simp only [Array.length_toList]; omega)
        have hfit : ¬ (y.cells.size ≠ sz || i * sz + y.cells.size > C.size) = true := by
          simp only [Bool.or_eq_true, decide_eq_true_eq, not_or]
          constructor
          · simp; omega
          · omega
        obtain ⟨C', k1, k2, k3⟩ := fillA_ok (C := (y.cells.toList.zipIdx 0).foldl (fun cs p => cs.setIfInBounds (i * sz + p.2) p.1) C) h hP
          (RepC.splice hC hs (Rep.cells hy) (fun j z hj => by simpa using h2 j z hj) (fun j hj => h3 j (by simp only [Array.length_toList]; omega))) (by rw [h1]; omega)
        refine ⟨C', ?_, k2, k3⟩
        simp only [Instr.fill]
        rw [if_neg (by simpa using hfit), fold_toList]
        exact k1
      · cases h
    · cases h
theorem mapM_places : ∀ (fs : List Field), (∀ f ∈ fs, (P.info? f.type).isSome = true) →
    (fs.mapM fun f => (do pure (f.offset, ← sizeOf f.type) : Sem (Nat × Nat))).run P w = .ok (fs.map fun f => (f.offset, P.cellsOf f.type)) w
  | [], _ => by simp
  | f :: fs, h => by
    simp only [List.mapM_cons, Sem.run_bind, cellsOf_run (h f (by simp)), Result.andThen_ok, Sem.run_pure, mapM_places fs fun g hg => h g (by simp [hg]), List.map_cons]
theorem armBuild_ok {t : TypeId} {ps : List (Nat × V)} {Y : Array (Nat × Value)} {v : V} (hG : TabOk P G) (h : armBuild G t ps = some v) (hP : PartsR c ps Y.toList) :
    ∃ z, (Instr.build t Y).run P w = .ok z w ∧ Rep c v z := by
  unfold armBuild at h
  split at h
  · rename_i ti hti
    have hT := hG.ty _ _ hti
    obtain ⟨d, hd, hk, _⟩ := hT.und
    obtain ⟨z, hz, hzr, _⟩ := hT.zeroRun w
    have hzC : RepC c ti.zero z.cells 0 := RepC.of (hzr c) fun j y hj => by simpa using hj
    have hzl : ti.zero.length = z.cells.size := by have := (hzr c).length; simpa using this.symm
    split at h
    · rename_i fs hagg hfs
      split at h
      · rename_i l hl
        cases h
        rw [hfs] at hk
        obtain ⟨F, rfl, rfl, hi⟩ := hk.struct
        have hm := mapM_places (P := P) (w := w) F.toList hi
        obtain ⟨C', k1, k2, k3⟩ := fillS_ok (c := c) (pl := fun i => (F.toList.map fun f => (f.offset, P.cellsOf f.type)).toArray[i]?) (fun i o sz ty hn => by
          obtain ⟨fd, hf, he⟩ := nthF_map _ _ _ _ hn
          cases he
          simp only [List.getElem?_toArray, List.getElem?_map, hf, Option.map_some]) hl hP hzC (fun _ => trivial) hzl
        refine ⟨.agg C', ?_, ?_⟩
        · unfold Instr.build
          simp only [Sem.run_bind, hz, Result.andThen_ok, run_underlying hd]
          rw [Array.mapM_eq_mapM_toList]
          simp only [Sem.run_map, hm, Result.andThen_ok]
          rw [show (Instr.fill (fun x => ((List.map (fun f => (f.offset, P.cellsOf f.type)) F.toList).toArray)[x]?) z.cells Y.toList) = some C' from k1]
          rfl
        · simp only [Rep]
          obtain ⟨ys, q1, q2, q3⟩ := k2.takeN (n := l.length) (r := l) (by
            clear k1 k2 k3 hl hm
            induction l with
            | nil => rfl
            | cons a l ih => simp only [List.length_cons, takeN, ih])
          refine ⟨C', rfl, ?_⟩
          have : ys = C'.toList := by
            apply List.ext_getElem?
            intro j
            rcases Nat.lt_or_ge j ys.length with hj | hj
            · have := q3 j _ (List.getElem?_eq_getElem hj)
              rw [List.getElem?_eq_getElem hj, ← this]
              simp
            · rw [List.getElem?_eq_none hj, List.getElem?_eq_none (by simp only [Array.length_toList]; omega)]
          rw [← this]
          exact q1
      · cases h
    · rename_i n e sz hagg hfs
      split at h
      · rename_i l hl
        cases h
        rw [hfs] at hk
        obtain ⟨rfl, rfl, hinf⟩ := hk.array
        obtain ⟨C', k1, k2, k3⟩ := fillA_ok hl hP hzC hzl
        refine ⟨.agg C', ?_, ?_⟩
        · unfold Instr.build
          simp only [Sem.run_bind, hz, Result.andThen_ok, run_underlying hd, cellsOf_run hinf, k1, Sem.run_pure]
        · simp only [Rep]
          obtain ⟨ys, q1, q2, q3⟩ := k2.takeN (n := l.length) (r := l) (by
            clear k1 k2 k3 hl
            induction l with
            | nil => rfl
            | cons a l ih => simp only [List.length_cons, takeN, ih])
          refine ⟨C', rfl, ?_⟩
          have : ys = C'.toList := by
            apply List.ext_getElem?
            intro j
            rcases Nat.lt_or_ge j ys.length with hj | hj
            · have := q3 j _ (List.getElem?_eq_getElem hj)
              rw [List.getElem?_eq_getElem hj, ← this]
              simp
            · rw [List.getElem?_eq_none hj, List.getElem?_eq_none (by simp only [Array.length_toList]; omega)]
          rw [← this]
          exact q1
      · cases h
    · cases h
  · cases h
end
end Go.Proofs.YtbkipanlicgooaaGreatDoor
namespace Go.Proofs.YtbkipanlicgooaaGreatDoor

section
variable {P : Program} {G : Glob} {ok : FuncId → Code → Prop} {ng : Nat} {c : Ctx} {H : AH} {w : World}

theorem HR.cellsAt (h : HR P ok ng c H w) {id : Nat} {cs : List V} {e : TypeId} {rw : Bool} {l : Loc} (hg : H.get id = some (.cells cs e rw)) (hl : c.μ id = some l) :
    ∃ C fz, w.heap[l.b]? = some (.cells C e fz) ∧ RepC c cs C 0 ∧ (rw = true → fz = (0, 0) ∧ l.cap * P.cellsOf e ≤ C.size) := by
  obtain ⟨ob, h1, C, fz, rfl, h2, h3⟩ := h.at_ _ _ _ hg hl
  exact ⟨C, fz, h1, h2, h3⟩
theorem HR.mapAt (h : HR P ok ng c H w) {id : Nat} {es : List (V × V × Nat)} {k : Nat} {l : Loc} (hg : H.get id = some (.map es k)) (hl : c.μ id = some l) :
    ∃ E : Array MapEntry, w.heap[l.b]? = some (.map E k) ∧ RepE c es E.toList := by
  obtain ⟨ob, h1, E, rfl, h2⟩ := h.at_ _ _ _ hg hl
  exact ⟨E, h1, h2⟩
theorem armLoad_ok {t : TypeId} {x v : V} {X : Value} (hG : TabOk P G) (hH : HR P ok ng c H w) (h : armLoad G H t x = some v) (hx : Rep c x X) : ∃ z, (Instr.loadAt t X).run P w = .ok z w ∧ Rep c v z := by
  unfold armLoad at h
  split at h
  · rename_i id off
    split at h
    · rename_i cs e rw ti hg ht
      simp only [Rep] at hx
      obtain ⟨l, h1, rfl⟩ := hx
      obtain ⟨C, fz, k1, k2, _⟩ := hH.cellsAt hg h1
      obtain ⟨z, q1, q2⟩ := load_ok (hG.ty _ _ ht) k1 k2 h
      refine ⟨z, ?_, q2⟩
      unfold Instr.loadAt
      simp only [Instr.sureAddr, Sem.run_bind, Sem.run_pure, Result.andThen_ok]
      simpa using q1
    · cases h
  · split at h
    · rename_i ti ht
      simp only [Rep] at hx
      obtain ⟨b, o, C, e, fz, rfl, h1, _, h2⟩ := hx
      obtain ⟨z, q1, q2⟩ := load_ok (hG.ty _ _ ht) (hH.fro _ _ h1) h2 h
      refine ⟨z, ?_, q2⟩
      unfold Instr.loadAt
      simp only [Instr.sureAddr, Sem.run_bind, Sem.run_pure, Result.andThen_ok, q1]
    · cases h
  · cases h

/-! ### Slices -/
def ORep (c : Ctx) : Option V → Option Value → Prop
  | none, o => o = none
  | some v, o => ∃ y, o = some y ∧ Rep c v y
theorem bound_ok {d hi n : Nat} {o : Option V} (h : bound d hi o = some n) : (o = none ∧ n = d) ∨ ∃ k m, o = some (.i k m) ∧ 0 ≤ m ∧ m ≤ hi ∧ n = m.toNat := by
  unfold bound at h
  split at h
  · cases h; exact .inl ⟨rfl, rfl⟩
  · rename_i k m
    split at h
    · rename_i hb
      cases h
      simp only [Bool.and_eq_true, decide_eq_true_eq] at hb
      exact .inr ⟨k, m, rfl, hb.1, hb.2, rfl⟩
    · cases h
  · cases h
theorem bounds_ok {len cap cap' k h : Nat} {lo hi : Option V} {L Hi : Option Value} (hb : bounds len cap lo hi = some (k, h)) (hl : ORep c lo L) (hh : ORep c hi Hi) (hc : cap ≤ cap') (hlc : len ≤ cap) (s : Bool) :
    (Instr.sliceBounds s len cap' L Hi none).run P w = .ok (k, h, cap') w ∧ k ≤ h ∧ h ≤ cap := by
  unfold bounds at hb
  split at hb
  · rename_i n hn
    split at hb
    · rename_i m hm
      cases hb
      have hbd : ∀ {x : IntKind} {i : Int} {y : Nat} {code : BoundsCode}, 0 ≤ i → i ≤ y → (Instr.sliceBound (.int x i) y code).run P w = .ok i.toNat w := by
        intro x i y code h1 h2
        simp [Instr.sliceBound, asIntOf, h1, h2]
      have hH : (Hi = none ∧ h = len) ∨ ∃ x i, Hi = some (.int x i) ∧ 0 ≤ i ∧ i ≤ cap ∧ h = i.toNat := by
        rcases bound_ok hn with ⟨rfl, rfl⟩ | ⟨x, i, rfl, h1, h2, rfl⟩
        · simp only [ORep] at hh; subst hh; exact .inl ⟨rfl, rfl⟩
        · simp only [ORep] at hh
          obtain ⟨y, rfl, hy⟩ := hh
          have := hy.int
          subst this
          exact .inr ⟨x, i, rfl, h1, h2, rfl⟩
      have hL : (L = none ∧ k = 0) ∨ ∃ x i, L = some (.int x i) ∧ 0 ≤ i ∧ i ≤ h ∧ k = i.toNat := by
        rcases bound_ok hm with ⟨rfl, rfl⟩ | ⟨x, i, rfl, h1, h2, rfl⟩
        · simp only [ORep] at hl; subst hl; exact .inl ⟨rfl, rfl⟩
        · simp only [ORep] at hl
          obtain ⟨y, rfl, hy⟩ := hl
          have := hy.int
          subst this
          exact .inr ⟨x, i, rfl, h1, h2, rfl⟩
      clear hn hm hl hh
      rcases hH with ⟨rfl, rfl⟩ | ⟨x, i, rfl, h1, h2, rfl⟩
      · rcases hL with ⟨rfl, rfl⟩ | ⟨x, i, rfl, h1, h2, rfl⟩
        · exact ⟨rfl, Nat.zero_le _, hlc⟩
        · refine ⟨?_, by omega, hlc⟩
          simp only [Instr.sliceBounds, Sem.run_bind, Sem.run_pure, Result.andThen_ok, hbd h1 h2]
      · rcases hL with ⟨rfl, rfl⟩ | ⟨y, n, rfl, h3, h4, rfl⟩
        · refine ⟨?_, by omega, by omega⟩
          simp only [Instr.sliceBounds, Sem.run_bind, Sem.run_pure, Result.andThen_ok, hbd h1 (show i ≤ (cap' : Int) by omega)]
        · refine ⟨?_, by omega, by omega⟩
          simp only [Instr.sliceBounds, Sem.run_bind, Sem.run_pure, Result.andThen_ok, hbd h1 (show i ≤ (cap' : Int) by omega), hbd h3 h4]
    · cases hb
  · cases hb
theorem armSlice_ok {t : TypeId} {x v : V} {X : Value} {lo hi : Option V} {L Hi : Option Value} (hG : TabOk P G) (h : armSlice G t x lo hi = some v) (hx : Rep c x X)
    (hl : ORep c lo L) (hh : ORep c hi Hi) : ∃ z, (Instr.sliceAt t X L Hi none).run P w = .ok z w ∧ Rep c v z := by
  unfold armSlice at h
  split at h
  · rename_i ti hti
    obtain ⟨d, hd, hk, _⟩ := (hG.ty _ _ hti).und
    have main : ∀ {e : TypeId} {sz len cap cap' : Nat} {a : Option Addr}, ti.k = .slice e sz → X = .slice a len cap' → len ≤ cap → cap ≤ cap' → ∀ {k m : Nat}, bounds len cap lo hi = some (k, m) →
        k ≤ m ∧ m ≤ cap ∧ (Instr.sliceAt t X L Hi none).run P w = .ok (.slice (if cap' = k then a else a.map (·.add (k * sz))) (m - k) (cap' - k)) w := by
      intro e sz len cap cap' a hks hX h1 h2 k m hb
      rw [hks] at hk
      obtain ⟨rfl, rfl, hinf⟩ := hk.slice
      obtain ⟨q1, q2, q3⟩ := bounds_ok (P := P) (w := w) hb hl hh h2 h1 true
      refine ⟨q2, q3, ?_⟩
      subst hX
      unfold Instr.sliceAt
      simp only [Sem.run_bind, run_underlying hd, Result.andThen_ok]
      unfold Instr.slice
      simp only [Sem.run_bind, run_underlying hd, Result.andThen_ok, q1, cellsOf_run hinf, Sem.run_pure]
    have arr : ∀ {e : TypeId} {n sz : Nat} {a : Addr}, ti.k = .array n e sz → X = .pointer (some a) → ∀ {k m : Nat}, bounds n n lo hi = some (k, m) → k < n →
        k ≤ m ∧ m ≤ n ∧ (Instr.sliceAt t X L Hi none).run P w = .ok (.slice (some (a.add (k * sz))) (m - k) (n - k)) w := by
      intro e n sz a hks hX k m hb hkn
      rw [hks] at hk
      obtain ⟨rfl, rfl, hinf⟩ := hk.array
      obtain ⟨q1, q2, q3⟩ := bounds_ok (P := P) (w := w) hb hl hh (Nat.le_refl _) (Nat.le_refl _) false
      refine ⟨q2, q3, ?_⟩
      subst hX
      unfold Instr.sliceAt
      simp only [Sem.run_bind, run_underlying hd, Result.andThen_ok, Instr.sureAddr, Sem.run_pure, q1, cellsOf_run hinf]
      rw [if_neg (by omega)]
    split at h
    · rename_i l hks
      split at h
      · rename_i k m hb
        cases h
        rw [hks] at hk
        have := hk.str
        subst this
        simp only [Rep] at hx
        obtain ⟨hl', rfl⟩ := hx
        obtain ⟨q1, q2, q3⟩ := bounds_ok (P := P) (w := w) hb hl hh (Nat.le_refl _) (Nat.le_refl _) false
        refine ⟨.string (str (subS l k (m - k))), ?_, rep_str c fun z hz => ?_⟩
        · unfold Instr.sliceAt
          simp only [Sem.run_bind, run_underlying hd, Result.andThen_ok]
          unfold Instr.slice
          simp only [Sem.run_bind, run_underlying hd, Result.andThen_ok, Option.isSome_none, Bool.false_eq_true, if_false, Sem.run_pure, str_size, q1, str_extract]
        · rw [subS_eq] at hz
          exact hl' z (List.mem_of_mem_drop (List.mem_of_mem_take hz))
      · cases h
    · rename_i e sz id off len cap hks
      split at h
      · rename_i k m hb
        simp only [Rep] at hx
        obtain ⟨l, h1, h2, h3⟩ := hx
        simp only [if_true] at h2 h3
        obtain ⟨q1, q2, q3⟩ := main hks h3 h2 (Nat.le_refl _) hb
        split at h
        · rename_i hkc
          have hkc := of_decide_eq_true hkc
          cases h
          refine ⟨_, q3, ?_⟩
          rw [if_neg (by omega)]
          simp only [Rep, Option.map_some, add_at]
          exact ⟨l, h1, by simp only [if_true]; omega, by simp⟩
        · split at h
          · rename_i hkm
            cases h
            have hkm := Nat.eq_of_beq_eq_true hkm
            subst hkm
            refine ⟨_, q3, ?_⟩
            simp only [Rep, Nat.sub_self]
            split
            · exact ⟨_, _, rfl⟩
            · exact ⟨_, _, rfl⟩
          · cases h
      · cases h
    · rename_i e sz id off len cap hks
      split at h
      · rename_i k m hb
        simp only [Rep] at hx
        obtain ⟨l, h1, h2, h3⟩ := hx
        simp only [Bool.false_eq_true, if_false] at h2 h3
        obtain ⟨q1, q2, q3⟩ := main hks h3 (Nat.le_refl _) h2 hb
        split at h
        · rename_i hkc
          have hkc := of_decide_eq_true hkc
          cases h
          refine ⟨_, q3, ?_⟩
          rw [if_neg (by omega)]
          simp only [Rep, Option.map_some, add_at]
          exact ⟨l, h1, by simp only [Bool.false_eq_true, if_false]; omega, by simp only [Bool.false_eq_true, if_false]; rw [Nat.sub_sub]⟩
        · split at h
          · rename_i hkm
            cases h
            have hkm := Nat.eq_of_beq_eq_true hkm
            subst hkm
            refine ⟨_, q3, ?_⟩
            simp only [Rep, Nat.sub_self]
            split
            · exact ⟨_, _, rfl⟩
            · exact ⟨_, _, rfl⟩
          · cases h
      · cases h
    · rename_i e sz old cs len hks
      split at h
      · rename_i k m hb
        simp only [Rep] at hx
        obtain ⟨b, o, cap, C, e', fz, h3, h2, h4, h5, h6⟩ := hx
        obtain ⟨q1, q2, q3⟩ := main hks h3 (Nat.le_refl _) h2 hb
        split at h
        · rename_i hkc
          have hkc := of_decide_eq_true hkc
          cases h
          refine ⟨_, q3, ?_⟩
          rw [if_neg (by omega)]
          simp only [Rep, Option.map_some, add_at]
          exact ⟨b, o + k * sz, cap - k, C, e', fz, rfl, by omega, h4, h5, h6.drop⟩
        · split at h
          · rename_i hkm
            cases h
            have hkm := Nat.eq_of_beq_eq_true hkm
            subst hkm
            refine ⟨_, q3, ?_⟩
            simp only [Rep, Nat.sub_self]
            split
            · exact ⟨_, _, rfl⟩
            · exact ⟨_, _, rfl⟩
          · cases h
      · cases h
    · rename_i e sz hks
      split at h
      · rename_i km hb
        cases h
        obtain ⟨k, m⟩ := km
        simp only [Rep] at hx
        obtain ⟨a, cap, h3⟩ := hx
        obtain ⟨q1, q2, q3⟩ := main hks h3 (Nat.le_refl _) (Nat.zero_le _) hb
        refine ⟨_, q3, ?_⟩
        have : m = 0 := by omega
        subst this
        simp only [Rep, Nat.zero_sub]
        split
        · exact ⟨_, _, rfl⟩
        · exact ⟨_, _, rfl⟩
      · cases h
    · rename_i e sz hks
      split at h
      · rename_i km hb
        cases h
        obtain ⟨k, m⟩ := km
        simp only [Rep] at hx
        obtain ⟨q1, q2, q3⟩ := main hks hx (Nat.le_refl _) (Nat.le_refl _) hb
        refine ⟨_, q3, ?_⟩
        have : m = 0 := by omega
        subst this
        simp only [Rep, Nat.zero_sub, Option.map_none, ite_self]
      · cases h
    · rename_i n e sz id off hks
      split at h
      · rename_i k m hb
        split at h
        · rename_i hkn
          cases h
          simp only [Rep] at hx
          obtain ⟨l, h1, h3⟩ := hx
          obtain ⟨q1, q2, q3⟩ := arr hks h3 hb (of_decide_eq_true hkn)
          refine ⟨_, q3, ?_⟩
          simp only [Rep, add_at]
          exact ⟨l, h1, by simp only [if_true]; omega, by simp⟩
        · cases h
      · cases h
    · rename_i n e sz old cs off hks
      split at h
      · rename_i k m hb
        split at h
        · rename_i hkn
          cases h
          simp only [Rep] at hx
          obtain ⟨b, o, C, e', fz, h3, h4, h5, h6⟩ := hx
          obtain ⟨q1, q2, q3⟩ := arr hks h3 hb (of_decide_eq_true hkn)
          refine ⟨_, q3, ?_⟩
          simp only [Rep, add_at]
          refine ⟨b, o + off + k * sz, n - k, C, e', fz, rfl, by omega, h4, h5, ?_⟩
          rw [Nat.add_assoc]
          exact h6.drop
        · cases h
      · cases h
    · cases h
  · cases h

/-! ### Lengths, least, greatest -/
theorem Rep.slice_len {v : V} {X : Value} {n : Nat} (h : lenV v = some n) (hx : Rep c v X) : (∃ l, v = .s l ∧ n = l.length) ∨ ∃ a k, X = .slice a n k := by
  unfold lenV at h
  split at h
  · cases h; exact .inl ⟨_, rfl, rfl⟩
  · cases h; simp only [Rep] at hx; exact .inr ⟨_, _, hx⟩
  · cases h; simp only [Rep] at hx; obtain ⟨a, k, rfl⟩ := hx; exact .inr ⟨_, _, rfl⟩
  · cases h; simp only [Rep] at hx; obtain ⟨l, _, _, rfl⟩ := hx; exact .inr ⟨_, _, rfl⟩
  · cases h; simp only [Rep] at hx; obtain ⟨_, _, _, _, _, _, rfl, _⟩ := hx; exact .inr ⟨_, _, rfl⟩
  · cases h
theorem RepE.length {c : Ctx} : ∀ {es : List (V × V × Nat)} {E : List MapEntry}, RepE c es E → E.length = es.length
  | [], E, h => by simp only [RepE] at h; subst h; rfl
  | e :: es, E, h => by
    simp only [RepE] at h
    obtain ⟨_, _, _, rfl, _, _, h⟩ := h
    simp [RepE.length h]
theorem run_getMap {r : Nat} {E : Array MapEntry} {k : Nat} (h : w.heap[r]? = some (.map E k)) : (getObj r).run P w = .ok (.map E k) w := by simp [getObj, Sem.run, h]
theorem armLen_ok {t : TypeId} {x v : V} {X : Value} {ats : Array TypeId} {ty : TypeId} (hG : TabOk P G) (hH : HR P ok ng c H w) (h : armLen G H t x = some v) (ha : ats[0]? = some t) (hx : Rep c x X) :
    ∃ z, (Builtin.len_ ats ty #[X]).run P w = .ok z w ∧ Rep c v z := by
  unfold armLen at h
  split at h
  · rename_i ti hti
    obtain ⟨d, hd, hk, _⟩ := (hG.ty _ _ hti).und
    unfold Builtin.len_
    simp only [ha, List.getElem?_toArray, List.getElem?_cons_zero, Sem.run_bind, run_underlying hd, Result.andThen_ok]
    split at h
    · rename_i hks
      rw [hks] at hk
      have := hk.str
      subst this
      split at h
      · cases h
        simp only [Rep] at hx
        obtain ⟨_, rfl⟩ := hx
        exact ⟨_, rfl, by rw [str_size]; exact rep_int ..⟩
      · cases h
    · rename_i n e sz hks
      cases h
      rw [hks] at hk
      obtain ⟨rfl, _⟩ := hk.array
      exact ⟨_, rfl, rep_int ..⟩
    · rename_i e sz hks
      rw [hks] at hk
      obtain ⟨rfl, _⟩ := hk.slice
      split at h
      · cases h
      · rename_i n hs hn
        cases h
        rcases hx.slice_len hn with ⟨l, rfl, _⟩ | ⟨a, k, rfl⟩
        · exact absurd rfl (hs _)
        · exact ⟨_, rfl, rep_int ..⟩
      · cases h
    · rename_i kt et hks
      rw [hks] at hk
      have := hk.map
      subst this
      split at h
      · cases h
        simp only [Rep] at hx
        subst X
        exact ⟨_, rfl, rep_int ..⟩
      · split at h
        · rename_i es k id hm
          cases h
          unfold YtbkipanlicgooaaGreatDoor.mapAt at hm
          split at hm
          · rename_i id'
            split at hm
            · rename_i es' k' hg
              cases hm
              simp only [Rep] at hx
              obtain ⟨l, h1, rfl⟩ := hx
              obtain ⟨E, h2, h3⟩ := hH.mapAt hg h1
              refine ⟨goInt E.size, ?_, ?_⟩
              · simp only [Sem.run_bind, run_getMap h2, Result.andThen_ok, Sem.run_pure]
              · have := h3.length
                rw [Array.length_toList] at this
                rw [this]
                exact rep_int ..
            · cases hm
          · cases hm
        · cases h
    · cases h
  · cases h
theorem armCap_ok {t : TypeId} {x v : V} {X : Value} {ats : Array TypeId} {ty : TypeId} (hG : TabOk P G) (h : armCap G t x = some v) (ha : ats[0]? = some t) (hx : Rep c x X) :
    ∃ z, (Builtin.cap_ ats ty #[X]).run P w = .ok z w ∧ Rep c v z := by
  unfold armCap at h
  split at h
  · rename_i ti hti
    obtain ⟨d, hd, hk, _⟩ := (hG.ty _ _ hti).und
    unfold Builtin.cap_
    simp only [ha, List.getElem?_toArray, List.getElem?_cons_zero, Sem.run_bind, run_underlying hd, Result.andThen_ok]
    split at h
    · rename_i hks
      rw [hks] at hk
      obtain ⟨rfl, _⟩ := hk.slice
      cases h
      simp only [Rep] at hx
      obtain ⟨l, _, _, rfl⟩ := hx
      exact ⟨_, rfl, rep_int ..⟩
    · rename_i hks
      rw [hks] at hk
      obtain ⟨rfl, _⟩ := hk.slice
      cases h
      simp only [Rep] at hx
      subst X
      exact ⟨_, rfl, rep_int ..⟩
    · cases h
  · cases h
theorem minmax_ok (mx : Bool) : ∀ {l : List V} {L : List Value} {k : IntKind} {x : Int} {v : V}, minmax mx k x l = some v → Reps c l L →
    ∃ z, (L.foldlM (if mx then Builtin.max2 else Builtin.min2) (.int k x)).run P w = .ok z w ∧ Rep c v z
  | [], L, k, x, v, h, hL => by
    rw [Reps.nil] at hL
    subst hL
    simp only [minmax, Option.some.injEq] at h
    subst h
    exact ⟨_, rfl, rep_int ..⟩
  | u :: l, L, k, x, v, h, hL => by
    obtain ⟨y, ys, rfl, h1, h2⟩ := Reps.cons.1 hL
    simp only [minmax] at h
    split at h
    · rename_i k' y'
      have := h1.int
      subst this
      split at h
      · rename_i hc
        obtain ⟨z, q1, q2⟩ := minmax_ok mx h h2
        refine ⟨z, ?_, q2⟩
        simp only [List.foldlM_cons, Sem.run_bind]
        cases mx
        · have hc := of_decide_eq_true hc
          simp only [Bool.false_eq_true, if_false, Builtin.min2, hc, if_true, Sem.run_pure, Result.andThen_ok] at q1 ⊢
          exact q1
        · have hc := of_decide_eq_true hc
          have hc' : y' > x := hc
          simp only [if_true, Builtin.max2, hc', Sem.run_pure, Result.andThen_ok] at q1 ⊢
          exact q1
      · rename_i hc
        obtain ⟨z, q1, q2⟩ := minmax_ok mx h h2
        refine ⟨z, ?_, q2⟩
        simp only [List.foldlM_cons, Sem.run_bind]
        cases mx
        · have hc := of_decide_eq_false hc
          simp only [Bool.false_eq_true, if_false, Builtin.min2, hc, Sem.run_pure, Result.andThen_ok] at q1 ⊢
          exact q1
        · have hc := of_decide_eq_false hc
          have hc' : ¬ y' > x := hc
          simp only [if_true, Builtin.max2, hc', if_false, Sem.run_pure, Result.andThen_ok] at q1 ⊢
          exact q1
    · cases h

/-! ### Interfaces, tuples, conversions -/
theorem not_iface {d : TypeDesc} {k : TK} (h : TkOk P d k) (hk : k ≠ .iface) (m : Array (String × TypeId)) : d ≠ .interface m := by
  rintro rfl
  cases k <;> simp only [TkOk] at h
  exact hk rfl
theorem armAssert_ok {t xt : TypeId} {o : Bool} {x v : V} {X : Value} (hG : TabOk P G) (h : armAssert G t o x = some v) (hx : Rep c x X) : ∃ z, (Instr.typeAssert X xt t o).run P w = .ok z w ∧ Rep c v z := by
  unfold armAssert at h
  split at h
  · rename_i ti hti
    have hT := hG.ty _ _ hti
    obtain ⟨d, hd, hk, _⟩ := hT.und
    obtain ⟨z0, hz, _, hzr⟩ := hT.zeroRun w
    split at h
    · cases h
    · rename_i hne
      have hni := not_iface hk hne
      have tup2 : ∀ {u : V} {y : Value} {b : Bool}, Rep c u y → Rep c (.tup [u, .b b]) (.tuple #[y, .bool b]) := by
        intro u y b hu
        simp only [Rep]
        exact ⟨_, rfl, Reps.cons'.2 ⟨hu, Reps.cons'.2 ⟨rep_bool .., Reps.nil.2 rfl⟩⟩⟩
      unfold Instr.typeAssert
      simp only [Sem.run_bind, run_underlying hd, Result.andThen_ok]
      split at h
      · rename_i u y
        simp only [Rep] at hx
        obtain ⟨z, rfl, hz1⟩ := hx
        split at h
        · rename_i hu
          have := of_decide_eq_true hu
          subst this
          cases h
          refine ⟨.tuple #[z, .bool true], ?_, tup2 hz1⟩
          cases d <;> first | exact absurd rfl (hni _) | simp
        · rename_i hu
          have hu := of_decide_eq_false hu
          cases h
          refine ⟨.tuple #[z0, .bool false], ?_, tup2 (hzr c)⟩
          cases d <;> first | exact absurd rfl (hni _) | simp [hu, hz]
      · rename_i u y
        simp only [Rep] at hx
        obtain ⟨z, rfl, hz1⟩ := hx
        split at h
        · rename_i hu
          have := of_decide_eq_true hu
          subst this
          cases h
          refine ⟨z, ?_, hz1⟩
          cases d <;> first | exact absurd rfl (hni _) | simp
        · cases h
      · cases h
        simp only [Rep] at hx
        subst X
        refine ⟨.tuple #[z0, .bool false], ?_, tup2 (hzr c)⟩
        cases d <;> first | exact absurd rfl (hni _) | simp [hz]
      · cases h
  · cases h
theorem armExtract_ok {n : Nat} {x v : V} {X : Value} (h : armExtract n x = some v) (hx : Rep c x X) : ∃ z, (Instr.extract X n).run P w = .ok z w ∧ Rep c v z := by
  unfold armExtract at h
  split at h
  · simp only [Rep] at hx
    obtain ⟨A, rfl, hA⟩ := hx
    obtain ⟨y, h1, h2⟩ := hA.get h
    rw [Array.getElem?_toList] at h1
    exact ⟨y, by simp [Instr.extract, h1], h2⟩
  · cases h
theorem armIface_ok {t : TypeId} {x v : V} {X : Value} (hG : TabOk P G) (h : armIface G t x = some v) (hx : Rep c x X) : ∃ z, (Instr.makeInterface t X).run P w = .ok z w ∧ Rep c v z := by
  unfold armIface at h
  split at h
  · rename_i ti hti
    obtain ⟨d, hd, hk, _⟩ := (hG.ty _ _ hti).und
    split at h
    · cases h
    · rename_i hne
      have hni := not_iface hk hne
      cases h
      refine ⟨.iface t X, ?_, by simp only [Rep]; exact ⟨X, rfl, hx⟩⟩
      unfold Instr.makeInterface
      simp only [Sem.run_bind, run_underlying hd, Result.andThen_ok]
      cases d <;> first | exact absurd rfl (hni _) | simp
  · cases h
theorem bytesOf_ok : ∀ {l : List V} {r : List Nat} {ys : List Value}, bytesOf l = some r → Reps c l ys → (∀ z ∈ r, z < 256) ∧ ys = r.map fun n => Value.int .u8 (Int.ofNat n)
  | [], r, ys, h, hl => by
    rw [Reps.nil] at hl
    subst hl
    simp only [bytesOf, Option.some.injEq] at h
    subst h
    exact ⟨nofun, rfl⟩
  | v :: l, r, ys, h, hl => by
    obtain ⟨y, ys, rfl, h1, h2⟩ := Reps.cons.1 hl
    simp only [bytesOf] at h
    split at h
    · rename_i n
      split at h
      · rename_i r' hr hb
        cases h
        simp only [Bool.and_eq_true, decide_eq_true_eq] at hb
        obtain ⟨k1, k2⟩ := bytesOf_ok hr h2
        have := h1.int
        subst this
        refine ⟨fun z hz => ?_, ?_⟩
        · rcases List.mem_cons.1 hz with rfl | hz
          · omega
          · exact k1 z hz
        · rw [k2, List.map_cons]
          congr 2
          simp
          omega
      · cases h
    · cases h
theorem fold_bytes : ∀ (r : List Nat) (s : ByteArray), (r.map fun n => (Int.ofNat n)).foldl (fun r n => r.push (UInt8.ofNat n.toNat)) s = s ++ str r
  | [], s => by
    apply ByteArray.ext
    simp [str]
  | n :: r, s => by
    rw [List.map_cons, List.foldl_cons, fold_bytes r]
    apply ByteArray.ext
    simp [str]
theorem cells1_ok {x : V} {X : Value} {l : List V} (hH : HR P ok ng c H w) (h : cells1 H x = some l) (hx : Rep c x X) : ∃ a n k ys, X = .slice a n k ∧ Reps c l ys ∧
    (a = none → ys = []) ∧ (∀ b, a = some b → (loadCells b n).run P w = .ok ys.toArray w) := by
  unfold cells1 at h
  split at h
  · cases h
    simp only [Rep] at hx
    exact ⟨none, 0, 0, [], hx, Reps.nil.2 rfl, fun _ => rfl, nofun⟩
  · cases h
    simp only [Rep] at hx
    obtain ⟨a, k, rfl⟩ := hx
    exact ⟨some a, 0, k, [], rfl, Reps.nil.2 rfl, nofun, fun b hb => rfl⟩
  · rename_i id off len cap fix
    split at h
    · rename_i cs e rw hg
      simp only [Rep] at hx
      obtain ⟨lo, h1, _, rfl⟩ := hx
      obtain ⟨C, fz, k1, k2, _⟩ := hH.cellsAt hg h1
      obtain ⟨ys, q1, q2, q3⟩ := k2.cut h
      refine ⟨_, _, _, ys, rfl, q1, nofun, fun b hb => ?_⟩
      cases hb
      exact run_loads k1 q2 fun j y hj => by simpa using q3 j y hj
    · cases h
  · rename_i old cs len
    simp only [Rep] at hx
    obtain ⟨b, o, cap, C, e, fz, rfl, _, h1, _, h2⟩ := hx
    obtain ⟨ys, q1, q2, q3⟩ := h2.takeN h
    refine ⟨_, _, _, ys, rfl, q1, nofun, fun b' hb => ?_⟩
    cases hb
    exact run_loads (hH.fro _ _ h1) q2 q3
  · cases h
theorem armConvert_ok {s t : TypeId} {x v : V} {X : Value} (hG : TabOk P G) (hH : HR P ok ng c H w) (h : armConvert G H s t x = some v) (hx : Rep c x X) :
    ∃ z, (convert s t X).run P w = .ok z w ∧ Rep c v z := by
  unfold armConvert at h
  split at h
  · rename_i a b ha hb
    obtain ⟨d, hd, hk, _⟩ := (hG.ty _ _ ha).und
    obtain ⟨d', hd', hk', _⟩ := (hG.ty _ _ hb).und
    unfold convert
    simp only [Sem.run_bind, run_underlying hd, run_underlying hd', Result.andThen_ok]
    split at h
    · rename_i k k' k'' n h1 h2
      rw [h1] at hk
      rw [h2] at hk'
      have := hk.int
      have := hk'.int
      subst d d'
      cases h
      have := hx.int
      subst this
      exact ⟨_, by simp [Conv.intToInt, wr], rep_int ..⟩
    · rename_i l h1 h2
      rw [h1] at hk
      rw [h2] at hk'
      have := hk.str
      have := hk'.str
      subst d d'
      cases h
      have hx' := hx
      simp only [Rep] at hx
      obtain ⟨_, rfl⟩ := hx
      exact ⟨_, rfl, hx'⟩
    · rename_i e x h1 h2
      rw [h1] at hk
      rw [h2] at hk'
      obtain ⟨rfl, _⟩ := hk.slice
      have := hk'.str
      subst this
      split at h
      · rename_i te hte
        obtain ⟨de, hde, hke, _⟩ := (hG.ty _ _ hte).und
        split at h
        · rename_i hki
          rw [hki] at hke
          have := hke.int
          subst this
          split at h
          · rename_i l hl
            split at h
            · rename_i r hr
              cases h
              obtain ⟨a, n, k, ys, rfl, q1, q2, q3⟩ := cells1_ok (P := P) hH hl hx
              obtain ⟨w1, w2⟩ := bytesOf_ok hr q1
              refine ⟨.string (str r), ?_, rep_str c w1⟩
              simp only [Sem.run_bind, run_underlying hde, Result.andThen_ok]
              cases a with
              | none =>
                have := q2 rfl
                subst this
                cases r with
                | nil => rfl
                | cons n r => simp at w2
              | some a =>
                rw [run_bytesToString w a n k (r.map fun n => Int.ofNat n) (by rw [q3 a rfl, w2]; simp [Function.comp_def]), fold_bytes]
                congr 2
            · cases h
          · cases h
        · cases h
      · cases h
    · rename_i u id o h1 h2
      rw [h1] at hk
      rw [h2] at hk'
      obtain ⟨rfl, _⟩ := hk.ptr
      have := hk'.uptr
      subst this
      split at h
      · rename_i cs e rw ti hg hti
        split at h
        · rename_i hc
          cases h
          simp only [Bool.and_eq_true, decide_eq_true_eq, Bool.not_eq_true'] at hc
          obtain ⟨hc1, hc2⟩ := hc
          have hc2 := Nat.ne_of_beq_eq_false hc2
          have hx' := hx
          simp only [Rep] at hx
          obtain ⟨l, k1, rfl⟩ := hx
          obtain ⟨C, fz, q1, q2, _⟩ := hH.cellsAt hg k1
          have hne : cs ≠ [] := by rintro rfl; simp at hc1
          have hsz := q2.len hne
          refine ⟨_, ?_, hx'⟩
          have hsh : w.shape? l.b = some (e, C.size) := by simp [World.shape?, q1]
          have hlt : ¬ C.size ≤ o := by omega
          show (Conv.unsafePointer s t (.pointer (some ⟨l.b, o, none⟩))).run P w = _
          unfold Conv.unsafePointer
          simp only [Sem.run_bind, run_underlying hd, run_underlying hd', Result.andThen_ok]
          simp only [Conv.seenAt, viewAt, cellsIn, Sem.run_bind, run_shape, hsh, Result.andThen_ok, Option.isSome_some, if_true, Sem.run_pure, (hG.ty _ _ hti).size]
          simp [hc2, hlt]
        · cases h
      · cases h
    · rename_i u id o h1 h2
      rw [h1] at hk
      rw [h2] at hk'
      have := hk.uptr
      subst this
      obtain ⟨rfl, _⟩ := hk'.ptr
      split at h
      · rename_i cs e rw ti hg hti
        split at h
        · rename_i te hte
          split at h
          · rename_i hc
            cases h
            simp only [Bool.and_eq_true, decide_eq_true_eq, Bool.not_eq_true'] at hc
            obtain ⟨⟨hc1, hc2⟩, hc3, hc4⟩ := hc
            have hc1 := Nat.ne_of_beq_eq_false hc1
            have hc3 := Nat.ne_of_beq_eq_false hc3
            have hx' := hx
            simp only [Rep] at hx
            obtain ⟨l, k1, rfl⟩ := hx
            obtain ⟨C, fz, q1, q2, _⟩ := hH.cellsAt hg k1
            have hne : cs ≠ [] := by
              rintro rfl
              simp only [List.length_nil] at hc2
              omega
            have hsz := q2.len hne
            refine ⟨_, ?_, hx'⟩
            have hsh : w.shape? l.b = some (e, C.size) := by simp [World.shape?, q1]
            have hce := (hG.ty _ _ hte).cells
            have hl : liesAt P P.depth e (C.size / P.cellsOf e) o u 1 = true := by
              refine hG.lies _ _ _ hc4 _ ?_
              rw [hce]
              have hpos : 0 < te.size := Nat.pos_of_ne_zero hc1
              have h1 : (o / te.size + 1) * te.size ≤ C.size := by
                rw [Nat.add_mul, Nat.one_mul]
                omega
              have h2 : o / te.size + 1 ≤ C.size / te.size := (Nat.le_div_iff_mul_le hpos).2 h1
              have h3 : o < (o / te.size + 1) * te.size := by
                have := Nat.lt_div_mul_add (a := o) hpos
                rw [Nat.add_mul, Nat.one_mul]
                exact this
              exact Nat.lt_of_lt_of_le h3 (Nat.mul_le_mul_right _ h2)
            show (Conv.unsafePointer s t (.pointer (some ⟨l.b, o, none⟩))).run P w = _
            unfold Conv.unsafePointer
            simp only [Sem.run_bind, run_underlying hd, run_underlying hd', Result.andThen_ok]
            simp only [Conv.seenAt, viewAt, variablesAt, Sem.run_bind, run_shape, hsh, Result.andThen_ok, Option.isSome_some, if_true, Sem.run_pure, (hG.ty _ _ hti).size, run_program, hl]
            simp [hc3]
          · cases h
        · cases h
      · cases h
    · cases h
  · cases h
/-- The address of the first element. -/
theorem armUData_ok {x v : V} {X : Value} {ats : Array TypeId} {ty : TypeId} (_hH : HR P ok ng c H w) (h : armUData H x = some v) (hx : Rep c x X) :
    ∃ z, (Builtin.unsafeSliceData_ ats ty #[X]).run P w = .ok z w ∧ Rep c v z := by
  unfold armUData at h
  split at h
  · cases h
    simp only [Rep] at hx
    subst X
    exact ⟨_, rfl, by simp only [Rep]⟩
  · rename_i id off len cap fix
    split at h
    · rename_i cs e rw hg
      split at h
      · rename_i hc
        cases h
        simp only [Rep] at hx ⊢
        obtain ⟨l, h1, h2, rfl⟩ := hx
        refine ⟨_, ?_, l, h1, rfl⟩
        have hne : (if fix = true then cap else l.cap - cap) ≠ 0 := by
          cases fix
          · simp only [Bool.false_eq_true, if_false] at h2 ⊢
            have := of_decide_eq_true hc
            omega
          · simp only [if_true] at h2 ⊢
            have := of_decide_eq_true hc
            omega
        show Sem.run P (if (if fix = true then cap else l.cap - cap) ≠ 0 then pure (Value.pointer (some ⟨l.b, off, none⟩)) else _) w = _
        rw [if_pos hne]
        rfl
      · cases h
    · cases h
  · cases h
end
end Go.Proofs.YtbkipanlicgooaaGreatDoor
namespace Go.Proofs.YtbkipanlicgooaaGreatDoor

section
variable {P : Program} {G : Glob} {ok : FuncId → Code → Prop} {ng : Nat} {c : Ctx} {H : AH} {w : World}

/-- The context c' says what c says, with the same first block, and puts no id anywhere that the heap had without a place. -/
structure On (c : Ctx) (H : AH) (c' : Ctx) : Prop where
  le : Le c c'
  base : c'.base = c.base
  old : ∀ id, id < H.nx → c.μ id = none → c'.μ id = none
theorem On.refl (c : Ctx) (H : AH) : On c H c := ⟨Le.refl c, rfl, fun _ _ h => h⟩
theorem On.up (c : Ctx) {H : AH} (h : c.μ H.nx = none) (l : Loc) : On c H (c.up H.nx l) :=
  ⟨Ctx.le_up _ h, rfl, fun id hi hn => by rw [Ctx.up_ne _ _ (Nat.ne_of_lt hi)]; exact hn⟩

/-- A run that ends with a value and a heap. -/
def Eff (P : Program) (ok : FuncId → Code → Prop) (ng : Nat) (c : Ctx) (H : AH) (w : World) (s : Sem Value) (v : V) (H' : AH) : Prop :=
  ∃ y w' c', s.run P w = .ok y w' ∧ On c H c' ∧ HR P ok ng c' H' w' ∧ Kp w w' ∧ Rep c' v y ∧ H.nx ≤ H'.nx
/-- A run that ends with a new block. -/
def New (P : Program) (ok : FuncId → Code → Prop) (c : Ctx) (w : World) (s : Sem Value) (o : AO) (mk : Nat → V) : Prop :=
  ∃ y w' ob cap, s.run P w = .ok y w' ∧ w'.heap = w.heap.push ob ∧ Kp w w' ∧
    ∀ id c', Le c c' → c'.μ id = some ⟨w.heap.size, cap⟩ → OR P ok c' ⟨w.heap.size, cap⟩ o ob ∧ Rep c' (mk id) y
theorem Kp.turn {w w' : World} {b : Nat} {ob : Obj} (h : w'.heap = w.heap.setIfInBounds b ob) (h1 : w'.os = w.os) (h2 : w'.tape = w.tape) (h3 : w'.output = w.output) : Kp w w' :=
  ⟨h1, h2, h3, by rw [h, Array.size_setIfInBounds]; exact Nat.le_refl _⟩
theorem Kp.alloc (w : World) (ob : Obj) : Kp w (w.alloc ob) := ⟨rfl, rfl, rfl, by simp⟩

/-! ### Stores -/
theorem armStore_ok {t : TypeId} {x v u : V} {X Y : Value} {H' : AH} (hG : TabOk P G) (hH : HR P ok ng c H w) (h : armStore G H t x v = some (u, H')) (hx : Rep c x X) (hy : Rep c v Y) :
    ∃ w', (Instr.storeAt t X Y).run P w = .ok () w' ∧ HR P ok ng c H' w' ∧ Kp w w' ∧ u = uV ∧ H'.nx = H.nx := by
  unfold armStore at h
  split at h
  · rename_i id off
    split at h
    · rename_i cs e ti hg hti
      split at h
      · rename_i hc
        simp only [Bool.and_eq_true] at hc
        obtain ⟨hc1, hc2⟩ := hc
        have hc1 := Nat.eq_of_beq_eq_true hc1
        split at h
        · rename_i cs' hs
          cases h
          simp only [Rep] at hx
          obtain ⟨l, h1, rfl⟩ := hx
          obtain ⟨C, fz, k1, k2, k3⟩ := hH.cellsAt hg h1
          obtain ⟨rfl, k4⟩ := k3 rfl
          have hr := Rep.cells hy
          have hlen := hr.length
          have hsp := splice_len hs
          have hne : cs = [] ∨ 0 + cs.length ≤ C.size := by
            by_cases hcs : cs = []
            · exact .inl hcs
            · exact .inr (k2.len hcs)
          have hfit : off + Y.cells.toList.length ≤ C.size ∨ Y.cells.toList = [] ∧ off = 0 := by
            rcases hne with rfl | hne
            · simp only [List.length_nil] at hsp
              right
              refine ⟨List.eq_nil_of_length_eq_zero (by omega), by omega⟩
            · left; omega
          have hsz : Y.cells.size = ti.size := by rw [← hc1, ← hlen]; simp
          have hfit' : off + Y.cells.toList.length ≤ C.size := by
            rcases hfit with h | ⟨h, rfl⟩
            · exact h
            · rw [h]; simp
          obtain ⟨w', q1, q2, q3, q4, q5⟩ := run_stores (P := P) k1 hfit' (hr.one hc2)
          refine ⟨w', ?_, ?_, Kp.turn q2 q3 q4 q5, rfl, rfl⟩
          · unfold Instr.storeAt storeVar
            simp only [Instr.sureAddr, Sem.run_bind, Sem.run_pure, Result.andThen_ok, (hG.ty _ _ hti).size, hsz, ne_eq, not_true_eq_false, if_false, Sem.run_ite]
            exact q1
          · refine hH.turn hg rfl h1 q2 ⟨_, _, rfl, RepC.splice k2 hs hr (fun j y hj => ?_) (fun j hj => ?_), fun _ => ⟨rfl, ?_⟩⟩
            · rw [Nat.zero_add]; exact laid_in hfit' hj
            · exact laid_out hfit' (by omega)
            · rw [laid_size hfit']; exact k4
        · cases h
      · cases h
    · cases h
  · cases h

/-! ### New blocks -/
theorem xAlloc_ok {e : TypeId} {ti : TI} (hG : TabOk P G) (ht : G.T.get e = some ti) : New P ok c w (Instr.alloc e true (.tuple #[])) (.cells ti.zero e true) (fun id => .p id 0) := by
  have hT := hG.ty _ _ ht
  obtain ⟨z, h1, h2, _⟩ := hT.zeroRun w
  refine ⟨.pointer (some ⟨w.heap.size, 0, none⟩), w.alloc (.cells z.cells e), .cells z.cells e, 0, ?_, rfl, Kp.alloc _ _, fun id c' hc hid => ⟨⟨_, _, rfl, ?_, fun _ => ⟨rfl, by simp⟩⟩, ?_⟩⟩
  · simp [Instr.alloc, h1, newVar, newRow]
  · exact RepC.of (h2 c') fun j y hj => by simpa using hj
  · simp only [Rep]
    exact ⟨_, hid, rfl⟩
theorem xBox_ok {e : TypeId} {v : V} {Y : Value} (hy : Rep c v Y) : New P ok c w (Instr.box e Y) (.cells v.cells e true) (fun id => .p id 0) := by
  refine ⟨.pointer (some ⟨w.heap.size, 0, none⟩), w.alloc (.cells Y.cells e), .cells Y.cells e, 0, ?_, rfl, Kp.alloc _ _, fun id c' hc hid => ⟨⟨_, _, rfl, ?_, fun _ => ⟨rfl, by simp⟩⟩, ?_⟩⟩
  · simp [Instr.box, newVar, newRow]
  · exact RepC.of (Rep.cells (hy.le hc)) fun j y hj => by simpa using hj
  · simp only [Rep]
    exact ⟨_, hid, rfl⟩
theorem makeMap_ok {t : TypeId} : New P ok c w (Instr.makeMap t none) (.map [] 0) (fun id => .m id) := by
  refine ⟨.map (some w.heap.size), w.alloc (.map #[] 0), .map #[] 0, 0, ?_, rfl, Kp.alloc _ _, fun id c' hc hid => ⟨⟨#[], rfl, by simp only [RepE]⟩, ?_⟩⟩
  · simp [Instr.makeMap]
  · simp only [Rep]
    exact ⟨_, hid, rfl⟩
theorem PartsR.le {c' : Ctx} (hc : Le c c') : ∀ {ps : List (Nat × V)} {l : List (Nat × Value)}, PartsR c ps l → PartsR c' ps l
  | [], l, h => h
  | p :: ps, l, h => by
    simp only [PartsR] at h ⊢
    obtain ⟨y, ys, rfl, h1, h2⟩ := h
    exact ⟨y, ys, rfl, h1.le hc, PartsR.le hc h2⟩
theorem reps_length (z : List V) : ∀ n, (reps z n).length = n * z.length
  | 0 => by simp [reps]
  | n + 1 => by simp [reps, reps_length z n, Nat.add_mul, Nat.add_comm]
theorem RepC.append {c : Ctx} : ∀ {a b : List V} {C : Array Value} {o : Nat}, RepC c a C o → RepC c b C (o + a.length) → RepC c (a ++ b) C o
  | [], b, C, o, h, k => by simpa using k
  | v :: a, b, C, o, h, k => by
    simp only [List.cons_append, RepC] at h ⊢
    obtain ⟨y, h1, h2, h3⟩ := h
    exact ⟨y, h1, h2, h3.append (by simp only [List.length_cons] at k; rw [show o + 1 + a.length = o + (a.length + 1) by omega]; exact k)⟩
theorem reps_ok {z : List V} {Z : Array Value} (h : Reps c z Z.toList) {N : Nat} : ∀ (n o : Nat), o * z.length + n * z.length ≤ N →
    RepC c (reps z n) ((Array.range N).map (Z[· % Z.size]!)) (o * z.length)
  | 0, o, _ => by simp only [reps, RepC]
  | n + 1, o, hN => by
    have hlen : Z.size = z.length := by have := h.length; simpa using this
    have hN' : o * z.length + (n * z.length + z.length) ≤ N := by rw [Nat.add_mul, Nat.one_mul] at hN; exact hN
    simp only [reps]
    refine RepC.append (RepC.of h fun j y hj => ?_) ?_
    · have hjl : j < z.length := by rw [← h.length]; exact (List.getElem?_eq_some_iff.1 hj).1
      have hlt : o * z.length + j < N := by omega
      rw [Array.getElem?_map, Array.getElem?_range]
      simp only [hlt, if_true, Option.map_some]
      rw [hlen, Nat.add_comm, Nat.add_mul_mod_self_right, Nat.mod_eq_of_lt hjl]
      rw [Array.getElem?_toList] at hj
      have := (Array.getElem?_eq_some_iff.1 hj)
      obtain ⟨h1, h2⟩ := this
      simp [getElem!_pos, h1, h2]
    · have := reps_ok h (N := N) n (o + 1) (by rw [Nat.add_mul, Nat.one_mul]; omega)
      rw [Nat.add_mul, Nat.one_mul] at this
      exact this
theorem fillA_len {sz : Nat} : ∀ {ps : List (Nat × V)} {cs cs' : List V}, fillA sz cs ps = some cs' → cs'.length = cs.length
  | [], cs, cs', h => by simp only [fillA, Option.some.injEq] at h; rw [h]
  | (i, v) :: ps, cs, cs', h => by
    simp only [fillA] at h
    split at h
    · split at h
      · rename_i cs1 hs
        rw [fillA_len h, (splice_len hs).2]
      · cases h
    · cases h
theorem armBuildSlice_ok {t : TypeId} {len : Nat} {ps : List (Nat × V)} {Y : Array (Nat × Value)} {o : AO} {mk : Nat → V} (hG : TabOk P G) (h : armBuildSlice G t len ps = some (o, mk)) (hP : PartsR c ps Y.toList) :
    New P ok c w (Instr.buildSlice t len Y) o mk := by
  unfold armBuildSlice at h
  split at h
  · rename_i ti hti
    obtain ⟨d, hd, hk, _⟩ := (hG.ty _ _ hti).und
    split at h
    · rename_i e sz hks
      rw [hks] at hk
      obtain ⟨rfl, rfl, hinf⟩ := hk.slice
      split at h
      · rename_i te hte
        have hT := hG.ty _ _ hte
        obtain ⟨z, hz, hzr, _⟩ := hT.zeroRun w
        split at h
        · rename_i hc
          simp only [Bool.and_eq_true, decide_eq_true_eq] at hc
          obtain ⟨hc1, hc2, hc3⟩ := hc
          have hc2 := Nat.eq_of_beq_eq_true hc2
          have hc3 := Nat.eq_of_beq_eq_true hc3
          split at h
          · rename_i cs hcs
            cases h
            have hzl : z.cells.size = te.zero.length := by have := (hzr c).length; simpa using this
            have base : ∀ c', Le c c' → RepC c' (reps te.zero len) ((Array.range (len * P.cellsOf e)).map ((if len * P.cellsOf e = 0 then #[] else z.cells)[· % (if len * P.cellsOf e = 0 then #[] else z.cells).size]!)) 0 := by
              intro c' _
              by_cases h0 : len * P.cellsOf e = 0
              · have : reps te.zero len = [] := List.eq_nil_of_length_eq_zero (by rw [reps_length, hc3]; exact h0)
                rw [this]
                simp only [RepC]
              · simp only [h0, if_false]
                have := reps_ok (hzr c') (N := len * P.cellsOf e) len 0 (by rw [hc3]; omega)
                simpa using this
            obtain ⟨C', k1, k2, k3⟩ := fillA_ok hcs hP (base c (Le.refl c)) (by rw [reps_length, hc3]; simp)
            refine ⟨.slice (some ⟨w.heap.size, 0, none⟩) len len, w.alloc (.cells C' e), .cells C' e, len, ?_, rfl, Kp.alloc _ _, fun id c' hc hid => ⟨⟨_, _, rfl, ?_, fun _ => ⟨rfl, ?_⟩⟩, ?_⟩⟩
            · unfold Instr.buildSlice
              have h24 : ¬ 2 ^ 24 < len * P.cellsOf e := by omega
              simp only [Sem.run_bind, run_underlying hd, Result.andThen_ok, cellsOf_run hinf]
              rw [if_neg (by omega)]
              by_cases h0 : len * P.cellsOf e = 0
              · simp only [h0, if_true] at k1 ⊢
                simp only [Sem.run_bind, Sem.run_pure, Result.andThen_ok]
                rw [k1]
                simp [newRow]
              · simp only [h0, if_false] at k1 ⊢
                simp only [Sem.run_bind, hz, Sem.run_pure, Result.andThen_ok]
                rw [k1]
                simp [newRow]
            · exact k2.le hc
            · have := reps_length te.zero len
              rw [hc3] at this
              have hfl := fillA_len hcs
              simp only
              omega
            · simp only [Rep]
              exact ⟨_, hid, by simp, by simp⟩
          · cases h
        · cases h
      · cases h
    · cases h
  · cases h
theorem armMakeSlice_ok {t : TypeId} {l k : V} {L K : Value} {o : AO} {mk : Nat → V} (hG : TabOk P G) (h : armMakeSlice G t l k = some (o, mk)) (hl : Rep c l L) (hk : Rep c k K) :
    New P ok c w (Instr.makeSlice t L K) o mk := by
  unfold armMakeSlice at h
  split at h
  · rename_i ti n m hti
    obtain ⟨d, hd, hk', _⟩ := (hG.ty _ _ hti).und
    have := hl.int
    have := hk.int
    subst L K
    split at h
    · rename_i e sz hks
      rw [hks] at hk'
      obtain ⟨rfl, rfl, hinf⟩ := hk'.slice
      split at h
      · rename_i te hte
        have hT := hG.ty _ _ hte
        obtain ⟨z, hz, hzr, _⟩ := hT.zeroRun w
        obtain ⟨i, hi, _, hib, _⟩ := hT.info
        split at h
        · rename_i hc
          cases h
          simp only [Bool.and_eq_true, decide_eq_true_eq] at hc
          obtain ⟨⟨⟨hc1, hc2⟩, hc3⟩, ⟨hc4, hc5⟩, hc6⟩ := hc
          have hc5 := Nat.eq_of_beq_eq_true hc5
          have hc6 := Nat.eq_of_beq_eq_true hc6
          have hzl : z.cells.size = te.zero.length := by have := (hzr c).length; simpa using this
          obtain ⟨N, rfl⟩ := Int.eq_ofNat_of_zero_le hc1
          obtain ⟨M, rfl⟩ := Int.eq_ofNat_of_zero_le (Int.le_trans hc1 hc2)
          have hwN : IntKind.i64.wrap (N : Int) = N := by
            have : ((N : Int) % 2 ^ 64) = N := Int.emod_eq_of_lt (by omega) (by omega)
            simp only [IntKind.wrap, IntKind.bits, IntKind.signed, this]
            rw [if_neg]
            simp
            omega
          have hwM : IntKind.i64.wrap (M : Int) = M := by
            have : ((M : Int) % 2 ^ 64) = M := Int.emod_eq_of_lt (by omega) (by omega)
            simp only [IntKind.wrap, IntKind.bits, IntKind.signed, this]
            rw [if_neg]
            simp
            omega
          have hbig : ¬ ((te.bytes : Int) * (M : Int) > 2 ^ 48) := by
            have h1 : te.bytes * M ≤ 1048576 * 1048576 := Nat.mul_le_mul (by simpa using hc4) (by omega)
            have h2 : ((te.bytes * M : Nat) : Int) ≤ 1099511627776 := by omega
            rw [Int.natCast_mul] at h2
            omega
          refine ⟨.slice (some ⟨w.heap.size, 0, none⟩) N M, w.alloc (.cells ((Array.range (M * P.cellsOf e)).map ((if M * P.cellsOf e = 0 then #[] else z.cells)[· % (if M * P.cellsOf e = 0 then #[] else z.cells).size]!)) e), _, M, ?_, rfl, Kp.alloc _ _,
            fun id c' hc hid => ⟨⟨_, _, rfl, ?_, fun _ => ⟨rfl, ?_⟩⟩, ?_⟩⟩
          · unfold Instr.makeSlice
            simp only [Sem.run_bind, run_underlying hd, Result.andThen_ok, asInt, asIntOf, Sem.run_pure, typeInfo, run_program, hi, hib, hwN, hwM]
            have hcond : ((decide ((M : Int) < 0) || decide ((te.bytes : Int) * (M : Int) > 2 ^ 48)) || decide ((N : Int) < 0) || decide ((N : Int) > (M : Int))) = false := by
              simp only [Bool.or_eq_false_iff, decide_eq_false_iff_not]
              exact ⟨⟨⟨by omega, hbig⟩, by omega⟩, by omega⟩
            rw [if_neg (by rw [hcond]; simp)]
            simp only [Sem.run_bind, run_askRoom, Result.andThen_ok, cellsOf_run hinf, Int.toNat_natCast]
            by_cases h0 : M * P.cellsOf e = 0
            · simp [h0, newRow]
            · simp [h0, hz, newRow]
          · by_cases h0 : M * P.cellsOf e = 0
            · have : reps te.zero (M : Int).toNat = [] := List.eq_nil_of_length_eq_zero (by rw [reps_length, hc6, Int.toNat_natCast]; exact h0)
              rw [this]
              simp only [RepC]
            · simp only [h0, if_false, Int.toNat_natCast]
              have := reps_ok (hzr c') (N := M * P.cellsOf e) M 0 (by rw [hc6]; omega)
              simpa using this
          · simp
          · simp only [Rep, Int.toNat_natCast]
            exact ⟨_, hid, by simp only [if_true]; omega, by simp⟩
        · cases h
      · cases h
    · cases h
  · cases h

/-! ### Appends -/
theorem byteV_ok : ∀ {l : List Nat}, (∀ z ∈ l, z < 256) → Reps c (byteV l) ((l.map UInt8.ofNat).map fun b => Value.int .u8 b.toNat)
  | [], _ => Reps.nil.2 rfl
  | n :: l, h => by
    simp only [byteV, List.map_cons]
    refine Reps.cons'.2 ⟨?_, byteV_ok fun z hz => h z (by simp [hz])⟩
    rw [u8_toNat (h n (by simp))]
    exact rep_int ..
theorem firstN_ok {sz n : Nat} {x : V} {X : Value} {new : List V} (hH : HR P ok ng c H w) (h : firstN H sz n x = some new) (hn : lenV x = some n ∨ ∃ k, lenV x = some k ∧ n ≤ k) (hx : Rep c x X) :
    ∃ ys, (Builtin.firstCells sz n X).run P w = .ok ys.toArray w ∧ Reps c new ys := by
  unfold firstN at h
  split at h
  · rename_i l
    cases h
    simp only [Rep] at hx
    obtain ⟨hl, rfl⟩ := hx
    refine ⟨_, ?_, byteV_ok (l := l.take n) fun z hz => hl z (List.mem_of_mem_take hz)⟩
    simp only [Builtin.firstCells, Sem.run_pure]
    congr 1
    apply Array.toList_inj.1
    simp [str, ByteArray.data_extract, List.map_take]
  · cases h
    simp only [Rep] at hx
    subst X
    exact ⟨[], rfl, Reps.nil.2 rfl⟩
  · split at h
    · rename_i h0
      have h0 := Nat.eq_of_beq_eq_true h0
      subst h0
      cases h
      simp only [Rep] at hx
      obtain ⟨a, k, rfl⟩ := hx
      refine ⟨[], ?_, Reps.nil.2 rfl⟩
      simp only [Builtin.firstCells, Nat.zero_mul]
      rfl
    · cases h
  · rename_i id off len cap fix
    split at h
    · rename_i cs e rw hg
      simp only [Rep] at hx
      obtain ⟨l, h1, _, rfl⟩ := hx
      obtain ⟨C, fz, k1, k2, _⟩ := hH.cellsAt hg h1
      obtain ⟨ys, q1, q2, q3⟩ := k2.cut h
      exact ⟨ys, run_loads k1 q2 fun j y hj => by simpa using q3 j y hj, q1⟩
    · cases h
  · rename_i old cs len
    simp only [Rep] at hx
    obtain ⟨b, o, cap, C, e, fz, rfl, _, h1, _, h2⟩ := hx
    obtain ⟨ys, q1, q2, q3⟩ := h2.takeN h
    exact ⟨ys, run_loads (hH.fro _ _ h1) q2 q3, q1⟩
  · cases h
theorem lenOf_ok {x : V} {X : Value} {n : Nat} (h : lenV x = some n) (hx : Rep c x X) : (Builtin.lenOf X).run P w = .ok n w := by
  rcases hx.slice_len h with ⟨l, rfl, rfl⟩ | ⟨a, k, rfl⟩
  · simp only [Rep] at hx
    obtain ⟨_, rfl⟩ := hx
    simp [Builtin.lenOf, str_size]
  · rfl
/-- A block of one's own is turned, and goes by another id. -/
theorem HR.move (h : HR P ok ng c H w) {id : Nat} {o o' : AO} {ob : Obj} {l : Loc} {w' : World} (hg : H.get id = some o) (he : excl o = true) (hl : c.μ id = some l)
    (hw : w'.heap = w.heap.setIfInBounds l.b ob) (ho : OR P ok (c.up H.nx l) l o' ob) : HR P ok ng (c.up H.nx l) ((H.del id).push o') w' := by
  have hn := h.fresh
  have hidlt := h.new id o hg
  have hlt := h.lt hg hl
  have hle : Le c (c.up H.nx l) := Ctx.le_up _ hn
  have hoth : ∀ {b x}, b ≠ l.b → w.heap[b]? = some x → w'.heap[b]? = some x := fun {b x} hb hx => by
    rw [hw, Array.getElem?_setIfInBounds_ne (Ne.symm hb)]; exact hx
  have hnx : (H.del id).nx = H.nx := rfl
  have hget : ∀ {j u}, ((H.del id).push o').get j = some u → j ≠ H.nx → j ≠ id ∧ H.get j = some u := fun {j u} hu hj => by
    rcases AH.get_push hu with ⟨e, _⟩ | ⟨_, e⟩
    · exact absurd e hj
    · exact AH.get_del e
  have hne : ∀ {b x}, c.Φ b = some x → b ≠ l.b := fun {b x} hb k => by rw [k, h.own id o l hg he hl] at hb; cases hb
  have hold : ∀ {j k}, j ≠ H.nx → (c.up H.nx l).μ j = some k → c.μ j = some k := fun {j k} hj hk => by rwa [Ctx.up_ne _ _ hj] at hk
  refine ⟨fun b x hb => hoth (hne hb) (h.fro b x hb), fun j u k hu hk => ?_, fun j j' u u' k k' hu hu' hx hj hk hk' => ?_, fun j u k hu hx hk => ?_,
    fun j k hk => ?_, fun j u hu => ?_, fun g hgg => ?_, fun j k hj hk => ?_, by rw [hw, Array.size_setIfInBounds]; exact h.bsz, fun j u hu hx => ?_⟩
  · by_cases hj : j = H.nx
    · subst hj
      rw [Ctx.up_same] at hk
      cases hk
      rcases AH.get_push hu with ⟨_, e⟩ | ⟨e, _⟩
      · subst e
        exact ⟨ob, by rw [hw]; simp [hlt], ho⟩
      · exact absurd rfl e
    · obtain ⟨hji, hu⟩ := hget hu hj
      have hk := hold hj hk
      obtain ⟨x, h1, h2⟩ := h.at_ j u k hu hk
      exact ⟨x, hoth (fun e => h.apart id j o u l k hg hu he (Ne.symm hji) hl hk e.symm) h1, h2.le hle⟩
  · by_cases hj1 : j = H.nx
    · subst hj1
      rw [Ctx.up_same] at hk
      cases hk
      obtain ⟨hji, hu'⟩ := hget hu' (Ne.symm hj)
      exact h.apart id j' o u' l k' hg hu' he (Ne.symm hji) hl (hold (Ne.symm hj) hk')
    · obtain ⟨hji, hu⟩ := hget hu hj1
      have hk := hold hj1 hk
      by_cases hj2 : j' = H.nx
      · subst hj2
        rw [Ctx.up_same] at hk'
        cases hk'
        exact fun e => h.apart id j o u l k hg hu he (Ne.symm hji) hl hk e.symm
      · obtain ⟨hji', hu'⟩ := hget hu' hj2
        exact h.apart j j' u u' k k' hu hu' hx hj hk (hold hj2 hk')
  · by_cases hj : j = H.nx
    · subst hj
      rw [Ctx.up_same] at hk
      cases hk
      exact h.own id o l hg he hl
    · obtain ⟨_, hu⟩ := hget hu hj
      exact h.own j u k hu hx (hold hj hk)
  · by_cases hj : j = H.nx
    · subst hj; exact Nat.lt_succ_self _
    · exact Nat.lt_succ_of_lt (h.dom j k (hold hj hk))
  · by_cases hj : j = H.nx
    · subst hj; exact Nat.lt_succ_self _
    · exact Nat.lt_succ_of_lt (h.new j u (hget hu hj).2)
  · have := h.glob g hgg
    rw [Ctx.up_ne _ _ (fun e => by rw [e, hn] at this; cases this), this]
  · by_cases hj' : j = H.nx
    · subst hj'
      rw [Ctx.up_same] at hk
      cases hk
      exact h.based id l (h.gown id o hg he) hl
    · exact h.based j k hj (hold hj' hk)
  · by_cases hj : j = H.nx
    · subst hj; exact h.ngle
    · exact h.gown j u (hget hu hj).2 hx
end
end Go.Proofs.YtbkipanlicgooaaGreatDoor
namespace Go.Proofs.YtbkipanlicgooaaGreatDoor

section
variable {P : Program} {G : Glob} {ok : FuncId → Code → Prop} {ng : Nat} {c : Ctx} {H : AH} {w : World}

def notInt : TypeDesc → Bool
  | .int _ => false
  | _ => true
set_option maxHeartbeats 4000000 in
theorem run_append_in {t t2 ty e : TypeId} {d2 : TypeDesc} {base : Option Addr} {sLen sCap size n : Nat} {X : Value} {ys : List Value} {w' : World} (ht : P.underlying t = some (.slice e)) (h2 : P.underlying t2 = some d2)
    (hni : notInt d2 = true) (hsz : (sizeOf e).run P w = .ok size w) (hlen : (Builtin.lenOf X).run P w = .ok n w) (hfit : sLen + n ≤ sCap) (hf : (Builtin.firstCells size n X).run P w = .ok ys.toArray w)
    (hst : (match base with | some a => storeCells (a.add (sLen * size)) ys | none => pure ()).run P w = .ok () w') :
    (Builtin.append_ #[t, t2] ty #[.slice base sLen sCap, X]).run P w = .ok (.slice base (sLen + n) sCap) w' := by
  have main : (Builtin.append_ #[t, t2] ty #[.slice base sLen sCap, X]).run P w = ((match base with | some a => storeCells (a.add (sLen * size)) ys | none => pure ()).run P w).andThen fun _ w1 => .ok (.slice base (sLen + n) sCap) w1 := by
    cases base <;> cases d2 <;> first
      | (cases hni; done)
      | simp [Builtin.append_, run_underlying ht, run_underlying h2, hsz, hlen, hfit, hf]
  rw [main, hst]
  rfl
set_option maxHeartbeats 4000000 in
theorem run_append_new {t t2 ty e : TypeId} {d2 : TypeDesc} {base : Option Addr} {sLen sCap n : Nat} {i : TypeInfo} {z : Value} {X : Value} {old ys : List Value} (ht : P.underlying t = some (.slice e)) (h2 : P.underlying t2 = some d2)
    (hni : notInt d2 = true) (hi : P.info? e = some i) (hz : i.zero = some z) (hlen : (Builtin.lenOf X).run P w = .ok n w) (hfit : sCap < sLen + n)
    (hb : 0 < i.bytes) (h48 : (sLen + n) * i.bytes ≤ 140737488355328)
    (hf : (Builtin.firstCells i.size n X).run P w.drew = .ok ys.toArray w.drew) (ho : (Builtin.firstCells i.size sLen (.slice base sLen sCap)).run P w.drew = .ok old.toArray w.drew) :
    (Builtin.append_ #[t, t2] ty #[.slice base sLen sCap, X]).run P w = .ok (.slice (some ⟨w.heap.size, 0, none⟩) (sLen + n) (grownCap w (sLen + n) sCap e))
      (w.drew.alloc (.cells (old.toArray ++ ys.toArray ++ Builtin.zeroCells z.cells (grownCap w (sLen + n) sCap e - (sLen + n))) e)) := by
  have hn : ¬ (sLen + n ≤ sCap) := by omega
  have h63' : i.bytes ≠ 0 := by omega
  have h48' : ¬ (281474976710656 < Builtin.nextslicecap (sLen + n) sCap * i.bytes) := by
    have := growslice_fits (old := sCap) hfit h48
    omega
  cases d2 <;> first
    | (cases hni; done)
    | (simp [Builtin.append_, run_underlying ht, run_underlying h2, sizeOf, typeInfo, zeroValue, hi, hz, hlen, hn, h63', h48', Question.forced, hf, ho, newRow, grownCap]
       congr 2
       apply Array.ext'
       simp [List.append_assoc])

end
end Go.Proofs.YtbkipanlicgooaaGreatDoor
namespace Go.Proofs.YtbkipanlicgooaaGreatDoor

section
variable {P : Program} {G : Glob} {ok : FuncId → Code → Prop} {ng : Nat} {c : Ctx} {H : AH} {w : World}

theorem TkOk.notInt {d : TypeDesc} {k : TK} (h : TkOk P d k) (hk : ∀ i, k ≠ .int i) : notInt d = true := by
  cases d <;> first
    | rfl
    | (cases k <;> simp only [TkOk] at h
       subst h
       exact absurd rfl (hk _))
theorem takeN_all : ∀ l : List V, takeN l.length l = some l
  | [] => rfl
  | a :: l => by simp only [List.length_cons, takeN, takeN_all l]
theorem append_rows {c : Ctx} {a b : List V} {x y r : List Value} (hx : Reps c a x) (hy : Reps c b y) : RepC c (a ++ b) (x.toArray ++ y.toArray ++ r.toArray) 0 :=
  RepC.of (hx.append hy) fun j v hj => by
    rw [Nat.zero_add, List.append_toArray, List.append_toArray, List.getElem?_toArray, List.getElem?_append_left (List.getElem?_eq_some_iff.1 hj).1]
    exact hj
theorem HR.drew (h : HR P ok ng c H w) : HR P ok ng c H w.drew := h.world rfl
theorem armAppend_ok {t t2 ty : TypeId} {s x v : V} {S' X : Value} {H' : AH} (hG : TabOk P G) (hH : HR P ok ng c H w) (h : armAppend G H [t, t2] s x = some (v, H')) (hs : Rep c s S') (hx : Rep c x X) :
    Eff P ok ng c H w (Builtin.append_ #[t, t2] ty #[S', X]) v H' := by
  unfold armAppend at h
  simp only at h
  split at h
  · rename_i tk ti2 htk hti2
    obtain ⟨d, hd, hk, _⟩ := (hG.ty _ _ htk).und
    obtain ⟨d2, hd2, hk2, _⟩ := (hG.ty _ _ hti2).und
    split at h
    · cases h
    · rename_i k2 e sz hks hne
      rw [hks] at hk
      obtain ⟨rfl, rfl, hinf⟩ := hk.slice
      have hni : notInt d2 = true := hk2.notInt fun i hi => hne i hi
      split at h
      · rename_i te n hte hn
        have hT := hG.ty _ _ hte
        have hlen := lenOf_ok (P := P) (w := w) hn hx
        split at h
        · -- nothing is appended
          have stay : ∀ {a : Option Addr} {m k : Nat}, S' = .slice a m k → m ≤ k → (Builtin.append_ #[t, t2] ty #[S', X]).run P w = .ok S' w := by
            intro a m k e1 e2
            subst e1
            have hf : (Builtin.firstCells (P.cellsOf e) 0 X).run P w = .ok ([] : List Value).toArray w := by
              rcases hx.slice_len hn with ⟨l, rfl, _⟩ | ⟨b, j, rfl⟩
              · simp only [Rep] at hx
                obtain ⟨_, rfl⟩ := hx
                simp [Builtin.firstCells]
              · cases b with
                | none => rfl
                | some b => simp only [Builtin.firstCells, Nat.zero_mul]; rfl
            have := run_append_in (P := P) (w := w) (ty := ty) (base := a) (sLen := m) (sCap := k) (w' := w) hd hd2 hni (cellsOf_run hinf w) hlen (by omega) hf (by cases a with | none => rfl | some a => rfl)
            simpa using this
          split at h
          · cases h
            have hs' := hs
            simp only [Rep] at hs
            exact ⟨S', w, c, stay hs (Nat.le_refl _), On.refl c H, hH, Kp.refl w, hs', Nat.le_refl _⟩
          · cases h
            have hs' := hs
            simp only [Rep] at hs
            obtain ⟨a, k, hs⟩ := hs
            exact ⟨S', w, c, stay hs (Nat.zero_le _), On.refl c H, hH, Kp.refl w, hs', Nat.le_refl _⟩
          · cases h
            have hs' := hs
            simp only [Rep] at hs
            obtain ⟨l, _, h2, hs⟩ := hs
            exact ⟨S', w, c, stay hs h2, On.refl c H, hH, Kp.refl w, hs', Nat.le_refl _⟩
          · cases h
            have hs' := hs
            simp only [Rep] at hs
            obtain ⟨_, _, _, _, _, _, hs, h2, _⟩ := hs
            exact ⟨S', w, c, stay hs h2, On.refl c H, hH, Kp.refl w, hs', Nat.le_refl _⟩
          · cases h
        · rename_i _ n'
          split at h
          · rename_i new hnew
            split at h
            · rename_i hc
              simp only [Bool.and_eq_true, decide_eq_true_eq] at hc
              obtain ⟨⟨hc1, hc2, hc3⟩, hc4, hc5, hc6⟩ := hc
              have hc1 := Nat.eq_of_beq_eq_true hc1
              have hc2 := Nat.eq_of_beq_eq_true hc2
              have hc3 := Nat.eq_of_beq_eq_true hc3
              obtain ⟨ys, hf, hys⟩ := firstN_ok (P := P) hH hnew (.inl hn) hx
              obtain ⟨ysd, hfd, hysd⟩ := firstN_ok (P := P) hH.drew hnew (.inl hn) hx
              obtain ⟨i, hi, hi1, hi2, z, hz, hzr, _⟩ := hT.info
              have hzl : z.cells.size = P.cellsOf e := by have := (hzr c).length; rw [Array.length_toList] at this; omega
              have hisz : i.size = P.cellsOf e := by rw [hi1, hc1]
              -- a new block
              have grow : ∀ {base : Option Addr} {m k : Nat} {oldV : List V} {old : List Value} {H1 : AH}, S' = .slice base m k → k < m + (n' + 1) → m ≤ 2 ^ 20 → Reps c oldV old → oldV.length = m * P.cellsOf e →
                  (Builtin.firstCells (P.cellsOf e) m (.slice base m k)).run P w.drew = .ok old.toArray w.drew → HR P ok ng c H1 w → H1.nx = H.nx →
                  Eff P ok ng c H w (Builtin.append_ #[t, t2] ty #[S', X]) (.sl H.nx 0 (m + (n' + 1)) 0 false) (H1.push (.cells (oldV ++ new) e true)) := by
                intro base m k oldV old H1 e1 e2 e3 hold hol hfo hH1 hnx
                subst e1
                have hrun := run_append_new (P := P) (w := w) (ty := ty) (i := i) (z := z) (X := X) (old := old) (ys := ysd) hd hd2 hni hi hz hlen e2 (by rw [hi2]; exact hc4)
                  (by
                    have h1 : (m + n'.succ) * i.bytes ≤ 2097152 * 65536 := Nat.mul_le_mul (by omega) (by rw [hi2]; simpa using hc5)
                    omega)
                  (by rw [hisz]; exact hfd) (by rw [hisz]; exact hfo)
                have hge := grownCap_ge w (m + (n' + 1)) k e
                refine ⟨_, _, c.up H1.nx ⟨w.heap.size, grownCap w (m + (n' + 1)) k e⟩, hrun, by rw [hnx]; exact On.up c hH.fresh _, ?_, ?_, ?_, ?_⟩
                · refine HR.push (w := w.drew) hH1.drew ⟨_, _, rfl, ?_, fun _ => ⟨rfl, ?_⟩⟩
                  · have := append_rows (r := (Builtin.zeroCells z.cells (grownCap w (m + (n' + 1)) k e - (m + (n' + 1)))).toList) hold hysd
                    rw [Array.toArray_toList] at this
                    exact RepC.le (Ctx.le_up _ hH1.fresh) _ _ _ this
                  · have h1 := hold.length
                    have h2 := hysd.length
                    have h3 := size_zeroCells z.cells (grownCap w (m + (n' + 1)) k e - (m + (n' + 1)))
                    simp only [Array.size_append, List.size_toArray, h3, hzl, h1, h2, hol, hc3]
                    rw [← Nat.add_mul, ← Nat.add_mul]
                    refine Nat.mul_le_mul_right _ ?_
                    omega
                · exact ⟨rfl, rfl, rfl, by simp⟩
                · simp only [Rep]
                  rw [← hnx]
                  exact ⟨_, Ctx.up_same _ _ _, by simp only [Bool.false_eq_true, if_false]; omega, by simp⟩
                · show H.nx ≤ H1.nx + 1
                  omega
              unfold appendTo at h
              split at h
              · cases h
                simp only [Rep] at hs
                have := grow (oldV := []) (old := []) (H1 := H) hs (by omega) (by omega) (Reps.nil.2 rfl) (by simp) rfl hH rfl
                simpa using this
              · rename_i id off len cap fix
                split at h
                · rename_i cs e' rw hg hl20
                  have hl20 := of_decide_eq_true hl20
                  have hs0 := hs
                  simp only [Rep] at hs
                  obtain ⟨l, h1, h2, hs⟩ := hs
                  obtain ⟨C, fz, k1, k2, k3⟩ := hH.cellsAt hg h1
                  split at h
                  · simp only [if_true] at h2 hs
                    split at h
                    · -- in place
                      rename_i hfit
                      have hfit := of_decide_eq_true hfit
                      split at h
                      · rename_i hrw
                        simp only [Bool.and_eq_true] at hrw
                        obtain ⟨hrw, hcell⟩ := hrw
                        split at h
                        · rename_i cs' hsp
                          cases h
                          obtain ⟨rfl, k4⟩ := k3 hrw
                          have hspl := splice_len hsp
                          have hyl := hys.length
                          have hfitC : off + len * P.cellsOf e + ys.length ≤ C.size := by
                            by_cases hcs : cs = []
                            · subst hcs
                              simp only [List.length_nil] at hspl
                              omega
                            · have := k2.len hcs
                              omega
                          obtain ⟨w', q1, q2, q3, q4, q5⟩ := run_stores (P := P) k1 hfitC (hys.one hcell)
                          subst hs
                          have hrun := run_append_in (P := P) (w := w) (ty := ty) (base := some ⟨l.b, off, none⟩) (sLen := len) (sCap := cap) (w' := w') hd hd2 hni (cellsOf_run hinf w) hlen hfit hf (by
                            show (storeCells ((⟨l.b, off, none⟩ : Addr).add (len * P.cellsOf e)) ys).run P w = _
                            rw [add_at]
                            exact q1)
                          refine ⟨_, w', c, hrun, On.refl c H, ?_, Kp.turn q2 q3 q4 q5, ?_, Nat.le_refl _⟩
                          · subst hrw
                            refine hH.turn hg rfl h1 q2 ⟨_, _, rfl, RepC.splice k2 hsp hys (fun j y hj => ?_) (fun j hj => ?_), fun _ => ⟨rfl, ?_⟩⟩
                            · rw [Nat.zero_add]; exact laid_in hfitC hj
                            · exact laid_out hfitC (by omega)
                            · rw [laid_size hfitC]; exact k4
                          · simp only [Rep]
                            exact ⟨l, h1, by simp only [if_true]; omega, by simp⟩
                        · cases h
                      · cases h
                    · -- a new block
                      rename_i hfit
                      have hfit := of_decide_eq_false hfit
                      split at h
                      · rename_i oldV hcut
                        cases h
                        obtain ⟨old, o1, o2, o3⟩ := k2.cut hcut
                        have hol : oldV.length = len * P.cellsOf e := by rw [← o1.length, o2]
                        refine grow hs (by omega) hl20 o1 hol ?_ hH rfl
                        exact run_loads (w := w.drew) k1 o2 fun j y hj => by simpa using o3 j y hj
                      · cases h
                  · simp only [Bool.false_eq_true, if_false] at h2 hs
                    split at h
                    · rename_i hrw
                      simp only [Bool.and_eq_true] at hrw
                      obtain ⟨⟨hrw, hcell⟩, ho, hcap, hcl, hee⟩ := hrw
                      have ho := Nat.eq_of_beq_eq_true ho
                      have hcap := Nat.eq_of_beq_eq_true hcap
                      have hcl := Nat.eq_of_beq_eq_true hcl
                      have hee := Nat.eq_of_beq_eq_true hee
                      subst ho hcap hee hrw
                      cases h
                      obtain ⟨rfl, k4⟩ := k3 rfl
                      simp only [Nat.sub_zero] at h2 hs
                      by_cases hfit : len + (n' + 1) ≤ l.cap
                      · -- in place
                        have hyl := hys.length
                        have hfitC : len * P.cellsOf e' + ys.length ≤ C.size := by
                          rw [hyl, hc3, ← Nat.add_mul]
                          exact Nat.le_trans (Nat.mul_le_mul_right _ hfit) k4
                        obtain ⟨w', q1, q2, q3, q4, q5⟩ := run_stores (P := P) k1 hfitC (hys.one hcell)
                        subst hs
                        have hrun := run_append_in (P := P) (w := w) (ty := ty) (base := some ⟨l.b, 0, none⟩) (sLen := len) (sCap := l.cap) (w' := w') hd hd2 hni (cellsOf_run hinf w) hlen hfit hf (by
                          show (storeCells ((⟨l.b, 0, none⟩ : Addr).add (len * P.cellsOf e')) ys).run P w = _
                          rw [add_at, Nat.zero_add]
                          exact q1)
                        refine ⟨_, w', c.up H.nx l, hrun, On.up c hH.fresh _, ?_, Kp.turn q2 q3 q4 q5, ?_, Nat.le_succ _⟩
                        · refine hH.move hg rfl h1 q2 ⟨_, _, rfl, ?_, fun _ => ⟨rfl, ?_⟩⟩
                          · have hle : Le c (c.up H.nx l) := Ctx.le_up _ hH.fresh
                            refine RepC.append ((RepC.le hle _ _ _ k2).congr fun j hj hj2 => laid_out hfitC (by omega)) (RepC.of (Reps.le hle _ _ hys) fun j y hj => ?_)
                            rw [Nat.zero_add, hcl]
                            exact laid_in hfitC hj
                          · rw [laid_size hfitC]; exact k4
                        · simp only [Rep]
                          exact ⟨l, Ctx.up_same _ _ _, by simp only [Bool.false_eq_true, if_false]; omega, by simp⟩
                      · -- a new block
                        obtain ⟨old, o1, o2, o3⟩ := k2.takeN (n := cs.length) (r := cs) (takeN_all cs)
                        refine grow hs (by omega) hl20 o1 hcl ?_ (hH.del id) rfl
                        exact run_loads (w := w.drew) k1 (by rw [o2, hcl]) fun j y hj => by simpa using o3 j y hj
                    · cases h
                · cases h
              · cases h
            · cases h
          · cases h
      · cases h
    · cases h
  · cases h
theorem armCopy_ok {t ty : TypeId} {ats : Array TypeId} {x y v : V} {X Y : Value} {H' : AH} (hG : TabOk P G) (hH : HR P ok ng c H w) (h : armCopy G H t x y = some (v, H')) (ha : ats[0]? = some t) (hx : Rep c x X) (hy : Rep c y Y) :
    Eff P ok ng c H w (Builtin.copy_ ats ty #[X, Y]) v H' := by
  unfold armCopy at h
  split at h
  · rename_i ti dl sl' hti hdl hsl
    obtain ⟨d, hd, hk, _⟩ := (hG.ty _ _ hti).und
    split at h
    · rename_i e sz hks
      rw [hks] at hk
      obtain ⟨rfl, rfl, hinf⟩ := hk.slice
      simp only at h
      split at h
      · rename_i new hnew
        obtain ⟨ys, hf, hys⟩ := firstN_ok (P := P) hH hnew (.inr ⟨sl', hsl, Nat.min_le_left _ _⟩) hy
        have hlen := lenOf_ok (P := P) (w := w) hsl hy
        have run : ∀ {a : Option Addr} {k : Nat} {w' : World}, X = .slice a dl k → (match a with | some a => storeCells a ys | none => pure ()).run P w = .ok () w' →
            (Builtin.copy_ ats ty #[X, Y]).run P w = .ok (goInt (Nat.min sl' dl)) w' := by
          intro a k w' e1 e2
          subst e1
          unfold Builtin.copy_
          simp only [ha, List.getElem?_toArray, List.getElem?_cons_zero, List.getElem?_cons_succ, Sem.run_bind, run_underlying hd, Result.andThen_ok, hlen, cellsOf_run hinf, hf]
          cases a with
          | none => simp only [Sem.run_pure] at e2 ⊢; cases e2; rfl
          | some a => simp only at e2 ⊢; simp [e2]
        split at h
        · cases h
          simp only [Rep] at hx
          simp only [lenV, Option.some.injEq] at hdl
          subst hdl
          exact ⟨_, w, c, run hx rfl, On.refl c H, hH, Kp.refl w, rep_int .., Nat.le_refl _⟩
        · cases h
          simp only [Rep] at hx
          obtain ⟨a, k, hx⟩ := hx
          simp only [lenV, Option.some.injEq] at hdl
          subst hdl
          have h0 : ys = [] := by
            have hl := hys.length
            have : Nat.min sl' 0 = 0 := Nat.min_zero _
            rw [this] at hnew
            have : new.length = 0 := by
              unfold firstN at hnew
              split at hnew
              · cases hnew; simp [byteV]
              · cases hnew; rfl
              · split at hnew
                · cases hnew; rfl
                · cases hnew
              · split at hnew
                · rename_i cs _ _ _
                  have : ∀ (l : List V) (o : Nat) (r : List V), cut l o 0 = some r → r.length = 0 := by
                    intro l
                    induction l with
                    | nil => intro o r hr; cases o <;> simp [cut, takeN] at hr <;> subst hr <;> rfl
                    | cons a l ih => intro o r hr; cases o with
                      | zero => simp [cut, takeN] at hr; subst hr; rfl
                      | succ o => simp only [cut] at hr; exact ih o r hr
                  rw [Nat.zero_mul] at hnew
                  exact this _ _ _ hnew
                · cases hnew
              · rw [Nat.zero_mul] at hnew
                simp [takeN] at hnew
                subst hnew
                rfl
              · cases hnew
            exact List.eq_nil_of_length_eq_zero (by omega)
          subst h0
          exact ⟨_, w, c, run hx rfl, On.refl c H, hH, Kp.refl w, rep_int .., Nat.le_refl _⟩
        · rename_i id off len cap fix
          split at h
          · rename_i cs e' hg
            split at h
            · rename_i hcell
              split at h
              · rename_i cs' hsp
                cases h
                simp only [Rep] at hx
                obtain ⟨l, h1, h2, hx⟩ := hx
                simp only [lenV, Option.some.injEq] at hdl
                subst hdl
                obtain ⟨C, fz, k1, k2, k3⟩ := hH.cellsAt hg h1
                obtain ⟨rfl, k4⟩ := k3 rfl
                have hspl := splice_len hsp
                have hyl := hys.length
                have hfitC : off + ys.length ≤ C.size ∨ ys = [] := by
                  by_cases hcs : cs = []
                  · subst hcs
                    simp only [List.length_nil] at hspl
                    exact .inr (List.eq_nil_of_length_eq_zero (by omega))
                  · have := k2.len hcs
                    exact .inl (by omega)
                rcases hfitC with hfitC | rfl
                · obtain ⟨w', q1, q2, q3, q4, q5⟩ := run_stores (P := P) k1 hfitC (hys.one hcell)
                  refine ⟨_, w', c, run hx q1, On.refl c H, ?_, Kp.turn q2 q3 q4 q5, rep_int .., Nat.le_refl _⟩
                  refine hH.turn hg rfl h1 q2 ⟨_, _, rfl, RepC.splice k2 hsp hys (fun j y hj => ?_) (fun j hj => ?_), fun _ => ⟨rfl, ?_⟩⟩
                  · rw [Nat.zero_add]; exact laid_in hfitC hj
                  · exact laid_out hfitC (by omega)
                  · rw [laid_size hfitC]; exact k4
                · have hw : w.heap = w.heap.setIfInBounds l.b (.cells C e' (0, 0)) := by
                    apply Array.ext_getElem?
                    intro i
                    by_cases hi : l.b = i
                    · subst hi
                      rw [k1]
                      simp [(Array.getElem?_eq_some_iff.1 k1).1]
                    · rw [Array.getElem?_setIfInBounds_ne hi]
                  refine ⟨_, w, c, run hx rfl, On.refl c H, ?_, Kp.refl w, rep_int .., Nat.le_refl _⟩
                  refine hH.turn hg rfl h1 hw ⟨_, _, rfl, RepC.splice k2 hsp hys (fun j y hj => by simp at hj) (fun j hj => rfl), fun _ => ⟨rfl, k4⟩⟩
              · cases h
            · cases h
          · cases h
        · cases h
      · cases h
    · cases h
  · cases h
end
end Go.Proofs.YtbkipanlicgooaaGreatDoor
namespace Go.Proofs.YtbkipanlicgooaaGreatDoor

section
variable {P : Program} {G : Glob} {ok : FuncId → Code → Prop} {ng : Nat} {c : Ctx} {H : AH} {w : World}

theorem strBEq {x y : List Nat} (hx : ∀ z ∈ x, z < 256) (hy : ∀ z ∈ y, z < 256) : (str x == str y) = sEq x y := by
  rw [beq_toListBytes]
  exact str_beq hx hy
theorem sameCell_true {x y : V} {X Y : Value} (h : sameCell x y = some true) (hx : Rep c x X) (hy : Rep c y Y) : X = Y ∧ ∀ n, Instr.sameBits n X X = true := by
  unfold sameCell at h
  split at h
  · have := hx.bool
    have := hy.bool
    subst X Y
    simp only [Option.some.injEq, beq_iff_eq] at h
    subst h
    exact ⟨rfl, fun n => by cases n <;> simp [Instr.sameBits]⟩
  · have := hx.int
    have := hy.int
    subst X Y
    split at h
    · rename_i hk
      have hk := of_decide_eq_true hk
      simp only [Option.some.injEq, decide_eq_true_eq] at h
      subst hk h
      exact ⟨rfl, fun n => by cases n <;> simp [Instr.sameBits]⟩
    · cases h
  · simp only [Rep] at hx hy
    obtain ⟨_, rfl⟩ := hx
    obtain ⟨_, rfl⟩ := hy
    simp only [Option.some.injEq] at h
    rw [sEq_iff] at h
    subst h
    rename_i h1 _
    have hb := strBEq h1 h1
    rw [sEq_iff.2 rfl] at hb
    exact ⟨rfl, fun n => by cases n <;> simpa [Instr.sameBits] using hb⟩
  · cases h
theorem sameCells_true : ∀ {x y : List V} {X Y : List Value}, sameCells x y = some true → Reps c x X → Reps c y Y → X = Y ∧ ∀ n, (X.zip X).all (fun (a, b) => Instr.sameBits n a b) = true
  | [], [], X, Y, _, hx, hy => by
    rw [Reps.nil] at hx hy
    subst hx hy
    exact ⟨rfl, fun n => rfl⟩
  | [], _ :: _, _, _, h, _, _ => by simp [sameCells] at h
  | _ :: _, [], _, _, h, _, _ => by simp [sameCells] at h
  | a :: x, b :: y, X, Y, h, hx, hy => by
    obtain ⟨A, X, rfl, h1, h2⟩ := Reps.cons.1 hx
    obtain ⟨B, Y, rfl, h3, h4⟩ := Reps.cons.1 hy
    simp only [sameCells] at h
    split at h
    · rename_i p q hp hq
      simp only [Option.some.injEq, Bool.and_eq_true] at h
      obtain ⟨rfl, rfl⟩ := h
      obtain ⟨rfl, k1⟩ := sameCell_true hp h1 h3
      obtain ⟨rfl, k2⟩ := sameCells_true hq h2 h4
      exact ⟨rfl, fun n => by simp only [List.zip_cons_cons, List.all_cons, k1 n, k2 n, Bool.and_self]⟩
    · cases h
theorem keyIs_true {x y : V} {X Y : Value} (h : keyIs x y = some true) (hx : Rep c x X) (hy : Rep c y Y) : X = Y ∧ Instr.sameBits 10000 X X = true := by
  unfold keyIs at h
  split at h
  · simp only [Rep] at hx hy
    obtain ⟨A, rfl, hA⟩ := hx
    obtain ⟨B, rfl, hB⟩ := hy
    obtain ⟨k1, k2⟩ := sameCells_true h hA hB
    have := Array.toList_inj.1 k1
    subst this
    refine ⟨rfl, ?_⟩
    show Instr.sameBits (9999 + 1) _ _ = true
    unfold Instr.sameBits
    simp only [beq_self_eq_true, Bool.true_and]
    exact k2 9999
  · obtain ⟨k1, k2⟩ := sameCell_true h hx hy
    exact ⟨k1, k2 10000⟩

/-! ### The place of a key -/
def FoundR (c : Ctx) (E : List MapEntry) (y : Value) : Option (Nat × V × V × Nat) → Option (Nat × Value) → Prop
  | none, r => r = none
  | some (j, _k, v, n), r => ∃ vz, r = some (j, vz) ∧ E[j]? = some ⟨y, vz, n⟩ ∧ Rep c v vz ∧ Instr.sameBits 10000 y y = true
def plainD : TypeDesc → V → Bool
  | .int _, .i _ _ => true
  | .string, .s _ => true
  | .bool, .b _ => true
  | _, _ => false
theorem sameNow_ok {d : TypeDesc} {k e : V} {y z : Value} {b : Bool} (hd : plainD d k = true) (h : keyIs k e = some b) (hk : Rep c k y) (he : Rep c e z) : Instr.sameNow d y z = some b := by
  cases k <;> cases d <;> simp only [plainD, Bool.false_eq_true] at hd
  · have := hk.bool
    subst this
    cases e <;> simp only [keyIs, sameCell] at h <;> try cases h
    have := he.bool
    subst this
    rfl
  · have := hk.int
    subst this
    cases e <;> simp only [keyIs, sameCell] at h <;> try (cases h; done)
    have := he.int
    subst this
    split at h
    · rename_i hj
      have := of_decide_eq_true hj
      subst this
      cases h
      simp [Instr.sameNow, BEq.beq]
    · cases h
  · simp only [Rep] at hk
    obtain ⟨k1, rfl⟩ := hk
    cases e <;> simp only [keyIs, sameCell] at h <;> try (cases h; done)
    simp only [Rep] at he
    obtain ⟨k2, rfl⟩ := he
    cases h
    simp only [Instr.sameNow, strBEq k1 k2]
theorem findNow_ok {d : TypeDesc} {k : V} {y : Value} (hd : plainD d k = true) (hk : Rep c k y) : ∀ {es : List (V × V × Nat)} {E E0 : List MapEntry} {i : Nat} {r : Option (Nat × V × V × Nat)}, findK k es i = some r → RepE c es E →
    (∀ j x, E[j]? = some x → E0[i + j]? = some x) → ∃ r', Instr.findNow d y E i = some r' ∧ FoundR c E0 y r r'
  | [], E, E0, i, r, h, hE, _ => by
    simp only [RepE] at hE
    subst hE
    simp only [findK, Option.some.injEq] at h
    subst h
    exact ⟨none, rfl, rfl⟩
  | (e, v, n) :: es, E, E0, i, r, h, hE, h0 => by
    simp only [RepE] at hE
    obtain ⟨ke, vz, E, rfl, h1, h2, h3⟩ := hE
    simp only [findK] at h
    split at h
    · rename_i hq
      cases h
      have := sameNow_ok hd hq hk h1
      obtain ⟨rfl, hb⟩ := keyIs_true hq hk h1
      refine ⟨some (i, vz), by simp only [Instr.findNow, this], vz, rfl, by simpa using h0 0 _ rfl, h2, hb⟩
    · rename_i hq
      have := sameNow_ok hd hq hk h1
      obtain ⟨r', q1, q2⟩ := findNow_ok (E0 := E0) hd hk h h3 fun j x hj => by rw [← h0 (j + 1) x (by simpa using hj)]; congr 1; omega
      exact ⟨r', by simp only [Instr.findNow, this, q1], q2⟩
    · cases h
theorem findAsking_ok {kt : TypeId} {xs : List V} {A : Array Value} {sz : List V} (hq : EqOk P kt sz) (hn : kindL sz xs = true) (hk : Reps c xs A.toList) : ∀ {es : List (V × V × Nat)} {E E0 : List MapEntry} {i : Nat} {r : Option (Nat × V × V × Nat)}, findK (.agg xs) es i = some r → RepE c es E →
    (∀ j x, E[j]? = some x → E0[i + j]? = some x) → ∃ r', (Instr.findAsking kt (.agg A) E i).run P w = .ok r' w ∧ FoundR c E0 (.agg A) r r'
  | [], E, E0, i, r, h, hE, _ => by
    simp only [RepE] at hE
    subst hE
    simp only [findK, Option.some.injEq] at h
    subst h
    exact ⟨none, rfl, rfl⟩
  | (e, v, n) :: es, E, E0, i, r, h, hE, h0 => by
    simp only [RepE] at hE
    obtain ⟨ke, vz, E, rfl, h1, h2, h3⟩ := hE
    simp only [findK] at h
    have hka : Rep c (.agg xs) (.agg A) := by simp only [Rep]; exact ⟨A, rfl, hk⟩
    have eqr : ∀ b, keyIs (.agg xs) e = some b → (Op.equal kt (.agg A) ke).run P w = .ok b w := by
      intro b hb
      cases e <;> simp only [keyIs, sameCell] at hb <;> try (cases hb; done)
      simp only [Rep] at h1
      obtain ⟨B, rfl, hB⟩ := h1
      exact hq.eq c _ _ A B b w hb hn hk hB
    split at h
    · rename_i hb
      cases h
      obtain ⟨rfl, hbb⟩ := keyIs_true hb hka h1
      refine ⟨some (i, vz), ?_, vz, rfl, by simpa using h0 0 _ rfl, h2, hbb⟩
      simp only [Instr.findAsking, Sem.run_bind, eqr _ hb, Result.andThen_ok, if_true, Sem.run_pure]
    · rename_i hb
      obtain ⟨r', q1, q2⟩ := findAsking_ok (E0 := E0) hq hn hk h h3 fun j x hj => by rw [← h0 (j + 1) x (by simpa using hj)]; congr 1; omega
      refine ⟨r', ?_, q2⟩
      simp only [Instr.findAsking, Sem.run_bind, eqr _ hb, Result.andThen_ok, Bool.false_eq_true, if_false, q1]
    · cases h
theorem find_ok {kt : TypeId} {k : V} {y : Value} {es : List (V × V × Nat)} {E : Array MapEntry} {r : Option (Nat × V × V × Nat)} (hG : TabOk P G) (hok : keyOk G kt k = true) (hk : Rep c k y) (h : findK k es 0 = some r) (hE : RepE c es E.toList) :
    (∃ r', (Instr.findKey kt y E.toList).run P w = .ok r' w ∧ FoundR c E.toList y r r') ∧ ∀ b, (Instr.checkKey b 10000 kt y).run P w = .ok () w := by
  unfold keyOk at hok
  split at hok
  · rename_i ti hti
    obtain ⟨d, hd, hkk, _⟩ := (hG.ty _ _ hti).und
    have plain : plainD d k = true → (∃ r', (Instr.findKey kt y E.toList).run P w = .ok r' w ∧ FoundR c E.toList y r r') ∧ ∀ b, (Instr.checkKey b 10000 kt y).run P w = .ok () w := by
      intro hp
      obtain ⟨r', q1, q2⟩ := findNow_ok (E0 := E.toList) hp hk h hE (fun j x hj => by simpa using hj)
      refine ⟨⟨r', ?_, q2⟩, fun b => ?_⟩
      · unfold Instr.findKey
        simp only [Sem.run_bind, run_underlying hd, Result.andThen_ok, q1, Sem.run_pure]
      · show (Instr.checkKey b (9999 + 1) kt y).run P w = _
        unfold Instr.checkKey
        simp only [Sem.run_bind, run_underlying hd, Result.andThen_ok]
        cases d <;> simp only [plainD, Bool.false_eq_true] at hp <;> rfl
    have agg : ∀ {l : List V}, k = .agg l → (∀ a b, Instr.sameNow d a b = none) → (ti.eqf && kindL ti.zero l) = true → (∃ r', (Instr.findKey kt y E.toList).run P w = .ok r' w ∧ FoundR c E.toList y r r') ∧ ∀ b, (Instr.checkKey b 10000 kt y).run P w = .ok () w := by
      intro l hl hno hq
      subst hl
      simp only [Bool.and_eq_true] at hq
      have hn := hq.2
      have hE' := (hG.ty _ _ hti).eq hq.1
      simp only [Rep] at hk
      obtain ⟨A, rfl, hA⟩ := hk
      refine ⟨?_, fun b => hE'.key c l A b w hn hA⟩
      obtain ⟨r', q1, q2⟩ := findAsking_ok (P := P) (w := w) (E0 := E.toList) hE' hn hA h hE (fun j x hj => by simpa using hj)
      refine ⟨r', ?_, q2⟩
      unfold Instr.findKey
      simp only [Sem.run_bind, run_underlying hd, Result.andThen_ok]
      cases hEl : E.toList with
      | nil =>
        rw [hEl] at q1
        simp only [Instr.findNow, Sem.run_pure]
        simpa [Instr.findAsking] using q1
      | cons x xs =>
        rw [hEl] at q1
        simp only [Instr.findNow, hno]
        exact q1
    split at hok
    · rename_i hks
      rw [hks] at hkk
      have := hkk.bool
      subst this
      exact plain rfl
    · rename_i hks
      rw [hks] at hkk
      have := hkk.str
      subst this
      exact plain rfl
    · rename_i hks
      rw [hks] at hkk
      have := hkk.int
      subst this
      exact plain rfl
    · rename_i hks
      rw [hks] at hkk
      obtain ⟨fs, rfl, _⟩ := hkk.struct
      exact agg rfl (fun a b => rfl) hok
    · rename_i hks
      rw [hks] at hkk
      obtain ⟨rfl, _⟩ := hkk.array
      exact agg rfl (fun a b => rfl) hok
    · cases hok
  · cases hok

/-! ### Entries turned -/
theorem RepE.modify {k v : V} {y z : Value} {n : Nat} {f : MapEntry → MapEntry} (hk : Rep c k y) (hv : Rep c v z) : ∀ {es : List (V × V × Nat)} {E : List MapEntry} {j : Nat} {x : MapEntry}, RepE c es E → E[j]? = some x → f x = ⟨y, z, n⟩ →
    RepE c (setNth (k, v, n) es j) (E.modify j f)
  | [], E, j, x, h, hj, _ => by simp only [RepE] at h; subst h; simp at hj
  | e :: es, E, 0, x, h, hj, hf => by
    simp only [RepE] at h
    obtain ⟨a, b, E, rfl, h1, h2, h3⟩ := h
    simp only [List.getElem?_cons_zero, Option.some.injEq] at hj
    subst hj
    simp only [setNth, List.modify_zero_cons, RepE]
    exact ⟨y, z, E, by rw [hf], hk, hv, h3⟩
  | e :: es, E, j + 1, x, h, hj, hf => by
    simp only [RepE] at h
    obtain ⟨a, b, E, rfl, h1, h2, h3⟩ := h
    simp only [setNth, List.modify_succ_cons, RepE]
    exact ⟨a, b, _, rfl, h1, h2, RepE.modify hk hv h3 (by simpa using hj) hf⟩
theorem RepE.push {k v : V} {y z : Value} {n : Nat} (hk : Rep c k y) (hv : Rep c v z) : ∀ {es : List (V × V × Nat)} {E : List MapEntry}, RepE c es E → RepE c (es ++ [(k, v, n)]) (E ++ [⟨y, z, n⟩])
  | [], E, h => by
    simp only [RepE] at h
    subst h
    simp only [List.nil_append, RepE]
    exact ⟨y, z, [], rfl, hk, hv, rfl⟩
  | e :: es, E, h => by
    simp only [RepE] at h
    obtain ⟨a, b, E, rfl, h1, h2, h3⟩ := h
    simp only [List.cons_append, RepE]
    exact ⟨a, b, _, rfl, h1, h2, RepE.push hk hv h3⟩
theorem keyStays {y : Value} (h : Instr.sameBits 10000 y y = true) : (Instr.keyThatStays y y).run P w = .ok y w := by simp [Instr.keyThatStays, h]
theorem run_setMap {r : Nat} {E E' : Array MapEntry} {k k' : Nat} (h : w.heap[r]? = some (.map E k)) : (setObj r (.map E' k')).run P w = .ok () { w with heap := w.heap.setIfInBounds r (.map E' k') } := by simp [setObj, Sem.run, h]
theorem mapAt_ok {x : V} {X : Value} {es : List (V × V × Nat)} {k id : Nat} (hH : HR P ok ng c H w) (h : YtbkipanlicgooaaGreatDoor.mapAt H x = some (es, k, id)) (hx : Rep c x X) :
    ∃ l E, x = .m id ∧ H.get id = some (.map es k) ∧ c.μ id = some l ∧ X = .map (some l.b) ∧ w.heap[l.b]? = some (.map E k) ∧ RepE c es E.toList := by
  unfold YtbkipanlicgooaaGreatDoor.mapAt at h
  split at h
  · split at h
    · rename_i hg
      cases h
      simp only [Rep] at hx
      obtain ⟨l, h1, rfl⟩ := hx
      obtain ⟨E, h2, h3⟩ := hH.mapAt hg h1
      exact ⟨l, E, rfl, hg, h1, rfl, h2, h3⟩
    · cases h
  · cases h
theorem armLookup_ok {t : TypeId} {x k v : V} {X K : Value} {o : Bool} (hG : TabOk P G) (hH : HR P ok ng c H w) (h : armLookup G H t x k o = some v) (hx : Rep c x X) (hk : Rep c k K) :
    ∃ z, (Instr.lookup t X K o).run P w = .ok z w ∧ Rep c v z := by
  unfold armLookup at h
  split at h
  · rename_i tm htm
    obtain ⟨d, hd, hkd, _⟩ := (hG.ty _ _ htm).und
    split at h
    · rename_i kt et hks
      rw [hks] at hkd
      have := hkd.map
      subst this
      split at h
      · rename_i ti hti hko
        obtain ⟨z0, hz, _, hzr⟩ := (hG.ty _ _ hti).zeroRun w
        have fin : ∀ {u : V} {z : Value} {b : Bool}, Rep c u z → Rep c (okTup o u b) (if o = true then .tuple #[z, .bool b] else z) := by
          intro u z b hu
          cases o
          · exact hu
          · simp only [if_true]
            exact ⟨_, rfl, Reps.cons'.2 ⟨hu, Reps.cons'.2 ⟨rep_bool .., Reps.nil.2 rfl⟩⟩⟩
        split at h
        · cases h
          simp only [Rep] at hx
          subst X
          obtain ⟨⟨r', q1, q2⟩, q3⟩ := find_ok (P := P) (w := w) (es := []) (E := #[]) (r := none) hG hko hk rfl (by simp only [RepE])
          simp only [FoundR] at q2
          subst q2
          refine ⟨_, ?_, fin (hzr c)⟩
          unfold Instr.lookup
          simp only [Sem.run_bind, run_underlying hd, Result.andThen_ok, Sem.run_pure, q3, q1, hz]
        · split at h
          · rename_i es n id hm
            obtain ⟨l, E, rfl, hg, h1, rfl, h2, h3⟩ := mapAt_ok hH hm hx
            split at h
            · rename_i j e u b hf
              cases h
              obtain ⟨⟨r', q1, q2⟩, q3⟩ := find_ok (P := P) (w := w) hG hko hk hf h3
              obtain ⟨vz, rfl, _, q4, _⟩ := q2
              refine ⟨_, ?_, fin q4⟩
              unfold Instr.lookup
              simp only [Sem.run_bind, run_underlying hd, Result.andThen_ok, run_getMap h2, Sem.run_pure, q3, q1]
            · rename_i hf
              cases h
              obtain ⟨⟨r', q1, q2⟩, q3⟩ := find_ok (P := P) (w := w) hG hko hk hf h3
              simp only [FoundR] at q2
              subst q2
              refine ⟨_, ?_, fin (hzr c)⟩
              unfold Instr.lookup
              simp only [Sem.run_bind, run_underlying hd, Result.andThen_ok, run_getMap h2, Sem.run_pure, q3, q1, hz]
            · cases h
          · cases h
      · cases h
    · cases h
  · cases h
theorem Kp.set (w : World) (b : Nat) (ob : Obj) : Kp w { w with heap := w.heap.setIfInBounds b ob } := ⟨rfl, rfl, rfl, by simp⟩
theorem armUpdate_ok {t : TypeId} {x k v u : V} {X K Y : Value} {H' : AH} (hG : TabOk P G) (hH : HR P ok ng c H w) (h : armUpdate G H t x k v = some (u, H')) (hx : Rep c x X) (hk : Rep c k K) (hv : Rep c v Y) :
    ∃ w', (Instr.mapUpdate t X K Y).run P w = .ok () w' ∧ HR P ok ng c H' w' ∧ Kp w w' ∧ u = uV ∧ H'.nx = H.nx := by
  unfold armUpdate at h
  split at h
  · rename_i tm htm
    obtain ⟨d, hd, hkd, _⟩ := (hG.ty _ _ htm).und
    split at h
    · rename_i kt et hks
      rw [hks] at hkd
      have := hkd.map
      subst this
      split at h
      · rename_i es n id hm hko
        obtain ⟨l, E, rfl, hg, h1, rfl, h2, h3⟩ := mapAt_ok hH hm hx
        split at h
        · rename_i j e v0 b hf
          cases h
          obtain ⟨⟨r', q1, q2⟩, q3⟩ := find_ok (P := P) (w := w) hG hko hk hf h3
          obtain ⟨vz, rfl, q4, _, q5⟩ := q2
          have q4' : E[j]? = some ⟨K, vz, b⟩ := by simpa using q4
          refine ⟨{ w with heap := w.heap.setIfInBounds l.b (.map (E.modify j fun e => { e with key := K, val := Y }) n) }, ?_, hH.turn hg rfl h1 rfl ⟨_, rfl, ?_⟩, Kp.set _ _ _, rfl, rfl⟩
          · unfold Instr.mapUpdate
            simp only [Sem.run_bind, run_underlying hd, Result.andThen_ok, run_getMap h2, q3, q1, q4', Option.map_some, Option.getD_some, keyStays q5, run_setMap h2]
          · rw [Array.toList_modify]
            exact RepE.modify hk hv h3 q4 rfl
        · rename_i hf
          cases h
          obtain ⟨⟨r', q1, q2⟩, q3⟩ := find_ok (P := P) (w := w) hG hko hk hf h3
          simp only [FoundR] at q2
          subst q2
          refine ⟨{ w with heap := w.heap.setIfInBounds l.b (.map (E.push ⟨K, Y, n⟩) (n + 1)) }, ?_, hH.turn hg rfl h1 rfl ⟨_, rfl, ?_⟩, Kp.set _ _ _, rfl, rfl⟩
          · unfold Instr.mapUpdate
            simp only [Sem.run_bind, run_underlying hd, Result.andThen_ok, run_getMap h2, q3, q1, run_setMap h2]
          · rw [Array.toList_push]
            exact RepE.push hk hv h3
        · cases h
      · cases h
    · cases h
  · cases h
theorem armMapEntry_ok {t : TypeId} {x k v : V} {X K : Value} {H' : AH} (hG : TabOk P G) (hH : HR P ok ng c H w) (h : armMapEntry G H t x k = some (v, H')) (hx : Rep c x X) (hk : Rep c k K) :
    Eff P ok ng c H w (Instr.mapEntry t X K) v H' := by
  unfold armMapEntry at h
  split at h
  · rename_i tm htm
    obtain ⟨d, hd, hkd, _⟩ := (hG.ty _ _ htm).und
    split at h
    · rename_i kt et hks
      rw [hks] at hkd
      have := hkd.map
      subst this
      split at h
      · rename_i ti es n id hti hm hko
        obtain ⟨l, E, rfl, hg, h1, rfl, h2, h3⟩ := mapAt_ok hH hm hx
        obtain ⟨z0, hz, _, hzr⟩ := (hG.ty _ _ hti).zeroRun w
        have tup2 : ∀ {u : V} {z : Value} {b : Nat}, Rep c u z → Rep c (.tup [u, .i .i64 (Int.ofNat b)]) (.tuple #[z, goInt b]) := by
          intro u z b hu
          simp only [Rep]
          exact ⟨_, rfl, Reps.cons'.2 ⟨hu, Reps.cons'.2 ⟨rep_int .., Reps.nil.2 rfl⟩⟩⟩
        split at h
        · rename_i j e v0 b hf
          cases h
          obtain ⟨⟨r', q1, q2⟩, q3⟩ := find_ok (P := P) (w := w) hG hko hk hf h3
          obtain ⟨vz, rfl, q4, q6, q5⟩ := q2
          have q4' : E[j]? = some ⟨K, vz, b⟩ := by simpa using q4
          refine ⟨_, { w with heap := w.heap.setIfInBounds l.b (.map (E.modify j fun e => { e with key := K }) n) }, c, ?_, On.refl c H, hH.turn hg rfl h1 rfl ⟨_, rfl, ?_⟩, Kp.set _ _ _, tup2 (b := b) q6, Nat.le_refl _⟩
          · unfold Instr.mapEntry
            simp only [Sem.run_bind, run_underlying hd, Result.andThen_ok, run_getMap h2, q3, q1, q4', Option.map_some, Option.getD_some, keyStays q5, run_setMap h2, Sem.run_pure]
          · rw [Array.toList_modify]
            exact RepE.modify hk q6 h3 q4 rfl
        · rename_i hf
          cases h
          obtain ⟨⟨r', q1, q2⟩, q3⟩ := find_ok (P := P) (w := w) hG hko hk hf h3
          simp only [FoundR] at q2
          subst q2
          refine ⟨_, { w with heap := w.heap.setIfInBounds l.b (.map (E.push ⟨K, z0, n⟩) (n + 1)) }, c, ?_, On.refl c H, hH.turn hg rfl h1 rfl ⟨_, rfl, ?_⟩, Kp.set _ _ _, tup2 (b := n) (hzr c), Nat.le_refl _⟩
          · unfold Instr.mapEntry
            simp only [Sem.run_bind, run_underlying hd, Result.andThen_ok, run_getMap h2, q3, q1, hz, run_setMap h2, Sem.run_pure]
          · rw [Array.toList_push]
            exact RepE.push hk (hzr c) h3
        · cases h
      · cases h
    · cases h
  · cases h
theorem bornAt_ok {b : Int} : ∀ {es : List (V × V × Nat)} {E E0 : List MapEntry} {i j n : Nat} {k : V}, bornAt b es i = some (j, k, n) → RepE c es E → (∀ q x, E[q]? = some x → E0[i + q]? = some x) →
    E.findIdx? (fun e => (e.born : Int) == b) = some (j - i) ∧ i ≤ j ∧ ∃ ky vy, E0[j]? = some ⟨ky, vy, n⟩ ∧ Rep c k ky
  | [], E, E0, i, j, n, k, h, hE, _ => by simp [bornAt] at h
  | (k', v, m) :: es, E, E0, i, j, n, k, h, hE, h0 => by
    simp only [RepE] at hE
    obtain ⟨ky, vy, E, rfl, h1, h2, h3⟩ := hE
    simp only [bornAt] at h
    split at h
    · rename_i hb
      cases h
      have hb := of_decide_eq_true hb
      have hb' : ((m : Int) == b) = true := by simpa using hb
      refine ⟨by simp [List.findIdx?_cons, hb'], Nat.le_refl _, ky, vy, by simpa using h0 0 _ rfl, h1⟩
    · rename_i hb
      have hb := of_decide_eq_false hb
      have hb' : ((m : Int) == b) = false := by simpa using hb
      obtain ⟨q1, q2, q3⟩ := bornAt_ok (E0 := E0) h h3 fun q x hq => by rw [← h0 (q + 1) x (by simpa using hq)]; congr 1; omega
      refine ⟨?_, by omega, q3⟩
      simp only [List.findIdx?_cons, hb', Bool.false_eq_true, if_false, q1, Option.map_some]
      congr 1
      omega
theorem armEntryStore_ok {t : TypeId} {x s v u : V} {X S' Y : Value} {H' : AH} (hH : HR P ok ng c H w) (h : armEntryStore H x s v = some (u, H')) (hx : Rep c x X) (hs : Rep c s S') (hv : Rep c v Y) :
    ∃ w', (Instr.entryStore t X S' Y).run P w = .ok () w' ∧ HR P ok ng c H' w' ∧ Kp w w' ∧ u = uV ∧ H'.nx = H.nx := by
  unfold armEntryStore at h
  split at h
  · rename_i es n id kk b hm
    obtain ⟨l, E, rfl, hg, h1, rfl, h2, h3⟩ := mapAt_ok hH hm hx
    have := hs.int
    subst this
    split at h
    · rename_i j k m hb
      cases h
      obtain ⟨q1, q2, ky, vy, q3, q4⟩ := bornAt_ok (E0 := E.toList) hb h3 (fun q x hq => by simpa using hq)
      have hfi : E.findIdx? (fun e => (e.born : Int) == b) = some j := by
        cases E with
        | mk L => simpa using q1
      refine ⟨{ w with heap := w.heap.setIfInBounds l.b (.map (E.modify j fun e => { e with val := Y }) n) }, ?_, hH.turn hg rfl h1 rfl ⟨_, rfl, ?_⟩, Kp.set _ _ _, rfl, rfl⟩
      · unfold Instr.entryStore
        simp only [Sem.run_bind, Result.andThen_ok, run_getMap h2, asInt, asIntOf, Sem.run_pure, hfi, run_setMap h2]
      · rw [Array.toList_modify]
        exact RepE.modify q4 hv h3 q3 rfl
    · cases h
  · cases h
end
end Go.Proofs.YtbkipanlicgooaaGreatDoor
namespace Go.Proofs.YtbkipanlicgooaaGreatDoor

section
variable {P : Program} {G : Glob} {ok : FuncId → Code → Prop} {ng : Nat} {c : Ctx} {H : AH} {w : World}

def Obj.noCells : Obj → Bool
  | .cells .. => false
  | _ => true
theorem run_getO {r : Nat} {o : Obj} (h : w.heap[r]? = some o) (hn : Obj.noCells o = true) : (getObj r).run P w = .ok o w := by
  cases o <;> first | (cases hn; done) | simp [getObj, Sem.run, h]
theorem run_setO {r : Nat} {o o' : Obj} (h : w.heap[r]? = some o) (hn : Obj.noCells o = true) : (setObj r o').run P w = .ok () { w with heap := w.heap.setIfInBounds r o' } := by
  cases o <;> first | (cases hn; done) | simp [setObj, Sem.run, h]

theorem armRange_ok {t : TypeId} {x : V} {X : Value} {o : AO} {mk : Nat → V} (hG : TabOk P G) (hH : HR P ok ng c H w) (h : armRange G H t x = some (o, mk)) (hx : Rep c x X) : New P ok c w (Instr.range t X) o mk := by
  unfold armRange at h
  split at h
  · rename_i ti hti
    obtain ⟨d, hd, hk, _⟩ := (hG.ty _ _ hti).und
    have rp : ∀ {c' : Ctx} {id : Nat}, c'.μ id = some ⟨w.heap.size, 0⟩ → Rep c' (.p id 0) (.pointer (some ⟨w.heap.size, 0, none⟩)) := by
      intro c' id hid
      simp only [Rep]
      exact ⟨_, hid, rfl⟩
    split at h
    · rename_i l hks
      cases h
      rw [hks] at hk
      have := hk.str
      subst this
      simp only [Rep] at hx
      obtain ⟨hl, rfl⟩ := hx
      refine ⟨_, w.alloc (.stringIter (str l) 0), _, 0, ?_, rfl, Kp.alloc _ _, fun id c' hc hid => ⟨⟨hl, rfl⟩, rp hid⟩⟩
      unfold Instr.range
      simp only [Sem.run_bind, run_underlying hd, Result.andThen_ok, Sem.run_pure]
      simp
    · rename_i kt et hks
      cases h
      rw [hks] at hk
      have := hk.map
      subst this
      simp only [Rep] at hx
      subst X
      refine ⟨_, w.alloc (.mapIter none 0 #[] 0), _, 0, ?_, rfl, Kp.alloc _ _, fun id c' hc hid => ⟨rfl, rp hid⟩⟩
      unfold Instr.range
      simp only [Sem.run_bind, run_underlying hd, Result.andThen_ok, Sem.run_pure]
      simp
    · rename_i kt et m hks
      split at h
      · rename_i es k hg
        cases h
        rw [hks] at hk
        have := hk.map
        subst this
        simp only [Rep] at hx
        obtain ⟨l, h1, rfl⟩ := hx
        obtain ⟨E, h2, _⟩ := hH.mapAt hg h1
        refine ⟨_, w.alloc (.mapIter (some l.b) k #[] k), _, 0, ?_, rfl, Kp.alloc _ _, fun id c' hc hid => ⟨⟨l, hc.μ _ _ h1, rfl⟩, rp hid⟩⟩
        unfold Instr.range
        simp only [Sem.run_bind, run_underlying hd, Result.andThen_ok, run_getMap h2, Sem.run_pure]
        simp
      · cases h
    · cases h
  · cases h

theorem decode_ascii {l : List Nat} {pos b : Nat} (h : byteAt l pos = some b) (hb : b < 128) : pos < (str l).size ∧ Utf8.decode (str l) pos = (b, 1) := by
  have h' := h
  rw [byteAt_eq] at h'
  have hlt : pos < l.length := (List.getElem?_eq_some_iff.1 h').1
  have hv := (List.getElem?_eq_some_iff.1 h').2
  have hg : ((str l).get! (pos + 0)).toNat = b := by
    have : (str l).get! (pos + 0) = UInt8.ofNat b := by
      show (str l).data[pos + 0]! = _
      simp [str, hlt, hv]
    rw [this, u8_toNat (by omega)]
  refine ⟨by rw [str_size]; exact hlt, ?_⟩
  unfold Utf8.decode
  simp only [hg]
  rw [if_pos (by omega)]
theorem memN_iff {n : Nat} : ∀ {l : List Nat}, memN n l = true ↔ n ∈ l
  | [] => by simp [memN]
  | x :: l => by
    simp only [memN, Bool.or_eq_true, List.mem_cons, memN_iff (l := l)]
    constructor
    · rintro (h | h)
      · exact .inl (Nat.eq_of_beq_eq_true h).symm
      · exact .inr h
    · rintro (h | h)
      · subst h; exact .inl (by simp)
      · exact .inr h
theorem left_ok {seen : List Nat} : ∀ {es : List (V × V × Nat)} {E : List MapEntry}, RepE c es E → RepE c (left seen es) (E.filter fun e => !seen.toArray.contains e.born)
  | [], E, h => by simp only [RepE] at h; subst h; simp [left, RepE]
  | e :: es, E, h => by
    simp only [RepE] at h
    obtain ⟨k, v, E, rfl, h1, h2, h3⟩ := h
    simp only [left]
    split
    · rename_i hm
      have hm := memN_iff.1 hm
      rw [List.filter_cons_of_neg (by simp [hm])]
      exact left_ok h3
    · rename_i hm
      have hm' : e.2.2 ∉ seen := fun hc => by rw [memN_iff.2 hc] at hm; cases hm
      rw [List.filter_cons_of_pos (by simp [hm'])]
      simp only [RepE]
      exact ⟨k, v, _, rfl, h1, h2, left_ok h3⟩
theorem allBelow_ok {n : Nat} : ∀ {es : List (V × V × Nat)} {E : List MapEntry}, RepE c es E → allBelow n es = true → ∀ x ∈ E, x.born < n
  | [], E, h, _, x, hx => by simp only [RepE] at h; subst h; cases hx
  | e :: es, E, h, hb, x, hx => by
    simp only [RepE] at h
    obtain ⟨k, v, E, rfl, h1, h2, h3⟩ := h
    simp only [allBelow, Bool.and_eq_true, decide_eq_true_eq] at hb
    cases hx with
    | head => exact hb.1
    | tail _ hm => exact allBelow_ok h3 hb.2 x hm
theorem armNext_ok {it v : V} {I : Value} {s : Bool} {ty : TypeId} {H' : AH} (hH : HR P ok ng c H w) (h : armNext H it s = some (v, H')) (hi : Rep c it I) : Eff P ok ng c H w (Instr.next I s ty) v H' := by
  unfold armNext at h
  split at h
  · rename_i id
    simp only [Rep] at hi
    obtain ⟨l, h1, rfl⟩ := hi
    have tupF : Rep c (.tup [.b false]) (.tuple #[.bool false]) := by
      simp only [Rep]
      exact ⟨_, rfl, Reps.cons'.2 ⟨rep_bool .., Reps.nil.2 rfl⟩⟩
    split at h
    · rename_i q pos hg
      obtain ⟨ob, h2, hq, rfl⟩ := hH.at_ _ _ _ hg h1
      split at h
      · rename_i b hb
        split at h
        · rename_i hb128
          cases h
          obtain ⟨d1, d2⟩ := decode_ascii hb (of_decide_eq_true hb128)
          refine ⟨.tuple #[.bool true, goInt pos, .int .i32 b], { w with heap := w.heap.setIfInBounds l.b (.stringIter (str q) (pos + 1)) }, c, ?_, On.refl c H, hH.turn hg rfl h1 rfl ⟨hq, rfl⟩, Kp.set _ _ _, ?_, Nat.le_refl _⟩
          · unfold Instr.next
            simp only [Sem.run_bind, run_getO h2 rfl, Result.andThen_ok, d1, if_true, d2, run_setO h2 rfl, Sem.run_pure]
          · simp only [Rep]
            exact ⟨_, rfl, Reps.cons'.2 ⟨rep_bool .., Reps.cons'.2 ⟨rep_int .., Reps.cons'.2 ⟨rep_int .., Reps.nil.2 rfl⟩⟩⟩⟩
        · cases h
      · rename_i hb
        cases h
        rw [byteAt_eq] at hb
        have hge := List.getElem?_eq_none_iff.1 hb
        refine ⟨.tuple #[.bool false], w, c, ?_, On.refl c H, hH, Kp.refl w, tupF, Nat.le_refl _⟩
        unfold Instr.next
        simp only [Sem.run_bind, run_getO h2 rfl, Result.andThen_ok]
        rw [if_neg (by rw [str_size]; omega)]
        rfl
    · rename_i since seen last hg
      cases h
      obtain ⟨ob, h2, h3⟩ := hH.at_ _ _ _ hg h1
      simp only [OR] at h3
      subst h3
      refine ⟨.tuple #[.bool false], w, c, ?_, On.refl c H, hH, Kp.refl w, tupF, Nat.le_refl _⟩
      unfold Instr.next
      simp only [Sem.run_bind, run_getO h2 rfl, Result.andThen_ok]
      rfl
    · rename_i m since seen last hg
      obtain ⟨ob, h2, h3⟩ := hH.at_ _ _ _ hg h1
      simp only [OR] at h3
      obtain ⟨km, hkm, rfl⟩ := h3
      split at h
      · rename_i es clk hgm
        obtain ⟨E, h4, h5⟩ := hH.mapAt hgm hkm
        split at h
        · rename_i hc
          simp only [Bool.and_eq_true] at hc
          obtain ⟨hc1, hc2, hc3⟩ := hc
          have hc1 := Nat.eq_of_beq_eq_true hc1
          have hc2 := Nat.eq_of_beq_eq_true hc2
          subst hc1 hc2
          have hbel := allBelow_ok h5 hc3
          have hL := left_ok (seen := seen) h5
          have hno : (!seen.toArray.isEmpty && !E.isEmpty && E.all (·.born ≥ last)) = false := by
            cases hE : E.toList with
            | nil =>
              have : E = #[] := by apply Array.toList_inj.1; rw [hE]
              subst this
              simp
            | cons x xs =>
              have hx := hbel x (by rw [hE]; simp)
              have : E.all (·.born ≥ last) = false := by
                rw [← Array.all_toList, hE]
                simp
                intro hh
                omega
              rw [this, Bool.and_false]
          have hold : ((E.filter fun e => !seen.toArray.contains e.born).filter (·.born < last)) = E.filter fun e => !seen.toArray.contains e.born := by
            apply Array.toList_inj.1
            rw [Array.toList_filter, Array.toList_filter]
            apply List.filter_eq_self.2
            intro x hx
            simp [hbel x ((List.mem_filter.1 hx).1)]
          have hnew : ((E.filter fun e => !seen.toArray.contains e.born).filter (·.born ≥ last)) = #[] := by
            apply Array.toList_inj.1
            rw [Array.toList_filter, Array.toList_filter]
            simp only
            apply List.filter_eq_nil_iff.2
            intro x hx
            have := hbel x ((List.mem_filter.1 hx).1)
            simp
            omega
          have run0 : (Instr.next (.pointer (some ⟨l.b, 0, none⟩)) false ty).run P w = (do
              let left := E.filter fun e => !seen.toArray.contains e.born
              let candidates : Array (Option MapEntry) := (if left.isEmpty then #[none] else #[]) ++ left.map some
              match candidates[← choose (.mapNext candidates.size)]? with
              | some (some e) =>
                setObj l.b (.mapIter (some km.b) last (seen.toArray.push e.born) last)
                pure (.tuple #[.bool true, e.key, e.val])
              | some none => (pure (.tuple #[.bool false]) : Sem Value)
              | none => stuck "Next: no such candidate" : Sem Value).run P w := by
            unfold Instr.next
            simp only [Sem.run_bind, run_getO h2 rfl, Result.andThen_ok, run_getO h4 rfl, hno, Bool.false_eq_true, if_false, hold, hnew, Array.append_empty]
            rfl
          split at h
          · rename_i hl0
            cases h
            rw [hl0] at hL
            simp only [RepE] at hL
            have hle : (E.filter fun e => !seen.toArray.contains e.born) = #[] := by
              apply Array.toList_inj.1
              rw [Array.toList_filter]
              exact hL
            refine ⟨.tuple #[.bool false], w, c, ?_, On.refl c H, hH, Kp.refl w, tupF, Nat.le_refl _⟩
            rw [run0, hle]
            simp [Question.forced]
          · rename_i k u n hl1
            cases h
            rw [hl1] at hL
            simp only [RepE] at hL
            obtain ⟨kz, uz, r, hLe, q1, q2, rfl⟩ := hL
            have hle : (E.filter fun e => !seen.toArray.contains e.born) = #[⟨kz, uz, n⟩] := by
              apply Array.toList_inj.1
              rw [Array.toList_filter]
              exact hLe
            refine ⟨.tuple #[.bool true, kz, uz], { w with heap := w.heap.setIfInBounds l.b (.mapIter (some km.b) last (seen.toArray.push n) last) }, c, ?_, On.refl c H, hH.turn hg rfl h1 rfl ⟨km, hkm, by simp⟩, Kp.set _ _ _, ?_, Nat.le_refl _⟩
            · rw [run0, hle]
              simp [Question.forced, run_setO h2 rfl]
            · simp only [Rep]
              exact ⟨_, rfl, Reps.cons'.2 ⟨rep_bool .., Reps.cons'.2 ⟨q1, Reps.cons'.2 ⟨q2, Reps.nil.2 rfl⟩⟩⟩⟩
          · cases h
        · cases h
      · cases h
    · cases h
  · cases h
theorem lastN_ok : ∀ {l : List Nat} {n : Nat}, lastN l = some n → l.toArray.back? = some n
  | [], n, h => by simp [lastN] at h
  | [x], n, h => by simp only [lastN, Option.some.injEq] at h; subst h; rfl
  | x :: y :: l, n, h => by
    simp only [lastN] at h
    have := lastN_ok h
    simpa using this
theorem findB_ok {n : Nat} {k v : V} : ∀ {es : List (V × V × Nat)} {E : List MapEntry}, RepE c es E → findB n es = some (k, v) → ∃ e, E.find? (fun e => e.born == n) = some e ∧ Rep c k e.key ∧ Rep c v e.val
  | [], E, h, hf => by simp [findB] at hf
  | e :: es, E, h, hf => by
    simp only [RepE] at h
    obtain ⟨ky, vy, E, rfl, h1, h2, h3⟩ := h
    simp only [findB] at hf
    split at hf
    · rename_i hb
      have hb := Nat.eq_of_beq_eq_true hb
      cases hf
      exact ⟨⟨ky, vy, e.2.2⟩, by simp [hb], h1, h2⟩
    · rename_i hb
      have hb := Nat.ne_of_beq_eq_false hb
      obtain ⟨x, q1, q2⟩ := findB_ok h3 hf
      exact ⟨x, by simp [hb, q1], q2⟩
theorem armEntry_ok {it v : V} {I : Value} (hH : HR P ok ng c H w) (h : armEntry H it = some v) (hi : Rep c it I) : ∃ z, (Instr.entry I).run P w = .ok z w ∧ Rep c v z := by
  unfold armEntry at h
  split at h
  · rename_i id
    simp only [Rep] at hi
    obtain ⟨l, h1, rfl⟩ := hi
    split at h
    · rename_i m since seen stepped hg
      obtain ⟨ob, h2, h3⟩ := hH.at_ _ _ _ hg h1
      simp only [OR] at h3
      obtain ⟨km, hkm, rfl⟩ := h3
      split at h
      · rename_i st es clk hst hgm
        obtain ⟨E, h4, h5⟩ := hH.mapAt hgm hkm
        split at h
        · rename_i hc
          have hc := Nat.eq_of_beq_eq_true hc
          subst hc
          split at h
          · rename_i k u hf
            cases h
            obtain ⟨e, q1, q2, q3⟩ := findB_ok h5 hf
            have q1' : E.find? (fun e => e.born == st) = some e := by
              cases E with
              | mk L => simpa using q1
            refine ⟨.tuple #[e.key, e.val], ?_, ?_⟩
            · unfold Instr.entry
              simp only [Sem.run_bind, run_getO h2 rfl, Result.andThen_ok, lastN_ok hst, run_getO h4 rfl, bne_self_eq_false, Bool.false_eq_true, if_false, q1']
              rfl
            · simp only [Rep]
              exact ⟨_, rfl, Reps.cons'.2 ⟨q2, Reps.cons'.2 ⟨q3, Reps.nil.2 rfl⟩⟩⟩
          · cases h
        · cases h
      · cases h
    · cases h
  · cases h
/-! ### A string out of a row of bytes -/
theorem run_loadBytes {b : Nat} {C : Array Value} {e : TypeId} {fz : Nat × Nat} (h : w.heap[b]? = some (.cells C e fz)) : ∀ {r : List Nat} {o : Nat} {acc : ByteArray}, (∀ j n, r[j]? = some n → C[o + j]? = some (.int .u8 (Int.ofNat n))) →
    (loadBytes ⟨b, o, none⟩ acc r.length).run P w = .ok (acc ++ str r) w
  | [], o, acc, _ => by
    simp only [List.length_nil, loadBytes, Sem.run_pure]
    congr 1
    apply ByteArray.ext
    simp [str]
  | n :: r, o, acc, hr => by
    have h0 := hr 0 n rfl
    simp only [List.length_cons, loadBytes, Sem.run_bind, run_load, cell_of h (by simpa using h0), Result.andThen_ok, add_at]
    rw [run_loadBytes h (r := r) (o := o + 1) fun j m hj => by rw [← hr (j + 1) m (by simpa using hj)]; congr 1; omega]
    congr 1
    apply ByteArray.ext
    simp [str]
theorem armUString_ok {t ty : TypeId} {ts : List TypeId} {ats : Array TypeId} {x n v : V} {X N : Value} {H' : AH} (hG : TabOk P G) (hH : HR P ok ng c H w) (h : armUString G H ts x n = some (v, H')) (ha : ats.toList = ts) (hx : Rep c x X) (hn : Rep c n N) (hts : ts = t :: ts.tail) :
    Eff P ok ng c H w (Builtin.unsafeString_ ats ty #[X, N]) v H' := by
  have ha0 : ats[0]? = some t := by
    rw [← Array.getElem?_toList, ha, hts]
    rfl
  unfold armUString at h
  split at h
  · rename_i k m
    split at h
    · rename_i h0
      cases h
      have h0 := of_decide_eq_true h0
      subst h0
      simp only [Rep] at hx
      have := hn.int
      subst X N
      refine ⟨.string .empty, w, c, ?_, On.refl c H, hH, Kp.refl w, rep_str c (l := []) (by simp), Nat.le_refl _⟩
      show Sem.run P (do
        let n ← asInt (.int k 0)
        let some pt := ats[0]? | stuck "unsafe.String: no argument types"
        if n < 0 then runtimePanic (.error "unsafe.String: len out of range")
        if n > IntKind.i64.max then unsupported (.unsafePointer "String: a length above the largest int")
        if n = 0 then pure (Value.string ByteArray.empty)
        else runtimePanic (.error "unsafe.String: ptr is nil and len is not zero")) w = _
      simp only [asInt, asIntOf, Sem.run_bind, Sem.run_pure, Result.andThen_ok, ha0]
      simp [IntKind.max, IntKind.signed, IntKind.bits]
    · cases h
  · rename_i id off k m
    split at h
    · rename_i cs e t' ts' hg
      cases hts
      split at h
      · rename_i tp htp
        obtain ⟨d, hd, hkd, _⟩ := (hG.ty _ _ htp).und
        split at h
        · rename_i u hks
          rw [hks] at hkd
          obtain ⟨rfl, hinf⟩ := hkd.ptr
          split at h
          · rename_i tu hc htu
            simp only [Bool.and_eq_true, decide_eq_true_eq] at hc
            obtain ⟨hc1, hc2, hc3, hc4⟩ := hc
            have hc3 := Nat.eq_of_beq_eq_true hc3
            have hc4 := Nat.eq_of_beq_eq_true hc4
            subst hc3 hc4
            split at h
            · rename_i l htk hcut hsz
              have hsz := Nat.eq_of_beq_eq_true hsz
              split at h
              · rename_i bs hbs
                cases h
                have hce := (hG.ty _ _ htu).cells
                simp only [Rep] at hx
                obtain ⟨lo, h1, rfl⟩ := hx
                have := hn.int
                subst this
                obtain ⟨C, fz, k1, k2, k3⟩ := hH.cellsAt hg h1
                obtain ⟨rfl, k4⟩ := k3 rfl
                obtain ⟨ys, q1, q2, q3⟩ := k2.cut hcut
                obtain ⟨w1, w2⟩ := bytesOf_ok hbs q1
                have hlen : bs.length = m.toNat := by rw [← q2, w2]; simp
                have hfit : m.toNat ≤ C.size := by
                  rcases Nat.eq_zero_or_pos m.toNat with h0 | h0
                  · omega
                  · have := q3 (m.toNat - 1) ys[m.toNat - 1] (List.getElem?_eq_getElem (by omega))
                    have := (Array.getElem?_eq_some_iff.1 this).1
                    omega
                have hlies : liesAt P P.depth e (C.size / P.cellsOf e) 0 e m.toNat = true := by
                  obtain ⟨D, hD⟩ : ∃ D, P.depth = D + 1 := ⟨_, rfl⟩
                  have hsl : sameLayout P (D + 1) e e = true := by unfold sameLayout; simp
                  have hrow : rowAt P (fun t => sameLayout P (D + 1) t e) (D + 1) e (C.size / P.cellsOf e) 0 m.toNat = true := by
                    unfold rowAt
                    rw [hce, hsz]
                    simp [hsl, hfit]
                  rw [hD]
                  unfold liesAt
                  rw [hD]
                  simp [hrow]
                have hload : (loadBytes ⟨lo.b, 0, none⟩ .empty m.toNat).run P w = .ok (str bs) w := by
                  have := run_loadBytes (P := P) (w := w) k1 (r := bs) (o := 0) (acc := .empty) fun j b hj => by
                    have := q3 j (.int .u8 (Int.ofNat b)) (by rw [w2]; simp [hj])
                    simpa using this
                  rw [hlen] at this
                  rw [this]
                  congr 1
                have hm0 : ¬ m < 0 := by omega
                have hmm : ¬ m > IntKind.i64.max := by
                  simp only [IntKind.max, IntKind.signed, IntKind.bits, if_true]
                  omega
                have hm1 : ¬ m = 0 := by omega
                have hsh : w.shape? lo.b = some (e, C.size) := by simp [World.shape?, k1]
                have hfr : ∃ fz', (w.freeze ⟨lo.b, 0, none⟩ m.toNat).heap = w.heap.setIfInBounds lo.b (.cells C e fz') := by
                  have hlt := (Array.getElem?_eq_some_iff.1 k1)
                  obtain ⟨p1, p2⟩ := hlt
                  refine ⟨(0, 0 + m.toNat), ?_⟩
                  unfold World.freeze
                  rw [if_neg (by omega)]
                  apply Array.ext
                  · simp
                  · intro i h1 h2
                    rw [Array.getElem_setIfInBounds]
                    simp only [Array.getElem_modify]
                    split
                    · rename_i hi
                      subst hi
                      rw [p2]
                      simp
                    · rfl
                obtain ⟨fz', hfr⟩ := hfr
                refine ⟨.string (str bs), w.freeze ⟨lo.b, 0, none⟩ m.toNat, c, ?_, On.refl c H, hH.turn hg rfl h1 hfr ⟨C, fz', rfl, k2, by simp⟩, ?_, rep_str c w1, Nat.le_refl _⟩
                · show Sem.run P (do
                    let n ← asInt (.int k m)
                    let some pt := ats[0]? | stuck "unsafe.String: no argument types"
                    if n < 0 then runtimePanic (.error "unsafe.String: len out of range")
                    if n > IntKind.i64.max then unsupported (.unsafePointer "String: a length above the largest int")
                    if n = 0 then pure (Value.string ByteArray.empty)
                    else if ← variablesAt ⟨lo.b, 0, none⟩ (← elemOf pt) n.toNat then do
                      let s ← loadBytes ⟨lo.b, 0, none⟩ .empty n.toNat
                      freeze ⟨lo.b, 0, none⟩ n.toNat
                      pure (Value.string s)
                    else unsupported (.unsafePointer "String: not so many bytes at ptr")) w = _
                  simp only [asInt, asIntOf, Sem.run_bind, Sem.run_pure, Result.andThen_ok, ha0]
                  rw [if_neg hm0, if_neg hmm, if_neg hm1]
                  simp only [elemOf, variablesAt, Sem.run_bind, run_underlying hd, Result.andThen_ok, Sem.run_pure, run_program, run_shape, hsh, hlies, if_true, hload, run_freeze]
                · exact Kp.turn hfr (by unfold World.freeze; split <;> rfl) (by unfold World.freeze; split <;> rfl) (by unfold World.freeze; split <;> rfl)
              · cases h
            · cases h
          · cases h
        · cases h
      · cases h
    · cases h
  · cases h
end
end Go.Proofs.YtbkipanlicgooaaGreatDoor
