/-
  The frame of a law's proof: what a row asks of a call that returns true and leaves what was there as it was; the arguments of the statements' types opened. No conditions but those in the statements.
-/
import Derived.Test.YtilfebopeeimnaaRelQ
import Derived.ProofKit
import Derived.Lib.SmallJoins
import Derived.Deep.Slices
import Derived.Deep.Fields
import Derived.Deep.Strs
namespace Go.Proofs.Ytilfebopeeimnaa
open Go.ChangeShapes Go.WideShapes Go.ChangeAt Go.RowKit Go.Deep

theorem own : ownKnob Try.prog.godebug = none := by kernel_rfl

section
variable {H : Type} {enc : TypeId × Value → H} {P : Program}
theorem trodAll_stays (hl : laidOutB P = true) {W W' : World} {sp : Nat → Bool} : ∀ {ts : List TypeId} {vs : List Value} {ds : List (DataW H)} {ps : List MemPlace},
    (ts.all fun t => P.readableRec t && decide (t < P.types.size)) = true → DataW.TrodAll enc P W 0 (fun _ => true) true ts vs ds ps →
    (∀ p ∈ ps, W.sameAt W' p) → (∀ p ∈ ps, sp p.block = true) → DataW.TrodAll enc P W' 0 sp true ts vs ds ps
  | [], [], [], ps, _, h, _, _ => h
  | t :: ts, v :: vs, d :: ds, ps, ht, ⟨p, q, h1, h2, e⟩, hs, hp => by
    simp only [List.all_cons, Bool.and_eq_true, decide_eq_true_eq] at ht
    subst e
    exact ⟨p, q, WideElems.Trod_stays hl ht.1.1 ht.1.2 h1 (fun x hx => hs x (by simp [hx])) (fun x hx => hp x (by simp [hx])),
      trodAll_stays hl ht.2 h2 (fun x hx => hs x (by simp [hx])) (fun x hx => hp x (by simp [hx])), rfl⟩
  | [], _ :: _, _, _, _, h, _, _ => h.elim
  | [], [], _ :: _, _, _, h, _, _ => h.elim
  | _ :: _, [], _, _, _, h, _, _ => h.elim
  | _ :: _, _ :: _, [], _, _, h, _, _ => h.elim

/-- What the row of a law asks, of a call that returns true and leaves what was there as it was. -/
theorem law_post {f : FuncId} {fn : Func} {s : ChangeSpec} {tb : TypeId} {W : World} {args : Array Value} {ds gs : List (DataW H)} {before : List MemPlace}
    (hl : laidOutB P = true) (hts : (fn.params.toList.all fun t => P.readableRec t && decide (t < P.types.size)) = true) (hres : fn.resultTypes = #[tb]) (hb : P.underlying tb = some .bool) (hvars : s.vars = [])
    (hW : DataW.Whole enc P fn.params.toList s.vars false W args.toList ds gs before)
    (hspec : s.fn H (ds ++ gs) = { results := [.lit (.bool true)], args := ds })
    (h : Calls P f args W (Ret (.bool true) W)) : Calls P f args W fun e W' => ∃ v, e = .returned v ∧ s.post enc P fn false true false false W args v W' := by
  refine h.mono fun e W' ⟨he, hbel⟩ => ⟨_, he, ?_⟩
  have hW0 := hW
  obtain ⟨p, q, hA, hV, hpq, _, _⟩ := hW
  have hg : gs = [] ∧ q = [] := by
    rw [hvars] at hV
    cases gs with
    | nil => exact ⟨rfl, hV⟩
    | cons _ _ => exact hV.elim
  obtain ⟨rfl, rfl⟩ := hg
  have hlt : ∀ x ∈ before, x.block < W.heap.size := fun x hx => hW0.lt x hx
  have hb0 : before = p := by simpa using hpq
  subst hb0
  refine ⟨ds, [], before, [], before, [], hW0, ?_, ?_, ?_, hbel.frame _, fun h0 => by cases h0⟩
  · rw [hspec, hres]
    exact trodAll_mk1 (shut_bool hb true)
  · rw [hspec]
    exact trodAll_stays hl hts hA (fun x hx => hbel.same (hlt x hx)) (fun x hx => by simpa using hlt x hx)
  · rw [hspec, hvars]
    exact rfl

end

theorem addr_next (a : Addr) (m k : Nat) (hk : 0 < k) : (⟨(a.add m).block, (a.add m).off + k, none⟩ : Addr) = a.add (m + k) := by
  unfold Addr.add
  by_cases h : m = 0
  · subst h
    rw [if_pos rfl, if_neg (by omega), Nat.zero_add]
  · rw [if_neg h, if_neg (by omega)]
    simp [Nat.add_assoc]
/-- The number in a cell. -/
def intAt (w : World) (p : Addr) : Int := match w.cell? p with
  | some (.int _ n) => n
  | _ => 0
theorem intAt_eq {w : World} {p : Addr} {n : Int} (h : w.cell? p = some (.int .i64 n)) : w.cell? p = some (.int .i64 (intAt w p)) := by
  simp only [intAt, h]

section
variable {H : Type} {enc : TypeId × Value → H} {P : Program} {w : World} {r : Reach} {base b0 : Nat} {spare : Nat → Bool} {held : Bool} {v : Value} {d : DataW H} {p : List MemPlace}

/-- A struct by value: its cells, and what each one-cell field reads as. -/
theorem open_cells {t : TypeId} {fs : Array Field} (hs : P.underlying t = some (.struct fs)) (hv : Value.okWide P w r b0 t v) (h : DataW.Trod enc P w base spare held t v d p) :
    ∃ (cs : Array Value) (n : Nat), v = .agg cs ∧ cs.size = P.cellsOf t ∧ ∀ (i : Nat) (f : Field) (u : Value), fs[i]? = some f → P.cellsOf f.type = 1 → cs[f.offset]? = some u → ∃ y, DataW.trod enc P w base spare held n f.type [u] = some y := by
  obtain ⟨cs, rfl, hsz⟩ := okWide_struct hs hv
  obtain ⟨fuel, hf⟩ := h
  obtain ⟨xs, n, _, _, _, hlen, hg⟩ := DataW.trod_struct hs hf
  refine ⟨cs, n, rfl, hsz, fun i f u hi h1 hu => ?_⟩
  have h2 := hg i f hi
  have hlt : i < fs.size := (Array.getElem?_eq_some_iff.1 hi).1
  have hx : xs[i]? = some (xs[i]'(by omega)) := List.getElem?_eq_getElem (by omega)
  obtain ⟨l⟩ := cs
  have hu' : l[f.offset]? = some u := by simpa using hu
  obtain ⟨hl, he⟩ := List.getElem?_eq_some_iff.1 hu'
  have e : ((Value.agg ⟨l⟩).cells.toList.drop f.offset).take 1 = [u] := by
    show (l.drop f.offset).take 1 = [u]
    rw [List.drop_eq_getElem_cons hl, he]
    rfl
  rw [h1, e, hx] at h2
  exact ⟨_, h2⟩

/-- What any field reads as. -/
theorem open_field {t : TypeId} {fs : Array Field} (hs : P.underlying t = some (.struct fs)) (hv : Value.okWide P w r b0 t v) (h : DataW.Trod enc P w base spare held t v d p) :
    ∃ (cs : Array Value) (n : Nat), v = .agg cs ∧ cs.size = P.cellsOf t ∧ ∀ (i : Nat) (f : Field), fs[i]? = some f → ∃ y, DataW.trod enc P w base spare held n f.type ((cs.toList.drop f.offset).take (P.cellsOf f.type)) = some y := by
  obtain ⟨cs, rfl, hsz⟩ := okWide_struct hs hv
  obtain ⟨fuel, hf⟩ := h
  obtain ⟨xs, n, _, _, _, hlen, hg⟩ := DataW.trod_struct hs hf
  refine ⟨cs, n, rfl, hsz, fun i f hi => ?_⟩
  have hlt : i < fs.size := (Array.getElem?_eq_some_iff.1 hi).1
  exact ⟨xs[i]'(by omega), (hg i f hi).trans (List.getElem?_eq_getElem (by omega))⟩

/-- A slice of structs whose fields are numbers. -/
theorem open_rows {t e : TypeId} {fs : Array Field} {fuel : Nat} {u : Value} {x : DataW H × List MemPlace} (ht : P.underlying t = some (.slice e)) (he : P.underlying e = some (.struct fs))
    (hone : oneCellFields P fs = true) (hC : P.cellsOf e = fs.size) (h3 : P.underlying 3 = some (.int .i64)) (hint : (fs.all fun f => f.type == 3) = true) (h : DataW.trod enc P w base spare held fuel t [u] = some x) :
    ∃ (A : Option Addr) (n c : Nat), u = .slice A n c ∧ n ≤ maxLen ∧ n ≤ c ∧ ∀ i, i < n → ∃ a, A = some a ∧ ∀ j, j < fs.size → w.cell? (a.add (i * fs.size + j)) = some (.int .i64 (intAt w (a.add (i * fs.size + j)))) := by
  rcases Go.Deep.open_slice ht h with ⟨e, _⟩ | ⟨a, len, cap, m, n', D, Pl, e, hb, hl, hm, hmm, _, hi⟩
  · simp at e
    exact ⟨none, 0, 0, e, Nat.zero_le _, Nat.le_refl _, fun i hi => absurd hi (by omega)⟩
  · simp at e
    refine ⟨some a, len, cap, e, by omega, hl, fun i hlt => ⟨a, rfl, fun j hj => ?_⟩⟩
    have him : i < m := by
      rw [hmm]
      split <;> omega
    obtain ⟨cs', hc, ht'⟩ := hi i him
    rw [hC] at hc
    obtain ⟨_, hcl, hat⟩ := World.cells?_some hc
    obtain ⟨ys, n2, _, _, _, hyl, hf⟩ := DataW.trod_struct he ht'
    have hj' : fs[j]? = some fs[j] := Array.getElem?_eq_getElem hj
    obtain ⟨ho, hk⟩ := hone_of hone j _ hj'
    have h1 := hf j _ hj'
    have e1 : (cs'.drop j).take 1 = [cs'[j]'(by omega)] := by
      rw [List.drop_eq_getElem_cons (by omega)]
      rfl
    have ht3 : fs[j].type = 3 := by
      have := Array.all_eq_true.1 hint j hj
      simpa using this
    rw [ho, hk, e1, ht3, List.getElem?_eq_getElem (by omega)] at h1
    obtain ⟨z, ez, _, _⟩ := DataW.trod_int h3 h1
    simp at ez
    have hcell := hat j hj
    rw [Addr.add_add, List.getElem?_eq_getElem (by omega), ez] at hcell
    exact intAt_eq hcell

end
theorem cells29 : Try.prog.cellsOf 29 = 4 := by kernel_rfl
theorem cells52 : Try.prog.cellsOf 52 = 4 := by kernel_rfl
theorem cells37 : Try.prog.cellsOf 37 = 7 := by kernel_rfl
theorem cells42 : Try.prog.cellsOf 42 = 6 := by kernel_rfl
theorem cells46 : Try.prog.cellsOf 46 = 9 := by kernel_rfl
section
variable {H : Type} {enc : TypeId × Value → H} {w : World} {r : Reach} {base b0 : Nat} {spare : Nat → Bool} {held : Bool} {v : Value} {d : DataW H} {p : List MemPlace}

theorem open22 (hv : Value.okWide Try.prog w r b0 22 v) (h : DataW.Trod enc Try.prog w base spare held 22 v d p) : ∃ (A : Option Addr) (n c : Nat) (l : Nat → Tal), TalsAt w A n l ∧ n ≤ maxLen ∧ v = .slice A n c := by
  obtain ⟨a0, l0, c0, rfl⟩ := okWide_slice Try.underlying22 hv
  obtain ⟨fuel, hf⟩ := h
  obtain ⟨A, n, c, e, hn, _, hi⟩ := open_rows Try.underlying22 Try.underlying29 (by kernel_rfl) (by kernel_rfl) Try.underlying3 (by kernel_rfl) hf
  cases e
  let at_ : Nat → Addr := fun i => (a0.getD ⟨0, 0, none⟩).add i
  refine ⟨a0, l0, c0, fun i => ⟨intAt w (at_ (i * 4)), intAt w (at_ (i * 4 + 1)), intAt w (at_ (i * 4 + 2)), intAt w (at_ (i * 4 + 3))⟩, fun i hlt => ?_, hn, rfl⟩
  obtain ⟨a, rfl, hc⟩ := hi i hlt
  have k0 : w.cell? (a.add (i * 4)) = _ := hc 0 (by decide)
  have k1 : w.cell? (a.add (i * 4 + 1)) = _ := hc 1 (by decide)
  have k2 : w.cell? (a.add (i * 4 + 2)) = _ := hc 2 (by decide)
  have k3 : w.cell? (a.add (i * 4 + 3)) = _ := hc 3 (by decide)
  refine ⟨a, rfl, World.block_lt_of_cell? _ _ k0, k0, ?_, ?_, ?_⟩
  · rw [addr_next _ _ _ (by omega)]; exact k1
  · rw [addr_next _ _ _ (by omega)]; exact k2
  · rw [addr_next _ _ _ (by omega)]; exact k3

theorem pays_of {fuel : Nat} {u : Value} {x : DataW H × List MemPlace} (hf : DataW.trod enc Try.prog w base spare held fuel 34 [u] = some x) : ∃ (A : Option Addr) (n c : Nat) (P : Nat → Pay), PaysAt w A n P ∧ n ≤ maxLen ∧ u = .slice A n c := by
  obtain ⟨A, n, c, e, hn, _, hi⟩ := open_rows Try.underlying34 Try.underlying52 (by kernel_rfl) (by kernel_rfl) Try.underlying3 (by kernel_rfl) hf
  subst e
  let at_ : Nat → Addr := fun i => (A.getD ⟨0, 0, none⟩).add i
  refine ⟨A, n, c, fun i => ⟨intAt w (at_ (i * 4)), intAt w (at_ (i * 4 + 1)), intAt w (at_ (i * 4 + 2)), intAt w (at_ (i * 4 + 3))⟩, fun i hlt => ?_, hn, rfl⟩
  obtain ⟨a, rfl, hc⟩ := hi i hlt
  have k0 : w.cell? (a.add (i * 4)) = _ := hc 0 (by decide)
  have k1 : w.cell? (a.add (i * 4 + 1)) = _ := hc 1 (by decide)
  have k2 : w.cell? (a.add (i * 4 + 2)) = _ := hc 2 (by decide)
  have k3 : w.cell? (a.add (i * 4 + 3)) = _ := hc 3 (by decide)
  refine ⟨a, rfl, World.block_lt_of_cell? _ _ k0, k0, ?_, ?_, ?_⟩
  · rw [addr_next _ _ _ (by omega)]; exact k1
  · rw [addr_next _ _ _ (by omega)]; exact k2
  · rw [addr_next _ _ _ (by omega)]; exact k3

theorem slice_of {t e : TypeId} {fuel : Nat} {u : Value} {x : DataW H × List MemPlace} (ht : Try.prog.underlying t = some (.slice e)) (hf : DataW.trod enc Try.prog w base spare held fuel t [u] = some x) : ∃ (A : Option Addr) (n c : Nat), u = .slice A n c := by
  rcases Go.Deep.open_slice ht hf with ⟨e, _⟩ | ⟨a, len, cap, m, n', D, Pl, e, hb, hl, hm, hmm, _, hi⟩
  · simp at e
    exact ⟨_, _, _, e⟩
  · simp at e
    exact ⟨_, _, _, e⟩
theorem int_of {fuel : Nat} {u : Value} {x : DataW H × List MemPlace} (hf : DataW.trod enc Try.prog w base spare held fuel 3 [u] = some x) : ∃ a : Int, u = .int .i64 a := by
  obtain ⟨a, e, _, _⟩ := DataW.trod_int Try.underlying3 hf
  simp at e
  exact ⟨a, e⟩

theorem open37 (hv : Value.okWide Try.prog w r b0 37 v) (h : DataW.Trod enc Try.prog w base spare held 37 v d p) :
    ∃ (x y : Value) (A1 A2 A3 A4 A5 : Option Addr) (n1 n2 n3 n4 n5 c1 c2 c3 c4 c5 : Nat) (P : Nat → Pay), PaysAt w A4 n4 P ∧ v = .agg #[x, y, .slice A1 n1 c1, .slice A2 n2 c2, .slice A3 n3 c3, .slice A4 n4 c4, .slice A5 n5 c5] := by
  obtain ⟨cs, n, rfl, hsz, hf⟩ := open_cells Try.underlying37 hv h
  rw [cells37] at hsz
  obtain ⟨l⟩ := cs
  match l, hsz with
  | [u0, u1, u2, u3, u4, u5, u6], _ =>
    obtain ⟨y2, g2⟩ := hf 2 _ u2 rfl (by kernel_rfl) rfl
    obtain ⟨y3, g3⟩ := hf 3 _ u3 rfl (by kernel_rfl) rfl
    obtain ⟨y4, g4⟩ := hf 4 _ u4 rfl (by kernel_rfl) rfl
    obtain ⟨y5, g5⟩ := hf 5 _ u5 rfl (by kernel_rfl) rfl
    obtain ⟨y6, g6⟩ := hf 6 _ u6 rfl (by kernel_rfl) rfl
    obtain ⟨A1, n1, c1, rfl⟩ := slice_of Try.underlying31 g2
    obtain ⟨A2, n2, c2, rfl⟩ := slice_of Try.underlying32 g3
    obtain ⟨A3, n3, c3, rfl⟩ := slice_of Try.underlying33 g4
    obtain ⟨A4, n4, c4, P, hP, _, rfl⟩ := pays_of g5
    obtain ⟨A5, n5, c5, rfl⟩ := slice_of Try.underlying35 g6
    exact ⟨u0, u1, A1, A2, A3, A4, A5, n1, n2, n3, n4, n5, c1, c2, c3, c4, c5, P, hP, rfl⟩
theorem cells40 : Try.prog.cellsOf 40 = 3 := by kernel_rfl
theorem cells9 : Try.prog.cellsOf 9 = 1 := by kernel_rfl
theorem cells3' : Try.prog.cellsOf 3 = 1 := by kernel_rfl
theorem cells38 : Try.prog.cellsOf 38 = 1 := by kernel_rfl
theorem str_of {fuel : Nat} {u : Value} {x : DataW H × List MemPlace} (hf : DataW.trod enc Try.prog w base spare held fuel 9 [u] = some x) : ∃ a : ByteArray, u = .string a := by
  obtain ⟨a, e, _⟩ := DataW.trod_string Try.underlying9 hf
  simp at e
  exact ⟨a, e⟩
theorem open42 (hv : Value.okWide Try.prog w r b0 42 v) (h : DataW.Trod enc Try.prog w base spare held 42 v d p) :
    ∃ (s0 s1 : ByteArray) (i2 : Int) (A : Option Addr) (n c : Nat) (m i5 : Int), v = .agg #[.string s0, .string s1, .int .i64 i2, .slice A n c, .int .i64 m, .int .i64 i5] := by
  obtain ⟨cs, n, rfl, hsz, hf⟩ := open_field Try.underlying42 hv h
  rw [cells42] at hsz
  obtain ⟨l⟩ := cs
  match l, hsz with
  | [u0, u1, u2, u3, u4, u5], _ =>
    obtain ⟨y0, g0⟩ := hf 0 _ rfl
    obtain ⟨y1, g1⟩ := hf 1 _ rfl
    obtain ⟨y4, g4⟩ := hf 2 _ rfl
    obtain ⟨y5, g5⟩ := hf 3 _ rfl
    simp [cells40, cells9, cells3'] at g0 g1 g4 g5
    obtain ⟨s0, rfl⟩ := str_of g0
    obtain ⟨m, rfl⟩ := int_of g4
    obtain ⟨i5, rfl⟩ := int_of g5
    obtain ⟨xs, n2, _, _, _, hlen, hg⟩ := DataW.trod_struct Try.underlying40 g1
    have k0 := hg 0 _ rfl
    have k1 := hg 1 _ rfl
    have k2 := hg 2 _ rfl
    simp [cells9, cells3', cells38] at k0 k1 k2
    match xs, hlen with
    | [z0, z1, z2], _ =>
      obtain ⟨s1, rfl⟩ := str_of k0
      obtain ⟨i2, rfl⟩ := int_of k1
      obtain ⟨A, n3, c3, rfl⟩ := slice_of Try.underlying38 k2
      exact ⟨s0, s1, i2, A, n3, c3, m, i5, rfl⟩
theorem open46 (hv : Value.okWide Try.prog w r b0 46 v) (h : DataW.Trod enc Try.prog w base spare held 46 v d p) :
    ∃ (a t q : Int) (ti : Value) (f : Int) (r0 r1 r2 r3 : Value), v = .agg #[.int .i64 a, .int .i64 t, .int .i64 q, ti, .int .i64 f, r0, r1, r2, r3] := by
  obtain ⟨cs, n, rfl, hsz, hf⟩ := open_cells Try.underlying46 hv h
  rw [cells46] at hsz
  obtain ⟨l⟩ := cs
  match l, hsz with
  | [u0, u1, u2, u3, u4, u5, u6, u7, u8], _ =>
    obtain ⟨y0, g0⟩ := hf 0 _ u0 rfl (by kernel_rfl) rfl
    obtain ⟨y1, g1⟩ := hf 1 _ u1 rfl (by kernel_rfl) rfl
    obtain ⟨y2, g2⟩ := hf 2 _ u2 rfl (by kernel_rfl) rfl
    obtain ⟨y4, g4⟩ := hf 4 _ u4 rfl (by kernel_rfl) rfl
    obtain ⟨a, rfl⟩ := int_of g0
    obtain ⟨t, rfl⟩ := int_of g1
    obtain ⟨q, rfl⟩ := int_of g2
    obtain ⟨f, rfl⟩ := int_of g4
    exact ⟨a, t, q, u3, f, u5, u6, u7, u8, rfl⟩
end

end Go.Proofs.Ytilfebopeeimnaa
