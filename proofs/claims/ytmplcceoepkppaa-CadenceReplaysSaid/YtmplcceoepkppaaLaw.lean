/-
  The frame of a law's proof: what a row asks of a call that returns true and leaves what was there as it was; the arguments of the statements' types opened. No conditions but those in the statements.
-/
import Derived.Test.YtmplcceoepkppaaRows
import Derived.Test.YtmplcceoepkppaaKit
import Derived.ProofKit
import Derived.Test.YtmplcceoepkppaaCadJ
import Derived.Lib.SmallJoins
import Derived.Deep.Slices
import Derived.Deep.Strs
namespace Go.Proofs.Ytmplcceoepkppaa
open Go.ChangeShapes Go.WideShapes Go.ChangeAt Go.RowKit

theorem own : ownKnob Try.prog.godebug = none := by kernel_rfl
theorem laidOut : laidOutB Try.prog = true := by kernel_rfl

section
variable {H : Type} {enc : TypeId × Value → H} {P : Program}
theorem trodAll_stays (hl : laidOutB P = true) {W W' : World} {sp : Nat → Bool} : ∀ {ts : List TypeId} {vs : List Value} {ds : List (DataW H)} {ps : List MemPlace},
    (ts.all fun t => P.readableRec t && decide (t < P.types.size)) = true → DataW.TrodAll enc P W 0 (fun _ => true) true ts vs ds ps →
    (∀ p ∈ ps, W.sameAt W' p) → (∀ p ∈ ps, sp p.block = true) → DataW.TrodAll enc P W' 0 sp true ts vs ds ps
  | [], [], [], ps, _, h, _, _ => h
  | t :: ts, v :: vs, d :: ds, ps, ht, ⟨p, q, h1, h2, e⟩, hs, hp => by
    simp only [List.all_cons, Bool.and_eq_true, decide_eq_true_eq] at ht
    subst e
    exact ⟨p, q, WideElems.Trod_stays hl ht.1.1 ht.1.2 h1 (fun x hx => hs x (by simp [hx])) (fun x hx => hp x (by simp [hx])),
      trodAll_stays hl ht.2 h2 (fun x hx => hs x (by simp [hx])) (fun x hx => hp x (by simp [hx])), rfl⟩
  | [], _ :: _, _, _, _, h, _, _ => h.elim
  | [], [], _ :: _, _, _, h, _, _ => h.elim
  | _ :: _, [], _, _, _, h, _, _ => h.elim
  | _ :: _, _ :: _, [], _, _, h, _, _ => h.elim

/-- What the row of a law asks, of a call that returns true and leaves what was there as it was. -/
theorem law_post {f : FuncId} {fn : Func} {s : ChangeSpec} {tb : TypeId} {W : World} {args : Array Value} {ds gs : List (DataW H)} {before : List MemPlace}
    (hl : laidOutB P = true) (hts : (fn.params.toList.all fun t => P.readableRec t && decide (t < P.types.size)) = true) (hres : fn.resultTypes = #[tb]) (hb : P.underlying tb = some .bool) (hvars : s.vars = [])
    (hW : DataW.Whole enc P fn.params.toList s.vars false W args.toList ds gs before)
    (hspec : s.fn H (ds ++ gs) = { results := [.lit (.bool true)], args := ds })
    (h : Calls P f args W (Ret (.bool true) W)) : Calls P f args W fun e W' => ∃ v, e = .returned v ∧ s.post enc P fn false true false false W args v W' := by
  refine h.mono fun e W' ⟨he, hbel⟩ => ⟨_, he, ?_⟩
  have hW0 := hW
  obtain ⟨p, q, hA, hV, hpq, _, _⟩ := hW
  have hg : gs = [] ∧ q = [] := by
    rw [hvars] at hV
    cases gs with
    | nil => exact ⟨rfl, hV⟩
    | cons _ _ => exact hV.elim
  obtain ⟨rfl, rfl⟩ := hg
  have hlt : ∀ x ∈ before, x.block < W.heap.size := fun x hx => hW0.lt x hx
  have hb0 : before = p := by simpa using hpq
  subst hb0
  refine ⟨ds, [], before, [], before, [], hW0, ?_, ?_, ?_, hbel.frame _, fun h0 => by cases h0⟩
  · rw [hspec, hres]
    exact trodAll_mk1 (shut_bool hb true)
  · rw [hspec]
    exact trodAll_stays hl hts hA (fun x hx => hbel.same (hlt x hx)) (fun x hx => by simpa using hlt x hx)
  · rw [hspec, hvars]
    exact rfl

end

theorem cells3 : Try.prog.cellsOf 3 = 1 := by kernel_rfl
theorem cells44 : Try.prog.cellsOf 44 = 3 := by kernel_rfl
theorem cells24 : Try.prog.cellsOf 24 = 2 := by kernel_rfl
theorem cells26 : Try.prog.cellsOf 26 = 4 := by kernel_rfl

theorem addr_next (a : Addr) (m k : Nat) (hk : 0 < k) : (⟨(a.add m).block, (a.add m).off + k, none⟩ : Addr) = a.add (m + k) := by
  unfold Addr.add
  by_cases h : m = 0
  · subst h
    rw [if_pos rfl, if_neg (by omega), Nat.zero_add]
  · rw [if_neg h, if_neg (by omega)]
    simp [Nat.add_assoc]

/-- The number in a cell. -/
def intAt (w : World) (p : Addr) : Int := match w.cell? p with
  | some (.int _ n) => n
  | _ => 0
theorem intAt_eq {w : World} {p : Addr} {n : Int} (h : w.cell? p = some (.int .i64 n)) : w.cell? p = some (.int .i64 (intAt w p)) := by
  simp only [intAt, h]

section
variable {H : Type} {enc : TypeId × Value → H} {w : World} {r : Reach} {base b0 : Nat} {spare : Nat → Bool} {held : Bool} {v : Value} {d : DataW H} {p : List MemPlace}

theorem open3 (hv : Value.okWide Try.prog w r b0 3 v) (h : DataW.Trod enc Try.prog w base spare held 3 v d p) : ∃ a : Int, v = .int .i64 a := by
  obtain ⟨a, rfl, _, _, _⟩ := open_int Try.underlying3 hv h
  exact ⟨a, rfl⟩
theorem open5 (hv : Value.okWide Try.prog w r b0 5 v) (h : DataW.Trod enc Try.prog w base spare held 5 v d p) : ∃ a : Int, 0 ≤ a ∧ a ≤ 255 ∧ v = .int .u8 a := by
  obtain ⟨a, rfl, _, _, hw⟩ := open_int Try.underlying5 hv h
  simp only [Lit.wf, Bool.and_eq_true, decide_eq_true_eq] at hw
  exact ⟨a, hw.1, hw.2, rfl⟩
theorem open46 (hv : Value.okWide Try.prog w r b0 46 v) (h : DataW.Trod enc Try.prog w base spare held 46 v d p) : ∃ a : Int, 0 ≤ a ∧ a ≤ 65535 ∧ v = .int .u16 a := by
  obtain ⟨a, rfl, _, _, hw⟩ := open_int Try.underlying46 hv h
  simp only [Lit.wf, Bool.and_eq_true, decide_eq_true_eq] at hw
  exact ⟨a, hw.1, hw.2, rfl⟩

theorem open26 (hv : Value.okWide Try.prog w r b0 26 v) (h : DataW.Trod enc Try.prog w base spare held 26 v d p) : ∃ (a b c : Int) (o : Bool), v = .agg #[.int .i64 a, .int .i64 b, .int .i64 c, .bool o] := by
  obtain ⟨v0, v1, v2, v3, y0, y1, y2, y3, n, rfl, _, _, h0, h1, h2, h3⟩ := Joins.open_agg4 Try.underlying26 (by kernel_rfl) cells26 hv h
  obtain ⟨a, ea, _, _⟩ := DataW.trod_int Try.underlying3 h0
  obtain ⟨b, eb, _, _⟩ := DataW.trod_int Try.underlying3 h1
  obtain ⟨c, ec, _, _⟩ := DataW.trod_int Try.underlying3 h2
  obtain ⟨o, eo, _⟩ := DataW.trod_bool Try.underlying4 h3
  simp at ea eb ec eo
  exact ⟨a, b, c, o, by rw [ea, eb, ec, eo]⟩

theorem open24 (hv : Value.okWide Try.prog w r b0 24 v) (h : DataW.Trod enc Try.prog w base spare held 24 v d p) :
    ∃ (A : Option Addr) (c : Nat) (s : Sq), StepsAt w A s ∧ s.n ≤ maxLen ∧ s.n ≤ c ∧ v = .agg #[.slice A s.n c, .int .i64 s.r] := by
  obtain ⟨v0, v1, y0, y1, n, rfl, _, _, h0, h1⟩ := Joins.open_agg2 Try.underlying24 (by kernel_rfl) cells24 hv h
  obtain ⟨r0, er, _, _⟩ := DataW.trod_int Try.underlying3 h1
  simp at er
  subst er
  rcases Go.Deep.open_slice Try.underlying22 h0 with ⟨e, _⟩ | ⟨a, len, cap, m, n', D, Pl, e, hb, hl, hm, hmm, _, hi⟩
  · simp at e
    subst e
    exact ⟨none, 0, ⟨0, fun _ => 0, fun _ => 0, fun _ => 0, r0⟩, none_steps rfl, Nat.zero_le _, Nat.le_refl _, rfl⟩
  · simp at e
    subst e
    refine ⟨some a, cap, ⟨len, fun i => intAt w (a.add (i * 3)), fun i => intAt w (a.add (i * 3 + 1)), fun i => intAt w (a.add (i * 3 + 2)), r0⟩, ?_, by dsimp only; omega, hl, rfl⟩
    intro i hlt
    have him : i < m := by
      rw [hmm]
      have : i < len := hlt
      split <;> omega
    obtain ⟨cs', hc, ht'⟩ := hi i him
    rw [cells44] at hc
    obtain ⟨_, hcl, hat⟩ := World.cells?_some hc
    obtain ⟨z0, z1, z2, n2, _, _, g0, g1, g2⟩ := Go.Deep.trod_struct3 Try.underlying44 ht'
    match cs', hcl with
    | [u0, u1, u2], _ =>
      simp [cells3] at g0 g1 g2
      obtain ⟨f, ef, _, _⟩ := DataW.trod_int Try.underlying3 g0
      obtain ⟨l, el, _, _⟩ := DataW.trod_int Try.underlying3 g1
      obtain ⟨mm, em, _, _⟩ := DataW.trod_int Try.underlying3 g2
      simp at ef el em
      subst ef el em
      have k0 := hat 0 (by omega)
      have k1 := hat 1 (by omega)
      have k2 := hat 2 (by omega)
      rw [Addr.add_add] at k0 k1 k2
      simp only [Nat.add_zero] at k0
      refine ⟨a, rfl, World.block_lt_of_cell? _ _ k0, intAt_eq k0, ?_, ?_⟩
      · rw [addr_next _ _ _ (by omega)]
        exact intAt_eq k1
      · rw [addr_next _ _ _ (by omega)]
        exact intAt_eq k2

theorem open27 (hv : Value.okWide Try.prog w r b0 27 v) (h : DataW.Trod enc Try.prog w base spare held 27 v d p) :
    ∃ (A : Option Addr) (N c : Nat) (M : Nat → Int), IntsAt w A N M ∧ N ≤ maxLen ∧ N ≤ c ∧ v = .slice A N c := by
  obtain ⟨a0, l0, c0, rfl⟩ := okWide_slice Try.underlying27 hv
  obtain ⟨fuel, hf⟩ := h
  rcases open_ints Try.underlying27 Try.underlying3 cells3 hf with ⟨e, _⟩ | ⟨a, len, cap, zs, e, hb, hl, hm, hz, _, hi, _⟩
  · simp [Value.cells] at e
    obtain ⟨rfl, rfl, rfl⟩ := e
    exact ⟨none, 0, 0, fun _ => 0, fun i hi => by omega, Nat.zero_le _, Nat.le_refl _, rfl⟩
  · simp [Value.cells] at e
    obtain ⟨rfl, rfl, rfl⟩ := e
    refine ⟨some a, l0, c0, fun i => zs.getD i 0, fun i hlt => ?_, by omega, hl, rfl⟩
    · have hc := hi i (by rw [hz]; split <;> omega)
      exact ⟨a, rfl, World.block_lt_of_cell? _ _ hc, hc⟩
end

end Go.Proofs.Ytmplcceoepkppaa
