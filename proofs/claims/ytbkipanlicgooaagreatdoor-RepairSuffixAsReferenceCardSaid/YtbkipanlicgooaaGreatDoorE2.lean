/-
  The abstract machine: calls that are known; what an operation comes to. Each theorem holds under the conditions that it names.
-/
import Derived.Test.YtbkipanlicgooaaGreatDoorE1
import Derived.Lib.ConvBytes
import Derived.Calls
import Derived.Orders
import Derived.RangeFuncRecord
import Derived.Defers
import Derived.Laws.Sem
namespace Go.Proofs.YtbkipanlicgooaaGreatDoor

/-! ### Calls that are known -/
/-- The context of a call that begins: all memory that is there stays as it is. -/
def c0 (ng : Nat) (w : World) : Ctx := ⟨fun g => if g < ng then some ⟨g, 0⟩ else none, fun b => w.heap[b]?, w.heap.size⟩
/-- The world holds what the machine takes the package's variables to be. -/
structure Glb (P : Program) (ok : FuncId → Code → Prop) (ng : Nat) (H0 : AH) (w : World) : Prop where
  nx : H0.nx = ng
  at_ : ∀ id o, H0.get id = some o → id < ng ∧ excl o = false ∧ ∃ ob, w.heap[id]? = some ob ∧ ∀ base, OR P ok ⟨(c0 ng w).μ, (c0 ng w).Φ, base⟩ ⟨id, 0⟩ o ob
/-- A call with these arguments returns this value, and leaves old memory as it was. -/
def Pure (P : Program) (ok : FuncId → Code → Prop) (ng : Nat) (H0 : AH) (f : FuncId) (ks : List V) (r : V) : Prop :=
  ∀ (w : World) (xs : Array Value), Glb P ok ng H0 w → Reps (c0 ng w) ks xs.toList → ∀ (cl : Frame) (cs : List Frame), ∃ y w',
    Steps P (lone (Frame.enter P f xs .normal) (cl :: cs) w) (lone (cl.finish y) cs w') ∧ Kp w w' ∧ (∀ b, b < w.heap.size → w'.heap[b]? = w.heap[b]?) ∧
      Rep ⟨fun _ => none, fun b => if b < w.heap.size then none else w'.heap[b]?, w.heap.size⟩ r y

section
variable {P : Program} {G : Glob} {ok : FuncId → Code → Prop} {ng : Nat} {c : Ctx} {H : AH} {w : World}

mutual
theorem mt_ok (hH : HR P ok ng c H w) {new : Bool} {c' : Ctx} (hΦ : ∀ b ob, w.heap[b]? = some ob → c'.Φ b = some ob) (hb : new = true → c'.base ≤ c.base) : ∀ (k v : V) (x : Value), mt H ng new k v = true → Rep c v x → Rep c' k x
  | .b q, v, x, h, hx => by
    cases v <;> simp only [mt] at h <;> try (cases h; done)
    simp only [beq_iff_eq] at h
    subst h
    simpa only [Rep] using hx
  | .i j q, v, x, h, hx => by
    cases v <;> simp only [mt] at h <;> try (cases h; done)
    simp only [Bool.and_eq_true, decide_eq_true_eq] at h
    obtain ⟨rfl, rfl⟩ := h
    simpa only [Rep] using hx
  | .s q, v, x, h, hx => by
    cases v <;> simp only [mt] at h <;> try (cases h; done)
    rw [sEq_iff] at h
    subst h
    simpa only [Rep] using hx
  | .p0, v, x, h, hx => by
    cases v <;> simp only [mt] at h <;> try (cases h; done)
    simpa only [Rep] using hx
  | .s0, v, x, h, hx => by
    cases v <;> simp only [mt] at h <;> try (cases h; done)
    simpa only [Rep] using hx
  | .se, v, x, h, hx => by
    cases v <;> simp only [mt] at h <;> try (cases h; done)
    simpa only [Rep] using hx
  | .m0, v, x, h, hx => by
    cases v <;> simp only [mt] at h <;> try (cases h; done)
    simpa only [Rep] using hx
  | .f0, v, x, h, hx => by
    cases v <;> simp only [mt] at h <;> try (cases h; done)
    simpa only [Rep] using hx
  | .i0, v, x, h, hx => by
    cases v <;> simp only [mt] at h <;> try (cases h; done)
    simpa only [Rep] using hx
  | .S old ks n, v, x, h, hx => by
    cases v <;> simp only [mt] at h <;> try (cases h; done)
    · rename_i id off n' k fix
      simp only [Bool.and_eq_true] at h
      obtain ⟨hn, ho, hm⟩ := h
      have hn := Nat.eq_of_beq_eq_true hn
      subst hn
      split at hm
      · rename_i cs e rw hg
        simp only [Rep] at hx ⊢
        obtain ⟨l, h1, h2, rfl⟩ := hx
        obtain ⟨C, fz, k1, k2, _⟩ := hH.cellsAt hg h1
        refine ⟨l.b, off, _, C, e, fz, rfl, h2, hΦ _ _ k1, fun h0 => ?_, mts_ok hH hΦ hb ks _ C off hm (by simpa using k2.drop (k := off))⟩
        subst h0
        simp only [Bool.false_or, Bool.and_eq_true, decide_eq_true_eq] at ho
        exact Nat.le_trans (hb ho.1) (hH.based _ _ ho.2 h1)
      · cases hm
    · rename_i old' cs n'
      simp only [Bool.and_eq_true] at h
      obtain ⟨hn, ho, hm⟩ := h
      have hn := Nat.eq_of_beq_eq_true hn
      subst hn
      simp only [Rep] at hx ⊢
      obtain ⟨b, o, k, C, e, fz, rfl, h1, h2, h3, h4⟩ := hx
      refine ⟨b, o, k, C, e, fz, rfl, h1, hΦ _ _ (hH.fro _ _ h2), fun h0 => ?_, mts_ok hH hΦ hb ks cs C o hm h4⟩
      subst h0
      simp only [Bool.false_or, Bool.and_eq_true, Bool.not_eq_true'] at ho
      exact Nat.le_trans (hb ho.1) (h3 ho.2)
  | .f g a b, v, x, h, hx => by
    cases v <;> simp only [mt] at h <;> try (cases h; done)
    simp only [Bool.and_eq_true] at h
    obtain ⟨hg, hla, hlb, hma, hmb⟩ := h
    have hg := Nat.eq_of_beq_eq_true hg
    subst hg
    simp only [Rep] at hx ⊢
    obtain ⟨A, K, rfl, h1, h2⟩ := hx
    exact ⟨A, K, rfl, mtl_ok hH hΦ hb a _ _ (Nat.eq_of_beq_eq_true hla) hma h1, mtl_ok hH hΦ hb b _ _ (Nat.eq_of_beq_eq_true hlb) hmb h2⟩
  | .ifc t k, v, x, h, hx => by
    cases v <;> simp only [mt] at h <;> try (cases h; done)
    simp only [Bool.and_eq_true] at h
    have ht := Nat.eq_of_beq_eq_true h.1
    subst ht
    simp only [Rep] at hx ⊢
    obtain ⟨z, rfl, h1⟩ := hx
    exact ⟨z, rfl, mt_ok hH hΦ hb k _ z h.2 h1⟩
  | .agg l, v, x, h, hx => by
    cases v <;> simp only [mt] at h <;> try (cases h; done)
    simp only [Bool.and_eq_true] at h
    simp only [Rep] at hx ⊢
    obtain ⟨A, rfl, h1⟩ := hx
    exact ⟨A, rfl, mtl_ok hH hΦ hb l _ _ (Nat.eq_of_beq_eq_true h.1) h.2 h1⟩
  | .tup l, v, x, h, hx => by
    cases v <;> simp only [mt] at h <;> try (cases h; done)
    simp only [Bool.and_eq_true] at h
    simp only [Rep] at hx ⊢
    obtain ⟨A, rfl, h1⟩ := hx
    exact ⟨A, rfl, mtl_ok hH hΦ hb l _ _ (Nat.eq_of_beq_eq_true h.1) h.2 h1⟩
  | .p _ _, v, x, h, hx => by simp [mt] at h
  | .dp _ _ _, v, x, h, hx => by simp [mt] at h
  | .sl _ _ _ _ _, v, x, h, hx => by simp [mt] at h
  | .m _, v, x, h, hx => by simp [mt] at h
  | .y _, v, x, h, hx => by simp [mt] at h
theorem mts_ok (hH : HR P ok ng c H w) {new : Bool} {c' : Ctx} (hΦ : ∀ b ob, w.heap[b]? = some ob → c'.Φ b = some ob) (hb : new = true → c'.base ≤ c.base) : ∀ (ks l : List V) (C : Array Value) (o : Nat), mts H ng new ks l = true → RepC c l C o → RepC c' ks C o
  | [], l, C, o, h, hl => by simp only [RepC]
  | k :: ks, l, C, o, h, hl => by
    cases l with
    | nil => simp [mts] at h
    | cons v l =>
      simp only [mts, Bool.and_eq_true] at h
      simp only [RepC] at hl ⊢
      obtain ⟨y, h1, h2, h3⟩ := hl
      exact ⟨y, h1, mt_ok hH hΦ hb k v y h.1 h2, mts_ok hH hΦ hb ks l C (o + 1) h.2 h3⟩
theorem mtl_ok (hH : HR P ok ng c H w) {new : Bool} {c' : Ctx} (hΦ : ∀ b ob, w.heap[b]? = some ob → c'.Φ b = some ob) (hb : new = true → c'.base ≤ c.base) : ∀ (ks l : List V) (ys : List Value), ks.length = l.length → mts H ng new ks l = true → Reps c l ys → Reps c' ks ys
  | [], l, ys, hn, h, hl => by
    have : l = [] := List.eq_nil_of_length_eq_zero hn.symm
    subst this
    rw [Reps.nil] at hl ⊢
    exact hl
  | k :: ks, l, ys, hn, h, hl => by
    cases l with
    | nil => simp [mts] at h
    | cons v l =>
      simp only [mts, Bool.and_eq_true] at h
      obtain ⟨y, ys, rfl, h2, h3⟩ := Reps.cons.1 hl
      exact Reps.cons'.2 ⟨mt_ok hH hΦ hb k v y h.1 h2, mtl_ok hH hΦ hb ks l ys (by simpa using hn) h.2 h3⟩
end
theorem known_ok (hH : HR P ok ng c H w) {args : List V} {xs : List Value} (hx : Reps c args xs) : ∀ {l : List (List V × V)} {r : V}, known H ng args l = some r → ∃ ks, (ks, r) ∈ l ∧ Reps (c0 ng w) ks xs
  | [], r, h => by simp [known] at h
  | (ks, r') :: l, r, h => by
    simp only [known] at h
    split at h
    · rename_i hm
      cases h
      simp only [Bool.and_eq_true] at hm
      exact ⟨ks, by simp, mtl_ok hH (new := false) (c' := c0 ng w) (fun _ _ h => h) nofun ks args xs (Nat.eq_of_beq_eq_true hm.1) hm.2 hx⟩
    · obtain ⟨ks, h1, h2⟩ := known_ok hH hx h
      exact ⟨ks, by simp [h1], h2⟩
end

/-! ### What must hold of the tables -/
def ExtOk (P : Program) (f : FuncId) : Ext → Prop
  | .same => ∀ v w, (callFunc f #[v]).run P w = .ok (.value v) w
  | .noZero e => P.cellsOf e = 1 ∧ ∀ (n : Int) (w : World), 0 ≤ n → n ≤ 2 ^ 20 → ∃ w' C, (callFunc f #[.int .i64 n]).run P w = .ok (.value (.slice (some ⟨w.heap.size, 0, none⟩) n.toNat C.size)) w' ∧
      w'.heap = w.heap.push (.cells C e (0, 0)) ∧ n.toNat ≤ C.size ∧ Kp w w'
structure FnOk (P : Program) (ok : FuncId → Code → Prop) (f : FuncId) (af : AFn) : Prop where
  get : P.funcs[f]? = some af.fn
  enter : af.ext = none → ∀ args w, (callFunc f args).run P w = .ok (.enter f args) w
  body : af.ext = none → ∀ c, af.fn.body = some c → ok f c
  ext : ∀ x, af.ext = some x → ExtOk P f x
structure GOk (P : Program) (G : Glob) (ok : FuncId → Code → Prop) (H0 : AH) : Prop where
  tab : TabOk P G
  fn : ∀ f af, G.F.get f = some af → FnOk P ok f af
  known : ∀ f t n l ks r, G.M.get f = some t → t.get n = some l → (ks, r) ∈ l → Pure P ok G.ng H0 f ks r
  mixed : P.follows .mixedOrders = true

section
variable {P : Program} {G : Glob} {ok : FuncId → Code → Prop} {c : Ctx} {H H0 : AH} {w : World}

def isV (n : Next) (y : Value) : Prop := n = .value y ∨ (n = .skip ∧ y = undef)
/-- What an operation comes to. -/
def Goes (P : Program) (G : Glob) (ok : FuncId → Code → Prop) (H0 : AH) (c : Ctx) (H : AH) (w : World) (s : Sem Next) : R1 → Prop
  | .val v => ∃ y, s.run P w = .ok (.value y) w ∧ Rep c v y
  | .new o mk => ∃ y w' ob cap, s.run P w = .ok (.value y) w' ∧ w'.heap = w.heap.push ob ∧ Kp w w' ∧
      ∀ id c', Le c c' → c'.μ id = some ⟨w.heap.size, cap⟩ → OR P ok c' ⟨w.heap.size, cap⟩ o ob ∧ Rep c' (mk id) y
  | .eff v H' => ∃ n y w' c', s.run P w = .ok n w' ∧ isV n y ∧ On c H c' ∧ HR P ok G.ng c' H' w' ∧ Kp w w' ∧ Rep c' v y ∧ H.nx ≤ H'.nx
  | .call f args => ∃ xs : Array Value, s.run P w = .ok (.enter f xs) w ∧ Reps c args xs.toList
  | .know f _ r => ∃ (xs : Array Value) (ks : List V), s.run P w = .ok (.enter f xs) w ∧ Reps (c0 G.ng w) ks xs.toList ∧ Pure P ok G.ng H0 f ks r
  | .round id args => ∀ a, H.get id = some (.loop a) → ∃ (l : Loc) (r : Loop) (xs : Array Value), c.μ id = some l ∧ LoopR ok c a r ∧ Reps c args xs.toList ∧
      (a.params.length = args.length → s.run P w = .ok (.round l.b r.fn ((r.params.zip xs).foldl (fun tmps (t, a) => tmps.setIfInBounds t a) r.tmps) r.assign r.body) w)
  | .dfr d => ∃ d', s.run P w = .ok (.defer d') w ∧ DfR c d d'
  | .rec_ => s.run P w = .ok .recover w
  | .bad => True

theorem goes_val {s : Sem Value} {o : Option V} (h : ∀ v, o = some v → ∃ z, s.run P w = .ok z w ∧ Rep c v z) : Goes P G ok H0 c H w (do pure (.value (← s))) (.ofV o) := by
  cases o with
  | none => trivial
  | some v =>
    obtain ⟨z, h1, h2⟩ := h v rfl
    exact ⟨z, by simp [h1], h2⟩
theorem goes_eff {s : Sem Value} {o : Option (V × AH)} (h : ∀ v H', o = some (v, H') → Eff P ok G.ng c H w s v H') : Goes P G ok H0 c H w (do pure (.value (← s))) (.ofE o) := by
  cases o with
  | none => trivial
  | some v =>
    obtain ⟨v, H'⟩ := v
    obtain ⟨y, w', c', h1, h2, h3, h4, h5, h6⟩ := h v H' rfl
    exact ⟨.value y, y, w', c', by simp [h1], .inl rfl, h2, h3, h4, h5, h6⟩
theorem goes_unit {s : Sem Unit} {o : Option (V × AH)} (h : ∀ v H', o = some (v, H') → ∃ w', s.run P w = .ok () w' ∧ HR P ok G.ng c H' w' ∧ Kp w w' ∧ v = uV ∧ H'.nx = H.nx) :
    Goes P G ok H0 c H w (do s; pure .skip) (.ofE o) := by
  cases o with
  | none => trivial
  | some v =>
    obtain ⟨v, H'⟩ := v
    obtain ⟨w', h1, h2, h3, rfl, h4⟩ := h v H' rfl
    refine ⟨.skip, undef, w', c, by simp [h1], .inr ⟨rfl, rfl⟩, On.refl c H, h2, h3, ?_, by omega⟩
    simp only [Rep]
    exact ⟨#[], rfl, Reps.nil.2 rfl⟩
theorem goes_new {s : Sem Value} {o : AO} {mk : Nat → V} (h : New P ok c w s o mk) : Goes P G ok H0 c H w (do pure (.value (← s))) (.new o mk) := by
  obtain ⟨y, w', ob, cap, h1, h2, h3, h4⟩ := h
  exact ⟨y, w', ob, cap, by simp [h1], h2, h3, h4⟩
theorem goes_newO {s : Sem Value} {o : Option (AO × (Nat → V))} (h : ∀ a mk, o = some (a, mk) → New P ok c w s a mk) : Goes P G ok H0 c H w (do pure (.value (← s))) (.ofN o) := by
  cases o with
  | none => trivial
  | some v =>
    obtain ⟨a, mk⟩ := v
    exact goes_new (h a mk rfl)
theorem goes_bad {s : Sem Next} : Goes P G ok H0 c H w s .bad := trivial
theorem goes_o1 {s : Sem Next} {o : Option V} {k : V → R1} (h : ∀ v, o = some v → Goes P G ok H0 c H w s (k v)) : Goes P G ok H0 c H w s (o1 o k) := by
  cases o with
  | none => trivial
  | some v => exact h v rfl

/-! ### Operands -/
def RhoR (c : Ctx) (ρ : Rho) (ρc : Operand → Value) (l : List Operand) : Prop := ∀ x ∈ l, ∀ v, ρ x = some v → Rep c v (ρc x)
theorem evL_ok {ρ : Rho} {ρc : Operand → Value} : ∀ {l : List Operand} {vs : List V}, RhoR c ρ ρc l → evL ρ l = some vs → Reps c vs (l.map ρc)
  | [], vs, _, h => by simp only [evL, Option.some.injEq] at h; subst h; exact Reps.nil.2 rfl
  | x :: l, vs, hr, h => by
    simp only [evL] at h
    split at h
    · rename_i v r hv hl
      cases h
      exact Reps.cons'.2 ⟨hr x (by simp) v hv, evL_ok (fun y hy => hr y (by simp [hy])) hl⟩
    · cases h
theorem evP_ok {ρ : Rho} {ρc : Operand → Value} : ∀ {l : List (Nat × Operand)} {vs : List (Nat × V)}, RhoR c ρ ρc (l.map (·.2)) → evP ρ l = some vs → PartsR c vs (l.map fun (i, x) => (i, ρc x))
  | [], vs, _, h => by simp only [evP, Option.some.injEq] at h; subst h; simp only [PartsR, List.map_nil]
  | (i, x) :: l, vs, hr, h => by
    simp only [evP] at h
    split at h
    · rename_i v r hv hl
      cases h
      simp only [PartsR, List.map_cons]
      exact ⟨ρc x, _, rfl, hr x (by simp) v hv, evP_ok (fun y hy => hr y (by simp at hy ⊢; exact .inr hy)) hl⟩
    · cases h
theorem ofO_ok {ρ : Rho} {ρc : Operand → Value} {o : Option Operand} {r : Option V} (hr : RhoR c ρ ρc o.toList) (h : ofO ρ o = some r) : ORep c r (o.map ρc) := by
  cases o with
  | none => simp only [ofO, Option.some.injEq] at h; subst h; simp [ORep]
  | some x =>
    simp only [ofO] at h
    split at h
    · rename_i v hv
      cases h
      simp only [ORep, Option.map_some]
      exact ⟨_, rfl, hr x (by simp) v hv⟩
    · cases h
end
end Go.Proofs.YtbkipanlicgooaaGreatDoor
namespace Go.Proofs.YtbkipanlicgooaaGreatDoor
section
variable {P : Program} {G : Glob} {ok : FuncId → Code → Prop} {c : Ctx} {H H0 : AH} {w : World}

theorem builtin_ok {b : Builtin} {ats : Array TypeId} {ty : TypeId} {cs : Array Bool} {args : List V} {xs : List Value} (hG : GOk P G ok H0) (hH : HR P ok G.ng c H w) (hx : Reps c args xs) :
    Goes P G ok H0 c H w (builtin b ats ty cs xs.toArray) (armBuiltin G H b ats.toList args) := by
  have ha0 : ∀ {t : TypeId} {ts : List TypeId}, ats.toList = t :: ts → ats[0]? = some t := by
    intro t ts h
    rw [← Array.getElem?_toList, h]
    rfl
  unfold armBuiltin
  split
  · obtain ⟨X, ys, rfl, h1, h2⟩ := Reps.cons.1 hx
    rw [Reps.nil] at h2
    subst h2
    split
    · rename_i t ts hts
      exact goes_val fun v hv => armLen_ok hG.tab hH hv (ha0 hts) h1
    · exact goes_bad
  · obtain ⟨X, ys, rfl, h1, h2⟩ := Reps.cons.1 hx
    rw [Reps.nil] at h2
    subst h2
    split
    · rename_i t ts hts
      exact goes_val fun v hv => armCap_ok hG.tab hv (ha0 hts) h1
    · exact goes_bad
  · obtain ⟨X, ys, rfl, h1, h2⟩ := Reps.cons.1 hx
    obtain ⟨Y, ys, rfl, h3, h4⟩ := Reps.cons.1 h2
    rw [Reps.nil] at h4
    subst h4
    refine goes_eff fun v H' hv => ?_
    have hts : ∃ t t2, ats.toList = [t, t2] := by
      unfold armAppend at hv
      split at hv
      · rename_i t t2 he
        exact ⟨t, t2, he⟩
      · cases hv
    obtain ⟨t, t2, hts⟩ := hts
    have : ats = #[t, t2] := by apply Array.toList_inj.1; exact hts
    subst this
    exact armAppend_ok hG.tab hH hv h1 h3
  · obtain ⟨X, ys, rfl, h1, h2⟩ := Reps.cons.1 hx
    obtain ⟨Y, ys, rfl, h3, h4⟩ := Reps.cons.1 h2
    rw [Reps.nil] at h4
    subst h4
    split
    · rename_i t ts hts
      exact goes_eff fun v H' hv => armCopy_ok hG.tab hH hv (ha0 hts) h1 h3
    · exact goes_bad
  · obtain ⟨X, ys, rfl, h1, h2⟩ := Reps.cons.1 hx
    have := h1.int
    subst this
    refine goes_val fun v hv => ?_
    obtain ⟨z, q1, q2⟩ := minmax_ok (P := P) (w := w) false hv h2
    exact ⟨z, by simpa [Builtin.min_] using q1, q2⟩
  · obtain ⟨X, ys, rfl, h1, h2⟩ := Reps.cons.1 hx
    have := h1.int
    subst this
    refine goes_val fun v hv => ?_
    obtain ⟨z, q1, q2⟩ := minmax_ok (P := P) (w := w) true hv h2
    exact ⟨z, by simpa [Builtin.max_] using q1, q2⟩
  · obtain ⟨X, ys, rfl, h1, h2⟩ := Reps.cons.1 hx
    rw [Reps.nil] at h2
    subst h2
    exact goes_val fun v hv => armUData_ok hH hv h1
  · obtain ⟨X, ys, rfl, h1, h2⟩ := Reps.cons.1 hx
    obtain ⟨Y, ys, rfl, h3, h4⟩ := Reps.cons.1 h2
    rw [Reps.nil] at h4
    subst h4
    split
    · rename_i t ts hts
      refine goes_eff fun v H' hv => ?_
      exact armUString_ok (t := t) hG.tab hH hv rfl h1 h3 (by rw [hts]; rfl)
    · exact goes_bad
  · rw [Reps.nil] at hx
    subst hx
    rfl
  · exact goes_bad
theorem call_ok {f : V} {F : Value} {args : List V} {xs : List Value} (hG : GOk P G ok H0) (hH : HR P ok G.ng c H w) (hf : Rep c f F) (hx : Reps c args xs) :
    Goes P G ok H0 c H w (do let d ← Deferred.ofValue F xs.toArray; invoke d.target d.args) (armCall G H f args) := by
  unfold armCall
  split
  · rename_i g first cap
    simp only [Rep] at hf
    obtain ⟨A, K, rfl, hA, hK⟩ := hf
    have hall : Reps c (first ++ (args ++ cap)) (A ++ xs.toArray ++ K).toList := by
      rw [Array.toList_append, Array.toList_append, List.append_assoc]
      exact hA.append (hx.append hK)
    have hrun : (do let d ← Deferred.ofValue (.func (.func g) A K) xs.toArray; invoke d.target d.args : Sem Next) = callFunc g (A ++ xs.toArray ++ K) := rfl
    rw [hrun]
    split
    · rename_i af haf
      have hF := hG.fn g af haf
      split
      · rename_i x hext
        have hX := hF.ext x hext
        unfold extA
        split
        · rename_i v heq
          rw [heq] at hall
          obtain ⟨y, ys, hl, h1, h2⟩ := Reps.cons.1 hall
          rw [Reps.nil] at h2
          subst h2
          have : A ++ xs.toArray ++ K = #[y] := by apply Array.toList_inj.1; rw [hl]
          rw [this]
          exact ⟨y, hX y w, h1⟩
        · rename_i e n heq
          split
          · rename_i hc
            simp only [Bool.and_eq_true, decide_eq_true_eq] at hc
            rw [heq] at hall
            obtain ⟨y, ys, hl, h1, h2⟩ := Reps.cons.1 hall
            rw [Reps.nil] at h2
            subst h2
            have := h1.int
            subst this
            have : A ++ xs.toArray ++ K = #[.int .i64 n] := by apply Array.toList_inj.1; rw [hl]
            rw [this]
            obtain ⟨hX1, hX⟩ := hX
            obtain ⟨w', C, q1, q2, q3, q4⟩ := hX n w hc.1 hc.2
            have q2' : w'.heap = (w.alloc (.cells C e (0, 0))).heap := q2
            refine ⟨_, _, w', c.up H.nx ⟨w.heap.size, C.size⟩, q1, .inl rfl, On.up c hH.fresh _, ?_, q4, ?_, Nat.le_succ _⟩
            · exact (hH.push (o := .cells [] e true) (ob := .cells C e (0, 0)) (cap := C.size) ⟨C, (0, 0), rfl, by simp only [RepC], fun _ => ⟨rfl, by rw [hX1]; simp⟩⟩).world q2'
            · simp only [Rep]
              exact ⟨_, Ctx.up_same _ _ _, by simp only [Bool.false_eq_true, if_false]; omega, by simp⟩
          · exact goes_bad
        · exact goes_bad
      · rename_i hext
        have henter := hF.enter hext (A ++ xs.toArray ++ K) w
        split
        · exact ⟨_, henter, hall⟩
        · rename_i t ht
          split
          · exact ⟨_, henter, hall⟩
          · rename_i l hl
            split
            · rename_i r hr
              obtain ⟨ks, k1, k2⟩ := known_ok hH hall hr
              exact ⟨_, ks, henter, k2, hG.known g t _ l ks r ht hl k1⟩
            · exact ⟨_, henter, hall⟩
    · exact goes_bad
  · rename_i id
    simp only [Rep] at hf
    obtain ⟨l, h1, rfl⟩ := hf
    intro a ha
    obtain ⟨ob, h2, r, rfl, h3⟩ := hH.at_ _ _ _ ha h1
    refine ⟨l, r, xs.toArray, h1, h3, hx, fun hn => ?_⟩
    show (Instr.yield l.b (#[] ++ xs.toArray)).run P w = _
    unfold Instr.yield Instr.getLoop
    have hsz : ¬ (xs.toArray.size ≠ r.params.size) := by
      rw [h3.params]
      have := hx.length
      simp
      omega
    simp only [Array.empty_append, Sem.run_bind, run_getO h2 rfl, Result.andThen_ok, Sem.run_pure]
    rw [if_neg hsz]
    rfl
  · exact goes_bad
theorem map_toList {ρc : Operand → Value} (a : Array Operand) : (a.map ρc).toList = a.toList.map ρc := by simp
theorem convBytes_ok {s t : TypeId} {x : V} {X : Value} {o : AO} {mk : Nat → V} (hG : TabOk P G) (hH : HR P ok G.ng c H w) (h : convBytes G s t x = some (o, mk)) (hx : Rep c x X) : Eff P ok G.ng c H w (convert s t X) (mk H.nx) (H.push o) := by
  unfold convBytes at h
  split at h
  · rename_i a b l ha hb
    obtain ⟨d, hd, hk, _⟩ := (hG.ty _ _ ha).und
    obtain ⟨d', hd', hk', _⟩ := (hG.ty _ _ hb).und
    split at h
    · rename_i e hbk
      split at h
      · rename_i te hte
        obtain ⟨de, hde, hke, _⟩ := (hG.ty _ _ hte).und
        split at h
        · rename_i hki
          rw [hbk] at hk'
          obtain ⟨rfl, _⟩ := hk'.slice
          rw [hki] at hke
          have := hke.int
          subst this
          cases h
          simp only [Rep] at hx
          obtain ⟨hl, rfl⟩ := hx
          have hsz : (str l).size = l.length := by simp [str, ByteArray.size]
          have hheap : (Lib.bytesWorld w e (str l)).heap = (w.alloc (.cells (Lib.bytesCells w e (str l)) e ((Lib.bytesCells w e (str l)).size, (Lib.bytesCells w e (str l)).size + 1))).heap := by
            apply Array.ext_getElem?
            intro j
            by_cases hj : j < w.heap.size
            · rw [Lib.bytesWorld_at_old w e _ j hj]
              show _ = (w.heap.push _)[j]?
              rw [Array.getElem?_push_lt hj, Array.getElem?_eq_getElem hj]
            · by_cases hj2 : j = w.heap.size
              · subst hj2
                rw [Lib.bytesWorld_at_new, alloc_new]
              · have h1 : (Lib.bytesWorld w e (str l)).heap.size ≤ j := by rw [Lib.bytesWorld_size]; omega
                have h2 : (w.alloc (.cells (Lib.bytesCells w e (str l)) e ((Lib.bytesCells w e (str l)).size, (Lib.bytesCells w e (str l)).size + 1))).heap.size ≤ j := by simp only [World.size_alloc]; omega
                rw [Array.getElem?_eq_none h1, Array.getElem?_eq_none h2]
          refine ⟨_, Lib.bytesWorld w e (str l), c.up H.nx ⟨w.heap.size, grownCap w (str l).size 0 e⟩, Lib.run_convert_string_bytes (P := P) w s t e (str l) hd hd' hde, On.up c hH.fresh _, ?_, ⟨rfl, rfl, rfl, by rw [Lib.bytesWorld_size]; omega⟩, ?_, Nat.le_succ _⟩
          · refine (hH.push (o := .cells (byteV l) e false) (ob := .cells (Lib.bytesCells w e (str l)) e ((Lib.bytesCells w e (str l)).size, (Lib.bytesCells w e (str l)).size + 1)) (cap := grownCap w (str l).size 0 e) ⟨_, _, rfl, ?_, nofun⟩).world hheap
            refine RepC.of (byteV_ok hl) fun j y hj => ?_
            rw [Nat.zero_add]
            have hlt : j < l.length := by
              have := (List.getElem?_eq_some_iff.1 hj).1
              simpa using this
            unfold Lib.bytesCells
            rw [Array.getElem?_append_left (by simpa [str] using hlt)]
            rw [← hj]
            simp [str]
          · simp only [Rep]
            refine ⟨_, Ctx.up_same _ _ _, ?_, ?_⟩
            · have := grownCap_ge w (str l).size 0 e
              simp only [Bool.false_eq_true, if_false]
              omega
            · simp [hsz]
        · cases h
      · cases h
    · cases h
  · cases h
/-- Each operation comes to what the machine says. -/
theorem op1_ok {o : Oper} {ρ : Rho} {ρc : Operand → Value} (hG : GOk P G ok H0) (hH : HR P ok G.ng c H w) (hr : RhoR c ρ ρc o.op.operands.toList) : Goes P G ok H0 c H w (execOp ρc o) (op1 G H ρ o.op) := by
  obtain ⟨dst, op, type, pos, after, guard⟩ := o
  have hin : ∀ {x : Operand} {v : V}, x ∈ op.operands → ρ x = some v → Rep c v (ρc x) := fun {x v} hx hv => hr x (by simpa using hx) v hv
  cases op <;> simp only [Op.operands] at hin <;> first | exact goes_bad | skip
  case move x =>
    show Goes P G ok H0 c H w (pure (.value (ρc x))) (.ofV (ρ x))
    cases hv : ρ x with
    | none => trivial
    | some v => exact ⟨_, rfl, hin (by simp) hv⟩
  case assign x =>
    show Goes P G ok H0 c H w (pure (.value (ρc x))) (.ofV (ρ x))
    cases hv : ρ x with
    | none => trivial
    | some v => exact ⟨_, rfl, hin (by simp) hv⟩
  case pick a b d =>
    show Goes P G ok H0 c H w (do pure (.value (if ← asBool (ρc a) then ρc b else ρc d))) (xPick ρ a b d)
    unfold xPick
    split
    · rename_i ha
      have := (hin (x := a) (by simp) ha).bool
      cases hv : ρ b with
      | none => trivial
      | some v => exact ⟨_, by simp [asBool, this], hin (by simp) hv⟩
    · rename_i ha
      have := (hin (x := a) (by simp) ha).bool
      cases hv : ρ d with
      | none => trivial
      | some v => exact ⟨_, by simp [asBool, this], hin (by simp) hv⟩
    · trivial
  case alloc e =>
    show Goes P G ok H0 c H w (do pure (.value (← Instr.alloc e true (.tuple #[])))) (xAlloc G e)
    unfold xAlloc
    split
    · rename_i ti hti
      exact goes_new (xAlloc_ok hG.tab hti)
    · trivial
  case box e x =>
    show Goes P G ok H0 c H w (do pure (.value (← Instr.box e (ρc x)))) (xBox ρ e x)
    unfold xBox
    split
    · rename_i v hv
      split
      · exact goes_new (xBox_ok (hin (by simp) hv))
      · trivial
    · trivial
  case build t ps =>
    show Goes P G ok H0 c H w (do pure (.value (← Instr.build t (ps.map fun (i, x) => (i, ρc x))))) (match evP ρ ps.toList with | some l => .ofV (armBuild G t l) | none => .bad)
    split
    · rename_i l hl
      refine goes_val fun v hv => armBuild_ok hG.tab hv ?_
      rw [Array.toList_map]
      exact evP_ok (fun x hx v hv => hin (by simpa using hx) hv) hl
    · trivial
  case buildSlice t n ps =>
    show Goes P G ok H0 c H w (do pure (.value (← Instr.buildSlice t n (ps.map fun (i, x) => (i, ρc x))))) (match evP ρ ps.toList with | some l => .ofN (armBuildSlice G t n l) | none => .bad)
    split
    · rename_i l hl
      refine goes_newO fun a mk hv => armBuildSlice_ok hG.tab hv ?_
      rw [Array.toList_map]
      exact evP_ok (fun x hx v hv => hin (by simpa using hx) hv) hl
    · trivial
  case insert t m k x =>
    exact goes_o1 fun vm hm => goes_o1 fun vk hk => goes_o1 fun vx hx => goes_unit fun v H' hv => armUpdate_ok hG.tab hH hv (hin (by simp) hm) (hin (by simp) hk) (hin (by simp) hx)
  case load t a =>
    exact goes_o1 fun va ha => goes_val fun v hv => armLoad_ok hG.tab hH hv (hin (by simp) ha)
  case store t a x =>
    exact goes_o1 fun va ha => goes_o1 fun vx hx => goes_unit fun v H' hv => armStore_ok hG.tab hH hv (hin (by simp) ha) (hin (by simp) hx)
  case nilCheck x =>
    show Goes P G ok H0 c H w _ (xNil ρ x)
    unfold xNil
    split
    · rename_i id o hv
      have hx := hin (x := x) (by simp) hv
      have hx' := hx
      simp only [Rep] at hx
      obtain ⟨l, h1, h2⟩ := hx
      refine ⟨ρc x, ?_, hx'⟩
      simp only [execOp, h2]
      rfl
    · rename_i old cs o hv
      have hx := hin (x := x) (by simp) hv
      have hx' := hx
      simp only [Rep] at hx
      obtain ⟨_, _, _, _, _, h2, _⟩ := hx
      refine ⟨ρc x, ?_, hx'⟩
      simp only [execOp, h2]
      rfl
    · trivial
  case binOp bop t x y yt =>
    exact goes_o1 fun vx hx => goes_o1 fun vy hy => goes_val fun v hv => armBin_ok hG.tab hv (hin (by simp) hx) (hin (by simp) hy) (fun h => by
      simp only [Bool.or_eq_true] at h
      exact h)
  case unOp uop t x =>
    exact goes_o1 fun vx hx => goes_val fun v hv => armUn_ok hv (hin (by simp) hx)
  case convert s d x =>
    refine goes_o1 fun vx hx => ?_
    show Goes P G ok H0 c H w (do pure (.value (← convert s d (ρc x)))) (xConv G H s d vx)
    unfold xConv
    split
    · rename_i o mk hb
      exact goes_eff (o := some (mk H.nx, H.push o)) fun v H' hv => by
        cases hv
        exact convBytes_ok hG.tab hH hb (hin (by simp) hx)
    · exact goes_val fun v hv => armConvert_ok hG.tab hH hv (hin (by simp) hx)
  case makeInterface t x =>
    exact goes_o1 fun vx hx => goes_val fun v hv => armIface_ok hG.tab hv (hin (by simp) hx)
  case makeFunc fn a b =>
    show Goes P G ok H0 c H w (do pure (.value (← Instr.makeFunc fn (a.map ρc) (b.map ρc)))) (xFunc ρ fn a b)
    unfold xFunc
    split
    · rename_i f
      split
      · rename_i x y hx hy
        refine ⟨_, rfl, ?_⟩
        simp only [Rep]
        refine ⟨_, _, rfl, ?_, ?_⟩
        · rw [map_toList]
          exact evL_ok (fun z hz v hv => hin (by simp; exact .inl (by simpa using hz)) hv) hx
        · rw [map_toList]
          exact evL_ok (fun z hz v hv => hin (by simp; exact .inr (by simpa using hz)) hv) hy
      · trivial
    · trivial
  case makeMap t r =>
    cases r with
    | none => exact goes_new makeMap_ok
    | some x => trivial
  case makeSlice t l k =>
    exact goes_o1 fun vl hl => goes_o1 fun vk hk => goes_newO fun a mk hv => armMakeSlice_ok hG.tab hv (hin (by simp) hl) (hin (by simp) hk)
  case slice t x lo hi mx =>
    cases mx with
    | some m => trivial
    | none =>
      refine goes_o1 fun vx hx => ?_
      split
      · rename_i lo' hi' hlo hhi
        exact goes_val fun v hv => armSlice_ok hG.tab hv (hin (by simp) hx) (ofO_ok (fun z hz v hv => hin (by simp at hz ⊢; simp [hz]) hv) hlo) (ofO_ok (fun z hz v hv => hin (by simp at hz ⊢; simp [hz]) hv) hhi)
      · trivial
  case fieldAddr t x f =>
    exact goes_o1 fun vx hx => goes_val fun v hv => armFieldAddr_ok hG.tab hv (hin (by simp) hx)
  case field t x f =>
    exact goes_o1 fun vx hx => goes_val fun v hv => armField_ok hG.tab hv (hin (by simp) hx)
  case indexAddr t x i =>
    exact goes_o1 fun vx hx => goes_o1 fun vi hi => goes_val fun v hv => armIndexAddr_ok hG.tab hv (hin (by simp) hx) (hin (by simp) hi)
  case index t x i =>
    exact goes_o1 fun vx hx => goes_o1 fun vi hi => goes_val fun v hv => armIndex_ok hG.tab hv (hin (by simp) hx) (hin (by simp) hi)
  case lookup t x k o =>
    exact goes_o1 fun vx hx => goes_o1 fun vk hk => goes_val fun v hv => armLookup_ok hG.tab hH hv (hin (by simp) hx) (hin (by simp) hk)
  case mapUpdate t m k x =>
    exact goes_o1 fun vm hm => goes_o1 fun vk hk => goes_o1 fun vx hx => goes_unit fun v H' hv => armUpdate_ok hG.tab hH hv (hin (by simp) hm) (hin (by simp) hk) (hin (by simp) hx)
  case mapEntry t m k =>
    exact goes_o1 fun vm hm => goes_o1 fun vk hk => goes_eff fun v H' hv => armMapEntry_ok hG.tab hH hv (hin (by simp) hm) (hin (by simp) hk)
  case entryStore t m s x =>
    exact goes_o1 fun vm hm => goes_o1 fun vs hs => goes_o1 fun vx hx => goes_unit fun v H' hv => armEntryStore_ok hH hv (hin (by simp) hm) (hin (by simp) hs) (hin (by simp) hx)
  case range t x =>
    exact goes_o1 fun vx hx => goes_newO fun a mk hv => armRange_ok hG.tab hH hv (hin (by simp) hx)
  case next i s =>
    exact goes_o1 fun vi hi => goes_eff fun v H' hv => armNext_ok hH hv (hin (by simp) hi)
  case entry i =>
    exact goes_o1 fun vi hi => goes_val fun v hv => armEntry_ok hH hv (hin (by simp) hi)
  case typeAssert x xt t o =>
    exact goes_o1 fun vx hx => goes_val fun v hv => armAssert_ok hG.tab hv (hin (by simp) hx)
  case extract t n =>
    exact goes_o1 fun vx hx => goes_val fun v hv => armExtract_ok hv (hin (by simp) hx)
  case call cl =>
    show Goes P G ok H0 c H w (do let d ← resolve ρc cl type; invoke d.target d.args) (xCall G H ρ cl)
    obtain ⟨callee, args, ats⟩ := cl
    unfold xCall
    split
    · rename_i as has
      have hargs : Reps c as (args.toList.map ρc) := evL_ok (fun z hz v hv => hin (by simp [Call.operands]; exact .inr (by simpa using hz)) hv) has
      have hmap : args.map ρc = (args.toList.map ρc).toArray := by apply Array.toList_inj.1; simp
      cases callee with
      | value f =>
        simp only
        split
        · rename_i v hv
          have := call_ok (w := w) (H := H) hG hH (hin (x := f) (by simp [Call.operands]) hv) hargs
          unfold resolve
          simp only
          rw [hmap]
          exact this
        · trivial
      | builtin b =>
        have := builtin_ok (w := w) (H := H) (b := b) (ats := ats) (ty := type) (cs := args.map fun | .const _ => true | _ => false) hG hH hargs
        unfold resolve
        simp only
        rw [hmap]
        exact this
      | invoke r m => trivial
    · trivial
  case defer cl =>
    show Goes P G ok H0 c H w (do pure (.defer (← resolve ρc cl type))) (xDefer ρ cl)
    obtain ⟨callee, args, ats⟩ := cl
    unfold xDefer
    split
    · rename_i as has
      have hargs : Reps c as (args.toList.map ρc) := evL_ok (fun z hz v hv => hin (by simp [Call.operands]; exact .inr (by simpa using hz)) hv) has
      cases callee with
      | value f =>
        simp only
        split
        · rename_i g a b hv
          have hf := hin (x := f) (by simp [Call.operands]) hv
          simp only [Rep] at hf
          obtain ⟨A, K, hfe, hA, hK⟩ := hf
          refine ⟨{ target := .fn (.func g) K, args := A ++ args.map ρc }, ?_, A, K, args.map ρc, hA, hK, by rw [map_toList]; exact hargs, rfl⟩
          unfold resolve
          simp only [hfe, Deferred.ofValue]
          rfl
        · trivial
      | builtin b => trivial
      | invoke r m => trivial
    · trivial
end
end Go.Proofs.YtbkipanlicgooaaGreatDoor
namespace Go.Proofs.YtbkipanlicgooaaGreatDoor
section
variable {P : Program} {fn : FuncId} {tmps : Array Value} {k : List Item} {defers : List Deferred} {kind : CallKind} {rnd : Option Nat} {cs : List Frame} {w : World}

/-- A frame that runs. -/
abbrev F (fn : FuncId) (tmps : Array Value) (k : List Item) (defers : List Deferred) (kind : CallKind) (rnd : Option Nat) : Frame :=
  { fn := fn, tmps := tmps, todo := k, defers := defers, mode := .run, kind := kind, roundOf := rnd }

theorem st_skip : step P (lone (F fn tmps (.code .skip :: k) defers kind rnd) cs w) = .next (lone (F fn tmps k defers kind rnd) cs w) := step_lone_go (by simp [stepG, stepG.exec])
theorem st_label {l : Nat} : step P (lone (F fn tmps (.code (.label l) :: k) defers kind rnd) cs w) = .next (lone (F fn tmps k defers kind rnd) cs w) := step_lone_go (by simp [stepG, stepG.exec])
theorem st_inBlock {id : Nat} : step P (lone (F fn tmps (.inBlock id :: k) defers kind rnd) cs w) = .next (lone (F fn tmps k defers kind rnd) cs w) := step_lone_go (by simp [stepG, stepG.exec])
theorem st_inScope {b : Code} : step P (lone (F fn tmps (.inScope b :: k) defers kind rnd) cs w) = .next (lone (F fn tmps k defers kind rnd) cs w) := step_lone_go (by simp [stepG, stepG.exec])
theorem st_seq {a b : Code} : step P (lone (F fn tmps (.code (.seq a b) :: k) defers kind rnd) cs w) = .next (lone (F fn tmps (.code a :: .code b :: k) defers kind rnd) cs w) := step_lone_go (by simp [stepG, stepG.exec])
theorem st_cond {c : Operand} {a b : Code} {t : Bool} (h : Frame.eval (F fn tmps (.code (.cond c a b) :: k) defers kind rnd) c = .bool t) :
    step P (lone (F fn tmps (.code (.cond c a b) :: k) defers kind rnd) cs w) = .next (lone (F fn tmps (.code (if t then a else b) :: k) defers kind rnd) cs w) :=
  step_lone_go (by simp only [stepG, stepG.exec]; rw [h]; rfl)
theorem st_block {id : Nat} {b : Code} : step P (lone (F fn tmps (.code (.block id b) :: k) defers kind rnd) cs w) = .next (lone (F fn tmps (.code b :: .inBlock id :: k) defers kind rnd) cs w) := step_lone_go (by simp [stepG, stepG.exec])
theorem st_loop {b : Code} : step P (lone (F fn tmps (.code (.loop b) :: k) defers kind rnd) cs w) = .next (lone (F fn tmps (.code b :: .inLoop b :: k) defers kind rnd) cs w) := step_lone_go (by simp [stepG, stepG.exec])
theorem st_inLoop {b : Code} : step P (lone (F fn tmps (.inLoop b :: k) defers kind rnd) cs w) = .next (lone (F fn tmps (.code b :: .inLoop b :: k) defers kind rnd) cs w) := step_lone_go (by simp [stepG, stepG.exec])
theorem st_scope {b : Code} : step P (lone (F fn tmps (.code (.scope b) :: k) defers kind rnd) cs w) = .next (lone (F fn tmps (.code b :: .inScope b :: k) defers kind rnd) cs w) := step_lone_go (by simp [stepG, stepG.exec])
theorem st_exit {id : Nat} {k' : List Item} (h : exitTo id k = some k') : step P (lone (F fn tmps (.code (.exit id) :: k) defers kind rnd) cs w) = .next (lone (F fn tmps k' defers kind rnd) cs w) := step_lone_go (by simp [stepG, stepG.exec, h])
theorem st_goto {l : Nat} {k' : List Item} (h : gotoIn l k = some k') : step P (lone (F fn tmps (.code (.goto l) :: k) defers kind rnd) cs w) = .next (lone (F fn tmps k' defers kind rnd) cs w) := step_lone_go (by simp [stepG, stepG.exec, h])
theorem st_ret : step P (lone (F fn tmps (.code .ret :: k) defers kind none) cs w) = .next (lone { F fn tmps (.code .ret :: k) defers kind none with mode := .returning } cs w) := step_lone_go (by simp [stepG, stepG.exec])
theorem st_end : step P (lone (F fn tmps [] defers kind none) cs w) = .next (lone { F fn tmps [] defers kind none with mode := .returning } cs w) := step_lone_go (by simp [stepG, stepG.exec])
theorem st_region {id : Nat} {ops : Array Oper} : step P (lone (F fn tmps (.code (.region id ops false) :: k) defers kind rnd) cs w) = .next (lone (F fn tmps (.inRegion ops (List.range ops.size) :: k) defers kind rnd) cs w) :=
  step_lone_go (by simp [stepG, stepG.exec])
theorem st_draw {id : Nat} {ops : Array Oper} : step P (lone (F fn tmps (.code (.region id ops true) :: k) defers kind rnd) cs w) =
    .next (lone (F fn tmps (.inRegion ops (Region.schedule (P.follows .mixedOrders) ops (w.tape w.drawn (.order fn id))) :: k) defers kind rnd) cs { w with drawn := w.drawn + 1 }) :=
  step_lone_go (by simp [stepG, stepG.exec, choose, Sem.run, Question.forced, Question.cut])
theorem st_regEnd {ops : Array Oper} : step P (lone (F fn tmps (.inRegion ops [] :: k) defers kind rnd) cs w) = .next (lone (F fn tmps k defers kind rnd) cs w) := step_lone_go (by simp [stepG, stepG.exec])

/-- The temporaries behind an operation. -/
def put (tmps : Array Value) (d : Option Tmp) (v : Value) : Array Value := match d with
  | some d => tmps.setIfInBounds d v
  | none => tmps
theorem fin_reg {ops : Array Oper} {i : Nat} {rest : List Nat} {o : Oper} (ho : ops[i]? = some o) (v : Value) :
    (F fn tmps (.inRegion ops (i :: rest) :: k) defers kind rnd).finish v = F fn (put tmps o.dst v) (.inRegion ops rest :: k) defers kind rnd := by
  cases h : o.dst <;> simp [Frame.finish, ho, h, put]
section op
variable {ops : Array Oper} {i : Nat} {rest : List Nat} {o : Oper} {w' : World}
theorem st_unwanted (ho : ops[i]? = some o) (hw : Region.wanted o (yielded ops tmps) = false) :
    step P (lone (F fn tmps (.inRegion ops (i :: rest) :: k) defers kind rnd) cs w) = .next (lone (F fn (put tmps o.dst undef) (.inRegion ops rest :: k) defers kind rnd) cs w) := by
  rw [← fin_reg ho]
  exact step_lone_go (by simp [stepG, stepG.exec, ho, hw])
theorem sg_op (ho : ops[i]? = some o) (hw : Region.wanted o (yielded ops tmps) = true) (hd : rnd = none ∨ ∀ c, o.op ≠ .defer c) :
    stepG P true { frame := F fn tmps (.inRegion ops (i :: rest) :: k) defers kind rnd, callers := cs, status := .running, dying := none } w =
      stepG.apply P true (F fn tmps (.inRegion ops (i :: rest) :: k) defers kind rnd) cs none (execOp (Frame.eval (F fn tmps (.inRegion ops (i :: rest) :: k) defers kind rnd)) o) w := by
  have h1 : stepG P true { frame := F fn tmps (.inRegion ops (i :: rest) :: k) defers kind rnd, callers := cs, status := .running, dying := none } w =
      stepG.oper P true (F fn tmps (.inRegion ops (i :: rest) :: k) defers kind rnd) cs none w := by simp [stepG, stepG.exec, ho, hw]
  rw [h1]
  unfold stepG.oper
  simp only [Frame.oper?, ho]
  rcases hd with rfl | hd
  · rfl
  · cases rnd with
    | none => rfl
    | some l =>
      cases hop : o.op <;> first | rfl | exact absurd hop (hd _)
theorem st_val (ho : ops[i]? = some o) (hw : Region.wanted o (yielded ops tmps) = true) (hd : rnd = none ∨ ∀ c, o.op ≠ .defer c) {n : Next} {v : Value} (hr : (execOp (Frame.eval (F fn tmps (.inRegion ops (i :: rest) :: k) defers kind rnd)) o).run P w = .ok n w') (hn : isV n v) :
    step P (lone (F fn tmps (.inRegion ops (i :: rest) :: k) defers kind rnd) cs w) = .next (lone (F fn (put tmps o.dst v) (.inRegion ops rest :: k) defers kind rnd) cs w') := by
  rw [← fin_reg ho]
  rcases hn with rfl | ⟨rfl, rfl⟩
  · exact step_lone_go (by rw [sg_op ho hw hd]; simp [stepG.apply, hr])
  · exact step_lone_go (by rw [sg_op ho hw hd]; simp [stepG.apply, hr])
theorem st_enter (ho : ops[i]? = some o) (hw : Region.wanted o (yielded ops tmps) = true) (hd : rnd = none ∨ ∀ c, o.op ≠ .defer c) {f : FuncId} {args : Array Value} (hr : (execOp (Frame.eval (F fn tmps (.inRegion ops (i :: rest) :: k) defers kind rnd)) o).run P w = .ok (.enter f args) w') :
    step P (lone (F fn tmps (.inRegion ops (i :: rest) :: k) defers kind rnd) cs w) = .next (lone (Frame.enter P f args .normal) (F fn tmps (.inRegion ops (i :: rest) :: k) defers kind rnd :: cs) w') :=
  step_lone_go (by rw [sg_op ho hw hd]; simp [stepG.apply, hr])
theorem st_round (ho : ops[i]? = some o) (hw : Region.wanted o (yielded ops tmps) = true) (hd : rnd = none ∨ ∀ c, o.op ≠ .defer c) {l : Nat} {f : FuncId} {ts : Array Value} {a b : Code} (hr : (execOp (Frame.eval (F fn tmps (.inRegion ops (i :: rest) :: k) defers kind rnd)) o).run P w = .ok (.round l f ts a b) w') :
    step P (lone (F fn tmps (.inRegion ops (i :: rest) :: k) defers kind rnd) cs w) = .next (lone (Frame.round l f ts a b .normal) (F fn tmps (.inRegion ops (i :: rest) :: k) defers kind rnd :: cs) w') :=
  step_lone_go (by rw [sg_op ho hw hd]; simp [stepG.apply, hr])
theorem st_defer (ho : ops[i]? = some o) (hw : Region.wanted o (yielded ops tmps) = true) (hd : rnd = none) {d : Deferred} (hr : (execOp (Frame.eval (F fn tmps (.inRegion ops (i :: rest) :: k) defers kind rnd)) o).run P w = .ok (.defer d) w') :
    step P (lone (F fn tmps (.inRegion ops (i :: rest) :: k) defers kind rnd) cs w) = .next (lone (F fn (put tmps o.dst undef) (.inRegion ops rest :: k) (d :: defers) kind rnd) cs w') := by
  have := fin_reg (fn := fn) (tmps := tmps) (k := k) (defers := d :: defers) (kind := kind) (rnd := rnd) (rest := rest) ho undef
  rw [← this]
  exact step_lone_go (by rw [sg_op ho hw (.inl hd)]; simp [stepG.apply, hr])
/-- A recover in a deferred call of a function that returns. -/
theorem st_recover (ho : ops[i]? = some o) (hw : Region.wanted o (yielded ops tmps) = true) {c : Frame} {cs' : List Frame} (hc : c.mode = .returning) (hr : (execOp (Frame.eval (F fn tmps (.inRegion ops (i :: rest) :: k) defers .deferred none)) o).run P w = .ok .recover w') :
    step P (lone (F fn tmps (.inRegion ops (i :: rest) :: k) defers .deferred none) (c :: cs') w) = .next (lone (F fn (put tmps o.dst .nilIface) (.inRegion ops rest :: k) defers .deferred none) (c :: cs') w') := by
  rw [← fin_reg ho]
  refine step_lone_go ?_
  rw [sg_op ho hw (.inl rfl)]
  have ht : tryRecover (F fn tmps (.inRegion ops (i :: rest) :: k) defers .deferred none) (c :: cs') = none := by
    simp [tryRecover, hc]
  simp [stepG.apply, hr, ht]
end op
end
end Go.Proofs.YtbkipanlicgooaaGreatDoor
namespace Go.Proofs.YtbkipanlicgooaaGreatDoor

/-! ### A plan, checked -/
def directs (o : Oper) : List Nat := (o.after.toList.filter (Region.binds .any)).map (·.on)
def ids (d : List (Nat × List Nat)) : List Nat := d.map (·.1)
def hasId (j : Nat) : List (Nat × List Nat) → Bool
  | [] => false
  | (i, _) :: d => Nat.beq i j || hasId j d
def ancOf (i : Nat) : List (Nat × List Nat) → List Nat
  | [] => []
  | (k, a) :: d => match Nat.beq k i with
    | true => a
    | false => ancOf i d
def addN (x : Nat) (l : List Nat) : List Nat := match memN x l with
  | true => l
  | false => x :: l
def joinN : List Nat → List Nat → List Nat
  | [], m => m
  | x :: l, m => joinN l (addN x m)
def ancs1 (d : List (Nat × List Nat)) : List Nat → List Nat
  | [] => []
  | i :: l => addN i (joinN (ancOf i d) (ancs1 d l))
def subN : List Nat → List Nat → Bool
  | [], _ => true
  | x :: l, m => memN x m && subN l m
def without (a : List Nat) : List Nat → List Nat
  | [] => []
  | x :: l => match memN x a with
    | true => without a l
    | false => x :: without a l
def allHas (d : List (Nat × List Nat)) : List Nat → Bool
  | [] => true
  | i :: l => hasId i d && allHas d l
/-- What is looked at was written by what comes before, or by an effect. -/
def okLooks (ts : List Tmp) (a E : List Nat) : Nat → List Oper → Bool
  | _, [] => true
  | i, o :: l => (match o.dst with
    | some d => !memN d ts || (memN i a || memN i E)
    | none => true) && okLooks ts a E (i + 1) l
def guardIn (o : Oper) (a : List Nat) : Bool := match o.guard with
  | some (g, _) => memN g a
  | none => true
structure PS where
  done : List (Nat × List Nat)
  pend : List Nat
  efs : List Nat
  E : List Nat
/-- The effects of a plan. -/
def efL : List (Nat × PK) → List Nat
  | [] => []
  | (j, pk) :: l => match pk with
    | .ef _ => j :: efL l
    | .fl => efL l
def okOne (ops : Array Oper) (s : PS) (j : Nat) (o : Oper) (a : List Nat) : Bool :=
  !hasId j s.done && (allHas s.done (directs o) && (subN s.efs a && (okLooks (o.looksAt ops) a s.E 0 ops.toList && guardIn o a)))
def chk (ops : Array Oper) (rvE : List Nat) : PS → List (Nat × PK) → Bool
  | s, [] => subN s.pend rvE && allHas s.done (List.range ops.size)
  | s, (j, pk) :: l => match nthO ops.toList j with
    | none => false
    | some o =>
      okOne ops s j o (ancs1 s.done (directs o)) && (match pk with
        | .fl => chk ops rvE ⟨(j, ancs1 s.done (directs o)) :: s.done, j :: s.pend, s.efs, s.E⟩ l
        | .ef rv => subN s.pend rv && chk ops rvE ⟨(j, ancs1 s.done (directs o)) :: s.done, without (ancs1 s.done (directs o)) s.pend, j :: s.efs, s.E⟩ l)
def dsts : List Oper → List Nat
  | [] => []
  | o :: l => match o.dst with
    | some d => d :: dsts l
    | none => dsts l
def nodupN : List Nat → Bool
  | [] => true
  | x :: l => !memN x l && nodupN l
/-- A right plan for a drawn region. -/
def planOk (p : Plan) (ops : Array Oper) : Bool := nodupN (dsts ops.toList) && chk ops p.rv ⟨[], [], [], efL p.l⟩ p.l

theorem nthO_eq : ∀ (l : List Oper) (n : Nat), nthO l n = l[n]?
  | [], n => by simp [nthO]
  | o :: l, 0 => by simp [nthO]
  | o :: l, n + 1 => by simp [nthO, nthO_eq l n]
theorem hasId_iff {j : Nat} : ∀ {d : List (Nat × List Nat)}, hasId j d = true ↔ j ∈ ids d
  | [] => by simp [hasId, ids]
  | (i, a) :: d => by
    simp only [hasId, Bool.or_eq_true, hasId_iff (d := d), ids, List.map_cons, List.mem_cons]
    constructor
    · rintro (h | h)
      · exact .inl (Nat.eq_of_beq_eq_true h).symm
      · exact .inr h
    · rintro (h | h)
      · subst h; exact .inl (by simp)
      · exact .inr h
theorem subN_iff : ∀ {l m : List Nat}, subN l m = true ↔ ∀ x ∈ l, x ∈ m
  | [], m => by simp [subN]
  | x :: l, m => by simp [subN, memN_iff, subN_iff (l := l)]
theorem allHas_iff {d : List (Nat × List Nat)} : ∀ {l : List Nat}, allHas d l = true ↔ ∀ x ∈ l, x ∈ ids d
  | [] => by simp [allHas]
  | x :: l => by simp [allHas, hasId_iff, allHas_iff (l := l)]
theorem mem_without {a : List Nat} {x : Nat} : ∀ {l : List Nat}, x ∈ without a l ↔ x ∈ l ∧ x ∉ a
  | [] => by simp [without]
  | y :: l => by
    simp only [without]
    split
    · rename_i h
      have h := memN_iff.1 h
      rw [mem_without, List.mem_cons]
      constructor
      · rintro ⟨h1, h2⟩; exact ⟨.inr h1, h2⟩
      · rintro ⟨h1 | h1, h2⟩
        · subst h1; exact absurd h h2
        · exact ⟨h1, h2⟩
    · rename_i h
      have h : y ∉ a := fun hc => by rw [memN_iff.2 hc] at h; cases h
      rw [List.mem_cons, mem_without, List.mem_cons]
      constructor
      · rintro (h1 | ⟨h1, h2⟩)
        · subst h1; exact ⟨.inl rfl, h⟩
        · exact ⟨.inr h1, h2⟩
      · rintro ⟨h1 | h1, h2⟩
        · exact .inl h1
        · exact .inr ⟨h1, h2⟩
theorem ancOf_mem {i x : Nat} : ∀ {d : List (Nat × List Nat)}, x ∈ ancOf i d → ∃ a, (i, a) ∈ d ∧ x ∈ a
  | [], h => by simp [ancOf] at h
  | (k, a) :: d, h => by
    simp only [ancOf] at h
    split at h
    · rename_i hk
      have := Nat.eq_of_beq_eq_true hk
      subst this
      exact ⟨a, by simp, h⟩
    · obtain ⟨b, h1, h2⟩ := ancOf_mem h
      exact ⟨b, by simp [h1], h2⟩
theorem mem_addN {x y : Nat} {l : List Nat} (h : x ∈ addN y l) : x = y ∨ x ∈ l := by
  unfold addN at h
  split at h
  · exact .inr h
  · exact List.mem_cons.1 h
theorem mem_joinN {x : Nat} : ∀ {l m : List Nat}, x ∈ joinN l m → x ∈ l ∨ x ∈ m
  | [], m, h => .inr h
  | y :: l, m, h => by
    rcases mem_joinN (l := l) h with h | h
    · exact .inl (by simp [h])
    · rcases mem_addN h with h | h
      · exact .inl (by simp [h])
      · exact .inr h
theorem ancs1_mem {x : Nat} {d : List (Nat × List Nat)} : ∀ {l : List Nat}, x ∈ ancs1 d l → ∃ i ∈ l, x = i ∨ ∃ a, (i, a) ∈ d ∧ x ∈ a
  | [], h => by simp [ancs1] at h
  | i :: l, h => by
    have h : x = i ∨ x ∈ ancOf i d ∨ x ∈ ancs1 d l := by
      rcases mem_addN h with h | h
      · exact .inl h
      · exact .inr (mem_joinN h)
    rcases h with h | h | h
    · exact ⟨i, by simp, .inl h⟩
    · exact ⟨i, by simp, .inr (ancOf_mem h)⟩
    · obtain ⟨k, h1, h2⟩ := ancs1_mem h
      exact ⟨k, by simp [h1], h2⟩
theorem okLooks_mem {ts : List Tmp} {a E : List Nat} : ∀ {l : List Oper} {k i : Nat} {o : Oper} {d : Tmp}, okLooks ts a E k l = true → l[i]? = some o → o.dst = some d → d ∈ ts → k + i ∈ a ∨ k + i ∈ E
  | [], k, i, o, d, h, ho, _, _ => by simp at ho
  | x :: l, k, 0, o, d, h, ho, hd, ht => by
    simp only [List.getElem?_cons_zero, Option.some.injEq] at ho
    subst ho
    simp only [okLooks, hd, Bool.and_eq_true, Bool.or_eq_true, Bool.not_eq_true'] at h
    rcases h.1 with h1 | h1
    · have h2 : memN d ts = true := memN_iff.2 ht
      rw [h2] at h1
      cases h1
    · rcases h1 with h1 | h1
      · exact .inl (memN_iff.1 h1)
      · exact .inr (memN_iff.1 h1)
  | x :: l, k, i + 1, o, d, h, ho, hd, ht => by
    simp only [okLooks, Bool.and_eq_true] at h
    have := okLooks_mem h.2 (by simpa using ho) hd ht
    rw [show k + (i + 1) = k + 1 + i by omega]
    exact this
theorem dsts_mem {d : Nat} : ∀ {l : List Oper} {o : Oper}, o ∈ l → o.dst = some d → d ∈ dsts l
  | [], o, h, _ => by cases h
  | x :: l, o, h, hd => by
    simp only [dsts]
    cases h with
    | head => simp [hd]
    | tail _ hm =>
      have := dsts_mem hm hd
      split
      · simp [this]
      · exact this
theorem dsts_nodup {d : Nat} : ∀ {l : List Oper} {i j : Nat} {x y : Oper}, nodupN (dsts l) = true → l[i]? = some x → l[j]? = some y → x.dst = some d → y.dst = some d → i = j
  | [], i, j, x, y, _, hi, _, _, _ => by simp at hi
  | o :: l, i, j, x, y, h, hi, hj, hx, hy => by
    have tail : nodupN (dsts l) = true := by
      simp only [dsts] at h
      split at h
      · simp only [nodupN, Bool.and_eq_true] at h; exact h.2
      · exact h
    have head : ∀ {z : Oper}, o.dst = some d → z ∈ l → z.dst = some d → False := by
      intro z ho hz hd
      simp only [dsts, ho, nodupN, Bool.and_eq_true, Bool.not_eq_true'] at h
      have := memN_iff.2 (dsts_mem hz hd)
      rw [this] at h
      cases h.1
    cases i with
    | zero =>
      simp only [List.getElem?_cons_zero, Option.some.injEq] at hi
      subst hi
      cases j with
      | zero => rfl
      | succ j => exact (head hx (List.mem_of_getElem? (by simpa using hj)) hy).elim
    | succ i =>
      cases j with
      | zero =>
        simp only [List.getElem?_cons_zero, Option.some.injEq] at hj
        subst hj
        exact (head hy (List.mem_of_getElem? (by simpa using hi)) hx).elim
      | succ j => exact congrArg (· + 1) (dsts_nodup tail (i := i) (j := j) (by simpa using hi) (by simpa using hj) hx hy)

/-! ### What comes before what in the rest of an order -/
def Bf (S : List Nat) (i j : Nat) : Prop := (j ∉ S → i ∉ S) ∧ ∀ X Y, S = X ++ j :: Y → i ∈ S → i ∈ X
theorem Bf.trans {S : List Nat} {i k j : Nat} (h1 : Bf S i k) (h2 : Bf S k j) : Bf S i j := by
  refine ⟨fun h => h1.1 (h2.1 h), fun X Y e hi => ?_⟩
  by_cases hk : k ∈ S
  · have hkX := h2.2 X Y e hk
    obtain ⟨X1, X2, rfl⟩ := List.append_of_mem hkX
    have := h1.2 X1 (X2 ++ j :: Y) (by rw [e]; simp) hi
    simp [this]
  · exact absurd hi (h1.1 hk)
theorem Bf.tail {S : List Nat} {x i j : Nat} (hn : (x :: S).Nodup) (h : Bf (x :: S) i j) : Bf S i j := by
  have hx : x ∉ S := (List.nodup_cons.1 hn).1
  refine ⟨fun hj hi => ?_, fun X Y e hi => ?_⟩
  · by_cases hjx : j = x
    · subst hjx
      have := h.2 [] S rfl (by simp [hi])
      cases this
    · exact h.1 (by simp [hjx, hj]) (by simp [hi])
  · have := h.2 (x :: X) Y (by rw [e]; rfl) (by simp [hi])
    rcases List.mem_cons.1 this with rfl | h'
    · exact absurd hi hx
    · exact h'
theorem Bf.done {x i : Nat} {S : List Nat} (_hn : (x :: S).Nodup) (h : Bf (x :: S) i x) : i ∉ x :: S := fun hi => by
  have := h.2 [] S rfl hi
  cases this

structure DR (ops : Array Oper) (s : PS) (S : List Nat) : Prop where
  nodup : S.Nodup
  lt : ∀ j ∈ S, j < ops.size
  ahead : ∀ j, j < ops.size → j ∉ S → j ∈ ids s.done
  pend : ∀ j ∈ S, j ∈ ids s.done → j ∈ s.pend
  deps : ∀ j o, ops[j]? = some o → ∀ i ∈ directs o, Bf S i j
  anc : ∀ j a, (j, a) ∈ s.done → ∀ i ∈ a, Bf S i j
  loc : ∀ j a, (j, a) ∈ s.done → ∀ o, ops[j]? = some o → okLooks (o.looksAt ops) a s.E 0 ops.toList = true ∧ guardIn o a = true
  eff : ∀ j ∈ s.efs, j ∉ S
theorem DR.tail {ops : Array Oper} {s : PS} {x : Nat} {S : List Nat} (h : DR ops s (x :: S)) (hx : x ∈ ids s.done) : DR ops s S := by
  have hn := h.nodup
  refine ⟨(List.nodup_cons.1 hn).2, fun j hj => h.lt j (by simp [hj]), fun j hj hS => ?_, fun j hj => h.pend j (by simp [hj]), fun j o ho i hi => (h.deps j o ho i hi).tail hn, fun j a ha i hi => (h.anc j a ha i hi).tail hn, h.loc, fun j hj hS => h.eff j hj (by simp [hS])⟩
  by_cases hjx : j = x
  · subst hjx; exact hx
  · exact h.ahead j hj (by simp [hjx, hS])
/-- The ancestors of an operation are before it. -/
theorem DR.ancNew {ops : Array Oper} {s : PS} {S : List Nat} (h : DR ops s S) {j : Nat} {o : Oper} (ho : ops[j]? = some o) : ∀ i ∈ ancs1 s.done (directs o), Bf S i j := by
  intro i hi
  obtain ⟨k, hk, rfl | ⟨a, h1, h2⟩⟩ := ancs1_mem hi
  · exact h.deps j o ho i hk
  · exact (h.anc k a h1 i h2).trans (h.deps j o ho k hk)
theorem DR.float {ops : Array Oper} {s : PS} {S : List Nat} (h : DR ops s S) {j : Nat} {o : Oper} (ho : ops[j]? = some o) (hc : okOne ops s j o (ancs1 s.done (directs o)) = true) :
    DR ops ⟨(j, ancs1 s.done (directs o)) :: s.done, j :: s.pend, s.efs, s.E⟩ S := by
  simp only [okOne, Bool.and_eq_true] at hc
  refine ⟨h.nodup, h.lt, fun k hk hS => ?_, fun k hk hd => ?_, h.deps, fun k a ha i hi => ?_, fun k a ha o' ho' => ?_, h.eff⟩
  · simp only [ids, List.map_cons, List.mem_cons]; exact .inr (h.ahead k hk hS)
  · simp only [ids, List.map_cons, List.mem_cons] at hd ⊢
    rcases hd with hd | hd
    · exact .inl hd
    · exact .inr (h.pend k hk hd)
  · rcases List.mem_cons.1 ha with e | ha
    · cases e; exact h.ancNew ho i hi
    · exact h.anc k a ha i hi
  · rcases List.mem_cons.1 ha with e | ha
    · cases e
      rw [ho] at ho'
      cases ho'
      exact ⟨hc.2.2.2.1, hc.2.2.2.2⟩
    · exact h.loc k a ha o' ho'
/-- An effect that is at the head of the rest is done. -/
theorem DR.effect {ops : Array Oper} {s : PS} {j : Nat} {S : List Nat} (h : DR ops s (j :: S)) {o : Oper} (ho : ops[j]? = some o) (hc : okOne ops s j o (ancs1 s.done (directs o)) = true) :
    DR ops ⟨(j, ancs1 s.done (directs o)) :: s.done, without (ancs1 s.done (directs o)) s.pend, j :: s.efs, s.E⟩ S := by
  have hF := (h.float ho hc).tail (by simp [ids])
  have hn := List.nodup_cons.1 h.nodup
  refine ⟨hF.nodup, hF.lt, hF.ahead, fun k hk hd => ?_, hF.deps, hF.anc, hF.loc, fun k hk => ?_⟩
  rotate_left
  · rcases List.mem_cons.1 hk with rfl | hk
    · exact hn.1
    · exact hF.eff k hk
  have hkj : k ≠ j := fun e => hn.1 (e ▸ hk)
  rw [mem_without]
  simp only [ids, List.map_cons, List.mem_cons, hkj, false_or] at hd
  refine ⟨h.pend k (by simp [hk]) hd, fun ha => ?_⟩
  exact Bf.done h.nodup (h.ancNew ho k ha) (by simp [hk])
/-- What stands ahead of the next effect is among what waits. -/
theorem DR.split {ops : Array Oper} {rvE rv : List Nat} {j : Nat} {l : List (Nat × PK)} {s : PS} {S : List Nat} (h : DR ops s S) (hc : chk ops rvE s ((j, .ef rv) :: l) = true) :
    ∃ X Y, S = X ++ j :: Y ∧ ∀ x ∈ X, x ∈ ids s.done ∧ x ∈ rv := by
  simp only [chk] at hc
  split at hc
  · cases hc
  · rename_i o ho
    rw [nthO_eq, Array.getElem?_toList] at ho
    simp only [Bool.and_eq_true] at hc
    obtain ⟨h1, h2, h3⟩ := hc
    have hlt : j < ops.size := (Array.getElem?_eq_some_iff.1 ho).1
    have h1' := h1
    simp only [okOne, Bool.and_eq_true, Bool.not_eq_true'] at h1'
    have hnd : j ∉ ids s.done := fun hc => by rw [hasId_iff.2 hc] at h1'; cases h1'.1
    have hjS : j ∈ S := Classical.byContradiction fun hn => hnd (h.ahead j hlt hn)
    obtain ⟨X, Y, rfl⟩ := List.append_of_mem hjS
    refine ⟨X, Y, rfl, fun x hx => ?_⟩
    have hxS : x ∈ X ++ j :: Y := by simp [hx]
    have hxd : x ∈ ids s.done := by
      refine Classical.byContradiction fun hn => ?_
      have hxj : x ≠ j := by
        rintro rfl
        have := h.nodup
        rw [List.nodup_append] at this
        exact this.2.2 x hx x (by simp) rfl
      have hbf : Bf (X ++ j :: Y) j x := by
        have hF := h.float ho h1
        have : ∀ {l : List (Nat × PK)} {d : List (Nat × List Nat)} {p e : List Nat}, chk ops rvE ⟨d, p, e, s.E⟩ l = true → (∀ k a, (k, a) ∈ d → ∀ i ∈ a, Bf (X ++ j :: Y) i k) → j ∈ e → x ∉ ids d → Bf (X ++ j :: Y) j x := by
          intro l
          induction l with
          | nil =>
            intro d p e hk _ _ hnd
            simp only [chk, Bool.and_eq_true] at hk
            exact absurd (allHas_iff.1 hk.2 x (List.mem_range.2 (h.lt x hxS))) hnd
          | cons z l ih =>
            intro d p e hk hanc hje hnd
            obtain ⟨z, pz⟩ := z
            simp only [chk] at hk
            split at hk
            · cases hk
            · rename_i oz hoz
              rw [nthO_eq, Array.getElem?_toList] at hoz
              simp only [Bool.and_eq_true] at hk
              obtain ⟨hcz, hk⟩ := hk
              simp only [okOne, Bool.and_eq_true] at hcz
              have hancz : ∀ i ∈ ancs1 d (directs oz), Bf (X ++ j :: Y) i z := by
                intro i hi
                obtain ⟨q, hq, rfl | ⟨a, h1, h2⟩⟩ := ancs1_mem hi
                · exact h.deps z oz hoz i hq
                · exact (hanc q a h1 i h2).trans (h.deps z oz hoz q hq)
              by_cases hxz : x = z
              · subst hxz
                exact hancz j (subN_iff.1 hcz.2.2.1 j hje)
              · have hanc' : ∀ k a, (k, a) ∈ (z, ancs1 d (directs oz)) :: d → ∀ i ∈ a, Bf (X ++ j :: Y) i k := by
                  intro k a ha i hi
                  rcases List.mem_cons.1 ha with e | ha
                  · cases e; exact hancz i hi
                  · exact hanc k a ha i hi
                have hnd' : x ∉ ids ((z, ancs1 d (directs oz)) :: d) := by
                  simp only [ids, List.map_cons, List.mem_cons, not_or]
                  exact ⟨hxz, hnd⟩
                cases pz with
                | fl => exact ih hk hanc' hje hnd'
                | ef r =>
                  simp only [Bool.and_eq_true] at hk
                  exact ih hk.2 hanc' (by simp [hje]) hnd'
        exact this h3 hF.anc (by simp) (by
          simp only [ids, List.map_cons, List.mem_cons, not_or]
          exact ⟨hxj, hn⟩)
      obtain ⟨X1, X2, rfl⟩ := List.append_of_mem hx
      have := hbf.2 X1 (X2 ++ j :: Y) (by simp) hjS
      have hnod := h.nodup
      rw [List.nodup_append] at hnod
      exact hnod.2.2 j (by simp [this]) j (by simp) rfl
    exact ⟨hxd, subN_iff.1 h2 x (h.pend x hxS hxd)⟩
theorem DR.finish {ops : Array Oper} {rvE : List Nat} {s : PS} {S : List Nat} (h : DR ops s S) (hc : chk ops rvE s [] = true) : ∀ x ∈ S, x ∈ ids s.done ∧ x ∈ rvE := by
  simp only [chk, Bool.and_eq_true] at hc
  intro x hx
  have hd := allHas_iff.1 hc.2 x (List.mem_range.2 (h.lt x hx))
  exact ⟨hd, subN_iff.1 hc.1 x (h.pend x hx hd)⟩

/-! ### The orders that are drawn -/
theorem go_succ {ops : Array Oper} (fuel t : Nat) (listed : Array Bool) : (Region.ready .any ops listed = [] ∧ Region.linearise.go .any ops (fuel + 1) t listed [] = []) ∨
    ∃ i t', i ∈ Region.ready .any ops listed ∧ Region.linearise.go .any ops (fuel + 1) t listed [] = i :: Region.linearise.go .any ops fuel t' (listed.setIfInBounds i true) [] := by
  have h : Region.linearise.go .any ops (fuel + 1) t listed [] = (match (Region.ready .any ops listed)[t % (Region.ready .any ops listed).length]? with
      | some i => Region.linearise.go .any ops fuel (t / (Region.ready .any ops listed).length) (listed.setIfInBounds i true) [i]
      | none => [].reverse) := by
    simp only [Region.linearise.go]
    rfl
  rw [h]
  cases hi : (Region.ready .any ops listed)[t % (Region.ready .any ops listed).length]? with
  | none =>
    left
    refine ⟨?_, rfl⟩
    cases hr : Region.ready .any ops listed with
    | nil => rfl
    | cons x xs =>
      rw [hr] at hi
      have hlt : t % (x :: xs).length < (x :: xs).length := Nat.mod_lt _ (by simp)
      simp at hi
      simp at hlt
      omega
  | some i =>
    right
    refine ⟨i, t / (Region.ready .any ops listed).length, List.mem_of_getElem? hi, ?_⟩
    simp only
    rw [linearise_go_acc]
    rfl
theorem getD_set {listed : Array Bool} {i j : Nat} {b : Bool} (hi : i < listed.size) : (listed.setIfInBounds i true).getD j b = if j = i then true else listed.getD j b := by
  by_cases h : j = i
  · subst h; simp [hi]
  · simp [h, Array.getElem?_setIfInBounds_ne (Ne.symm h)]
theorem sched_acc {ops : Array Oper} : ∀ (fuel t : Nat) (listed : Array Bool), listed.size = ops.size →
    (Region.linearise.go .any ops fuel t listed []).Nodup ∧ (∀ j ∈ Region.linearise.go .any ops fuel t listed [], j < ops.size ∧ listed.getD j true = false) ∧
      (∀ X j Y, Region.linearise.go .any ops fuel t listed [] = X ++ j :: Y → ∀ o, ops[j]? = some o → ∀ i ∈ directs o, listed.getD i false = true ∨ i ∈ X) := by
  intro fuel
  induction fuel with
  | zero => intro t listed _; simp [Region.linearise.go]
  | succ fuel ih =>
    intro t listed hsz
    rcases go_succ fuel t listed with ⟨_, h⟩ | ⟨i, t', hi, h⟩
    · rw [h]; simp
    · rw [h]
      obtain ⟨hun, oi, hoi, hdep⟩ := mem_ready.1 hi
      have hilt : i < ops.size := (Array.getElem?_eq_some_iff.1 hoi).1
      obtain ⟨h1, h2, h3⟩ := ih t' (listed.setIfInBounds i true) (by simpa using hsz)
      have hnot : i ∉ Region.linearise.go .any ops fuel t' (listed.setIfInBounds i true) [] := fun hc => by
        have := (h2 i hc).2
        rw [getD_set (by omega)] at this
        simp at this
      refine ⟨List.nodup_cons.2 ⟨hnot, h1⟩, fun j hj => ?_, fun X j Y e o ho k hk => ?_⟩
      · rcases List.mem_cons.1 hj with rfl | hj
        · exact ⟨hilt, hun⟩
        · obtain ⟨k1, k2⟩ := h2 j hj
          refine ⟨k1, ?_⟩
          rw [getD_set (by omega)] at k2
          split at k2
          · cases k2
          · exact k2
      · cases X with
        | nil =>
          simp only [List.nil_append, List.cons.injEq] at e
          obtain ⟨rfl, _⟩ := e
          rw [hoi] at ho
          cases ho
          left
          simp only [directs, List.mem_map, List.mem_filter] at hk
          obtain ⟨ed, ⟨he1, he2⟩, rfl⟩ := hk
          exact hdep ed (by simpa using he1) he2
        | cons x X =>
          simp only [List.cons_append, List.cons.injEq] at e
          obtain ⟨rfl, e⟩ := e
          rcases h3 X j Y e o ho k hk with h4 | h4
          · rw [getD_set (by omega)] at h4
            split at h4
            · rename_i hki; subst hki; exact .inr (by simp)
            · exact .inl h4
          · exact .inr (by simp [h4])
/-- Where each operation's needs come first in some order of all, every drawn order has all. -/
theorem sched_all {ops : Array Oper} (rank : Nat → Nat) (hr : ∀ j o, ops[j]? = some o → ∀ i ∈ directs o, i < ops.size ∧ rank i < rank j) : ∀ (fuel t : Nat) (listed : Array Bool), listed.size = ops.size →
    ((List.range ops.size).filter fun j => !listed.getD j true).length ≤ fuel → ∀ j, j < ops.size → listed.getD j true = false → j ∈ Region.linearise.go .any ops fuel t listed [] := by
  intro fuel
  induction fuel with
  | zero =>
    intro t listed _ hl j hj hu
    have : j ∈ (List.range ops.size).filter fun j => !listed.getD j true := by
      rw [List.mem_filter]
      exact ⟨List.mem_range.2 hj, by simpa using hu⟩
    rw [List.eq_nil_of_length_eq_zero (Nat.le_zero.1 hl)] at this
    cases this
  | succ fuel ih =>
    intro t listed hsz hl j hj hu
    rcases go_succ fuel t listed with ⟨hnil, _⟩ | ⟨i, t', hi, h⟩
    · -- the least of those that are not listed is ready
      exfalso
      have : ∀ n k, rank k = n → k < ops.size → listed.getD k true = false → False := by
        intro n
        induction n using Nat.strongRecOn with
        | _ n ihn =>
          intro k hk hklt hku
          have hok : ops[k]? = some ops[k] := Array.getElem?_eq_getElem hklt
          have hready : k ∈ Region.ready .any ops listed := by
            rw [mem_ready]
            refine ⟨hku, _, hok, fun e he hb => ?_⟩
            have hd : e.on ∈ directs ops[k] := by
              simp only [directs, List.mem_map, List.mem_filter]
              exact ⟨e, ⟨by simpa using he, hb⟩, rfl⟩
            obtain ⟨q1, q2⟩ := hr k _ hok e.on hd
            cases hv : listed.getD e.on false with
            | true => rfl
            | false =>
              exfalso
              refine ihn (rank e.on) (by omega) e.on rfl q1 ?_
              have hlt : e.on < listed.size := by omega
              simp only [Array.getD_eq_getD_getElem?, Array.getElem?_eq_getElem hlt, Option.getD_some] at hv ⊢
              exact hv
          rw [hnil] at hready
          cases hready
      exact this _ j rfl hj hu
    · rw [h]
      by_cases hji : j = i
      · subst hji; simp
      · obtain ⟨hun, oi, hoi, _⟩ := mem_ready.1 hi
        have hilt : i < ops.size := (Array.getElem?_eq_some_iff.1 hoi).1
        refine List.mem_cons_of_mem _ (ih t' _ (by simpa using hsz) ?_ j hj ?_)
        · have hsub : ((List.range ops.size).filter fun j => !(listed.setIfInBounds i true).getD j true) = ((List.range ops.size).filter fun j => !listed.getD j true).filter (fun j => j != i) := by
            rw [List.filter_filter]
            refine List.filter_congr fun x hx => ?_
            rw [getD_set (by omega)]
            by_cases hxi : x = i
            · simp [hxi]
            · simp [hxi]
          rw [hsub]
          have hmem : i ∈ (List.range ops.size).filter fun j => !listed.getD j true := by
            rw [List.mem_filter]
            exact ⟨List.mem_range.2 hilt, by simpa using hun⟩
          have := List.length_filter_lt_length_iff_exists (p := fun j => j != i) (l := (List.range ops.size).filter fun j => !listed.getD j true)
          have h2 := this.2 ⟨i, hmem, by simp⟩
          omega
        · rw [getD_set (by omega), if_neg hji]
          exact hu
/-- The place of an operation in a plan. -/
def rankIn (j : Nat) : List (Nat × PK) → Nat
  | [] => 0
  | (i, _) :: l => match Nat.beq i j with
    | true => 0
    | false => rankIn j l + 1
theorem chk_dir {ops : Array Oper} {rvE : List Nat} : ∀ {l : List (Nat × PK)} {s : PS}, chk ops rvE s l = true → ∀ j o, ops[j]? = some o → j ∉ ids s.done → ∀ i ∈ directs o, i ∈ ids s.done ∨ (i ∈ l.map (·.1) ∧ rankIn i l < rankIn j l)
  | [], s, h, j, o, ho, hd, i, hi => by
    simp only [chk, Bool.and_eq_true] at h
    exact absurd (allHas_iff.1 h.2 j (List.mem_range.2 (Array.getElem?_eq_some_iff.1 ho).1)) hd
  | (y, pk) :: l, s, h, j, o, ho, hd, i, hi => by
    simp only [chk] at h
    split at h
    · cases h
    · rename_i oy hoy
      rw [nthO_eq, Array.getElem?_toList] at hoy
      simp only [Bool.and_eq_true] at h
      obtain ⟨hc, h⟩ := h
      simp only [okOne, Bool.and_eq_true] at hc
      by_cases hjy : j = y
      · subst hjy
        rw [hoy] at ho
        cases ho
        exact .inl (allHas_iff.1 hc.2.1 i hi)
      · have hnd : ∀ {p e}, j ∉ ids (PS.mk ((y, ancs1 s.done (directs oy)) :: s.done) p e s.E).done := by
          intro p e
          simp only [ids, List.map_cons, List.mem_cons, not_or]
          exact ⟨hjy, hd⟩
        have hrec : i ∈ ids ((y, ancs1 s.done (directs oy)) :: s.done) ∨ (i ∈ l.map (·.1) ∧ rankIn i l < rankIn j l) := by
          cases pk with
          | fl => exact chk_dir h j o ho hnd i hi
          | ef rv =>
            simp only [Bool.and_eq_true] at h
            exact chk_dir h.2 j o ho hnd i hi
        have hyj : Nat.beq y j = false := by
          cases hb : Nat.beq y j with
          | false => rfl
          | true => exact absurd (Nat.eq_of_beq_eq_true hb).symm hjy
        rcases hrec with h1 | ⟨h1, h2⟩
        · simp only [ids, List.map_cons, List.mem_cons] at h1
          rcases h1 with rfl | h1
          · right
            refine ⟨by simp, ?_⟩
            simp only [rankIn, hyj]
            simp
          · exact .inl h1
        · right
          refine ⟨by simp only [List.map_cons, List.mem_cons]; exact .inr h1, ?_⟩
          simp only [rankIn, hyj]
          split
          · omega
          · omega
theorem chk_lt {ops : Array Oper} {rvE : List Nat} : ∀ {l : List (Nat × PK)} {s : PS}, chk ops rvE s l = true → ∀ i ∈ l.map (·.1), i < ops.size
  | [], s, h, i, hi => by simp at hi
  | (y, pk) :: l, s, h, i, hi => by
    simp only [chk] at h
    split at h
    · cases h
    · rename_i oy hoy
      rw [nthO_eq, Array.getElem?_toList] at hoy
      simp only [Bool.and_eq_true] at h
      simp only [List.map_cons, List.mem_cons] at hi
      rcases hi with rfl | hi
      · exact (Array.getElem?_eq_some_iff.1 hoy).1
      · cases pk with
        | fl => exact chk_lt h.2 i hi
        | ef rv =>
          have h2 := h.2
          simp only [Bool.and_eq_true] at h2
          exact chk_lt h2.2 i hi
/-- A drawn order, at its beginning. -/
theorem DR.begin {ops : Array Oper} {rvE : List Nat} {l : List (Nat × PK)} {E : List Nat} (h : chk ops rvE ⟨[], [], [], E⟩ l = true) (t : Nat) : DR ops ⟨[], [], [], E⟩ (Region.schedule true ops t) := by
  have hs : Region.schedule true ops t = Region.linearise.go .any ops ops.size t (Array.replicate ops.size false) [] := by
    simp only [Region.schedule, Bool.true_or, if_true]
    rfl
  rw [hs]
  have hf : ∀ j, j < ops.size → (Array.replicate ops.size false).getD j true = false := fun j hj => by simp [hj]
  have hf' : ∀ j, (Array.replicate ops.size false).getD j false = false := fun j => by
    simp only [Array.getD_eq_getD_getElem?, Array.getElem?_replicate]
    split <;> rfl
  obtain ⟨h1, h2, h3⟩ := sched_acc (ops := ops) ops.size t (Array.replicate ops.size false) (by simp)
  have hrank : ∀ j o, ops[j]? = some o → ∀ i ∈ directs o, i < ops.size ∧ rankIn i l < rankIn j l := by
    intro j o ho i hi
    rcases chk_dir h j o ho (by simp [ids]) i hi with h4 | ⟨h4, h5⟩
    · simp [ids] at h4
    · exact ⟨chk_lt h i h4, h5⟩
  have hall : ∀ j, j < ops.size → j ∈ Region.linearise.go .any ops ops.size t (Array.replicate ops.size false) [] := fun j hj =>
    sched_all (fun j => rankIn j l) hrank ops.size t _ (by simp) (Nat.le_trans (List.length_filter_le _ _) (by simp)) j hj (hf j hj)
  refine ⟨h1, fun j hj => (h2 j hj).1, fun j hj hn => absurd (hall j hj) hn, fun j hj hd => by simp [ids] at hd, fun j o ho i hi => ⟨fun hn => absurd (hall j (Array.getElem?_eq_some_iff.1 ho).1) hn, fun X Y e _ => ?_⟩, nofun, nofun, nofun⟩
  rcases h3 X j Y e o ho i hi with h4 | h4
  · rw [hf'] at h4; cases h4
  · exact h4
/-- An effect that is yet to come is not done. -/
theorem chk_new {ops : Array Oper} {rvE : List Nat} {j : Nat} : ∀ {l : List (Nat × PK)} {s : PS}, chk ops rvE s l = true → j ∈ efL l → j ∉ ids s.done
  | [], s, _, hj => by cases hj
  | (y, pk) :: l, s, h, hj => by
    simp only [chk] at h
    split at h
    · cases h
    · rename_i oy hoy
      simp only [Bool.and_eq_true] at h
      obtain ⟨hc, h⟩ := h
      simp only [okOne, Bool.and_eq_true, Bool.not_eq_true'] at hc
      have hy : y ∉ ids s.done := fun hq => by rw [hasId_iff.2 hq] at hc; cases hc.1
      cases pk with
      | fl =>
        simp only [efL] at hj
        have := chk_new h hj
        simp only [ids, List.map_cons, List.mem_cons, not_or] at this
        exact this.2
      | ef rv =>
        simp only [efL, List.mem_cons] at hj
        simp only [Bool.and_eq_true] at h
        rcases hj with rfl | hj
        · exact hy
        · have := chk_new h.2 hj
          simp only [ids, List.map_cons, List.mem_cons, not_or] at this
          exact this.2
end Go.Proofs.YtbkipanlicgooaaGreatDoor
namespace Go.Proofs.YtbkipanlicgooaaGreatDoor

/-! ### Sameness of values -/
mutual
theorem vbeq_eq : ∀ {a b : V}, vbeq a b = true → a = b
  | .b x, v, h => by
    cases v <;> simp only [vbeq] at h <;> first | cases h; done | skip
    simp only [beq_iff_eq] at h; subst h; rfl
  | .i k x, v, h => by
    cases v <;> simp only [vbeq] at h <;> first | cases h; done | skip
    simp only [Bool.and_eq_true, decide_eq_true_eq] at h
    obtain ⟨rfl, rfl⟩ := h; rfl
  | .s x, v, h => by
    cases v <;> simp only [vbeq] at h <;> first | cases h; done | skip
    rw [sEq_iff] at h; subst h; rfl
  | .p0, v, h => by
    cases v <;> simp only [vbeq] at h <;> first | rfl | (cases h; done)
  | .p x o, v, h => by
    cases v <;> simp only [vbeq] at h <;> first | cases h; done | skip
    simp only [Bool.and_eq_true] at h
    rw [Nat.eq_of_beq_eq_true h.1, Nat.eq_of_beq_eq_true h.2]
  | .dp x l o, v, h => by
    cases v <;> simp only [vbeq] at h <;> first | cases h; done | skip
    simp only [Bool.and_eq_true, beq_iff_eq] at h
    rw [h.1, Nat.eq_of_beq_eq_true h.2.1, vbeqs_eq h.2.2]
  | .s0, v, h => by
    cases v <;> simp only [vbeq] at h <;> first | rfl | (cases h; done)
  | .se, v, h => by
    cases v <;> simp only [vbeq] at h <;> first | rfl | (cases h; done)
  | .sl x o n c f, v, h => by
    cases v <;> simp only [vbeq] at h <;> first | cases h; done | skip
    simp only [Bool.and_eq_true, beq_iff_eq] at h
    rw [Nat.eq_of_beq_eq_true h.1, Nat.eq_of_beq_eq_true h.2.1, Nat.eq_of_beq_eq_true h.2.2.1, Nat.eq_of_beq_eq_true h.2.2.2.1, h.2.2.2.2]
  | .S x l n, v, h => by
    cases v <;> simp only [vbeq] at h <;> first | cases h; done | skip
    simp only [Bool.and_eq_true, beq_iff_eq] at h
    rw [h.1, Nat.eq_of_beq_eq_true h.2.1, vbeqs_eq h.2.2]
  | .m0, v, h => by
    cases v <;> simp only [vbeq] at h <;> first | rfl | (cases h; done)
  | .m x, v, h => by
    cases v <;> simp only [vbeq] at h <;> first | cases h; done | skip
    rw [Nat.eq_of_beq_eq_true h]
  | .f g x y, v, h => by
    cases v <;> simp only [vbeq] at h <;> first | cases h; done | skip
    simp only [Bool.and_eq_true] at h
    rw [Nat.eq_of_beq_eq_true h.1, vbeqs_eq h.2.1, vbeqs_eq h.2.2]
  | .f0, v, h => by
    cases v <;> simp only [vbeq] at h <;> first | rfl | (cases h; done)
  | .y x, v, h => by
    cases v <;> simp only [vbeq] at h <;> first | cases h; done | skip
    rw [Nat.eq_of_beq_eq_true h]
  | .ifc t x, v, h => by
    cases v <;> simp only [vbeq] at h <;> first | cases h; done | skip
    simp only [Bool.and_eq_true] at h
    rw [Nat.eq_of_beq_eq_true h.1, vbeq_eq h.2]
  | .i0, v, h => by
    cases v <;> simp only [vbeq] at h <;> first | rfl | (cases h; done)
  | .agg l, v, h => by
    cases v <;> simp only [vbeq] at h <;> first | cases h; done | skip
    rw [vbeqs_eq h]
  | .tup l, v, h => by
    cases v <;> simp only [vbeq] at h <;> first | cases h; done | skip
    rw [vbeqs_eq h]
theorem vbeqs_eq : ∀ {a b : List V}, vbeqs a b = true → a = b
  | [], l, h => by
    cases l with
    | nil => rfl
    | cons x l => simp [vbeqs] at h
  | x :: xs, l, h => by
    cases l with
    | nil => simp [vbeqs] at h
    | cons z zs =>
      simp only [vbeqs, Bool.and_eq_true] at h
      rw [vbeq_eq h.1, vbeqs_eq h.2]
end
theorem sameNew_eq {H : AH} {ob : AO} {id : Nat} (h : sameNew H ob id = true) : H.get id = some ob := by
  unfold sameNew at h
  split at h
  · rename_i x hx
    rw [hx]
    split at h
    · simp only [Bool.and_eq_true, beq_iff_eq] at h
      rw [Nat.eq_of_beq_eq_true h.1, h.2.1, vbeqs_eq h.2.2]
    · rw [Nat.eq_of_beq_eq_true h]
    · simp only [Bool.and_eq_true] at h
      have h1 := (sEq_iff).1 h.1
      rw [h1, Nat.eq_of_beq_eq_true h.2]
    · cases h
  · cases h

/-! ### Constants and operands -/
theorem str_data (s : ByteArray) : str (s.data.toList.map UInt8.toNat) = s := by
  have : s.data.toList.map (UInt8.ofNat ∘ UInt8.toNat) = s.data.toList := by
    conv => rhs; rw [← List.map_id s.data.toList]
    refine List.map_congr_left fun x _ => ?_
    simp
  cases s with
  | mk d =>
    simp only [str, List.map_map]
    simp only at this
    rw [this]
mutual
theorem toV_ok {c : Ctx} : ∀ {y : Value} {v : V}, toV y = some v → Rep c v y
  | .bool b, v, h => by simp only [toV, Option.some.injEq] at h; subst h; simp only [Rep]
  | .int k n, v, h => by simp only [toV, Option.some.injEq] at h; subst h; simp only [Rep]
  | .string s, v, h => by
    simp only [toV, Option.some.injEq] at h
    subst h
    simp only [Rep]
    refine ⟨fun z hz => ?_, by rw [str_data]⟩
    simp only [List.mem_map] at hz
    obtain ⟨u, _, rfl⟩ := hz
    exact UInt8.toNat_lt u
  | .pointer none, v, h => by simp only [toV, Option.some.injEq] at h; subst h; simp only [Rep]
  | .slice none 0 0, v, h => by simp only [toV, Option.some.injEq] at h; subst h; simp only [Rep]
  | .map none, v, h => by simp only [toV, Option.some.injEq] at h; subst h; simp only [Rep]
  | .nilFunc, v, h => by simp only [toV, Option.some.injEq] at h; subst h; simp only [Rep]
  | .nilIface, v, h => by simp only [toV, Option.some.injEq] at h; subst h; simp only [Rep]
  | .agg ⟨l⟩, v, h => by
    simp only [toV, Option.map_eq_some_iff] at h
    obtain ⟨r, h1, rfl⟩ := h
    simp only [Rep]
    exact ⟨⟨l⟩, rfl, toVs_ok h1⟩
  | .tuple ⟨l⟩, v, h => by
    simp only [toV, Option.map_eq_some_iff] at h
    obtain ⟨r, h1, rfl⟩ := h
    simp only [Rep]
    exact ⟨⟨l⟩, rfl, toVs_ok h1⟩
  | .pointer (some a), v, h => by simp [toV] at h
  | .slice none 0 (k + 1), v, h => by simp [toV] at h
  | .slice none (n + 1) k, v, h => by simp [toV] at h
  | .slice (some a) n k, v, h => by simp [toV] at h
  | .map (some a), v, h => by simp [toV] at h
  | .float .., v, h => by simp [toV] at h
  | .complex .., v, h => by simp [toV] at h
  | .chan .., v, h => by simp [toV] at h
  | .func .., v, h => by simp [toV] at h
  | .iface .., v, h => by simp [toV] at h
theorem toVs_ok {c : Ctx} : ∀ {y : List Value} {v : List V}, toVs y = some v → Reps c v y
  | [], v, h => by simp only [toVs, Option.some.injEq] at h; subst h; exact Reps.nil.2 rfl
  | y :: ys, v, h => by
    simp only [toVs] at h
    split at h
    · rename_i x r hx hr
      cases h
      exact Reps.cons'.2 ⟨toV_ok hx, toVs_ok hr⟩
    · cases h
end

section
variable {P : Program} {G : Glob} {ok : FuncId → Code → Prop} {c : Ctx} {H : AH} {w : World}

theorem EnvR.get {X : Nat → Prop} {n : Nat} {env : Tr V} {tmps : Array Value} (h : EnvR c X n env tmps) {t : Tmp} {v : V} (hv : env.get t = some v) (hn : ¬ X t) : ∃ y, tmps[t]? = some y ∧ tmps.getD t undef = y ∧ Rep c v y := by
  obtain ⟨y, h1, h2⟩ := h.2.2 t v hv hn
  refine ⟨y, h1, ?_, h2⟩
  have := (Array.getElem?_eq_some_iff.1 h1)
  simp only [Array.getD_eq_getD_getElem?, h1, Option.getD_some]
theorem EnvR.put {X X' : Nat → Prop} {n : Nat} {env : Tr V} {tmps : Array Value} (h : EnvR c X n env tmps) {d : Tmp} {v : V} {y : Value} (hd : d < n) (hy : Rep c v y) (hX : ∀ t, X t → t ≠ d → X' t) :
    EnvR c X' n (env.set d (some v)) (tmps.setIfInBounds d y) := by
  refine ⟨by simpa using h.1, fun t u hu => ?_, fun t u hu hn => ?_⟩
  · rcases Tr.get_set _ _ _ _ _ hu with ⟨rfl, _⟩ | ⟨_, hu⟩
    · exact hd
    · exact h.2.1 t u hu
  · rcases Tr.get_set _ _ _ _ _ hu with ⟨rfl, e⟩ | ⟨hne, hu⟩
    · cases e
      refine ⟨y, ?_, hy⟩
      have : t < tmps.size := by rw [h.1]; exact hd
      simp [this]
    · obtain ⟨z, h1, h2⟩ := h.2.2 t u hu fun hx => hn (hX t hx hne)
      exact ⟨z, by rw [Array.getElem?_setIfInBounds_ne (Ne.symm hne)]; exact h1, h2⟩
/-- The abstract machine has an operation's value ahead of the concrete one. -/
theorem EnvR.ahead {X X' : Nat → Prop} {n : Nat} {env : Tr V} {tmps : Array Value} (h : EnvR c X n env tmps) {d : Tmp} {v : V} (hd : d < n) (hX : ∀ t, X t → X' t) (hXd : X' d) :
    EnvR c X' n (env.set d (some v)) tmps := by
  refine ⟨h.1, fun t u hu => ?_, fun t u hu hn => ?_⟩
  · rcases Tr.get_set _ _ _ _ _ hu with ⟨rfl, _⟩ | ⟨_, hu⟩
    · exact hd
    · exact h.2.1 t u hu
  · rcases Tr.get_set _ _ _ _ _ hu with ⟨rfl, e⟩ | ⟨hne, hu⟩
    · exact absurd hXd hn
    · exact h.2.2 t u hu fun hx => hn (hX t hx)
/-- The concrete machine comes to an operation that the abstract one has done. -/
theorem EnvR.catch_ {X X' : Nat → Prop} {n : Nat} {env : Tr V} {tmps : Array Value} (h : EnvR c X n env tmps) {d : Tmp} {v : V} {y : Value} (hv : env.get d = some v) (hy : Rep c v y) (hX : ∀ t, X t → t ≠ d → X' t) :
    EnvR c X' n env (tmps.setIfInBounds d y) := by
  refine ⟨by simpa using h.1, h.2.1, fun t u hu hn => ?_⟩
  by_cases hne : t = d
  · subst hne
    rw [hv] at hu
    cases hu
    have : t < tmps.size := by rw [h.1]; exact h.2.1 t v hv
    exact ⟨y, by simp [this], hy⟩
  · obtain ⟨z, h1, h2⟩ := h.2.2 t u hu fun hx => hn (hX t hx hne)
    exact ⟨z, by rw [Array.getElem?_setIfInBounds_ne (Ne.symm hne)]; exact h1, h2⟩
theorem EnvR.weaken {X X' : Nat → Prop} {n : Nat} {env : Tr V} {tmps : Array Value} (h : EnvR c X n env tmps) (hX : ∀ t, X t → X' t) : EnvR c X' n env tmps :=
  ⟨h.1, h.2.1, fun t u hu hn => h.2.2 t u hu fun hx => hn (hX t hx)⟩

theorem ev_ok {X : Nat → Prop} {n : Nat} {env : Tr V} {f : Frame} (hH : HR P ok G.ng c H w) (he : EnvR c X n env f.tmps) {x : Operand} {v : V} (hx : ∀ t, x = .tmp t → ¬ X t) (h : ev G env x = some v) : Rep c v (f.eval x) := by
  cases x with
  | tmp t =>
    simp only [ev] at h
    obtain ⟨y, _, h2, h3⟩ := he.get h (hx t rfl)
    simp only [Frame.eval]
    rw [h2]
    exact h3
  | const y => exact toV_ok h
  | global g =>
    simp only [ev] at h
    split at h
    · rename_i hg
      cases h
      simp only [Rep, Frame.eval]
      exact ⟨_, hH.glob g hg, rfl⟩
    · cases h
  | func f =>
    simp only [ev, Option.some.injEq] at h
    subst h
    simp only [Rep, Frame.eval]
    exact ⟨_, _, rfl, Reps.nil.2 rfl, Reps.nil.2 rfl⟩
theorem rho_ok {X : Nat → Prop} {n : Nat} {env : Tr V} {f : Frame} (hH : HR P ok G.ng c H w) (he : EnvR c X n env f.tmps) {l : List Operand} (hl : ∀ t, .tmp t ∈ l → ¬ X t) : RhoR c (ev G env) f.eval l :=
  fun _x hx _v hv => ev_ok hH he (fun t e => hl t (e ▸ hx)) hv

/-! ### Guards -/
theorem wanted_ok {X : Nat → Prop} {n : Nat} {env : Tr V} {tmps : Array Value} {ops : Array Oper} {o : Oper} {b : Bool} (he : EnvR c X n env tmps)
    (hx : ∀ g want r d, o.guard = some (g, want) → ops[g]? = some r → r.dst = some d → ¬ X d) (h : wantedA ops env o = some b) : Region.wanted o (yielded ops tmps) = b := by
  unfold wantedA at h
  unfold Region.wanted
  split at h
  · rename_i hg
    simp only [Option.some.injEq] at h
    simp [hg, h]
  · rename_i g want hg
    split at h
    · rename_i r hr
      rw [nthO_eq, Array.getElem?_toList] at hr
      split at h
      · rename_i d hd
        have hn := hx g want r d hg hr hd
        split at h
        · rename_i x hv
          obtain ⟨y, h1, _, h3⟩ := he.get hv hn
          simp only [Rep] at h3
          subst h3
          simp only [Option.some.injEq] at h
          subst h
          simp [hg, yielded, hr, hd, h1]
        · rename_i hv
          obtain ⟨y, h1, _, h3⟩ := he.get hv hn
          simp only [Rep] at h3
          obtain ⟨A, rfl, _⟩ := h3
          simp only [Option.some.injEq] at h
          subst h
          simp [hg, yielded, hr, hd, h1]
        · cases h
      · cases h
    · cases h

/-! ### Which operations make a block -/
def isNewOp : Op → Bool
  | .alloc _ | .box _ _ | .buildSlice .. | .makeMap _ _ | .makeSlice .. | .range _ _ => true
  | _ => false
theorem armCall_new {f : V} {args : List V} {ob : AO} {mk : Nat → V} : armCall G H f args ≠ .new ob mk := by
  intro h
  unfold armCall extA at h
  repeat' (first | (cases h; done) | split at h)
theorem ofV_new {o : Option V} {ob : AO} {mk : Nat → V} : R1.ofV o ≠ .new ob mk := by cases o <;> simp [R1.ofV]
theorem ofE_new {o : Option (V × AH)} {ob : AO} {mk : Nat → V} : R1.ofE o ≠ .new ob mk := by
  cases o with
  | none => simp [R1.ofE]
  | some p => obtain ⟨a, b⟩ := p; simp [R1.ofE]
theorem armBuiltin_new {b : Builtin} {ts : List TypeId} {args : List V} {ob : AO} {mk : Nat → V} : armBuiltin G H b ts args ≠ .new ob mk := by
  unfold armBuiltin
  repeat' (first | exact ofV_new | exact ofE_new | (intro h; cases h; done) | split)
theorem o1_new {o : Option V} {k : V → R1} {ob : AO} {mk : Nat → V} (h : ∀ v, k v ≠ .new ob mk) : o1 o k ≠ .new ob mk := by
  cases o with
  | none => simp [o1]
  | some v => exact h v
theorem xCall_new {ρ : Rho} {cl : Call} {ob : AO} {mk : Nat → V} : xCall G H ρ cl ≠ .new ob mk := by
  unfold xCall
  repeat' (first | exact armCall_new | exact armBuiltin_new | (intro h; cases h; done) | split)
theorem xPick_new {ρ : Rho} {a b d : Operand} {ob : AO} {mk : Nat → V} : xPick ρ a b d ≠ .new ob mk := by
  unfold xPick
  repeat' (first | exact ofV_new | (intro h; cases h; done) | split)
theorem xNil_new {ρ : Rho} {a : Operand} {ob : AO} {mk : Nat → V} : xNil ρ a ≠ .new ob mk := by
  unfold xNil
  repeat' (first | (intro h; cases h; done) | split)
theorem xFunc_new {ρ : Rho} {f : Fn} {a b : Array Operand} {ob : AO} {mk : Nat → V} : xFunc ρ f a b ≠ .new ob mk := by
  unfold xFunc
  repeat' (first | (intro h; cases h; done) | split)
theorem xDefer_new {ρ : Rho} {cl : Call} {ob : AO} {mk : Nat → V} : xDefer ρ cl ≠ .new ob mk := by
  unfold xDefer
  repeat' (first | (intro h; cases h; done) | split)
theorem xConv_new {s d : TypeId} {x : V} {ob : AO} {mk : Nat → V} : xConv G H s d x ≠ .new ob mk := by
  unfold xConv
  repeat' (first | exact ofV_new | (intro h; cases h; done) | split)
theorem op1_new {ρ : Rho} {op : Op} {ob : AO} {mk : Nat → V} (h : op1 G H ρ op = .new ob mk) : isNewOp op = true := by
  cases hn : isNewOp op with
  | true => rfl
  | false =>
    exfalso
    revert h
    cases op
    case slice t x lo hi mx =>
      cases mx with
      | none =>
        simp only [op1]
        refine o1_new fun _ => ?_
        split
        · exact ofV_new
        · intro h; cases h
      | some m => simp only [op1]; intro h; cases h
    all_goals first
      | (cases hn; done)
      | (simp only [op1]; repeat' (first | exact ofV_new | exact ofE_new | exact xCall_new | exact xPick_new | exact xNil_new | exact xFunc_new | exact xDefer_new | exact xConv_new | (refine o1_new fun _ => ?_) | (intro h; cases h; done) | split))
theorem new_val {o : Option (AO × (Nat → V))} {v : V} : R1.ofN o ≠ .val v := by
  cases o with
  | none => simp [R1.ofN]
  | some p => obtain ⟨a, b⟩ := p; simp [R1.ofN]
theorem o1_val {o : Option V} {k : V → R1} {u : V} (h : ∀ v, k v ≠ .val u) : o1 o k ≠ .val u := by
  cases o with
  | none => simp [o1]
  | some v => exact h v
theorem op1_val {ρ : Rho} {op : Op} {v : V} (h : op1 G H ρ op = .val v) : isNewOp op = false ∧ ∀ cl, op ≠ .defer cl := by
  refine ⟨?_, ?_⟩
  · cases hn : isNewOp op with
    | false => rfl
    | true =>
      exfalso
      revert h
      cases op
      case makeMap t r =>
        cases r <;> (simp only [op1]; intro h; cases h)
      all_goals first
        | (cases hn; done)
        | (simp only [op1, xAlloc, xBox]; repeat' (first | exact new_val | (refine o1_val fun _ => ?_) | (intro h; cases h; done) | split))
  · rintro cl rfl
    revert h
    simp only [op1, xDefer]
    repeat' (first | (intro h; cases h; done) | split)
theorem op1_new_defer {ρ : Rho} {op : Op} {ob : AO} {mk : Nat → V} (h : op1 G H ρ op = .new ob mk) : ∀ cl, op ≠ .defer cl := by
  rintro cl rfl
  have := op1_new h
  cases this
/-- A block's maker says its id. -/
def SaysId (mk : Nat → V) : Prop := ∀ i j, idOf (mk i) = some j → j = i
theorem saysN {o : Option (AO × (Nat → V))} (h : ∀ a b, o = some (a, b) → SaysId b) {ob : AO} {mk : Nat → V} (e : R1.ofN o = .new ob mk) : SaysId mk := by
  cases o with
  | none => cases e
  | some p =>
    obtain ⟨a, b⟩ := p
    simp only [R1.ofN] at e
    cases e
    exact h _ _ rfl
theorem o1_says {o : Option V} {k : V → R1} {ob : AO} {mk : Nat → V} (e : o1 o k = .new ob mk) (h : ∀ v, k v = .new ob mk → SaysId mk) : SaysId mk := by
  cases o with
  | none => cases e
  | some v => exact h v e
theorem says_p {o : Nat} : SaysId fun id => .p id o := fun i j h => by simp only [idOf, Option.some.injEq] at h; exact h.symm
theorem op1_says {ρ : Rho} {op : Op} {ob : AO} {mk : Nat → V} (h : op1 G H ρ op = .new ob mk) : SaysId mk := by
  have hn := op1_new h
  cases op <;> first | (cases hn; done) | skip
  case alloc e =>
    simp only [op1, xAlloc] at h
    split at h
    · cases h; exact says_p
    · cases h
  case box e x =>
    simp only [op1, xBox] at h
    split at h
    · split at h
      · cases h; exact says_p
      · cases h
    · cases h
  case buildSlice t n ps =>
    simp only [op1] at h
    split at h
    · refine saysN (fun a b e => ?_) h
      unfold armBuildSlice at e
      repeat' (first | (cases e; done) | split at e)
      cases e
      intro i j h; simp only [idOf, Option.some.injEq] at h; exact h.symm
    · cases h
  case makeMap t r =>
    cases r with
    | none =>
      simp only [op1] at h
      cases h
      intro i j h; simp only [idOf, Option.some.injEq] at h; exact h.symm
    | some x => simp only [op1] at h; cases h
  case makeSlice t l k =>
    simp only [op1] at h
    refine o1_says h fun _ h => o1_says h fun _ h => saysN (fun a b e => ?_) h
    unfold armMakeSlice at e
    repeat' (first | (cases e; done) | split at e)
    cases e
    intro i j h; simp only [idOf, Option.some.injEq] at h; exact h.symm
  case range t x =>
    simp only [op1] at h
    refine o1_says h fun _ h => saysN (fun a b e => ?_) h
    unfold armRange at e
    repeat' (first | (cases e; done) | split at e)
    all_goals (cases e; exact says_p)
end
end Go.Proofs.YtbkipanlicgooaaGreatDoor
namespace Go.Proofs.YtbkipanlicgooaaGreatDoor

/-- Every drawn region of the code has a right plan, if it has any. -/
def okG (G : Glob) (f : FuncId) (b : Code) : Prop := okC planOk (plansOf G f) b = true

inductive ItemR (G : Glob) (c : Ctx) (fn : FuncId) : AI → Item → Prop
  | code {b : Code} (h : okG G fn b) : ItemR G c fn (.code b) (.code b)
  | blk {id : Nat} : ItemR G c fn (.blk id) (.inBlock id)
  | lp {b : Code} (h : okG G fn b) : ItemR G c fn (.lp b) (.inLoop b)
  | scp {b : Code} (h : okG G fn b) : ItemR G c fn (.scp b) (.inScope b)
  | reg {ops : Array Oper} {i : Nat} : ItemR G c fn (.reg ops i (ops.toList.drop i)) (.inRegion ops ((List.range ops.size).drop i))
  | rf {id : Nat} {l : Loc} (h : c.μ id = some l) : ItemR G c fn (.rf id) (.inRangeFunc l.b)
  | erf {id : Nat} {l : Loc} (h : c.μ id = some l) : ItemR G c fn (.erf id) (.endRangeFunc l.b)
  | br : ItemR G c fn .br .beginRound
inductive ItemsR (G : Glob) (c : Ctx) (fn : FuncId) : List AI → List Item → Prop
  | nil : ItemsR G c fn [] []
  | cons {a : AI} {x : Item} {k : List AI} {l : List Item} (h : ItemR G c fn a x) (hk : ItemsR G c fn k l) : ItemsR G c fn (a :: k) (x :: l)

/-- The temporaries that wait: the abstract machine has them, the concrete one has not yet. -/
def Wt (ops : Array Oper) (done : List (Nat × List Nat)) (S : List Nat) (t : Nat) : Prop := ∃ j o, j ∈ S ∧ j ∈ ids done ∧ ops[j]? = some o ∧ o.dst = some t
/-- An operation that waits would make the block id. -/
def PId (env : Tr V) (ops : Array Oper) (done : List (Nat × List Nat)) (S : List Nat) (j id : Nat) : Prop :=
  ∃ o d v, j ∈ S ∧ j ∈ ids done ∧ ops[j]? = some o ∧ isNewOp o.op = true ∧ o.dst = some d ∧ env.get d = some v ∧ idOf v = some id
structure PN (c : Ctx) (lo hi : Nat) (env : Tr V) (ops : Array Oper) (done : List (Nat × List Nat)) (S : List Nat) : Prop where
  one : ∀ j id, PId env ops done S j id → c.μ id = none ∧ lo ≤ id ∧ id < hi
  two : ∀ j j' id, PId env ops done S j id → PId env ops done S j' id → j = j'
structure DreR (c : Ctx) (lo hi n : Nat) (env : Tr V) (tmps : Array Value) (ops : Array Oper) (rv : List Nat) (todo : List (Nat × PK)) (S : List Nat) (s : PS) : Prop where
  nd : nodupN (dsts ops.toList) = true
  chk : chk ops rv s todo = true
  dr : DR ops s S
  en : EnvR c (Wt ops s.done S) n env tmps
  pn : PN c lo hi env ops s.done S
  ex : ∀ j ∈ s.E, j ∈ s.efs ∨ j ∈ efL todo
inductive BodyR (G : Glob) (c : Ctx) (lo hi : Nat) (fn : FuncId) (n : Nat) (env : Tr V) (tmps : Array Value) : Bool → List AI → List Item → Prop
  | plain {wait : Bool} {k : List AI} {l : List Item} (h : ItemsR G c fn k l) (he : EnvR c (fun _ => False) n env tmps) : BodyR G c lo hi fn n env tmps wait k l
  | dreg {ops : Array Oper} {rv : List Nat} {todo : List (Nat × PK)} {k : List AI} {S : List Nat} {K : List Item} {s : PS} (hk : ItemsR G c fn k K) (hd : DreR c lo hi n env tmps ops rv todo S s) :
      BodyR G c lo hi fn n env tmps false (.dreg ops todo rv :: k) (.inRegion ops S :: K)
  | wait {ops : Array Oper} {rv : List Nat} {todo : List (Nat × PK)} {k : List AI} {j : Nat} {pk : PK} {Y : List Nat} {K : List Item} {s : PS} (hk : ItemsR G c fn k K) (hj : j ∉ Y)
      (hd : DreR c lo hi n env tmps ops rv todo Y s) : BodyR G c lo hi fn n env tmps true (.dreg ops ((j, pk) :: todo) rv :: k) (.inRegion ops (j :: Y) :: K)
def RndR (c : Ctx) : Option Nat → Option Nat → Prop
  | none, r => r = none
  | some id, r => ∃ l, c.μ id = some l ∧ r = some l.b
structure FR (G : Glob) (c : Ctx) (lo hi : Nat) (wait : Bool) (a : AF) (f : Frame) : Prop where
  fn : f.fn = a.fn
  kind : f.kind = if a.dk then .deferred else .normal
  rnd : RndR c a.rnd f.roundOf
  dfs : DfRs c a.dfs f.defers
  run : a.ret = false → f.mode = .run ∧ BodyR G c lo hi a.fn a.n a.env f.tmps wait a.todo f.todo
  ret : a.ret = true → f.mode = .returning ∧ EnvR c (fun _ => False) a.n a.env f.tmps
  nd : ∀ id, a.rnd = some id → a.dk = false
/-- The callers: behind them are those of the call that began. -/
def FRs (G : Glob) (c : Ctx) (cl : List Frame) (cs0 : List Frame) : Bool → Option Nat → Nat → List AF → List Frame → Prop
  | dk, rnd, _, [], l => l = cl ++ cs0 ∧ dk = false ∧ rnd = none
  | dk, _, hi, a :: as, l => ∃ f fs lo, l = f :: fs ∧ lo ≤ hi ∧ FR G c lo hi true a f ∧ a.ret = dk ∧ FRs G c cl cs0 a.dk a.rnd lo as fs

section
variable {P : Program} {G : Glob} {ok : FuncId → Code → Prop} {c c' : Ctx} {H H0 : AH} {w : World}

/-! ### A context that says more -/
theorem ItemR.le (h : Le c c') {fn : FuncId} {a : AI} {x : Item} (r : ItemR G c fn a x) : ItemR G c' fn a x := by
  cases r with
  | code h => exact .code h
  | blk => exact .blk
  | lp h => exact .lp h
  | scp h => exact .scp h
  | reg => exact .reg
  | rf k => exact .rf (h.μ _ _ k)
  | erf k => exact .erf (h.μ _ _ k)
  | br => exact .br
theorem ItemsR.le (h : Le c c') {fn : FuncId} {a : List AI} {x : List Item} (r : ItemsR G c fn a x) : ItemsR G c' fn a x := by
  induction r with
  | nil => exact .nil
  | cons k _ ih => exact .cons (k.le h) ih
theorem PN.le {lo hi hi' : Nat} {env : Tr V} {ops : Array Oper} {done : List (Nat × List Nat)} {S : List Nat} (h : PN c lo hi env ops done S) (hold : ∀ id, lo ≤ id → id < hi → c.μ id = none → c'.μ id = none) (hh : hi ≤ hi') :
    PN c' lo hi' env ops done S :=
  ⟨fun j id hp => by
    obtain ⟨h1, h2, h3⟩ := h.one j id hp
    exact ⟨hold id h2 h3 h1, h2, Nat.lt_of_lt_of_le h3 hh⟩, h.two⟩
theorem DreR.le {lo hi hi' n : Nat} {env : Tr V} {tmps : Array Value} {ops : Array Oper} {rv : List Nat} {todo : List (Nat × PK)} {S : List Nat} {s : PS} (h : DreR c lo hi n env tmps ops rv todo S s)
    (hle : Le c c') (hold : ∀ id, lo ≤ id → id < hi → c.μ id = none → c'.μ id = none) (hh : hi ≤ hi') : DreR c' lo hi' n env tmps ops rv todo S s :=
  ⟨h.nd, h.chk, h.dr, h.en.le hle, h.pn.le hold hh, h.ex⟩
/-- The effects that are done. -/
theorem DreR.effs {c : Ctx} {lo hi n : Nat} {env : Tr V} {tmps : Array Value} {ops : Array Oper} {rv : List Nat} {todo : List (Nat × PK)} {S : List Nat} {s : PS} (h : DreR c lo hi n env tmps ops rv todo S s) : ∀ j ∈ s.E, j ∈ ids s.done → j ∈ s.efs :=
  fun j hj hd => (h.ex j hj).elim id fun hl => absurd hd (chk_new h.chk hl)
theorem FR.le {lo hi hi' : Nat} {wait : Bool} {a : AF} {f : Frame} (h : FR G c lo hi wait a f) (hle : Le c c') (hold : ∀ id, lo ≤ id → id < hi → c.μ id = none → c'.μ id = none) (hh : hi ≤ hi') :
    FR G c' lo hi' wait a f := by
  refine ⟨h.fn, h.kind, ?_, h.dfs.le hle, fun hr => ⟨(h.run hr).1, ?_⟩, fun hr => ⟨(h.ret hr).1, (h.ret hr).2.le hle⟩, h.nd⟩
  · have := h.rnd
    cases e : a.rnd with
    | none => rw [e] at this; exact this
    | some id =>
      rw [e] at this
      obtain ⟨l, h1, h2⟩ := this
      exact ⟨l, hle.μ _ _ h1, h2⟩
  · have hb := (h.run hr).2
    generalize a.todo = k at hb ⊢
    generalize f.todo = l at hb ⊢
    cases hb with
    | plain h1 h2 => exact .plain (h1.le hle) (h2.le hle)
    | dreg hk hd => exact .dreg (hk.le hle) (hd.le hle hold hh)
    | wait hk hj hd => exact .wait (hk.le hle) hj (hd.le hle hold hh)
theorem FRs.le {cl : List Frame} {cs0 : List Frame} (hle : Le c c') : ∀ {as : List AF} {fs : List Frame} {dk : Bool} {rnd : Option Nat} {hi hi' : Nat}, FRs G c cl cs0 dk rnd hi as fs → (∀ id, id < hi → c.μ id = none → c'.μ id = none) → hi ≤ hi' →
    FRs G c' cl cs0 dk rnd hi' as fs
  | [], fs, dk, rnd, hi, hi', h, _, _ => h
  | a :: as, fs, dk, rnd, hi, hi', h, hold, hh => by
    obtain ⟨f, fs', lo, h1, h2, h3, h4, h5⟩ := h
    exact ⟨f, fs', lo, h1, Nat.le_trans h2 hh, h3.le hle (fun id _ k2 => hold id k2) hh, h4, FRs.le hle h5 (fun id k => hold id (Nat.lt_of_lt_of_le k h2)) (Nat.le_refl _)⟩

/-! ### A value comes back to a frame -/
theorem drop_range {n i : Nat} (h : i < n) : (List.range n).drop i = i :: (List.range n).drop (i + 1) := by
  rw [List.drop_eq_getElem_cons (by simpa using h)]
  simp
theorem drop_cons {ops : Array Oper} {i : Nat} {o : Oper} {rest : List Oper} (h : ops.toList.drop i = o :: rest) : ops[i]? = some o ∧ rest = ops.toList.drop (i + 1) ∧ i < ops.size := by
  have hlt : i < ops.toList.length := by
    refine Classical.byContradiction fun hn => ?_
    rw [List.drop_eq_nil_of_le (by omega)] at h
    cases h
  rw [List.drop_eq_getElem_cons hlt] at h
  cases h
  refine ⟨?_, rfl, by simpa using hlt⟩
  rw [← Array.getElem?_toList, List.getElem?_eq_getElem hlt]
theorem putT_ok {X X' : Nat → Prop} {n : Nat} {env e : Tr V} {tmps : Array Value} {d : Option Tmp} {v : V} {y : Value} (h : putT n env d v = some e) (he : EnvR c X n env tmps) (hy : Rep c v y) (hX : ∀ t, X t → some t ≠ d → X' t) :
    EnvR c X' n e (put tmps d y) := by
  cases d with
  | none =>
    simp only [putT, Option.some.injEq] at h
    subst h
    exact he.weaken fun t ht => hX t ht nofun
  | some d =>
    simp only [putT] at h
    split at h
    · rename_i hd
      cases h
      exact he.put (by simpa using hd) hy fun t ht hne => hX t ht fun e => hne (Option.some.inj e)
    · cases h
theorem putT_get {n : Nat} {env e : Tr V} {d : Option Tmp} {v u : V} {t : Nat} (h : putT n env d v = some e) (ht : e.get t = some u) : (d = some t ∧ u = v) ∨ (d ≠ some t ∧ env.get t = some u) := by
  cases d with
  | none => simp only [putT, Option.some.injEq] at h; subst h; exact .inr ⟨nofun, ht⟩
  | some d =>
    simp only [putT] at h
    split at h
    · cases h
      rcases Tr.get_set _ _ _ _ _ ht with ⟨rfl, e⟩ | ⟨hne, hu⟩
      · exact .inl ⟨rfl, (Option.some.inj e).symm⟩
      · exact .inr ⟨fun e => hne (Option.some.inj e).symm, hu⟩
    · cases h
/-- An operation that does not wait has its value put. -/
theorem PN.put {lo hi n : Nat} {env e : Tr V} {ops : Array Oper} {done : List (Nat × List Nat)} {S : List Nat} {j : Nat} {o : Oper} {v : V} (h : PN c lo hi env ops done S) (hnd : nodupN (dsts ops.toList) = true) (hj : j ∉ S) (ho : ops[j]? = some o)
    (hp : putT n env o.dst v = some e) : PN c lo hi e ops done S := by
  have key : ∀ {i id}, PId e ops done S i id → PId env ops done S i id := by
    rintro i id ⟨o', d, u, h1, h2, h3, h4, h5, h6, h7⟩
    rcases putT_get hp h6 with ⟨hd, _⟩ | ⟨_, hu⟩
    · have e : j = i := dsts_nodup hnd (by rw [Array.getElem?_toList]; exact ho) (by rw [Array.getElem?_toList]; exact h3) hd h5
      subst e
      exact absurd h1 hj
    · exact ⟨o', d, u, h1, h2, h3, h4, h5, hu, h7⟩
  exact ⟨fun i id hp => h.one i id (key hp), fun i i' id h1 h2 => h.two i i' id (key h1) (key h2)⟩
theorem fin_ok {lo hi : Nat} {a a' : AF} {f : Frame} {v : V} {y : Value} (h : FR G c lo hi true a f) (hr : a.ret = false) (hf : a.fin v = some a') (hy : Rep c v y) : FR G c lo hi false a' (f.finish y) ∧ a'.ret = false ∧ a'.dk = a.dk ∧ a'.rnd = a.rnd ∧ a'.dfs = a.dfs ∧ (f.finish y).defers = f.defers := by
  obtain ⟨fn, n, env, todo, dfs, ret, dk, rnd⟩ := a
  obtain ⟨fn', tmps, todo', defers, mode, kind, roundOf⟩ := f
  obtain ⟨h1, h2, h3, h4, h5, h6, h7⟩ := h
  clear h6
  simp only at h1 h2 h3 h4 h5 hr
  subst h1 hr
  obtain ⟨hm, hb⟩ := h5 rfl
  subst hm
  simp only [AF.fin] at hf
  split at hf
  · rename_i ops i o rest k
    split at hf
    · rename_i e he
      cases hf
      cases hb with
      | plain hi_ hen =>
        rename_i l
        cases hi_ with
        | cons hx hk =>
          generalize hq : (o :: rest) = q at hx
          cases hx with
          | reg =>
            obtain ⟨ho, rfl, hlt⟩ := drop_cons hq.symm
            rw [drop_range hlt, fin_reg ho]
            refine ⟨⟨rfl, h2, h3, h4, fun _ => ⟨rfl, .plain (.cons .reg hk) (putT_ok he hen hy fun _ hx _ => hx)⟩, nofun, h7⟩, rfl, rfl, rfl, rfl, rfl⟩
    · cases hf
  · rename_i ops j pk l rv k
    split at hf
    · rename_i o ho
      rw [nthO_eq, Array.getElem?_toList] at ho
      split at hf
      · rename_i e he
        cases hf
        cases hb with
        | plain hi_ hen =>
          cases hi_ with
          | cons hx hk => cases hx
        | wait hk hj hd =>
          rw [fin_reg ho]
          refine ⟨⟨rfl, h2, h3, h4, fun _ => ⟨rfl, .dreg hk ⟨hd.nd, hd.chk, hd.dr, putT_ok he hd.en hy fun _ hx _ => hx, hd.pn.put hd.nd hj ho he, hd.ex⟩⟩, nofun, h7⟩, rfl, rfl, rfl, rfl, rfl⟩
      · cases hf
    · cases hf
  · rename_i id k
    cases hf
    cases hb with
    | plain hi_ hen =>
      cases hi_ with
      | cons hx hk =>
        cases hx with
        | rf hl => exact ⟨⟨rfl, h2, h3, h4, fun _ => ⟨rfl, .plain (.cons (.erf hl) hk) hen⟩, nofun, h7⟩, rfl, rfl, rfl, rfl, rfl⟩
  · rename_i k
    cases hf
    cases hb with
    | plain hi_ hen =>
      cases hi_ with
      | cons hx hk =>
        cases hx with
        | br => exact ⟨⟨rfl, h2, h3, h4, fun _ => ⟨rfl, .plain hk hen⟩, nofun, h7⟩, rfl, rfl, rfl, rfl, rfl⟩
  · cases hf

/-! ### A call is entered -/
theorem setArgs_get : ∀ {args : List V} {env : Tr V} {i t : Nat} {v : V}, (setArgs env i args).get t = some v → (∃ j, t = i + j ∧ args[j]? = some v) ∨ env.get t = some v
  | [], env, i, t, v, h => .inr h
  | x :: l, env, i, t, v, h => by
    simp only [setArgs] at h
    rcases setArgs_get h with ⟨j, rfl, hj⟩ | h
    · exact .inl ⟨j + 1, by omega, by simpa using hj⟩
    · rcases Tr.get_set _ _ _ _ _ h with ⟨rfl, e⟩ | ⟨_, e⟩
      · exact .inl ⟨0, rfl, by simp [← Option.some.inj e]⟩
      · exact .inr e
theorem Reps.at_ : ∀ {l : List V} {x : List Value} {n : Nat} {v : V}, Reps c l x → l[n]? = some v → ∃ y, x[n]? = some y ∧ Rep c v y
  | [], x, n, v, h, e => by simp at e
  | u :: us, x, 0, v, h, e => by
    obtain ⟨z, zs, rfl, h1, h2⟩ := Reps.cons.1 h
    simp only [List.getElem?_cons_zero, Option.some.injEq] at e
    subst e
    exact ⟨z, rfl, h1⟩
  | u :: us, x, n + 1, v, h, e => by
    obtain ⟨z, zs, rfl, h1, h2⟩ := Reps.cons.1 h
    obtain ⟨y, k1, k2⟩ := Reps.at_ (n := n) h2 (by simpa using e)
    exact ⟨y, by simpa using k1, k2⟩
theorem enter_ok (hG : GOk P G (okG G) H0) {f : FuncId} {args : List V} {dk : Bool} {a : AF} {xs : Array Value} {kind : CallKind} {hi : Nat} (h : enter G f args dk = some a) (hx : Reps c args xs.toList) (hk : kind = if dk then .deferred else .normal) :
    FR G c hi hi false a (Frame.enter P f xs kind) ∧ a.ret = false ∧ a.dk = dk ∧ a.rnd = none := by
  unfold enter at h
  split at h
  · rename_i af haf
    have hF := hG.fn f af haf
    split at h
    · rename_i b hext hbody
      split at h
      · rename_i hlen
        cases h
        simp only [decide_eq_true_eq] at hlen
        have hsz : xs.size = args.length := by rw [← hx.length]; simp
        refine ⟨⟨rfl, hk, rfl, rfl, fun _ => ⟨rfl, ?_⟩, nofun, nofun⟩, rfl, rfl, rfl⟩
        simp only [Frame.enter, hF.get, Option.bind_some, hbody, Option.getD_some, Option.map_some]
        refine .plain (.cons (.code (hF.body hext b hbody)) .nil) ⟨?_, fun t v hv => ?_, fun t v hv _ => ?_⟩
        · simp; omega
        · rcases setArgs_get hv with ⟨j, rfl, hj⟩ | hv
          · have := (List.getElem?_eq_some_iff.1 hj).1
            omega
          · rw [Tr.get_full] at hv; cases hv
        · rcases setArgs_get hv with ⟨j, rfl, hj⟩ | hv
          · obtain ⟨y, h1, h2⟩ := hx.at_ hj
            refine ⟨y, ?_, h2⟩
            rw [Array.getElem?_toList] at h1
            have hlt := (Array.getElem?_eq_some_iff.1 h1).1
            rw [Nat.zero_add, Array.getElem?_append_left hlt]
            exact h1
          · rw [Tr.get_full] at hv; cases hv
      · cases h
    · cases h
  · cases h

/-! ### A round's arguments -/
theorem addArgs_ok {n : Nat} : ∀ {ts : List Tmp} {vs : List V} {env e : Tr V} {tmps : Array Value} {xs : List Value}, addArgs n env ts vs = some e → EnvR c (fun _ => False) n env tmps → Reps c vs xs →
    ts.length = vs.length ∧ EnvR c (fun _ => False) n e ((ts.zip xs).foldl (fun tmps (t, a) => tmps.setIfInBounds t a) tmps)
  | [], [], env, e, tmps, xs, h, he, hx => by
    simp only [addArgs, Option.some.injEq] at h
    subst h
    exact ⟨rfl, by simpa using he⟩
  | t :: ts, v :: vs, env, e, tmps, xs, h, he, hx => by
    simp only [addArgs] at h
    obtain ⟨y, ys, rfl, h1, h2⟩ := Reps.cons.1 hx
    split at h
    · rename_i hd
      obtain ⟨k1, k2⟩ := addArgs_ok h (he.put (X' := fun _ => False) (by simpa using hd) h1 fun _ hx _ => hx) h2
      refine ⟨by simp [k1], ?_⟩
      simp only [List.zip_cons_cons, List.foldl_cons]
      exact k2
    · cases h
  | [], v :: vs, env, e, tmps, xs, h, he, hx => by simp [addArgs] at h
  | t :: ts, [], env, e, tmps, xs, h, he, hx => by simp [addArgs] at h
end
end Go.Proofs.YtbkipanlicgooaaGreatDoor
namespace Go.Proofs.YtbkipanlicgooaaGreatDoor
section
variable {P : Program} {G : Glob} {H H0 : AH}

theorem uV_rep {c : Ctx} : Rep c uV undef := by
  simp only [Rep]
  exact ⟨#[], rfl, Reps.nil.2 rfl⟩
theorem Wt.tail {ops : Array Oper} {done : List (Nat × List Nat)} {x : Nat} {S : List Nat} {o : Oper} {t : Nat} (ho : ops[x]? = some o) (h : Wt ops done (x :: S) t) (hne : some t ≠ o.dst) : Wt ops done S t := by
  obtain ⟨j, oj, h1, h2, h3, h4⟩ := h
  rcases List.mem_cons.1 h1 with rfl | h1
  · rw [ho] at h3
    cases h3
    exact absurd h4.symm hne
  · exact ⟨j, oj, h1, h2, h3, h4⟩
theorem PN.tail {c : Ctx} {lo hi : Nat} {env : Tr V} {ops : Array Oper} {done : List (Nat × List Nat)} {x : Nat} {S : List Nat} (h : PN c lo hi env ops done (x :: S)) : PN c lo hi env ops done S := by
  have key : ∀ {j id}, PId env ops done S j id → PId env ops done (x :: S) j id := by
    rintro j id ⟨o, d, v, h1, h2⟩
    exact ⟨o, d, v, by simp [h1], h2⟩
  exact ⟨fun j id hp => h.one j id (key hp), fun j j' id h1 h2 => h.two j j' id (key h1) (key h2)⟩
/-- What the concrete machine is when operations that waited have been done. -/
structure Pend (P : Program) (G : Glob) (H : AH) (c : Ctx) (w : World) (lo n : Nat) (env : Tr V) (ops : Array Oper) (s : PS) (Y : List Nat) (c' : Ctx) (tmps' : Array Value) (w' : World) : Prop where
  le : Le c c'
  base : c'.base = c.base
  old : ∀ id, id < lo → c.μ id = none → c'.μ id = none
  hr : HR P (okG G) G.ng c' H w'
  kp : Kp w w'
  dr : DR ops s Y
  en : EnvR c' (Wt ops s.done Y) n env tmps'
  pn : PN c' lo H.nx env ops s.done Y

theorem looks_free {ops : Array Oper} {s : PS} {x : Nat} {S : List Nat} {o : Oper} {t : Nat} (hE : ∀ j ∈ s.E, j ∈ ids s.done → j ∈ s.efs) (hD : DR ops s (x :: S)) (hx : x ∈ ids s.done) (ho : ops[x]? = some o) (ht : t ∈ o.looksAt ops) : ¬ Wt ops s.done (x :: S) t := by
  rintro ⟨j, oj, h1, h2, h3, h4⟩
  simp only [ids, List.mem_map] at hx
  obtain ⟨⟨x', a⟩, ha, rfl⟩ := hx
  have hl := (hD.loc _ _ ha o ho).1
  have := okLooks_mem hl (i := j) (by rw [Array.getElem?_toList]; exact h3) h4 ht
  rw [Nat.zero_add] at this
  rcases this with this | this
  · exact Bf.done hD.nodup (hD.anc _ _ ha j this) h1
  · exact hD.eff j (hE j this h2) h1
theorem looks_opd {ops : Array Oper} {o : Oper} {t : Nat} (h : Operand.tmp t ∈ o.op.operands.toList) : t ∈ o.looksAt ops := by
  simp only [Oper.looksAt, List.mem_append, List.mem_filterMap]
  exact .inl ⟨_, h, rfl⟩
theorem looks_guard {ops : Array Oper} {o r : Oper} {g d : Nat} {want : Bool} (h : o.guard = some (g, want)) (hr : ops[g]? = some r) (hd : r.dst = some d) : d ∈ o.looksAt ops := by
  simp only [Oper.looksAt, List.mem_append]
  right
  rw [h]
  simp [hr, hd]

theorem pend1 (hG : GOk P G (okG G) H0) {s : PS} (hE : ∀ j ∈ s.E, j ∈ ids s.done → j ∈ s.efs) {c : Ctx} {w : World} {lo n : Nat} {env : Tr V} {tmps : Array Value} {ops : Array Oper} {x : Nat} {S : List Nat} {fn : FuncId} {k : List Item} {defers : List Deferred} {kind : CallKind} {rnd : Option Nat} {cs : List Frame}
    (hH : HR P (okG G) G.ng c H w) (hD : DR ops s (x :: S)) (he : EnvR c (Wt ops s.done (x :: S)) n env tmps) (hp : PN c lo H.nx env ops s.done (x :: S)) (hx : x ∈ ids s.done) (hl : lookA G H ops env x = true) :
    ∃ c' tmps' w', step P (lone (F fn tmps (.inRegion ops (x :: S) :: k) defers kind rnd) cs w) = .next (lone (F fn tmps' (.inRegion ops S :: k) defers kind rnd) cs w') ∧ Pend P G H c w lo n env ops s S c' tmps' w' := by
  unfold lookA at hl
  split at hl
  · rename_i o ho
    rw [nthO_eq, Array.getElem?_toList] at ho
    have hfree : ∀ t, t ∈ o.looksAt ops → ¬ Wt ops s.done (x :: S) t := fun t ht => looks_free hE hD hx ho ht
    have hD' : DR ops s S := hD.tail hx
    split at hl
    · -- wanted
      rename_i hw
      have hw' := wanted_ok (tmps := tmps) he (fun g want r d h1 h2 h3 => hfree d (looks_guard h1 h2 h3)) hw
      have hg := op1_ok (w := w) (o := o) hG hH (rho_ok (f := F fn tmps (.inRegion ops (x :: S) :: k) defers kind rnd) hH he (fun t ht => hfree t (looks_opd ht)))
      split at hl
      · rename_i v hv
        rw [hv] at hg
        obtain ⟨y, h1, h2⟩ := hg
        refine ⟨c, put tmps o.dst y, w, st_val ho hw' (.inr (op1_val hv).2) h1 (.inl rfl), Le.refl c, rfl, fun _ _ h => h, hH, Kp.refl w, hD', ?_, hp.tail⟩
        cases hd : o.dst with
        | none => exact he.weaken fun t ht => ht.tail ho (by rw [hd]; nofun)
        | some d =>
          rw [hd] at hl
          simp only at hl
          split at hl
          · rename_i u hu
            have := vbeq_eq hl
            subst this
            exact he.catch_ hu h2 fun t ht hne => ht.tail ho (by rw [hd]; exact fun e => hne (Option.some.inj e))
          · cases hl
      · rename_i ob mk hv
        rw [hv] at hg
        obtain ⟨y, w1, ob', cap, h1, h2, h3, h4⟩ := hg
        cases hd : o.dst with
        | none => rw [hd] at hl; simp at hl
        | some d =>
          rw [hd] at hl
          simp only at hl
          split at hl
          · rename_i u hu
            split at hl
            · rename_i id hid
              simp only [Bool.and_eq_true] at hl
              have h5 := vbeq_eq hl.1
              have h6 := sameNew_eq hl.2
              have hpid : PId env ops s.done (x :: S) x id := ⟨o, d, u, by simp, hx, ho, op1_new hv, hd, hu, hid⟩
              obtain ⟨q1, q2, q3⟩ := hp.one x id hpid
              have hle := Ctx.le_up (c := c) ⟨w.heap.size, cap⟩ q1
              obtain ⟨r1, r2⟩ := h4 id _ hle (Ctx.up_same c id ⟨w.heap.size, cap⟩)
              have hst := st_val (P := P) (cs := cs) ho hw' (.inr (op1_new_defer hv)) h1 (.inl rfl)
              refine ⟨_, _, w1, hst, hle, rfl, fun i hi hn => ?_, ((hH.place q1 q3 h6 r1).world h2), h3, hD', ?_, ?_⟩
              · rw [Ctx.up_ne _ _ (by omega)]; exact hn
              · rw [hd]
                exact (he.le hle).catch_ hu (h5 ▸ r2) fun t ht hne => ht.tail ho (by rw [hd]; exact fun e => hne (Option.some.inj e))
              · refine ⟨fun j i hp' => ?_, hp.tail.two⟩
                obtain ⟨a1, a2, a3⟩ := hp.tail.one j i hp'
                refine ⟨?_, a2, a3⟩
                have hne : i ≠ id := by
                  rintro rfl
                  obtain ⟨o', d', v', b1, b2⟩ := hp'
                  have := hp.two j x i ⟨o', d', v', by simp [b1], b2⟩ hpid
                  subst this
                  exact (List.nodup_cons.1 hD.nodup).1 b1
                rw [Ctx.up_ne _ _ hne]
                exact a1
            · cases hl
          · cases hl
      · cases hl
    · -- not wanted
      rename_i hw
      have hw' := wanted_ok (tmps := tmps) he (fun g want r d h1 h2 h3 => hfree d (looks_guard h1 h2 h3)) hw
      refine ⟨c, put tmps o.dst undef, w, st_unwanted ho hw', Le.refl c, rfl, fun _ _ h => h, hH, Kp.refl w, hD', ?_, hp.tail⟩
      cases hd : o.dst with
      | none => exact he.weaken fun t ht => ht.tail ho (by rw [hd]; nofun)
      | some d =>
        rw [hd] at hl
        simp only at hl
        split at hl
        · rename_i u hu
          have := vbeq_eq hl
          subst this
          exact he.catch_ hu uV_rep fun t ht hne => ht.tail ho (by rw [hd]; exact fun e => hne (Option.some.inj e))
        · cases hl
    · cases hl
  · cases hl
theorem pends (hG : GOk P G (okG G) H0) {s : PS} (hE : ∀ j ∈ s.E, j ∈ ids s.done → j ∈ s.efs) {lo n : Nat} {env : Tr V} {ops : Array Oper} {Y : List Nat} {fn : FuncId} {k : List Item} {defers : List Deferred} {kind : CallKind} {rnd : Option Nat} {cs : List Frame} :
    ∀ {X : List Nat} {c : Ctx} {w : World} {tmps : Array Value}, HR P (okG G) G.ng c H w → DR ops s (X ++ Y) → EnvR c (Wt ops s.done (X ++ Y)) n env tmps → PN c lo H.nx env ops s.done (X ++ Y) → (∀ x ∈ X, x ∈ ids s.done ∧ lookA G H ops env x = true) →
    ∃ c' tmps' w', Steps P (lone (F fn tmps (.inRegion ops (X ++ Y) :: k) defers kind rnd) cs w) (lone (F fn tmps' (.inRegion ops Y :: k) defers kind rnd) cs w') ∧ Pend P G H c w lo n env ops s Y c' tmps' w'
  | [], c, w, tmps, hH, hD, he, hp, _ => ⟨c, tmps, w, Steps.refl _ _, Le.refl c, rfl, fun _ _ h => h, hH, Kp.refl w, hD, he, hp⟩
  | x :: X, c, w, tmps, hH, hD, he, hp, hx => by
    obtain ⟨c1, t1, w1, hs, h1⟩ := pend1 (fn := fn) (k := k) (defers := defers) (kind := kind) (rnd := rnd) (cs := cs) hG hE hH hD he hp (hx x (by simp)).1 (hx x (by simp)).2
    obtain ⟨c2, t2, w2, hs2, h2⟩ := pends hG hE h1.hr h1.dr h1.en h1.pn fun y hy => hx y (by simp [hy])
    exact ⟨c2, t2, w2, Steps.head hs hs2, h1.le.trans h2.le, h2.base.trans h1.base, fun id hi hn => h2.old id hi (h1.old id hi hn), h2.hr, h1.kp.trans h2.kp, h2.dr, h2.en, h2.pn⟩
theorem lookAll_mem {ops : Array Oper} {env : Tr V} : ∀ {l : List Nat}, lookAll G H ops env l = true → ∀ x ∈ l, lookA G H ops env x = true
  | [], _, x, hx => by cases hx
  | y :: l, h, x, hx => by
    simp only [lookAll, Bool.and_eq_true] at h
    rcases List.mem_cons.1 hx with rfl | hx
    · exact h.1
    · exact lookAll_mem h.2 x hx
end
end Go.Proofs.YtbkipanlicgooaaGreatDoor
namespace Go.Proofs.YtbkipanlicgooaaGreatDoor
section
variable {P : Program} {G : Glob} {H0 : AH} {w0 : World} {cl : List Frame} {cs0 : List Frame}

structure MR (P : Program) (G : Glob) (w0 : World) (cl : List Frame) (cs0 : List Frame) (wait : Bool) (c : Ctx) (a : AF) (as : List AF) (H : AH) (f : Frame) (fs : List Frame) (w : World) (lo : Nat) : Prop where
  hr : HR P (okG G) G.ng c H w
  lon : lo ≤ H.nx
  fr : FR G c lo H.nx wait a f
  fs : FRs G c cl cs0 a.dk a.rnd lo as fs
  kp : Kp w0 w
  old : ∀ b ob, w0.heap[b]? = some ob → c.Φ b = some ob
  base : c.base = w0.heap.size
/-- The machine comes to one that m stands for. -/
def NextR (P : Program) (G : Glob) (w0 : World) (cl : List Frame) (cs0 : List Frame) (m : AM) (M : Machine) : Prop :=
  ∃ c f fs w lo, Steps P M (lone f fs w) ∧ MR P G w0 cl cs0 false c m.fr m.cs m.H f fs w lo

theorem op1_defer {ρ : Rho} {H : AH} {op : Op} (h : (∀ d, op1 G H ρ op ≠ .dfr d) ∧ op1 G H ρ op ≠ .bad) : ∀ cl, op ≠ .defer cl := by
  rintro cl rfl
  simp only [op1] at h
  unfold xDefer at h
  obtain ⟨h1, h2⟩ := h
  split at h1
  · rename_i as has
    simp only [has] at h2
    split at h1
    · split at h1
      · exact h1 _ rfl
      · rename_i hc _ hne _
        simp_all
    · simp_all
  · rename_i hn
    simp [hn] at h2
theorem Glb.later {w w' : World} (h : Glb P (okG G) G.ng H0 w) (hh : ∀ (b : Nat) (ob : Obj), w.heap[b]? = some ob → w'.heap[b]? = some ob) : Glb P (okG G) G.ng H0 w' :=
  ⟨h.nx, fun id o ho => by
    obtain ⟨h1, h2, ob, h3, h4⟩ := h.at_ id o ho
    exact ⟨h1, h2, ob, hh _ _ h3, fun base => by
      have hle : Le ⟨(c0 G.ng w).μ, (c0 G.ng w).Φ, base⟩ ⟨(c0 G.ng w').μ, (c0 G.ng w').Φ, base⟩ := ⟨fun _ _ e => e, hh, Nat.le_refl _⟩
      exact (h4 base).le hle⟩⟩
/-- A value comes to the frame. -/
theorem fin_next {c c' : Ctx} {a a' : AF} {as : List AF} {H H' : AH} {f : Frame} {fs : List Frame} {w w' : World} {lo : Nat} {v : V} {y : Value} {M : Machine} (hm : MR P G w0 cl cs0 true c a as H f fs w lo) (hret : a.ret = false)
    (hle : Le c c') (hb : c'.base = c.base) (hold : ∀ id, id < H.nx → c.μ id = none → c'.μ id = none) (hr : HR P (okG G) G.ng c' H' w') (hk : Kp w w') (hn : H.nx ≤ H'.nx) (hf : a.fin v = some a') (hy : Rep c' v y)
    (hs : Steps P M (lone (f.finish y) fs w')) : NextR P G w0 cl cs0 ⟨a', as, H'⟩ M := by
  obtain ⟨h1, h2, h3, h4, h5, _⟩ := fin_ok (hm.fr.le hle (fun id _ k2 => hold id k2) hn) hret hf hy
  exact ⟨c', _, _, w', lo, hs, hr, Nat.le_trans hm.lon hn, h1, by rw [h3, h4]; exact hm.fs.le hle (fun id k => hold id (Nat.lt_of_lt_of_le k hm.lon)) (Nat.le_refl _), hm.kp.trans hk, fun b ob h => hle.Φ _ _ (hm.old b ob h), hb.trans hm.base⟩

theorem doR1_ok (hG : GOk P G (okG G) H0) (hglb : Glb P (okG G) G.ng H0 w0) {c : Ctx} {a : AF} {as : List AF} {H : AH} {fs : List Frame} {w : World} {lo : Nat} {r : R1} {m' : AM}
    {fn : FuncId} {tmps : Array Value} {ops : Array Oper} {i : Nat} {S : List Nat} {k : List Item} {defers : List Deferred} {kind : CallKind} {rnd : Option Nat} {o : Oper}
    (hm : MR P G w0 cl cs0 true c a as H (F fn tmps (.inRegion ops (i :: S) :: k) defers kind rnd) fs w lo) (hret : a.ret = false) (ho : ops[i]? = some o) (hw : Region.wanted o (yielded ops tmps) = true)
    (hg : Goes P G (okG G) H0 c H w (execOp (Frame.eval (F fn tmps (.inRegion ops (i :: S) :: k) defers kind rnd)) o) r) (hdf : (∀ d, r ≠ .dfr d) ∧ r ≠ .bad → ∀ cl, o.op ≠ .defer cl) (h : doR1 G a as H r = some m') :
    NextR P G w0 cl cs0 m' (lone (F fn tmps (.inRegion ops (i :: S) :: k) defers kind rnd) fs w) := by
  cases r with
  | val v =>
    simp only [doR1] at h
    split at h
    · rename_i a' ha
      cases h
      obtain ⟨y, h1, h2⟩ := hg
      refine fin_next hm hret (Le.refl c) rfl (fun _ _ h => h) hm.hr (Kp.refl w) (Nat.le_refl _) ha h2 ?_
      rw [fin_reg ho]
      exact Steps.one (st_val ho hw (.inr (hdf ⟨nofun, nofun⟩)) h1 (.inl rfl))
    · cases h
  | new ob mk =>
    simp only [doR1] at h
    split at h
    · rename_i a' ha
      cases h
      obtain ⟨y, w', ob', cap, h1, h2, h3, h4⟩ := hg
      have hle := Ctx.le_up (c := c) ⟨w.heap.size, cap⟩ hm.hr.fresh
      obtain ⟨r1, r2⟩ := h4 H.nx _ hle (Ctx.up_same ..)
      refine fin_next hm hret hle rfl (fun id hi hn => ?_) ((hm.hr.push r1).world h2) h3 (Nat.le_succ _) ha r2 ?_
      · rw [Ctx.up_ne _ _ (by omega)]; exact hn
      · rw [fin_reg ho]
        exact Steps.one (st_val ho hw (.inr (hdf ⟨nofun, nofun⟩)) h1 (.inl rfl))
    · cases h
  | eff v H' =>
    simp only [doR1] at h
    split at h
    · rename_i a' ha
      cases h
      obtain ⟨n, y, w', c', h1, h2, h3, h4, h5, h6, h7⟩ := hg
      refine fin_next hm hret h3.le h3.base h3.old h4 h5 h7 ha h6 ?_
      rw [fin_reg ho]
      exact Steps.one (st_val ho hw (.inr (hdf ⟨nofun, nofun⟩)) h1 h2)
    · cases h
  | call f args =>
    simp only [doR1] at h
    split at h
    · rename_i a' ha
      cases h
      obtain ⟨xs, h1, h2⟩ := hg
      obtain ⟨k1, k2, k3, k4⟩ := enter_ok (hi := H.nx) (kind := .normal) hG ha h2 rfl
      refine ⟨c, _, _, w, H.nx, Steps.one (st_enter ho hw (.inr (hdf ⟨nofun, nofun⟩)) h1), hm.hr, Nat.le_refl _, k1, ?_, hm.kp, hm.old, hm.base⟩
      rw [k3, k4]
      exact ⟨_, _, lo, rfl, hm.lon, hm.fr, hret, hm.fs⟩
    · cases h
  | know f args v =>
    simp only [doR1] at h
    split at h
    · rename_i a' ha
      cases h
      obtain ⟨xs, ks, h1, h2, h3⟩ := hg
      have hold : ∀ b ob, w0.heap[b]? = some ob → w.heap[b]? = some ob := fun b ob hb => hm.hr.fro _ _ (hm.old b ob hb)
      obtain ⟨y, w', q1, q2, q3, q4⟩ := h3 w xs (hglb.later hold) h2 (F fn tmps (.inRegion ops (i :: S) :: k) defers kind rnd) fs
      have hkeep : ∀ b ob, w.heap[b]? = some ob → w'.heap[b]? = some ob := fun b ob hb => by
        rw [q3 b (Array.getElem?_eq_some_iff.1 hb).1]; exact hb
      have hle : Le c ⟨c.μ, fun b => if b < w.heap.size then c.Φ b else w'.heap[b]?, c.base⟩ := ⟨fun _ _ h => h, fun b ob hb => by
        simp only
        rw [if_pos (hm.hr.Φlt hb)]
        exact hb, Nat.le_refl _⟩
      refine fin_next (c' := ⟨c.μ, fun b => if b < w.heap.size then c.Φ b else w'.heap[b]?, c.base⟩) (w' := w') hm hret hle rfl (fun _ _ h => h) ?_ q2 (Nat.le_refl _) ha ?_ (Steps.head (st_enter ho hw (.inr (hdf ⟨nofun, nofun⟩)) h1) q1)
      · refine ⟨fun b ob hb => ?_, fun id u l hu hl => ?_, hm.hr.apart, fun id u l hu hx hl => ?_, hm.hr.dom, hm.hr.new, hm.hr.glob, hm.hr.based, Nat.le_trans hm.hr.bsz q2.size, hm.hr.gown⟩
        · simp only at hb
          split at hb
          · exact hkeep _ _ (hm.hr.fro _ _ hb)
          · exact hb
        · obtain ⟨ob, e1, e2⟩ := hm.hr.at_ id u l hu hl
          exact ⟨ob, hkeep _ _ e1, e2.le hle⟩
        · simp only
          rw [if_pos (hm.hr.lt hu hl)]
          exact hm.hr.own id u l hu hx hl
      · refine Rep.le (c' := ⟨c.μ, fun b => if b < w.heap.size then c.Φ b else w'.heap[b]?, c.base⟩) ⟨fun _ _ h => (by cases h), fun b ob hb => ?_, hm.hr.bsz⟩ _ _ q4
        simp only at hb ⊢
        split at hb
        · cases hb
        · rename_i hn
          rw [if_neg hn]
          exact hb
    · cases h
  | round id args =>
    simp only [doR1] at h
    split at h
    · rename_i l hl
      split at h
      · rename_i e he
        cases h
        obtain ⟨L, r, xs, h1, h2, h3, h4⟩ := hg l hl
        obtain ⟨k1, k2⟩ := addArgs_ok he h2.env h3
        have h5 := h4 k1
        refine ⟨c, _, _, w, H.nx, Steps.one (st_round ho hw (.inr (hdf ⟨nofun, nofun⟩)) h5), hm.hr, Nat.le_refl _, ⟨h2.fn, rfl, ⟨L, h1, rfl⟩, rfl, fun _ => ⟨rfl, ?_⟩, nofun, fun _ _ => rfl⟩, ⟨_, _, lo, rfl, hm.lon, hm.fr, hret, hm.fs⟩, hm.kp, hm.old, hm.base⟩
        have hz : r.params.zip xs = (l.params.zip xs.toList).toArray := by
          apply Array.toList_inj.1
          rw [h2.params]
          simp
        simp only [Frame.round]
        rw [h2.assign.1, h2.body.1]
        refine .plain (.cons (.code h2.assign.2) (.cons .br (.cons (.code h2.body.2) .nil))) ?_
        rw [hz]
        simpa using k2
      · cases h
    · cases h
  | dfr d =>
    simp only [doR1] at h
    split at h
    · rename_i hrnd
      split at h
      · rename_i a' ha
        cases h
        obtain ⟨d', h1, h2⟩ := hg
        have hrn : rnd = none := by
          have := hm.fr.rnd
          rw [hrnd] at this
          exact this
        obtain ⟨k1, k2, k3, k4, k5, k6⟩ := fin_ok hm.fr hret ha (uV_rep (c := c))
        rw [fin_reg ho] at k1 k6
        refine ⟨c, _, _, w, lo, Steps.one (st_defer ho hw hrn h1), hm.hr, hm.lon, ⟨k1.fn, k1.kind, k1.rnd, ?_, k1.run, k1.ret, k1.nd⟩, ?_, hm.kp, hm.old, hm.base⟩
        · show DfRs c (d :: a'.dfs) (d' :: defers)
          simp only [DfRs]
          exact ⟨d', defers, rfl, h2, k1.dfs⟩
        · show FRs G c cl cs0 a'.dk a'.rnd lo as fs
          rw [k3, k4]
          exact hm.fs
      · cases h
    · cases h
  | rec_ =>
    simp only [doR1] at h
    split at h
    · rename_i c1 cs1 hrnd hdk
      split at h
      · rename_i hcr
        split at h
        · rename_i a' ha
          cases h
          have hrn : rnd = none := by
            have := hm.fr.rnd
            rw [hrnd] at this
            exact this
          have hkd : kind = .deferred := by
            have := hm.fr.kind
            rw [hdk] at this
            simpa using this
          subst hrn hkd
          obtain ⟨f1, fs1, lo1, rfl, e2, e3, e4, e5⟩ := hm.fs
          refine fin_next hm hret (Le.refl c) rfl (fun _ _ h => h) hm.hr (Kp.refl w) (Nat.le_refl _) ha (y := .nilIface) (by simp only [Rep]) ?_
          rw [fin_reg ho]
          exact Steps.one (st_recover ho hw (e3.ret hcr).1 hg)
        · cases h
      · cases h
    · cases h
  | bad => cases h
end
end Go.Proofs.YtbkipanlicgooaaGreatDoor
namespace Go.Proofs.YtbkipanlicgooaaGreatDoor
section
variable {P : Program} {G : Glob} {H0 : AH} {w0 : World} {cl : List Frame} {cs0 : List Frame}

theorem NextR.head {m : AM} {M M' : Machine} (h : Steps P M M') (k : NextR P G w0 cl cs0 m M') : NextR P G w0 cl cs0 m M := by
  obtain ⟨c, f, fs, w, lo, h1, h2⟩ := k
  exact ⟨c, f, fs, w, lo, h.trans h1, h2⟩
theorem putObj_kp (w : World) (b : Nat) (o : Obj) : Kp w (w.putObj b o) := Kp.turn rfl rfl rfl rfl

/-! ### The results -/
theorem var_ok {c : Ctx} {H : AH} {w : World} {t : TypeId} {x v : V} {X : Value} (hG : TabOk P G) (hH : HR P (okG G) G.ng c H w) (h : armLoad G H t x = some v) (hx : Rep c x X) : ∃ z, (do loadVar t (← asAddr X)).run P w = .ok z w ∧ Rep c v z := by
  have hp : ∃ a, X = .pointer (some a) := by
    cases x <;> simp only [armLoad] at h <;> first | (cases h; done) | skip
    · simp only [Rep] at hx
      obtain ⟨l, _, rfl⟩ := hx
      exact ⟨_, rfl⟩
    · simp only [Rep] at hx
      obtain ⟨_, _, _, _, _, rfl, _⟩ := hx
      exact ⟨_, rfl⟩
  obtain ⟨z, h1, h2⟩ := armLoad_ok hG hH h hx
  obtain ⟨a, rfl⟩ := hp
  exact ⟨z, h1, h2⟩
def rvSem (tmps : Array Value) : ResultVar → Sem Value
  | .tmp t => pure (tmps.getD t undef)
  | .cell a t => do loadVar t (← asAddr (tmps.getD a undef))
theorem results_eq (fn : Func) (tmps : Array Value) : results fn tmps = (do let vs ← fn.results.mapM (rvSem tmps); pure (if h : vs.size = 1 then vs[0] else .tuple vs)) := by
  unfold results
  congr
theorem resA_ok {c : Ctx} {H : AH} {w : World} {n : Nat} {env : Tr V} {tmps : Array Value} (hG : TabOk P G) (hH : HR P (okG G) G.ng c H w) (he : EnvR c (fun _ => False) n env tmps) :
    ∀ {l : List ResultVar} {vs : List V}, resA H G env l = some vs → ∃ ys : List Value, (l.mapM (rvSem tmps)).run P w = .ok ys w ∧ Reps c vs ys
  | [], vs, h => by
    simp only [resA, Option.some.injEq] at h
    subst h
    exact ⟨[], by simp, Reps.nil.2 rfl⟩
  | r :: l, vs, h => by
    simp only [resA] at h
    split at h
    · rename_i v vs' hv hl
      cases h
      obtain ⟨ys, k1, k2⟩ := resA_ok hG hH he hl
      cases r with
      | tmp t =>
        simp only at hv
        obtain ⟨y, _, q1, q2⟩ := he.get hv (fun h => h)
        refine ⟨y :: ys, ?_, Reps.cons'.2 ⟨q2, k2⟩⟩
        rw [List.mapM_cons]
        simp only [rvSem, Sem.run_bind, Sem.run_pure, Result.andThen_ok, k1, q1]
      | cell a t =>
        simp only at hv
        split at hv
        · rename_i x hx
          obtain ⟨y, _, q1, q2⟩ := he.get hx (fun h => h)
          obtain ⟨z, e1, e2⟩ := var_ok hG hH hv q2
          refine ⟨z :: ys, ?_, Reps.cons'.2 ⟨e2, k2⟩⟩
          rw [List.mapM_cons]
          simp only [rvSem, q1]
          rw [Sem.run_bind, e1]
          simp only [Result.andThen_ok, Sem.run_bind, k1, Sem.run_pure]
        · cases hv
    · cases h
theorem results_ok {c : Ctx} {H : AH} {w : World} {n : Nat} {env : Tr V} {tmps : Array Value} {fn : Func} {vs : List V} (hG : TabOk P G) (hH : HR P (okG G) G.ng c H w) (he : EnvR c (fun _ => False) n env tmps)
    (h : resA H G env fn.results.toList = some vs) : ∃ y, (results fn tmps).run P w = .ok y w ∧ Rep c (resV vs) y := by
  obtain ⟨ys, h1, h2⟩ := resA_ok hG hH he h
  have hrun : (results fn tmps).run P w = .ok (if h : ys.toArray.size = 1 then ys.toArray[0] else .tuple ys.toArray) w := by
    rw [results_eq, Array.mapM_eq_mapM_toList]
    simp only [Sem.run_bind, Sem.run_pure, bind_assoc, map_eq_pure_bind, pure_bind]
    rw [h1]
    rfl
  refine ⟨_, hrun, ?_⟩
  match vs, h2 with
  | [], h2 =>
    rw [Reps.nil] at h2
    subst h2
    simp only [resV]
    exact ⟨#[], by simp, Reps.nil.2 rfl⟩
  | [v], h2 =>
    obtain ⟨y, zs, rfl, k1, k2⟩ := Reps.cons.1 h2
    rw [Reps.nil] at k2
    subst k2
    simpa [resV] using k1
  | v :: u :: vs, h2 =>
    obtain ⟨y, zs, rfl, k1, k2⟩ := Reps.cons.1 h2
    obtain ⟨y2, zs2, rfl, k3, k4⟩ := Reps.cons.1 k2
    simp only [resV]
    have : ¬ ((y :: y2 :: zs2).toArray.size = 1) := by simp
    rw [dif_neg this]
    simp only [Rep]
    exact ⟨_, rfl, h2⟩

/-! ### A frame is left -/
theorem HR.drop {c : Ctx} {H : AH} {w : World} (h : HR P (okG G) G.ng c H w) {id : Nat} {o : AO} {l : Loc} {ob : Obj} (hg : H.get id = some o) (he : excl o = true) (hl : c.μ id = some l) : HR P (okG G) G.ng c (H.del id) (w.putObj l.b ob) := by
  have hoth : ∀ {b : Nat} {x : Obj}, b ≠ l.b → w.heap[b]? = some x → (w.putObj l.b ob).heap[b]? = some x := fun {b x} hb hx => by
    rw [World.putObj_heap_other hb]; exact hx
  have hd := h.del id
  refine ⟨fun b x hb => hoth (fun e => ?_) (h.fro b x hb), fun j u k hu hk => ?_, hd.apart, hd.own, hd.dom, hd.new, hd.glob, hd.based, by simp only [World.putObj_size]; exact h.bsz, hd.gown⟩
  · rw [e, h.own id o l hg he hl] at hb; cases hb
  · obtain ⟨hne, hu'⟩ := AH.get_del hu
    obtain ⟨x, h1, h2⟩ := h.at_ j u k hu' hk
    exact ⟨x, hoth (fun e => h.apart id j o u l k hg hu' he (Ne.symm hne) hl hk e.symm) h1, h2⟩
theorem leaveA_ok {c : Ctx} {a : AF} {as : List AF} {H : AH} {f : Frame} {fs : List Frame} {w : World} {lo : Nat} {j : Option Code} {m' : AM} (hm : MR P G w0 cl cs0 false c a as H f fs w lo) (_hret : a.ret = false)
    (he : EnvR c (fun _ => False) a.n a.env f.tmps) (hj : ∀ x, j = some x → ∀ g, okG G g x)
    (hnone : f.roundOf = none → (j = none ∨ j = some .ret) → step P (lone f fs w) = .next (lone { f with mode := .returning } fs w))
    (hsome : ∀ l c' cs' v w', f.roundOf = some l → f.kind = .normal → (Instr.endRound l j).run P w = .ok v w' → fs = c' :: cs' → step P (lone f fs w) = .next (lone (c'.finish v) cs' w'))
    (h : leaveA a as H j = some m') : NextR P G w0 cl cs0 m' (lone f fs w) := by
  unfold leaveA at h
  split at h
  · rename_i hrnd
    have hro : f.roundOf = none := by have := hm.fr.rnd; rw [hrnd] at this; exact this
    have key : (j = none ∨ j = some .ret) → NextR P G w0 cl cs0 ⟨a.toRet, as, H⟩ (lone f fs w) := fun hjj =>
      ⟨c, _, _, w, lo, Steps.one (hnone hro hjj), hm.hr, hm.lon, ⟨hm.fr.fn, hm.fr.kind, hm.fr.rnd, hm.fr.dfs, nofun, fun _ => ⟨rfl, he⟩, hm.fr.nd⟩, hm.fs, hm.kp, hm.old, hm.base⟩
    split at h
    · cases h; exact key (.inl rfl)
    · cases h; exact key (.inr rfl)
    · cases h
  · rename_i id hrnd
    have hdk := hm.fr.nd id hrnd
    split at h
    · rename_i L c1 rest hL
      split at h
      · rename_i c1' hfin
        cases h
        obtain ⟨l, hl, hro⟩ : ∃ l, c.μ id = some l ∧ f.roundOf = some l.b := by have := hm.fr.rnd; rw [hrnd] at this; exact this
        obtain ⟨ob, h1, r, rfl, h2⟩ := hm.hr.at_ _ _ _ hL hl
        obtain ⟨f1, fs1, lo1, e1, e2, e3, e4, e5⟩ := hm.fs
        have hkn : f.kind = .normal := by have := hm.fr.kind; rw [hdk] at this; simpa using this
        have hst := hsome l.b f1 fs1 _ _ hro hkn (run_endRound (P := P) j h1) e1
        have hT : HR P (okG G) G.ng c (H.set id (.loop { L with st := j.isNone, over := j.isSome, pend := j })) (w.putObj l.b (.loop { r with state := if j.isNone then .ready else .done, pending := j })) := by
          refine hm.hr.turn hL rfl hl rfl ⟨_, rfl, ⟨fun hq => ?_, fun hq1 hq2 => ?_, rfl, fun g x hx => hj x hx g, h2.fn, h2.env, h2.params, h2.assign, h2.body, h2.dfs⟩⟩
          · simp only at hq; simp [hq]
          · simp only at hq1; simp [hq1]
        obtain ⟨k1, k2, k3, k4, k5, _⟩ := fin_ok (e3.le (Le.refl c) (fun _ _ _ h => h) hm.lon) (e4.trans hdk) hfin (show Rep c (.b j.isNone) (.bool j.isNone) by simp only [Rep])
        exact ⟨c, _, _, _, lo1, Steps.one hst, hT, Nat.le_trans e2 hm.lon, k1, by rw [k3, k4]; exact e5, hm.kp.trans (putObj_kp _ _ _), hm.old, hm.base⟩
      · cases h
    · cases h
theorem unwindA_ok (hG : GOk P G (okG G) H0) {c : Ctx} {a : AF} {as : List AF} {H : AH} {f : Frame} {fs : List Frame} {w : World} {lo : Nat} {m' : AM} (hm : MR P G w0 cl cs0 false c a as H f fs w lo) (hret : a.ret = true)
    (h : unwindA G a as H = some m') : NextR P G w0 cl cs0 m' (lone f fs w) := by
  obtain ⟨hmode, he⟩ := hm.fr.ret hret
  have hnr : f.mode ≠ .run := by rw [hmode]; nofun
  have hdfs := hm.fr.dfs
  unfold unwindA at h
  split at h
  · rename_i id d0 ds hd
    split at h
    · rename_i l hl
      cases h
      rw [hd] at hdfs
      simp only [DfRs] at hdfs
      obtain ⟨y, ys, e1, e2, e3⟩ := hdfs
      simp only [DfR] at e2
      obtain ⟨L, q1, rfl⟩ := e2
      obtain ⟨ob, h1, zs, rfl, h2⟩ := hm.hr.at_ _ _ _ hl q1
      have hst := step_collected (P := P) (cs := fs) hnr e1 rfl (run_takeDeferred (P := P) h1)
      exact ⟨c, _, _, _, lo, Steps.one hst, hm.hr.drop hl rfl q1, hm.lon, ⟨hm.fr.fn, hm.fr.kind, hm.fr.rnd, DfRs.append h2 e3, fun hr => absurd (show a.ret = false from hr) (by rw [hret]; nofun), fun _ => ⟨hmode, he⟩, hm.fr.nd⟩, hm.fs, hm.kp.trans (putObj_kp _ _ _), hm.old, hm.base⟩
    · cases h
  · rename_i g x b args ds hd
    split at h
    · rename_i a' ha
      cases h
      rw [hd] at hdfs
      simp only [DfRs] at hdfs
      obtain ⟨y, ys, e1, e2, e3⟩ := hdfs
      simp only [DfR] at e2
      obtain ⟨A, K, X, q1, q2, q3, rfl⟩ := e2
      have hall : Reps c (x ++ (args ++ b)) (A ++ X ++ K).toList := by
        rw [Array.toList_append, Array.toList_append, List.append_assoc]
        exact q1.append (q3.append q2)
      have hext : ∃ af, G.F.get g = some af ∧ af.ext = none := by
        unfold enter at ha
        split at ha
        · rename_i af haf
          split at ha
          · rename_i b' hext _
            exact ⟨af, haf, hext⟩
          · cases ha
        · cases ha
      obtain ⟨af, haf, hext⟩ := hext
      have hinv : (invoke (.fn (.func g) K) (A ++ X)).run P w = .ok (.enter g (A ++ X ++ K)) w := (hG.fn g af haf).enter hext _ _
      have hst := step_defer (P := P) (cs := fs) hnr e1 rfl hinv
      obtain ⟨k1, k2, k3, k4⟩ := enter_ok (hi := H.nx) (kind := .deferred) hG ha hall rfl
      refine ⟨c, _, _, w, H.nx, Steps.one hst, hm.hr, Nat.le_refl _, k1, ?_, hm.kp, hm.old, hm.base⟩
      rw [k3, k4]
      exact ⟨_, _, lo, rfl, hm.lon, ⟨hm.fr.fn, hm.fr.kind, hm.fr.rnd, e3, fun hr => absurd (show a.ret = false from hr) (by rw [hret]; nofun), fun _ => ⟨hmode, he⟩, hm.fr.nd⟩, hret, hm.fs⟩
    · cases h
  · cases h
  · rename_i hd
    split at h
    · rename_i af c1 rest haf
      split at h
      · rename_i vs hvs
        rw [hd] at hdfs
        simp only [DfRs] at hdfs
        obtain ⟨y, hy1, hy2⟩ := results_ok (w := w) hG.tab hm.hr he hvs
        have hfn : P.funcs[f.fn]? = some af.fn := by rw [hm.fr.fn]; exact (hG.fn _ _ haf).get
        obtain ⟨f1, fs1, lo1, rfl, e2, e3, e4, e5⟩ := hm.fs
        split at h
        · rename_i hdk
          cases h
          have hk : f.kind = .deferred := by have := hm.fr.kind; rw [hdk] at this; simpa using this
          have hst := step_going_returned (P := P) (c := f1) (cs := fs1) (w := w) (v := y) hk ⟨hmode, hdfs, _, hfn, hy1⟩
          have hr1 : c1.ret = true := e4.trans hdk
          obtain ⟨m1, m2⟩ := e3.ret hr1
          have hsame : ({ f1 with mode := settle f1.mode } : Frame) = f1 := by
            obtain ⟨_, _, _, _, md, _, _⟩ := f1
            simp only at m1
            subst m1
            rfl
          rw [hsame] at hst
          exact ⟨c, _, _, w, lo1, Steps.one hst, hm.hr, Nat.le_trans e2 hm.lon, ⟨e3.fn, e3.kind, e3.rnd, e3.dfs, fun hr => absurd hr (by rw [hr1]; nofun), e3.ret, e3.nd⟩, e5, hm.kp, hm.old, hm.base⟩
        · rename_i hdk
          split at h
          · rename_i c1' hfin
            cases h
            have hk : f.kind = .normal := by have := hm.fr.kind; rw [hdk] at this; simpa using this
            have hst := step_leave_returned (P := P) (c := f1) (cs := fs1) (w := w) (v := y) ⟨hmode, hdfs, hk, _, hfn, hy1⟩
            obtain ⟨k1, k2, k3, k4, k5, _⟩ := fin_ok (e3.le (Le.refl c) (fun _ _ _ h => h) hm.lon) (e4.trans hdk) hfin hy2
            exact ⟨c, _, _, w, lo1, Steps.one hst, hm.hr, Nat.le_trans e2 hm.lon, k1, by rw [k3, k4]; exact e5, hm.kp, hm.old, hm.base⟩
          · cases h
      · cases h
    · cases h
end
end Go.Proofs.YtbkipanlicgooaaGreatDoor
