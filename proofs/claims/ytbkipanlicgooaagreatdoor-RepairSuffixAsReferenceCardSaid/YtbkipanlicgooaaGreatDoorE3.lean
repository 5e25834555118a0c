/-
  The abstract machine: one step. Each theorem holds under the conditions that it names.
-/
import Derived.Test.YtbkipanlicgooaaGreatDoorE2
import Derived.Laws.StructEq
import Derived.Lib.MakeNoZero
import Derived.Laws.Externs
import Derived.HandedShaped
import Derived.JoinedOf
namespace Go.Proofs.YtbkipanlicgooaaGreatDoor
section conc
variable {P : Program} {fn : FuncId} {tmps : Array Value} {k : List Item} {defers : List Deferred} {kind : CallKind} {rnd : Option Nat} {cs : List Frame} {w w' : World} {c' : Frame} {v : Value} {l : Nat}
theorem st_br (hb : rnd = some l) (hr : (Instr.beginRound l).run P w = .ok () w') : step P (lone (F fn tmps (.beginRound :: k) defers kind rnd) cs w) = .next (lone (F fn tmps k defers kind rnd) cs w') :=
  step_lone_go (by simp [stepG, stepG.exec, stepG.apply, hb, Sem.runT_eq, hr, Result.andThen, Frame.finish])
theorem st_round_end (hb : rnd = some l) (hk : kind = .normal) (hr : (Instr.endRound l none).run P w = .ok v w') : step P (lone (F fn tmps [] defers kind rnd) (c' :: cs) w) = .next (lone (c'.finish v) cs w') :=
  step_lone_go (by simp [stepG, stepG.exec, hb, hk, Sem.runT_eq, hr, doReturn])
theorem st_round_ret (hb : rnd = some l) (hk : kind = .normal) (hr : (Instr.endRound l (some .ret)).run P w = .ok v w') : step P (lone (F fn tmps (.code .ret :: k) defers kind rnd) (c' :: cs) w) = .next (lone (c'.finish v) cs w') :=
  step_lone_go (by simp [stepG, stepG.exec, hb, hk, Sem.runT_eq, hr, doReturn])
theorem st_round_exit {id : Nat} (hb : rnd = some l) (hk : kind = .normal) (hx : exitTo id k = none) (hr : (Instr.endRound l (some (.exit id))).run P w = .ok v w') : step P (lone (F fn tmps (.code (.exit id) :: k) defers kind rnd) (c' :: cs) w) = .next (lone (c'.finish v) cs w') :=
  step_lone_go (by simp [stepG, stepG.exec, hb, hk, hx, Sem.runT_eq, hr, doReturn])
theorem st_round_goto {t : Nat} (hb : rnd = some l) (hk : kind = .normal) (hx : gotoIn t k = none) (hr : (Instr.endRound l (some (.goto t))).run P w = .ok v w') : step P (lone (F fn tmps (.code (.goto t) :: k) defers kind rnd) (c' :: cs) w) = .next (lone (c'.finish v) cs w') :=
  step_lone_go (by simp [stepG, stepG.exec, hb, hk, hx, Sem.runT_eq, hr, doReturn])
theorem st_erf {jump : Option Code} (h : (Instr.endLoop l).run P w = .ok jump w') : step P (lone (F fn tmps (.endRangeFunc l :: k) defers kind rnd) cs w) = .next (lone (F fn tmps ((jump.map Item.code).toList ++ k) defers kind rnd) cs w') :=
  step_lone_go (by simp [stepG, stepG.exec, Sem.runT_eq, h, GStep.bare_after])
abbrev yCall (g : Operand) (l : Nat) : Call := { callee := .value g, args := #[.const (.func (.yield l) #[] #[])], argTypes := #[] }
theorem st_range {g : Operand} {ps : Array Tmp} {assign body : Code} {mark : List Deferred} {w₁ w₂ : World} {f : FuncId} {args : Array Value}
    (he : (Instr.enterLoop fn tmps ps assign body rnd).run P w = .ok (l, mark) w₁)
    (hres : (do let d ← resolve (Frame.eval (F fn tmps (.inRangeFunc l :: k) (mark ++ defers) kind rnd)) (yCall g l) 0; invoke d.target d.args).run P w₁ = .ok (.enter f args) w₂) :
    step P (lone (F fn tmps (.code (.rangeFunc g ps assign body) :: k) defers kind rnd) cs w) =
      .next (lone (Frame.enter P f args .normal) (F fn tmps (.inRangeFunc l :: k) (mark ++ defers) kind rnd :: cs) w₂) :=
  step_lone_go (by
    simp only [stepG, stepG.exec, Sem.runT_eq, he, GStep.bare_after, stepG.apply]
    rw [hres]
    rfl)
theorem run_enterLoop_inner' {l₀ : Nat} {r₀ : Loop} (h : w.heap[l₀]? = some (.loop r₀)) (fn : FuncId) (tmps : Array Value) (ps : Array Tmp) (assign body : Code) :
    (Instr.enterLoop fn tmps ps assign body (some l₀)).run P w =
      .ok (w.heap.size, []) (w.alloc (.loop { state := .ready, pending := none, fn, tmps, params := ps, assign, body, defers := r₀.defers })) := by
  unfold Instr.enterLoop
  simp only [Sem.run_bind, run_getLoop h, run_newObj_alloc, Result.andThen, Sem.run_pure]
end conc

section
variable {P : Program} {G : Glob} {H0 : AH} {w0 : World} {cl : List Frame} {cs0 : List Frame}

theorem RndR.le {c c' : Ctx} (h : Le c c') : ∀ {r : Option Nat} {x : Option Nat}, RndR c r x → RndR c' r x
  | none, x, k => k
  | some id, x, k => by
    obtain ⟨l, h1, h2⟩ := k
    exact ⟨l, h.μ _ _ h1, h2⟩
theorem frame_eq {f : Frame} (h : f.mode = .run) : f = F f.fn f.tmps f.todo f.defers f.kind f.roundOf := by
  obtain ⟨_, _, _, _, md, _, _⟩ := f
  simp only at h
  subst h
  rfl
theorem stay {c c' : Ctx} {a : AF} {as : List AF} {H H' : AH} {f : Frame} {fs : List Frame} {w w' : World} {lo : Nat} {e : Tr V} {k : List AI} {tmps' : Array Value} {l' : List Item} (hm : MR P G w0 cl cs0 false c a as H f fs w lo) (hret : a.ret = false)
    (hle : Le c c') (hb : c'.base = c.base) (hold : ∀ id, id < lo → c.μ id = none → c'.μ id = none) (hr : HR P (okG G) G.ng c' H' w') (hk : Kp w w') (hn : H.nx ≤ H'.nx) (hbody : BodyR G c' lo H'.nx a.fn a.n e tmps' false k l')
    (hs : Steps P (lone f fs w) (lone (F f.fn tmps' l' f.defers f.kind f.roundOf) fs w')) : NextR P G w0 cl cs0 ⟨a.go2 e k, as, H'⟩ (lone f fs w) :=
  ⟨c', _, fs, w', lo, hs, hr, Nat.le_trans hm.lon hn, ⟨hm.fr.fn, hm.fr.kind, hm.fr.rnd.le hle, hm.fr.dfs.le hle, fun _ => ⟨rfl, hbody⟩, fun h => absurd (show a.ret = true from h) (by rw [hret]; nofun), hm.fr.nd⟩,
    hm.fs.le hle hold (Nat.le_refl _), hm.kp.trans hk, fun b ob h => hle.Φ _ _ (hm.old b ob h), hb.trans hm.base⟩
/-- The same, the context as it was. -/
theorem stay0 {c : Ctx} {a : AF} {as : List AF} {H : AH} {f : Frame} {fs : List Frame} {w : World} {lo : Nat} {e : Tr V} {k : List AI} {tmps' : Array Value} {l' : List Item} (hm : MR P G w0 cl cs0 false c a as H f fs w lo) (hret : a.ret = false)
    (hbody : BodyR G c lo H.nx a.fn a.n e tmps' false k l') (hs : step P (lone f fs w) = .next (lone (F f.fn tmps' l' f.defers f.kind f.roundOf) fs w)) : NextR P G w0 cl cs0 ⟨a.go2 e k, as, H⟩ (lone f fs w) :=
  stay hm hret (Le.refl c) rfl (fun _ _ h => h) hm.hr (Kp.refl w) (Nat.le_refl _) hbody (Steps.one hs)

/-! ### Jumps -/
theorem exitA_ok {c : Ctx} {fn : FuncId} {id : Nat} {k : List AI} {l : List Item} (h : ItemsR G c fn k l) : (∀ k', exitA id k = some k' → ∃ l', exitTo id l = some l' ∧ ItemsR G c fn k' l') ∧ (exitA id k = none → exitTo id l = none) := by
  induction h with
  | nil => exact ⟨nofun, fun _ => rfl⟩
  | cons hx hk ih =>
    cases hx <;> try exact ih
    rename_i id'
    simp only [exitA, exitTo]
    by_cases hid : id' = id
    · subst hid
      simp only [decide_true, beq_self_eq_true, if_true]
      exact ⟨fun k' e => by cases e; exact ⟨_, rfl, hk⟩, nofun⟩
    · simp only [hid, decide_false]
      have : (id' == id) = false := by simpa using hid
      rw [this]
      exact ih
theorem okC_find {G : Glob} {fn : FuncId} {l : Nat} : ∀ {b r : Code}, okG G fn b → findLabel b l = some r → okG G fn r
  | .seq x y, r, h, e => by
    simp only [okG, okC, Bool.and_eq_true] at h
    simp only [findLabel] at e
    split at e
    · rename_i rest hr
      cases e
      have := okC_find (G := G) (fn := fn) h.1 hr
      simp only [okG, okC, Bool.and_eq_true]
      exact ⟨this, h.2⟩
    · exact okC_find (G := G) (fn := fn) h.2 e
  | .label l', r, h, e => by
    simp only [findLabel] at e
    split at e
    · cases e; rfl
    · cases e
  | .skip, r, h, e => by simp [findLabel] at e
  | .cond _ _ _, r, h, e => by simp [findLabel] at e
  | .block _ _, r, h, e => by simp [findLabel] at e
  | .loop _, r, h, e => by simp [findLabel] at e
  | .scope _, r, h, e => by simp [findLabel] at e
  | .exit _, r, h, e => by simp [findLabel] at e
  | .goto _, r, h, e => by simp [findLabel] at e
  | .ret, r, h, e => by simp [findLabel] at e
  | .region _ _ _, r, h, e => by simp [findLabel] at e
  | .rangeFunc _ _ _ _, r, h, e => by simp [findLabel] at e
  | .refuse _, r, h, e => by simp [findLabel] at e
theorem gotoA_ok {c : Ctx} {fn : FuncId} {t : Nat} {k : List AI} {l : List Item} (h : ItemsR G c fn k l) : (∀ k', gotoA t k = some k' → ∃ l', gotoIn t l = some l' ∧ ItemsR G c fn k' l') ∧ (gotoA t k = none → gotoIn t l = none) := by
  induction h with
  | nil => exact ⟨nofun, fun _ => rfl⟩
  | cons hx hk ih =>
    cases hx <;> try exact ih
    rename_i b hb
    simp only [gotoA, gotoIn]
    cases hf : findLabel b t with
    | none => exact ih
    | some r => exact ⟨fun k' e => by cases e; exact ⟨_, rfl, .cons (.code (okC_find hb hf)) (.cons (.scp hb) hk)⟩, nofun⟩

/-! ### A range over a function -/
theorem range_ok (hG : GOk P G (okG G) H0) {c : Ctx} {a : AF} {as : List AF} {H : AH} {fs : List Frame} {w : World} {lo : Nat} {m' : AM} {fn : FuncId} {tmps : Array Value} {K : List Item} {defers : List Deferred} {kind : CallKind} {rnd : Option Nat} {k : List AI}
    {g : Operand} {ps : Array Tmp} {assign body : Code}
    (hm : MR P G w0 cl cs0 false c a as H (F fn tmps (.code (.rangeFunc g ps assign body) :: K) defers kind rnd) fs w lo) (hret : a.ret = false) (hok : okG G a.fn (.rangeFunc g ps assign body)) (hk : ItemsR G c a.fn k K) (he : EnvR c (fun _ => False) a.n a.env tmps)
    (h : stepRF G a as H k g ps.toList assign body = some m') : NextR P G w0 cl cs0 m' (lone (F fn tmps (.code (.rangeFunc g ps assign body) :: K) defers kind rnd) fs w) := by
  have hfn : fn = a.fn := hm.fr.fn
  simp only [okG, okC, Bool.and_eq_true] at hok
  unfold stepRF at h
  split at h
  · rename_i f A0 K0 hf
    -- the function's value
    have hval : ∀ {c' : Ctx} {l : Nat} {T : List Item} {D : List Deferred} {W : World} {af : AFn}, Le c c' → G.F.get f = some af → af.ext = none → ∀ {id : Nat} {L : Loc}, c'.μ id = some L → L.b = l → ∃ xs : Array Value,
        (do let d ← resolve (Frame.eval (F fn tmps T D kind rnd)) (yCall g l) 0; invoke d.target d.args : Sem Next).run P W = .ok (.enter f xs) W ∧ Reps c' (A0 ++ (.y id :: K0)) xs.toList := by
      intro c' l T D W af hle haf hext id L hL hl
      have hv := ev_ok (f := F fn tmps T D kind rnd) hm.hr he (fun _ _ h => h) hf
      simp only [Rep] at hv
      obtain ⟨A, KK, e1, e2, e3⟩ := hv
      refine ⟨A ++ #[.func (.yield l) #[] #[]] ++ KK, ?_, ?_⟩
      · have hcall := (hG.fn f af haf).enter hext (A ++ #[.func (.yield l) #[] #[]] ++ KK) W
        have hre : (resolve (Frame.eval (F fn tmps T D kind rnd)) (yCall g l) 0 : Sem Deferred) = Deferred.ofValue (Frame.eval (F fn tmps T D kind rnd) g) #[.func (.yield l) #[] #[]] := by
          simp [resolve, Frame.eval]
        rw [hre, e1]
        exact hcall
      · rw [Array.toList_append, Array.toList_append, List.append_assoc]
        refine (Reps.le hle _ _ e2).append ?_
        refine Reps.cons'.2 ⟨?_, Reps.le hle _ _ e3⟩
        simp only [Rep]
        exact ⟨L, hL, by rw [hl]⟩
    have hen : ∀ {x : List V} {a' : AF}, enter G f x false = some a' → ∃ af, G.F.get f = some af ∧ af.ext = none := by
      intro x a' ha
      unfold enter at ha
      split at ha
      · rename_i af haf
        split at ha
        · rename_i b' hext _
          exact ⟨af, haf, hext⟩
        · cases ha
      · cases ha
    split at h
    · -- an outermost loop
      rename_i hrnd
      split at h
      · rename_i a' ha
        cases h
        obtain ⟨af, haf, hext⟩ := hen ha
        have hro : rnd = none := by have := hm.fr.rnd; rw [hrnd] at this; exact this
        subst hro
        have hfr1 := hm.hr.fresh
        have hle1 := Ctx.le_up (c := c) ⟨w.heap.size, 0⟩ hfr1
        have hH1 := hm.hr.push (o := .dfd []) (ob := .deferred (some [])) (cap := 0) ⟨[], rfl, by simp only [DfRs]⟩
        have hfr2 := hH1.fresh
        have hle2 := Ctx.le_up (c := c.up H.nx ⟨w.heap.size, 0⟩) ⟨(w.alloc (.deferred (some []))).heap.size, 0⟩ hfr2
        have hle := hle1.trans hle2
        have hμ1 : ((c.up H.nx ⟨w.heap.size, 0⟩).up (H.push (.dfd [])).nx ⟨(w.alloc (.deferred (some []))).heap.size, 0⟩).μ H.nx = some ⟨w.heap.size, 0⟩ := hle2.μ _ _ (Ctx.up_same _ _ _)
        have hsz : (w.alloc (.deferred (some []))).heap.size = w.heap.size + 1 := by simp
        have hH2 := hH1.push (o := loopOf a ps.toList assign body H.nx) (ob := .loop { state := .ready, pending := none, fn, tmps, params := ps, assign, body, defers := w.heap.size }) (cap := 0)
          ⟨_, rfl, ⟨fun _ => rfl, nofun, rfl, nofun, hfn, he.le hle, by simp, ⟨rfl, hok.1⟩, ⟨rfl, hok.2⟩, ⟨_, hμ1, rfl⟩⟩⟩
        obtain ⟨xs, q1, q2⟩ := hval (T := .inRangeFunc (w.heap.size + 1) :: K) (D := [{ target := .collected w.heap.size, args := #[] }] ++ defers) (W := (w.alloc (.deferred (some []))).alloc (.loop { state := .ready, pending := none, fn, tmps, params := ps, assign, body, defers := w.heap.size })) hle haf hext (id := H.nx + 1) (Ctx.up_same _ _ _) hsz
        have hst := st_range (P := P) (cs := fs) (run_enterLoop_outer (P := P) (w := w) fn tmps ps assign body) q1
        obtain ⟨k1, k2, k3, k4⟩ := enter_ok (hi := ((H.push (.dfd [])).push (loopOf a ps.toList assign body H.nx)).nx) (kind := .normal) hG ha q2 rfl
        have hold : ∀ id, id < H.nx → c.μ id = none → ((c.up H.nx ⟨w.heap.size, 0⟩).up (H.push (.dfd [])).nx ⟨(w.alloc (.deferred (some []))).heap.size, 0⟩).μ id = none := fun id hi hn => by
          rw [Ctx.up_ne _ _ (show id ≠ (H.push (.dfd [])).nx from fun e => by rw [e] at hi; exact absurd (Nat.le_succ H.nx) (Nat.not_le_of_lt hi)), Ctx.up_ne _ _ (Nat.ne_of_lt hi)]
          exact hn
        refine ⟨_, _, _, _, _, Steps.one hst, hH2, Nat.le_refl _, k1, ?_, hm.kp.trans ((Kp.alloc _ _).trans (Kp.alloc _ _)), fun b ob hb => hle.Φ _ _ (hm.old b ob hb), hm.base⟩
        rw [k3, k4]
        refine ⟨_, _, lo, rfl, Nat.le_trans hm.lon (Nat.le_trans (Nat.le_succ _) (Nat.le_succ _)), ⟨hfn, hm.fr.kind, hm.fr.rnd.le hle, ?_, fun _ => ⟨rfl, ?_⟩, fun hq => absurd (show a.ret = true from hq) (by rw [hret]; nofun), hm.fr.nd⟩, hret,
          hm.fs.le hle (fun id hi hn => hold id (Nat.lt_of_lt_of_le hi hm.lon) hn) (Nat.le_refl _)⟩
        · show DfRs _ (⟨.p H.nx 0, []⟩ :: a.dfs) ({ target := .collected w.heap.size, args := #[] } :: defers)
          simp only [DfRs]
          exact ⟨_, _, rfl, by simp only [DfR]; exact ⟨_, hμ1, rfl⟩, hm.fr.dfs.le hle⟩
        · have : w.heap.size + 1 = (⟨(w.alloc (.deferred (some []))).heap.size, 0⟩ : Loc).b := hsz.symm
          show BodyR G _ lo _ a.fn a.n a.env tmps true (.rf (H.nx + 1) :: k) (.inRangeFunc (w.heap.size + 1) :: K)
          rw [this]
          exact .plain (.cons (.rf (Ctx.up_same _ _ _)) (hk.le hle)) (he.le hle)
      · cases h
    · -- a loop within a round
      rename_i l0 hrnd
      split at h
      · rename_i r0 hr0
        split at h
        · rename_i a' ha
          cases h
          obtain ⟨af, haf, hext⟩ := hen ha
          obtain ⟨L0, hL0, hro⟩ : ∃ l, c.μ l0 = some l ∧ rnd = some l.b := by have := hm.fr.rnd; rw [hrnd] at this; exact this
          subst hro
          obtain ⟨ob, h1, R, rfl, h2⟩ := hm.hr.at_ _ _ _ hr0 hL0
          have hfr1 := hm.hr.fresh
          have hle := Ctx.le_up (c := c) ⟨w.heap.size, 0⟩ hfr1
          obtain ⟨d, hd1, hd2⟩ := h2.dfs
          have hH1 := hm.hr.push (o := loopOf a ps.toList assign body r0.dfs) (ob := .loop { state := .ready, pending := none, fn, tmps, params := ps, assign, body, defers := R.defers }) (cap := 0)
            ⟨_, rfl, ⟨fun _ => rfl, nofun, rfl, nofun, hfn, he.le hle, by simp, ⟨rfl, hok.1⟩, ⟨rfl, hok.2⟩, ⟨_, hle.μ _ _ hd1, hd2⟩⟩⟩
          obtain ⟨xs, q1, q2⟩ := hval (T := .inRangeFunc w.heap.size :: K) (D := [] ++ defers) (W := w.alloc (.loop { state := .ready, pending := none, fn, tmps, params := ps, assign, body, defers := R.defers })) hle haf hext (id := H.nx) (Ctx.up_same _ _ _) rfl
          have hst := st_range (P := P) (cs := fs) (run_enterLoop_inner' (P := P) h1 fn tmps ps assign body) q1
          obtain ⟨k1, k2, k3, k4⟩ := enter_ok (hi := (H.push (loopOf a ps.toList assign body r0.dfs)).nx) (kind := .normal) hG ha q2 rfl
          have hold : ∀ id, id < H.nx → c.μ id = none → (c.up H.nx ⟨w.heap.size, 0⟩).μ id = none := fun id hi hn => by
            rw [Ctx.up_ne _ _ (Nat.ne_of_lt hi)]
            exact hn
          refine ⟨_, _, _, _, _, Steps.one hst, hH1, Nat.le_refl _, k1, ?_, hm.kp.trans (Kp.alloc _ _), fun b ob hb => hle.Φ _ _ (hm.old b ob hb), hm.base⟩
          rw [k3, k4]
          exact ⟨_, _, lo, rfl, Nat.le_trans hm.lon (Nat.le_succ _), ⟨hfn, hm.fr.kind, hm.fr.rnd.le hle, hm.fr.dfs.le hle, fun _ => ⟨rfl, .plain (.cons (.rf (Ctx.up_same c H.nx ⟨w.heap.size, 0⟩)) (hk.le hle)) (he.le hle)⟩, fun hq => absurd (show a.ret = true from hq) (by rw [hret]; nofun), hm.fr.nd⟩, hret,
            hm.fs.le hle (fun id hi hn => hold id (Nat.lt_of_lt_of_le hi hm.lon) hn) (Nat.le_refl _)⟩
        · cases h
      · cases h
  · cases h
end
end Go.Proofs.YtbkipanlicgooaaGreatDoor
namespace Go.Proofs.YtbkipanlicgooaaGreatDoor
section
variable {P : Program} {G : Glob} {H0 : AH} {w0 : World} {cl : List Frame} {cs0 : List Frame}

theorem find_eq {fn : FuncId} {id : Nat} {pl : Plan} (h : planOf G fn id = some pl) : findPlan id (plansOf G fn) = some pl := by
  unfold planOf at h
  unfold plansOf
  split at h
  · rename_i af haf
    try rw [haf]
    exact h
  · cases h
theorem PN.none {c : Ctx} {lo hi : Nat} {env : Tr V} {ops : Array Oper} {S : List Nat} : PN c lo hi env ops [] S :=
  ⟨fun j id h => by obtain ⟨_, _, _, _, h, _⟩ := h; simp [ids] at h, fun j j' id h => by obtain ⟨_, _, _, _, h, _⟩ := h; simp [ids] at h⟩

section code
variable {c : Ctx} {a : AF} {as : List AF} {H : AH} {fs : List Frame} {w : World} {lo : Nat} {m' : AM} {fn : FuncId} {tmps : Array Value} {K : List Item} {defers : List Deferred} {kind : CallKind} {rnd : Option Nat} {k : List AI}

theorem stepC_ok (hG : GOk P G (okG G) H0) {x : Code} (hm : MR P G w0 cl cs0 false c a as H (F fn tmps (.code x :: K) defers kind rnd) fs w lo) (hret : a.ret = false) (hok : okG G a.fn x) (hk : ItemsR G c a.fn k K) (he : EnvR c (fun _ => False) a.n a.env tmps)
    (h : stepC G a as H k x = some m') : NextR P G w0 cl cs0 m' (lone (F fn tmps (.code x :: K) defers kind rnd) fs w) := by
  cases x with
  | skip =>
    simp only [stepC, Option.some.injEq] at h
    subst h
    exact stay0 hm hret (.plain hk he) st_skip
  | label l =>
    simp only [stepC, Option.some.injEq] at h
    subst h
    exact stay0 hm hret (.plain hk he) st_label
  | seq x y =>
    simp only [stepC, Option.some.injEq] at h
    subst h
    simp only [okG, okC, Bool.and_eq_true] at hok
    exact stay0 hm hret (.plain (.cons (.code hok.1) (.cons (.code hok.2) hk)) he) st_seq
  | cond t x y =>
    simp only [okG, okC, Bool.and_eq_true] at hok
    simp only [stepC] at h
    split at h
    · rename_i hv
      have hv := (ev_ok (f := F fn tmps (.code (.cond t x y) :: K) defers kind rnd) hm.hr he (fun _ _ h => h) hv).bool
      cases h
      exact stay0 hm hret (.plain (.cons (.code hok.1) hk) he) (st_cond hv)
    · rename_i hv
      have hv := (ev_ok (f := F fn tmps (.code (.cond t x y) :: K) defers kind rnd) hm.hr he (fun _ _ h => h) hv).bool
      cases h
      exact stay0 hm hret (.plain (.cons (.code hok.2) hk) he) (st_cond hv)
    · cases h
  | block id b =>
    simp only [stepC, Option.some.injEq] at h
    subst h
    exact stay0 hm hret (.plain (.cons (.code hok) (.cons .blk hk)) he) st_block
  | loop b =>
    simp only [stepC, Option.some.injEq] at h
    subst h
    exact stay0 hm hret (.plain (.cons (.code hok) (.cons (.lp hok) hk)) he) st_loop
  | scope b =>
    simp only [stepC, Option.some.injEq] at h
    subst h
    exact stay0 hm hret (.plain (.cons (.code hok) (.cons (.scp hok) hk)) he) st_scope
  | exit id =>
    simp only [stepC] at h
    obtain ⟨e1, e2⟩ := exitA_ok (id := id) hk
    split at h
    · rename_i k' hk'
      cases h
      obtain ⟨l', q1, q2⟩ := e1 _ hk'
      exact stay0 hm hret (.plain q2 he) (st_exit q1)
    · rename_i hk'
      refine leaveA_ok hm hret he (fun x hx g => by cases hx; rfl) (fun _ hj => ?_) (fun l c' cs' v w' hro hkn hr hfs => ?_) h
      · rcases hj with hj | hj <;> cases hj
      · subst hfs
        exact st_round_exit hro hkn (e2 hk') hr
  | goto t =>
    simp only [stepC] at h
    obtain ⟨e1, e2⟩ := gotoA_ok (t := t) hk
    split at h
    · rename_i k' hk'
      cases h
      obtain ⟨l', q1, q2⟩ := e1 _ hk'
      exact stay0 hm hret (.plain q2 he) (st_goto q1)
    · rename_i hk'
      refine leaveA_ok hm hret he (fun x hx g => by cases hx; rfl) (fun _ hj => ?_) (fun l c' cs' v w' hro hkn hr hfs => ?_) h
      · rcases hj with hj | hj <;> cases hj
      · subst hfs
        exact st_round_goto hro hkn (e2 hk') hr
  | ret =>
    simp only [stepC] at h
    refine leaveA_ok hm hret he (fun x hx g => by cases hx; rfl) (fun hro _ => ?_) (fun l c' cs' v w' hro hkn hr hfs => ?_) h
    · simp only at hro
      subst hro
      exact st_ret
    · subst hfs
      exact st_round_ret hro hkn hr
  | region id ops d =>
    cases d with
    | false =>
      simp only [stepC, Option.some.injEq] at h
      subst h
      exact stay0 hm hret (.plain (.cons (.reg (i := 0)) hk) he) st_region
    | true =>
      simp only [stepC] at h
      split at h
      · rename_i pl hpl
        cases h
        have hfn : fn = a.fn := hm.fr.fn
        have hpok : planOk pl ops = true := by
          simp only [okG, okC] at hok
          rw [find_eq hpl] at hok
          exact hok
        simp only [planOk, Bool.and_eq_true] at hpok
        have hst := st_draw (P := P) (fn := fn) (tmps := tmps) (k := K) (defers := defers) (kind := kind) (rnd := rnd) (cs := fs) (w := w) (id := id) (ops := ops)
        rw [hG.mixed] at hst
        refine stay (w' := { w with drawn := w.drawn + 1 }) hm hret (Le.refl c) rfl (fun _ _ h => h) (hm.hr.world rfl) ⟨rfl, rfl, rfl, Nat.le_refl _⟩ (Nat.le_refl _) ?_ (Steps.one hst)
        exact .dreg hk ⟨hpok.1, hpok.2, DR.begin hpok.2 _, he.weaken fun _ h => h.elim, .none, fun j hj => .inr hj⟩
      · cases h
  | rangeFunc f ps x y => exact range_ok hG hm hret hok hk he h
  | refuse s => simp [stepC] at h

/-! ### A drawn region -/
/-- The abstract machine does an operation ahead of the concrete one. -/
theorem float_body {n : Nat} {env e : Tr V} {ops : Array Oper} {rv : List Nat} {todo : List (Nat × PK)} {j : Nat} {S : List Nat} {s : PS} {o : Oper} {v : V} {hi hi' : Nat} (hd : DreR c lo hi n env tmps ops rv ((j, .fl) :: todo) S s) (ho : ops[j]? = some o)
    (hp : putT n env o.dst v = some e) (hh : hi ≤ hi') (hlo : lo ≤ hi) (hnew : ∀ id, isNewOp o.op = true → idOf v = some id → id = hi ∧ hi < hi' ∧ c.μ hi = none) :
    ∃ s', DreR c lo hi' n e tmps ops rv todo S s' := by
  have hc := hd.chk
  simp only [chk] at hc
  rw [nthO_eq, Array.getElem?_toList, ho] at hc
  simp only [Bool.and_eq_true] at hc
  obtain ⟨hc1, hc2⟩ := hc
  have hD' := hd.dr.float ho hc1
  have hj : j ∉ ids s.done := fun hc => by
    simp only [okOne, Bool.and_eq_true, Bool.not_eq_true'] at hc1
    rw [hasId_iff.2 hc] at hc1
    cases hc1.1
  have hjS : j ∈ S := Classical.byContradiction fun hn => hj (hd.dr.ahead j (Array.getElem?_eq_some_iff.1 ho).1 hn)
  have key : ∀ {i id}, PId e ops ((j, ancs1 s.done (directs o)) :: s.done) S i id → (i = j ∧ id = hi ∧ hi < hi' ∧ c.μ hi = none) ∨ (i ≠ j ∧ PId env ops s.done S i id) := by
    rintro i id ⟨o', d, u, h1, h2, h3, h4, h5, h6, h7⟩
    by_cases hij : i = j
    · subst hij
      rw [ho] at h3
      cases h3
      left
      refine ⟨rfl, ?_⟩
      rcases putT_get hp h6 with ⟨_, rfl⟩ | ⟨hne, _⟩
      · exact hnew id h4 h7
      · exact absurd h5 hne
    · right
      simp only [ids, List.map_cons, List.mem_cons, hij, false_or] at h2
      rcases putT_get hp h6 with ⟨hd', _⟩ | ⟨_, hu⟩
      · exact absurd (dsts_nodup hd.nd (by rw [Array.getElem?_toList]; exact h3) (by rw [Array.getElem?_toList]; exact ho) h5 hd') hij
      · exact ⟨hij, o', d, u, h1, h2, h3, h4, h5, hu, h7⟩
  refine ⟨_, hd.nd, hc2, hD', ?_, ⟨fun i id hp' => ?_, fun i i' id h1 h2 => ?_⟩, hd.ex⟩
  · have hW : ∀ t, Wt ops s.done S t → Wt ops ((j, ancs1 s.done (directs o)) :: s.done) S t := by
      rintro t ⟨i, oi, h1, h2, h3⟩
      exact ⟨i, oi, h1, by simp only [ids, List.map_cons, List.mem_cons]; exact .inr h2, h3⟩
    cases hdst : o.dst with
    | none =>
      rw [hdst] at hp
      simp only [putT, Option.some.injEq] at hp
      subst hp
      exact hd.en.weaken hW
    | some d =>
      rw [hdst] at hp
      simp only [putT] at hp
      split at hp
      · rename_i hlt
        cases hp
        exact hd.en.ahead (by simpa using hlt) hW ⟨j, o, hjS, by simp [ids], ho, hdst⟩
      · cases hp
  · rcases key hp' with ⟨_, rfl, h1, h2⟩ | ⟨_, h1⟩
    · exact ⟨h2, hlo, h1⟩
    · obtain ⟨q1, q2, q3⟩ := hd.pn.one i id h1
      exact ⟨q1, q2, Nat.lt_of_lt_of_le q3 hh⟩
  · rcases key h1 with ⟨rfl, rfl, _, _⟩ | ⟨_, k1⟩
    · rcases key h2 with ⟨rfl, _⟩ | ⟨_, k2⟩
      · rfl
      · exact absurd (hd.pn.one i' _ k2).2.2 (Nat.lt_irrefl _)
    · rcases key h2 with ⟨rfl, rfl, _, _⟩ | ⟨_, k2⟩
      · exact absurd (hd.pn.one i _ k1).2.2 (Nat.lt_irrefl _)
      · exact hd.pn.two i i' id k1 k2
/-- An effect stands at the head of the order: behind it. -/
theorem effect_body {n : Nat} {env : Tr V} {ops : Array Oper} {rv rv' : List Nat} {todo : List (Nat × PK)} {j : Nat} {Y : List Nat} {s : PS} {o : Oper} {hi : Nat} (hnd : nodupN (dsts ops.toList) = true) (hc : chk ops rv s ((j, .ef rv') :: todo) = true) (hex : ∀ i ∈ s.E, i ∈ s.efs ∨ i ∈ efL ((j, .ef rv') :: todo)) (hD : DR ops s (j :: Y))
    (he : EnvR c (Wt ops s.done (j :: Y)) n env tmps) (hpn : PN c lo hi env ops s.done (j :: Y)) (ho : ops[j]? = some o) :
    j ∉ Y ∧ (∀ t, t ∈ o.looksAt ops → ¬ Wt ops s.done (j :: Y) t) ∧ ∃ s', DreR c lo hi n env tmps ops rv todo Y s' := by
  have hE : ∀ i ∈ s.E, i ∈ ids s.done → i ∈ s.efs := fun i hi hd => (hex i hi).elim id fun hl => absurd hd (chk_new hc hl)
  simp only [chk] at hc
  rw [nthO_eq, Array.getElem?_toList, ho] at hc
  simp only [Bool.and_eq_true] at hc
  obtain ⟨hc1, _, hc2⟩ := hc
  have hjY : j ∉ Y := (List.nodup_cons.1 hD.nodup).1
  have hj : j ∉ ids s.done := fun hc => by
    simp only [okOne, Bool.and_eq_true, Bool.not_eq_true'] at hc1
    rw [hasId_iff.2 hc] at hc1
    cases hc1.1
  have key : ∀ {i id}, PId env ops ((j, ancs1 s.done (directs o)) :: s.done) Y i id → PId env ops s.done (j :: Y) i id := by
    rintro i id ⟨o', d, v, h1, h2, h3⟩
    have hij : i ≠ j := fun e => hjY (e ▸ h1)
    simp only [ids, List.map_cons, List.mem_cons, hij, false_or] at h2
    exact ⟨o', d, v, by simp [h1], h2, h3⟩
  refine ⟨hjY, fun t ht hw => ?_, _, hnd, hc2, hD.effect ho hc1, he.weaken ?_, ⟨fun i id hp => hpn.one i id (key hp), fun i i' id h1 h2 => hpn.two i i' id (key h1) (key h2)⟩, fun i hi => ?_⟩
  rotate_right
  · rcases hex i hi with h | h
    · exact .inl (by simp [h])
    · simp only [efL, List.mem_cons] at h
      rcases h with rfl | h
      · exact .inl (by simp)
      · exact .inr h
  · obtain ⟨i, oi, h1, h2, h3, h4⟩ := hw
    have hl := hc1
    simp only [okOne, Bool.and_eq_true] at hl
    have := okLooks_mem hl.2.2.2.1 (i := i) (by rw [Array.getElem?_toList]; exact h3) h4 ht
    rw [Nat.zero_add] at this
    rcases this with this | this
    · exact Bf.done hD.nodup (hD.ancNew ho i this) h1
    · exact hD.eff i (hE i this h2) h1
  · rintro t ⟨i, oi, h1, h2, h3⟩
    rcases List.mem_cons.1 h1 with rfl | h1
    · exact absurd h2 hj
    · exact ⟨i, oi, h1, by simp only [ids, List.map_cons, List.mem_cons]; exact .inr h2, h3⟩
theorem op1_bad {ρ : Rho} {H : AH} {op : Op} {r : R1} (e : op1 G H ρ op = r) : (∀ d, r ≠ .dfr d) ∧ r ≠ .bad → ∀ cl, op ≠ .defer cl := by
  subst e
  exact op1_defer
theorem stepD_ok (hG : GOk P G (okG G) H0) (hglb : Glb P (okG G) G.ng H0 w0) {ops : Array Oper} {rv : List Nat} {todo : List (Nat × PK)} {S : List Nat} {s : PS}
    (hm : MR P G w0 cl cs0 false c a as H (F fn tmps (.inRegion ops S :: K) defers kind rnd) fs w lo) (hret : a.ret = false) (htodo : a.todo = .dreg ops todo rv :: k) (hk : ItemsR G c a.fn k K) (hd : DreR c lo H.nx a.n a.env tmps ops rv todo S s)
    (h : stepD G a as H k ops rv todo = some m') : NextR P G w0 cl cs0 m' (lone (F fn tmps (.inRegion ops S :: K) defers kind rnd) fs w) := by
  have hro : ∀ {o : Oper} {i : Nat}, nthO ops.toList i = some o → ops[i]? = some o := fun h => by rwa [nthO_eq, Array.getElem?_toList] at h
  cases todo with
  | nil =>
    simp only [stepD] at h
    split at h
    · rename_i hl
      cases h
      have hfin := hd.dr.finish hd.chk
      obtain ⟨c', t', w', hs, hp⟩ := pends (fn := fn) (k := K) (defers := defers) (kind := kind) (rnd := rnd) (cs := fs) (X := S) (Y := []) (s := s) hG hd.effs hm.hr (by simpa using hd.dr) (by simpa using hd.en) (by simpa using hd.pn) (fun x hx => ⟨(hfin x hx).1, lookAll_mem hl x (hfin x hx).2⟩)
      rw [List.append_nil] at hs
      refine stay hm hret hp.le hp.base hp.old hp.hr hp.kp (Nat.le_refl _) (.plain (hk.le hp.le) (hp.en.weaken ?_)) (hs.trans (Steps.one st_regEnd))
      rintro t ⟨i, _, h1, _⟩
      cases h1
    · cases h
  | cons p l =>
    obtain ⟨j, pk⟩ := p
    simp only [stepD] at h
    split at h
    · cases h
    · rename_i o ho
      have ho := hro ho
      cases pk with
      | ef rv' =>
        simp only at h
        split at h
        · cases h
        · rename_i hl
          obtain ⟨X, Y, rfl, hX⟩ := hd.dr.split hd.chk
          obtain ⟨c', t', w', hs, hp⟩ := pends (fn := fn) (k := K) (defers := defers) (kind := kind) (rnd := rnd) (cs := fs) hG hd.effs hm.hr hd.dr hd.en hd.pn (fun x hx => ⟨(hX x hx).1, lookAll_mem hl x (hX x hx).2⟩)
          refine NextR.head hs ?_
          obtain ⟨q1, q2, s', q3⟩ := effect_body hd.nd hd.chk hd.ex hp.dr hp.en hp.pn ho
          have hm' : MR P G w0 cl cs0 true c' a as H (F fn t' (.inRegion ops (j :: Y) :: K) defers kind rnd) fs w' lo :=
            ⟨hp.hr, hm.lon, ⟨hm.fr.fn, hm.fr.kind, hm.fr.rnd.le hp.le, hm.fr.dfs.le hp.le, fun _ => ⟨rfl, by rw [htodo]; exact .wait (hk.le hp.le) q1 q3⟩, fun hq => absurd (show a.ret = true from hq) (by rw [hret]; nofun), hm.fr.nd⟩,
              hm.fs.le hp.le hp.old (Nat.le_refl _), hm.kp.trans hp.kp, fun b ob hb => hp.le.Φ _ _ (hm.old b ob hb), hp.base.trans hm.base⟩
          have hwa : ∀ {b}, wantedA ops a.env o = some b → Region.wanted o (yielded ops t') = b := fun hb => wanted_ok hp.en (fun g want r d h1 h2 h3 => q2 d (looks_guard h1 h2 h3)) hb
          split at h
          · rename_i hw
            refine doR1_ok hG hglb hm' hret ho (hwa hw) (op1_ok hG hp.hr (rho_ok (f := F fn t' (.inRegion ops (j :: Y) :: K) defers kind rnd) hp.hr hp.en (fun t ht => q2 t (looks_opd ht)))) (op1_bad rfl) h
          · rename_i hw
            split at h
            · rename_i e he
              cases h
              have hm'' : MR P G w0 cl cs0 true c' a as H (F fn t' (.inRegion ops (j :: Y) :: K) defers kind rnd) fs w' lo := hm'
              refine ⟨c', F fn (put t' o.dst undef) (.inRegion ops Y :: K) defers kind rnd, fs, w', lo, Steps.one (st_unwanted ho (hwa hw)), hp.hr, hm.lon, ⟨hm.fr.fn, hm.fr.kind, hm.fr.rnd.le hp.le, hm.fr.dfs.le hp.le, fun _ => ⟨rfl, ?_⟩, fun hq => absurd (show a.ret = true from hq) (by rw [hret]; nofun), hm.fr.nd⟩,
                hm'.fs, hm'.kp, hm'.old, hm'.base⟩
              exact .dreg (hk.le hp.le) ⟨q3.nd, q3.chk, q3.dr, putT_ok he q3.en uV_rep fun _ hx _ => hx, q3.pn.put q3.nd q1 ho he, q3.ex⟩
            · cases h
          · cases h
      | fl =>
        simp only at h
        -- the concrete machine does nothing
        have none_ : ∀ {e : Tr V} {H' : AH} {v : V}, putT a.n a.env o.dst v = some e → HR P (okG G) G.ng c H' w → H.nx ≤ H'.nx → (∀ id, isNewOp o.op = true → idOf v = some id → id = H.nx ∧ H.nx < H'.nx ∧ c.μ H.nx = none) →
            NextR P G w0 cl cs0 ⟨a.go2 e (.dreg ops l rv :: k), as, H'⟩ (lone (F fn tmps (.inRegion ops S :: K) defers kind rnd) fs w) := by
          intro e H' v hp hH' hn hnew
          obtain ⟨s', hb⟩ := float_body hd ho hp hn hm.lon hnew
          exact stay hm hret (Le.refl c) rfl (fun _ _ h => h) hH' (Kp.refl w) hn (.dreg hk hb) (Steps.refl _ _)
        split at h
        · split at h
          · rename_i v hv
            split at h
            · rename_i e he
              cases h
              exact none_ he hm.hr (Nat.le_refl _) fun id hnw _ => by rw [(op1_val hv).1] at hnw; cases hnw
            · cases h
          · rename_i ob mk hv
            split at h
            · rename_i e he
              cases h
              exact none_ he (hm.hr.pushed ob) (Nat.le_succ _) fun id _ hid => ⟨op1_says hv _ _ hid, Nat.lt_succ_self _, hm.hr.fresh⟩
            · cases h
          · cases h
        · split at h
          · rename_i e he
            cases h
            exact none_ he hm.hr (Nat.le_refl _) fun id _ hid => by cases hid
          · cases h
        · cases h
end code
end
end Go.Proofs.YtbkipanlicgooaaGreatDoor
namespace Go.Proofs.YtbkipanlicgooaaGreatDoor
section
variable {P : Program} {G : Glob} {H0 : AH} {w0 : World} {cl : List Frame} {cs0 : List Frame}

theorem drop_nil {ops : Array Oper} {i : Nat} (h : ops.toList.drop i = []) : (List.range ops.size).drop i = [] := by
  have := List.drop_eq_nil_iff.1 h
  rw [List.drop_eq_nil_iff]
  simpa using this
theorem step1_ok (hG : GOk P G (okG G) H0) (hglb : Glb P (okG G) G.ng H0 w0) {m m' : AM} {c : Ctx} {f : Frame} {fs : List Frame} {w : World} {lo : Nat} (hm : MR P G w0 cl cs0 false c m.fr m.cs m.H f fs w lo) (h : step1 G m = some m') :
    NextR P G w0 cl cs0 m' (lone f fs w) := by
  obtain ⟨a, as, H⟩ := m
  simp only at hm
  unfold step1 at h
  simp only at h
  split at h
  · rename_i hret
    exact unwindA_ok hG hm hret h
  · rename_i hret
    obtain ⟨hmode, hb⟩ := hm.fr.run hret
    rw [frame_eq hmode] at hm ⊢
    generalize f.fn = fn at hm ⊢
    generalize f.tmps = tmps at hm hb ⊢
    generalize f.todo = l at hm hb ⊢
    generalize f.defers = defers at hm ⊢
    generalize f.kind = kind at hm ⊢
    generalize f.roundOf = rnd at hm ⊢
    generalize htodo : a.todo = k at hb h
    cases hb with
    | dreg hk hd => exact stepD_ok hG hglb hm hret htodo hk hd h
    | plain hi_ he =>
      cases hi_ with
      | nil =>
        simp only [stepI] at h
        refine leaveA_ok hm hret he (fun x hx g => by cases hx) (fun hro _ => ?_) (fun l c' cs' v w' hro hkn hr hfs => ?_) h
        · simp only at hro
          subst hro
          exact st_end
        · subst hfs
          exact st_round_end hro hkn hr
      | cons hx hk =>
        cases hx with
        | code hok => exact stepC_ok hG hm hret hok hk he h
        | blk =>
          simp only [stepI, Option.some.injEq] at h
          subst h
          exact stay0 hm hret (.plain hk he) st_inBlock
        | scp hb =>
          simp only [stepI, Option.some.injEq] at h
          subst h
          exact stay0 hm hret (.plain hk he) st_inScope
        | lp hb =>
          simp only [stepI, Option.some.injEq] at h
          subst h
          exact stay0 hm hret (.plain (.cons (.code hb) (.cons (.lp hb) hk)) he) st_inLoop
        | reg =>
          rename_i ops i
          simp only [stepI] at h
          split at h
          · rename_i hr
            cases h
            rw [drop_nil hr] at hm ⊢
            exact stay0 hm hret (.plain hk he) st_regEnd
          · rename_i o rest hr
            obtain ⟨ho, hrest, hlt⟩ := drop_cons hr
            rw [drop_range hlt] at hm ⊢
            split at h
            · rename_i hw
              have hw' := wanted_ok (tmps := tmps) he (fun _ _ _ _ _ _ _ h => h) hw
              have hm' : MR P G w0 cl cs0 true c a as H (F fn tmps (.inRegion ops (i :: (List.range ops.size).drop (i + 1)) :: _) defers kind rnd) fs w lo :=
                ⟨hm.hr, hm.lon, ⟨hm.fr.fn, hm.fr.kind, hm.fr.rnd, hm.fr.dfs, fun _ => ⟨rfl, by
                  rw [htodo]
                  have : BodyR G c lo H.nx a.fn a.n a.env tmps true (.reg ops i (ops.toList.drop i) :: _) (.inRegion ops ((List.range ops.size).drop i) :: _) := .plain (.cons .reg hk) he
                  rw [drop_range hlt] at this
                  exact this⟩, hm.fr.ret, hm.fr.nd⟩, hm.fs, hm.kp, hm.old, hm.base⟩
              exact doR1_ok hG hglb hm' hret ho hw' (op1_ok hG hm.hr (rho_ok (f := F fn tmps _ defers kind rnd) hm.hr he (fun _ _ h => h))) (op1_bad rfl) h
            · rename_i hw
              have hw' := wanted_ok (tmps := tmps) he (fun _ _ _ _ _ _ _ h => h) hw
              split at h
              · rename_i e hp
                cases h
                rw [hrest]
                exact stay0 hm hret (.plain (.cons .reg hk) (putT_ok hp he uV_rep fun _ hx _ => hx)) (st_unwanted ho hw')
              · cases h
            · cases h
        | rf hl => simp [stepI] at h
        | erf hl =>
          rename_i id L
          simp only [stepI] at h
          split at h
          · rename_i r hr
            split at h
            · rename_i hst
              cases h
              obtain ⟨ob, h1, R, rfl, h2⟩ := hm.hr.at_ _ _ _ hr hl
              have hnb : R.state ≠ .busy := by
                simp only [Bool.or_eq_true] at hst
                cases hs : r.st with
                | true => rw [h2.ready hs]; nofun
                | false =>
                  rcases hst with hst | hst
                  · rw [hs] at hst; cases hst
                  · rw [h2.done hs hst]; nofun
              have hT : HR P (okG G) G.ng c (H.set id (.loop { r with st := false, over := false })) (w.putObj L.b (.loop { R with state := .exhausted })) :=
                hm.hr.turn hr rfl hl rfl ⟨_, rfl, ⟨nofun, nofun, h2.pend, h2.pok, h2.fn, h2.env, h2.params, h2.assign, h2.body, h2.dfs⟩⟩
              refine stay hm hret (Le.refl c) rfl (fun _ _ h => h) hT (putObj_kp _ _ _) (Nat.le_refl _) ?_ (Steps.one (st_erf (run_endLoop (P := P) h1 hnb)))
              rw [h2.pend]
              cases hpd : r.pend with
              | none => exact .plain hk he
              | some j => exact .plain (.cons (.code (h2.pok _ _ hpd)) hk) he
            · cases h
          · cases h
        | br =>
          simp only [stepI] at h
          split at h
          · rename_i id hrnd
            split at h
            · rename_i r hr
              split at h
              · rename_i hst
                cases h
                obtain ⟨L, hl, hro⟩ : ∃ l, c.μ id = some l ∧ rnd = some l.b := by have := hm.fr.rnd; rw [hrnd] at this; exact this
                obtain ⟨ob, h1, R, rfl, h2⟩ := hm.hr.at_ _ _ _ hr hl
                have hT : HR P (okG G) G.ng c (H.set id (.loop { r with st := false, over := false })) (w.putObj L.b (.loop { R with state := .busy })) :=
                  hm.hr.turn hr rfl hl rfl ⟨_, rfl, ⟨nofun, nofun, h2.pend, h2.pok, h2.fn, h2.env, h2.params, h2.assign, h2.body, h2.dfs⟩⟩
                exact stay hm hret (Le.refl c) rfl (fun _ _ h => h) hT (putObj_kp _ _ _) (Nat.le_refl _) (.plain hk he) (Steps.one (st_br hro (run_beginRound (P := P) h1 (h2.ready hst))))
              · cases h
            · cases h
          · cases h

/-! ### A run -/
/-- So many steps, or to the end: the machine, and what it ended with. -/
def runA (G : Glob) : Nat → AM → Option (AM × Option V)
  | 0, m => some (m, none)
  | n + 1, m => match final G m with
    | some v => some (m, some v)
    | none => match step1 G m with
      | some m' => runA G n m'
      | none => none
theorem final_ok (hG : GOk P G (okG G) H0) {m : AM} {v : V} {c : Ctx} {f : Frame} {fs : List Frame} {w : World} {lo : Nat} (hm : MR P G w0 cl cs0 false c m.fr m.cs m.H f fs w lo) (h : final G m = some v) :
    ∃ y, fs = cl ++ cs0 ∧ f.leaving P w (.returned y) ∧ f.fn = m.fr.fn ∧ Rep c v y := by
  obtain ⟨a, as, H⟩ := m
  simp only at hm
  unfold final at h
  simp only at h
  split at h
  · rename_i hret hd
    obtain ⟨hmode, he⟩ := hm.fr.ret hret
    obtain ⟨rfl, hdk, _⟩ := hm.fs
    have hdfs := hm.fr.dfs
    rw [hd] at hdfs
    simp only [DfRs] at hdfs
    split at h
    · rename_i af haf
      split at h
      · rename_i vs hvs
        cases h
        obtain ⟨y, hy1, hy2⟩ := results_ok (w := w) hG.tab hm.hr he hvs
        have hfn : P.funcs[f.fn]? = some af.fn := by rw [hm.fr.fn]; exact (hG.fn _ _ haf).get
        have hk : f.kind = .normal := by have := hm.fr.kind; rw [hdk] at this; simpa using this
        exact ⟨y, rfl, ⟨hmode, hdfs, hk, _, hfn, hy1⟩, hm.fr.fn, hy2⟩
      · cases h
    · cases h
  · cases h
theorem runA_ok (hG : GOk P G (okG G) H0) (hglb : Glb P (okG G) G.ng H0 w0) : ∀ (n : Nat) {m m' : AM} {r : Option V} {c : Ctx} {f : Frame} {fs : List Frame} {w : World} {lo : Nat}, MR P G w0 cl cs0 false c m.fr m.cs m.H f fs w lo → runA G n m = some (m', r) →
    NextR P G w0 cl cs0 m' (lone f fs w) ∧ ∀ v, r = some v → final G m' = some v
  | 0, m, m', r, c, f, fs, w, lo, hm, h => by
    simp only [runA, Option.some.injEq, Prod.mk.injEq] at h
    obtain ⟨rfl, rfl⟩ := h
    exact ⟨⟨c, f, fs, w, lo, Steps.refl _ _, hm⟩, nofun⟩
  | n + 1, m, m', r, c, f, fs, w, lo, hm, h => by
    simp only [runA] at h
    split at h
    · rename_i v hv
      simp only [Option.some.injEq, Prod.mk.injEq] at h
      obtain ⟨rfl, rfl⟩ := h
      exact ⟨⟨c, f, fs, w, lo, Steps.refl _ _, hm⟩, fun u e => by cases e; exact hv⟩
    · split at h
      · rename_i m1 h1
        obtain ⟨c1, f1, fs1, w1, lo1, hs, hm1⟩ := step1_ok hG hglb hm h1
        obtain ⟨h2, h3⟩ := runA_ok hG hglb n hm1 h
        exact ⟨h2.head hs, h3⟩
      · cases h

/-! ### A call, from its beginning to its end -/
theorem HR.start {w : World} {ok : FuncId → Code → Prop} {ng : Nat} (h : Glb P ok ng H0 w) : HR P ok ng (c0 ng w) H0 w := by
  refine ⟨fun b ob hb => hb, fun id o l ho hl => ?_, fun id id' o o' l l' ho _ he => ?_, fun id o l ho he => ?_, fun id l hl => ?_, fun id o ho => ?_, fun g hg => ?_, fun id l hn hl => ?_, Nat.le_refl _, fun id o ho he => ?_⟩
  · obtain ⟨h1, h2, ob, h3, h4⟩ := h.at_ id o ho
    simp only [c0, if_pos h1, Option.some.injEq] at hl
    subst hl
    exact ⟨ob, h3, h4 w.heap.size⟩
  · rw [(h.at_ id o ho).2.1] at he; cases he
  · rw [(h.at_ id o ho).2.1] at he; cases he
  · simp only [c0] at hl
    split at hl
    · rename_i hlt; rw [h.nx]; exact hlt
    · cases hl
  · rw [h.nx]; exact (h.at_ id o ho).1
  · simp only [c0, if_pos hg]
  · simp only [c0] at hl
    rw [if_neg (Nat.not_lt_of_le hn)] at hl
    cases hl
  · rw [(h.at_ id o ho).2.1] at he; cases he
theorem start_ok (hG : GOk P G (okG G) H0) {w : World} (hglb : Glb P (okG G) G.ng H0 w) {f : FuncId} {ks : List V} {a : AF} {xs : Array Value} (he : enter G f ks false = some a) (hx : Reps (c0 G.ng w) ks xs.toList) :
    MR P G w cl cs0 false (c0 G.ng w) a [] H0 (Frame.enter P f xs .normal) (cl ++ cs0) w H0.nx := by
  obtain ⟨k1, k2, k3, k4⟩ := enter_ok (hi := H0.nx) (kind := .normal) hG he hx rfl
  exact ⟨HR.start hglb, Nat.le_refl _, k1, ⟨rfl, k3, k4⟩, Kp.refl w, fun _ _ h => h, rfl⟩

mutual
/-- Nothing of the value is older than the call. -/
def fresh : V → Bool
  | .S old l _ => !old && freshs l
  | .dp old l _ => !old && freshs l
  | .f _ a b => freshs a && freshs b
  | .ifc _ v => fresh v
  | .agg l => freshs l
  | .tup l => freshs l
  | _ => true
def freshs : List V → Bool
  | [] => true
  | v :: l => fresh v && freshs l
end
mutual
theorem fresh_ok {μ : Nat → Option Loc} {Φ : Nat → Option Obj} {base : Nat} : ∀ (v : V) (y : Value), fresh v = true → Rep ⟨μ, Φ, base⟩ v y → Rep ⟨μ, fun b => if b < base then none else Φ b, base⟩ v y
  | .b _, _, _, e | .i _ _, _, _, e | .s _, _, _, e | .p0, _, _, e | .s0, _, _, e | .se, _, _, e | .m0, _, _, e | .f0, _, _, e | .i0, _, _, e => by simpa only [Rep] using e
  | .p id o, y, _, e => by simpa only [Rep] using e
  | .sl id o n k fix, y, _, e => by simpa only [Rep] using e
  | .m id, y, _, e => by simpa only [Rep] using e
  | .y id, y, _, e => by simpa only [Rep] using e
  | .dp old cs off, y, h, e => by
    simp only [fresh, Bool.and_eq_true, Bool.not_eq_true'] at h
    simp only [Rep] at e ⊢
    obtain ⟨b, o, C, t, fz, h1, h2, h3, h4⟩ := e
    exact ⟨b, o, C, t, fz, h1, by rw [if_neg (Nat.not_lt_of_le (h3 h.1))]; exact h2, h3, freshC_ok cs C o h.2 h4⟩
  | .S old cs n, y, h, e => by
    simp only [fresh, Bool.and_eq_true, Bool.not_eq_true'] at h
    simp only [Rep] at e ⊢
    obtain ⟨b, o, k, C, t, fz, h1, h0, h2, h3, h4⟩ := e
    exact ⟨b, o, k, C, t, fz, h1, h0, by rw [if_neg (Nat.not_lt_of_le (h3 h.1))]; exact h2, h3, freshC_ok cs C o h.2 h4⟩
  | .f g a k, y, h, e => by
    simp only [fresh, Bool.and_eq_true] at h
    simp only [Rep] at e ⊢
    obtain ⟨A, K, h1, h2, h3⟩ := e
    exact ⟨A, K, h1, freshs_ok a _ h.1 h2, freshs_ok k _ h.2 h3⟩
  | .ifc t v, y, h, e => by
    simp only [fresh] at h
    simp only [Rep] at e ⊢
    obtain ⟨z, h1, h2⟩ := e
    exact ⟨z, h1, fresh_ok v z h h2⟩
  | .agg l, y, h, e => by
    simp only [fresh] at h
    simp only [Rep] at e ⊢
    obtain ⟨A, h1, h2⟩ := e
    exact ⟨A, h1, freshs_ok l _ h h2⟩
  | .tup l, y, h, e => by
    simp only [fresh] at h
    simp only [Rep] at e ⊢
    obtain ⟨A, h1, h2⟩ := e
    exact ⟨A, h1, freshs_ok l _ h h2⟩
theorem freshs_ok {μ : Nat → Option Loc} {Φ : Nat → Option Obj} {base : Nat} : ∀ (l : List V) (ys : List Value), freshs l = true → Reps ⟨μ, Φ, base⟩ l ys → Reps ⟨μ, fun b => if b < base then none else Φ b, base⟩ l ys
  | [], _, _, e => by simpa only [Reps] using e
  | v :: vs, ys, h, e => by
    simp only [freshs, Bool.and_eq_true] at h
    simp only [Reps] at e ⊢
    obtain ⟨y, ys', h1, h2, h3⟩ := e
    exact ⟨y, ys', h1, fresh_ok v y h.1 h2, freshs_ok vs ys' h.2 h3⟩
theorem freshC_ok {μ : Nat → Option Loc} {Φ : Nat → Option Obj} {base : Nat} : ∀ (l : List V) (C : Array Value) (o : Nat), freshs l = true → RepC ⟨μ, Φ, base⟩ l C o → RepC ⟨μ, fun b => if b < base then none else Φ b, base⟩ l C o
  | [], _, _, _, e => by simp only [RepC]
  | v :: vs, C, o, h, e => by
    simp only [freshs, Bool.and_eq_true] at h
    simp only [RepC] at e ⊢
    obtain ⟨y, h1, h2, h3⟩ := e
    exact ⟨y, h1, fresh_ok v y h.1 h2, freshC_ok vs C (o + 1) h.2 h3⟩
end

/-- The call's run, in parts: each part begins where the one before ended. -/
inductive RunTo (G : Glob) : AM → AM → V → Prop
  | done {m m' : AM} {v : V} {n : Nat} (h : runA G n m = some (m', some v)) : RunTo G m m' v
  | more {m m1 m' : AM} {v : V} {n : Nat} (h : runA G n m = some (m1, none)) (k : RunTo G m1 m' v) : RunTo G m m' v
theorem runTo_ok (hG : GOk P G (okG G) H0) (hglb : Glb P (okG G) G.ng H0 w0) {m m' : AM} {v : V} (h : RunTo G m m' v) : ∀ {c : Ctx} {f : Frame} {fs : List Frame} {w : World} {lo : Nat}, MR P G w0 cl cs0 false c m.fr m.cs m.H f fs w lo →
    NextR P G w0 cl cs0 m' (lone f fs w) ∧ final G m' = some v := by
  induction h with
  | done h =>
    intro c f fs w lo hm
    obtain ⟨h1, h2⟩ := runA_ok hG hglb _ hm h
    exact ⟨h1, h2 _ rfl⟩
  | more h _ ih =>
    intro c f fs w lo hm
    obtain ⟨⟨c1, f1, fs1, w1, lo1, hs, hm1⟩, _⟩ := runA_ok hG hglb _ hm h
    obtain ⟨h2, h3⟩ := ih hm1
    exact ⟨h2.head hs, h3⟩
/-- What a run of the abstract machine shows of a call. -/
theorem pure_of (hG : GOk P G (okG G) H0) {f : FuncId} {ks : List V} {r v : V} {a : AF} {m' : AM} (he : enter G f ks false = some a) (hr : RunTo G ⟨a, [], H0⟩ m' v) (hv : (mt m'.H G.ng true r v && fresh r) = true) : Pure P (okG G) G.ng H0 f ks r := by
  intro w xs hglb hx cl cs
  simp only [Bool.and_eq_true] at hv
  have hm := start_ok (cl := [cl]) (cs0 := cs) hG hglb he hx
  obtain ⟨⟨c, f', fs, w', lo, hs, hm'⟩, hfin⟩ := runTo_ok hG hglb hr hm
  obtain ⟨y, rfl, h1, _, h2⟩ := final_ok hG hm' hfin
  refine ⟨y, w', hs.trans (Steps.one (step_leave_returned h1)), hm'.kp, fun b hb => ?_, ?_⟩
  · have := hm'.hr.fro b w.heap[b] (hm'.old b _ (Array.getElem?_eq_getElem hb))
    rw [this, Array.getElem?_eq_getElem hb]
  · have := mt_ok hm'.hr (new := true) (c' := ⟨fun _ => none, fun b => w'.heap[b]?, w.heap.size⟩) (fun b ob h => h) (fun _ => by rw [hm'.base]; exact Nat.le_refl _) r v y hv.1 h2
    exact fresh_ok r y hv.2 this
/-! ### Checks for the kernel -/
/-- The call with these arguments runs to its end in so many steps, and returns this. -/
def okCall (G : Glob) (H0 : AH) (f : FuncId) (ks : List V) (r : V) (n : Nat) : Bool := match enter G f ks false with
  | some a => match runA G n ⟨a, [], H0⟩ with
    | some (m, some v) => mt m.H G.ng true r v && fresh r
    | _ => false
  | none => false
theorem pure_call (hG : GOk P G (okG G) H0) {f : FuncId} {ks : List V} {r : V} {n : Nat} (h : okCall G H0 f ks r n = true) : Pure P (okG G) G.ng H0 f ks r := by
  unfold okCall at h
  split at h
  · rename_i a he
    split at h
    · rename_i m v hr
      exact pure_of hG he (.done hr) h
    · cases h
  · cases h
/-- Calls, one by one: the function, the arguments, the result, the number of steps. -/
def okCalls (G : Glob) (H0 : AH) : List (FuncId × Nat × List V × V) → Bool
  | [] => true
  | (f, n, ks, r) :: l => match okCall G H0 f ks r n with
    | true => okCalls G H0 l
    | false => false
theorem pure_calls (hG : GOk P G (okG G) H0) : ∀ {l : List (FuncId × Nat × List V × V)}, okCalls G H0 l = true → ∀ (i : Nat) (e : FuncId × Nat × List V × V), l[i]? = some e → Pure P (okG G) G.ng H0 e.1 e.2.2.1 e.2.2.2
  | [], _, i, e, he => by simp at he
  | (f, n, ks, r) :: l, h, i, e, he => by
    simp only [okCalls] at h
    split at h
    · rename_i hc
      cases i with
      | zero =>
        simp only [List.getElem?_cons_zero, Option.some.injEq] at he
        subst he
        exact pure_call hG hc
      | succ i => exact pure_calls hG h i e (by simpa using he)
    · cases h
end
end Go.Proofs.YtbkipanlicgooaaGreatDoor
namespace Go.Proofs.YtbkipanlicgooaaGreatDoor

/-! ### Tries, entry by entry -/
namespace Tr
variable {α : Type}
/-- Every entry passes; the entry at m stands for a * m + b. -/
def ck (p : Nat → α → Bool) : Tr α → Nat → Nat → Bool
  | .nil, _, _ => true
  | .node l v r, a, b => (match v with
    | none => true
    | some x => p b x) && (l.ck p (2 * a) (a + b) && r.ck p (2 * a) (2 * a + b))
theorem ck_get (p : Nat → α → Bool) : ∀ (t : Tr α) (a b n : Nat) (x : α), t.ck p a b = true → t.get n = some x → p (a * n + b) x = true
  | .nil, a, b, n, x, _, h => by simp [get] at h
  | .node l v r, a, b, 0, x, hc, h => by
    simp only [get] at h
    subst h
    simp only [ck, Bool.and_eq_true] at hc
    simpa using hc.1
  | .node l v r, a, b, n + 1, x, hc, h => by
    simp only [ck, Bool.and_eq_true] at hc
    simp only [get] at h
    split at h
    · rename_i hp
      have hp := Nat.eq_of_beq_eq_true hp
      have := ck_get p l (2 * a) (a + b) (n / 2) x hc.2.1 h
      have e : 2 * a * (n / 2) + (a + b) = a * (n + 1) + b := by
        have : n = 2 * (n / 2) := by omega
        generalize n / 2 = m at this
        subst this
        rw [Nat.mul_add, Nat.mul_comm 2 a, Nat.mul_assoc]
        omega
      rw [e] at this
      exact this
    · rename_i hp
      have hp := Nat.ne_of_beq_eq_false hp
      have := ck_get p r (2 * a) (2 * a + b) (n / 2) x hc.2.2 h
      have e : 2 * a * (n / 2) + (2 * a + b) = a * (n + 1) + b := by
        have : n = 2 * (n / 2) + 1 := by omega
        generalize n / 2 = m at this
        subst this
        rw [Nat.mul_add, Nat.mul_add, Nat.mul_comm 2 a, Nat.mul_assoc]
        omega
      rw [e] at this
      exact this
/-- The same, of propositions. -/
def All (p : Nat → α → Prop) : Tr α → Nat → Nat → Prop
  | .nil, _, _ => True
  | .node l v r, a, b => (match v with
    | none => True
    | some x => p b x) ∧ l.All p (2 * a) (a + b) ∧ r.All p (2 * a) (2 * a + b)
theorem all_get (p : Nat → α → Prop) : ∀ (t : Tr α) (a b n : Nat) (x : α), t.All p a b → t.get n = some x → p (a * n + b) x
  | .nil, a, b, n, x, _, h => by simp [get] at h
  | .node l v r, a, b, 0, x, hc, h => by
    simp only [get] at h
    subst h
    simp only [All] at hc
    simpa using hc.1
  | .node l v r, a, b, n + 1, x, hc, h => by
    simp only [All] at hc
    simp only [get] at h
    split at h
    · rename_i hp
      have hp := Nat.eq_of_beq_eq_true hp
      have := all_get p l (2 * a) (a + b) (n / 2) x hc.2.1 h
      have e : 2 * a * (n / 2) + (a + b) = a * (n + 1) + b := by
        have : n = 2 * (n / 2) := by omega
        generalize n / 2 = m at this
        subst this
        rw [Nat.mul_add, Nat.mul_comm 2 a, Nat.mul_assoc]
        omega
      rw [e] at this
      exact this
    · rename_i hp
      have hp := Nat.ne_of_beq_eq_false hp
      have := all_get p r (2 * a) (2 * a + b) (n / 2) x hc.2.2 h
      have e : 2 * a * (n / 2) + (2 * a + b) = a * (n + 1) + b := by
        have : n = 2 * (n / 2) + 1 := by omega
        generalize n / 2 = m at this
        subst this
        rw [Nat.mul_add, Nat.mul_add, Nat.mul_comm 2 a, Nat.mul_assoc]
        omega
      rw [e] at this
      exact this
end Tr

/-! ### Types -/
def fieldsCk (P : Program) : List Field → List (Nat × Nat × TypeId) → Bool
  | [], [] => true
  | f :: fs, (o, s, t) :: l => (Nat.beq o f.offset && (Nat.beq s (P.cellsOf f.type) && (Nat.beq t f.type && (P.info? f.type).isSome))) && fieldsCk P fs l
  | _, _ => false
def tkCk (P : Program) : TypeDesc → TK → Bool
  | .bool, .bool => true
  | .string, .str => true
  | .int k, .int k' => decide (k' = k)
  | .struct fs, .struct l => fieldsCk P fs.toList l
  | .array n e, .array n' e' sz => Nat.beq n' n && (Nat.beq e' e && (Nat.beq sz (P.cellsOf e) && (P.info? e).isSome))
  | .slice e, .slice e' sz => Nat.beq e' e && (Nat.beq sz (P.cellsOf e) && (P.info? e).isSome)
  | .pointer e, .ptr e' => Nat.beq e' e && (P.info? e).isSome
  | .map k v, .map k' v' => Nat.beq k' k && Nat.beq v' v
  | .interface _, .iface => true
  | .unsafePointer, .uptr => true
  | .func _ _ _, .func => true
  | .interface _, .none => false
  | .int _, .none => false
  | _, .none => true
  | _, _ => false
theorem fieldsCk_ok {P : Program} : ∀ {fs : List Field} {l : List (Nat × Nat × TypeId)}, fieldsCk P fs l = true → l = fs.map (fun f => (f.offset, P.cellsOf f.type, f.type)) ∧ ∀ f ∈ fs, (P.info? f.type).isSome = true
  | [], [], _ => ⟨rfl, nofun⟩
  | f :: fs, (o, s, t) :: l, h => by
    simp only [fieldsCk, Bool.and_eq_true] at h
    obtain ⟨⟨h1, h2, h3, h4⟩, h5⟩ := h
    obtain ⟨k1, k2⟩ := fieldsCk_ok h5
    rw [Nat.eq_of_beq_eq_true h1, Nat.eq_of_beq_eq_true h2, Nat.eq_of_beq_eq_true h3, k1]
    refine ⟨rfl, fun g hg => ?_⟩
    rcases List.mem_cons.1 hg with rfl | hg
    · exact h4
    · exact k2 g hg
  | [], _ :: _, h => by simp [fieldsCk] at h
  | _ :: _, [], h => by simp [fieldsCk] at h
theorem tkCk_ok {P : Program} {d : TypeDesc} {k : TK} (h : tkCk P d k = true) : TkOk P d k := by
  cases d <;> cases k <;> simp only [tkCk] at h <;> first | (cases h; done) | exact trivial | skip
  case int.int =>
    simp only [TkOk]
    exact of_decide_eq_true h
  case struct.struct => exact fieldsCk_ok h
  case array.array =>
    simp only [Bool.and_eq_true] at h
    exact ⟨Nat.eq_of_beq_eq_true h.1, Nat.eq_of_beq_eq_true h.2.1, Nat.eq_of_beq_eq_true h.2.2.1, h.2.2.2⟩
  case slice.slice =>
    simp only [Bool.and_eq_true] at h
    exact ⟨Nat.eq_of_beq_eq_true h.1, Nat.eq_of_beq_eq_true h.2.1, h.2.2⟩
  case pointer.ptr =>
    simp only [Bool.and_eq_true] at h
    exact ⟨Nat.eq_of_beq_eq_true h.1, h.2⟩
  case map.map =>
    simp only [Bool.and_eq_true] at h
    exact ⟨Nat.eq_of_beq_eq_true h.1, Nat.eq_of_beq_eq_true h.2⟩
def zeroCk (z : Value) (ti : TI) : Bool := (match toVs z.cells.toList with
  | some l => vbeqs l ti.zero
  | none => false) && (match toV z with
  | some v => vbeq v ti.zeroV
  | none => false)
/-- A type's entry, but for its ==. -/
def tyCk (P : Program) (t : TypeId) (ti : TI) : Bool := (match P.info? t with
  | some i => (Nat.beq i.size ti.size && Nat.beq i.bytes ti.bytes) && (match i.zero with
    | some z => zeroCk z ti
    | none => false)
  | none => false) && (match P.underlying t with
  | some d => tkCk P d ti.k && (aggD d == ti.agg)
  | none => false)
theorem tyCk_ok {P : Program} {t : TypeId} {ti : TI} (h : tyCk P t ti = true) (he : ti.eqf = true → EqOk P t ti.zero) : TyOk P t ti := by
  simp only [tyCk, Bool.and_eq_true] at h
  obtain ⟨h1, h2⟩ := h
  split at h1
  · rename_i i hi
    simp only [Bool.and_eq_true] at h1
    obtain ⟨⟨q1, q2⟩, q3⟩ := h1
    split at q3
    · rename_i z hz
      split at h2
      · rename_i d hd
        simp only [Bool.and_eq_true, beq_iff_eq] at h2
        simp only [zeroCk, Bool.and_eq_true] at q3
        obtain ⟨r1, r2⟩ := q3
        refine ⟨⟨i, hi, Nat.eq_of_beq_eq_true q1, Nat.eq_of_beq_eq_true q2, z, hz, fun c => ?_, fun c => ?_⟩, ⟨d, hd, tkCk_ok h2.1, h2.2⟩, he⟩
        · split at r1
          · rename_i l hl
            rw [← vbeqs_eq r1]
            exact toVs_ok hl
          · cases r1
        · split at r2
          · rename_i v hv
            rw [← vbeq_eq r2]
            exact toV_ok hv
          · cases r2
      · cases h2
    · cases q3
  · cases h1

/-! ### Functions -/
/-- The tables, with other calls known. -/
theorem GOk.withM {P : Program} {T : Tr TI} {F : Tr AFn} {M M' : Tr (Tr (List (List V × V)))} {l : List (TypeId × Nat × TypeId)} {n : Nat} {H0 : AH} (h : GOk P ⟨T, F, M, l, n⟩ (okG ⟨T, F, M, l, n⟩) H0)
    (hk : ∀ f t, M'.get f = some t → ∀ q e, t.get q = some e → ∀ x ∈ e, Pure P (okG ⟨T, F, M, l, n⟩) n H0 f x.1 x.2) : GOk P ⟨T, F, M', l, n⟩ (okG ⟨T, F, M', l, n⟩) H0 :=
  ⟨⟨h.tab.ty, h.tab.lies⟩, fun f af ha => ⟨(h.fn f af ha).get, (h.fn f af ha).enter, (h.fn f af ha).body, (h.fn f af ha).ext⟩, fun f t q e _ks _r h1 h2 h3 => hk f t h1 q e h2 _ h3, h.mixed⟩
end Go.Proofs.YtbkipanlicgooaaGreatDoor
namespace Go.Proofs.YtbkipanlicgooaaGreatDoor
/-- A function whose code's plans have been checked. -/
def fnCk (_f : FuncId) (af : AFn) : Bool := match af.fn.body with
  | some b => okC planOk af.plans b
  | none => true
section
variable {P : Program} {ok : FuncId → Code → Prop} {ng : Nat} {H0 : AH}
/-- The entry is a pure call. -/
def PuOf (P : Program) (ok : FuncId → Code → Prop) (ng : Nat) (H0 : AH) (f : FuncId) (x : List V × V) : Prop := Pure P ok ng H0 f x.1 x.2
end
end Go.Proofs.YtbkipanlicgooaaGreatDoor
namespace Go.Proofs.YtbkipanlicgooaaGreatDoor

/-! ### The check -/
def eqFs (P : Program) (ck : TypeId → List V → Bool) : List Field → Nat → List V → Bool
  | [], _, zs => zs.isEmpty
  | f :: fs, off, zs => (f.name != "_" && Nat.beq f.offset off) && (ck f.type (zs.take (P.cellsOf f.type)) && eqFs P ck fs (off + P.cellsOf f.type) (zs.drop (P.cellsOf f.type)))
def eqAs (ck : List V → Bool) (n : Nat) : Nat → List V → Bool
  | 0, zs => zs.isEmpty
  | m + 1, zs => ck (zs.take n) && eqAs ck n m (zs.drop n)
def eqCk (P : Program) : Nat → TypeId → List V → Bool
  | 0, _, _ => false
  | d + 1, t, zs => (Nat.beq (P.cellsOf t) zs.length && (P.info? t).isSome) && (match P.underlying t with
    | some .bool => (match zs with
      | [.b _] => true
      | _ => false)
    | some .string => (match zs with
      | [.s _] => true
      | _ => false)
    | some (.int _) => (match zs with
      | [.i _ _] => true
      | _ => false)
    | some (.struct fs) => !P.stoodInHeld t && eqFs P (eqCk P d) fs.toList 0 zs
    | some (.array n e) => ((P.info? e).isSome && (P.underlying e).isSome) && eqAs (eqCk P d e) (P.cellsOf e) n zs
    | _ => false)

/-! ### Parts of lists -/
theorem Reps.takes {c : Ctx} : ∀ {l : List V} {x : List Value} (n : Nat), Reps c l x → Reps c (l.take n) (x.take n)
  | [], x, n, h => by
    rw [Reps.nil] at h
    subst h
    simp [Reps.nil]
  | v :: l, x, 0, h => by simp [Reps.nil]
  | v :: l, x, n + 1, h => by
    obtain ⟨y, x, rfl, h1, h2⟩ := Reps.cons.1 h
    simp only [List.take_succ_cons]
    exact Reps.cons'.2 ⟨h1, Reps.takes n h2⟩
theorem Reps.drops {c : Ctx} : ∀ {l : List V} {x : List Value} (n : Nat), Reps c l x → Reps c (l.drop n) (x.drop n)
  | [], x, n, h => by
    rw [Reps.nil] at h
    subst h
    simp [Reps.nil]
  | v :: l, x, 0, h => by simpa using h
  | v :: l, x, n + 1, h => by
    obtain ⟨y, x, rfl, h1, h2⟩ := Reps.cons.1 h
    simp only [List.drop_succ_cons]
    exact Reps.drops n h2
theorem kindL_take : ∀ {zs xs : List V} (n : Nat), kindL zs xs = true → kindL (zs.take n) (xs.take n) = true
  | [], [], n, h => by simp [kindL]
  | [], _ :: _, n, h => by simp [kindL] at h
  | _ :: _, [], n, h => by simp [kindL] at h
  | z :: zs, x :: xs, 0, h => by simp [kindL]
  | z :: zs, x :: xs, n + 1, h => by
    cases z <;> cases x <;> simp only [kindL] at h <;> first | (cases h; done) | (simp only [List.take_succ_cons, kindL]; exact kindL_take n h)
theorem kindL_drop : ∀ {zs xs : List V} (n : Nat), kindL zs xs = true → kindL (zs.drop n) (xs.drop n) = true
  | [], [], n, h => by simp [kindL]
  | [], _ :: _, n, h => by simp [kindL] at h
  | _ :: _, [], n, h => by simp [kindL] at h
  | z :: zs, x :: xs, 0, h => by simpa using h
  | z :: zs, x :: xs, n + 1, h => by
    cases z <;> cases x <;> simp only [kindL] at h <;> first | (cases h; done) | (simp only [List.drop_succ_cons]; exact kindL_drop n h)
theorem kindL_len : ∀ {zs xs : List V}, kindL zs xs = true → xs.length = zs.length
  | [], [], h => rfl
  | [], _ :: _, h => by simp [kindL] at h
  | _ :: _, [], h => by simp [kindL] at h
  | z :: zs, x :: xs, h => by
    cases z <;> cases x <;> simp only [kindL] at h <;> first | (cases h; done) | (simp only [List.length_cons, kindL_len h])
theorem sameCells_cut : ∀ {xs ys : List V} {r : Bool} (n : Nat), sameCells xs ys = some r → ∃ a b, sameCells (xs.take n) (ys.take n) = some a ∧ sameCells (xs.drop n) (ys.drop n) = some b ∧ r = (a && b)
  | [], [], r, n, h => by
    simp only [sameCells, Option.some.injEq] at h
    subst h
    exact ⟨true, true, by simp [sameCells], by simp [sameCells], rfl⟩
  | [], _ :: _, r, n, h => by simp [sameCells] at h
  | _ :: _, [], r, n, h => by simp [sameCells] at h
  | x :: xs, y :: ys, r, 0, h => ⟨true, r, by simp [sameCells], by simpa using h, by simp⟩
  | x :: xs, y :: ys, r, n + 1, h => by
    simp only [sameCells] at h
    split at h
    · rename_i p q hp hq
      simp only [Option.some.injEq] at h
      subst h
      obtain ⟨a, b, h1, h2, rfl⟩ := sameCells_cut n hq
      refine ⟨p && a, b, ?_, ?_, ?_⟩
      · simp only [List.take_succ_cons, sameCells, hp, h1]
      · simpa only [List.drop_succ_cons] using h2
      · rw [Bool.and_assoc]
    · cases h

theorem sameCells_len : ∀ {xs ys : List V} {r : Bool}, sameCells xs ys = some r → xs.length = ys.length
  | [], [], _, _ => rfl
  | [], _ :: _, _, h => by simp [sameCells] at h
  | _ :: _, [], _, h => by simp [sameCells] at h
  | x :: xs, y :: ys, _, h => by
    simp only [sameCells] at h
    split at h
    · rename_i hq
      simp [sameCells_len hq]
    · cases h

/-! ### What holds of a type -/
section
variable {P : Program}
/-- The value whose cells these are. -/
def asV (a : Bool) (l : List Value) (v : Value) : Prop := (a = true → v = .agg l.toArray) ∧ (a = false → l = [v])
theorem asV_ex {a : Bool} {l : List Value} (h : a = false → l.length = 1) : ∃ v, asV a l v := by
  cases a with
  | true => exact ⟨_, fun _ => rfl, nofun⟩
  | false =>
    obtain ⟨v, hv⟩ := List.length_eq_one_iff.1 (h rfl)
    exact ⟨v, nofun, fun _ => hv⟩
structure EqR (P : Program) (D : Nat) (t : TypeId) (zs : List V) (u : TypeDesc) : Prop where
  und : P.underlying t = some u
  info : (P.info? t).isSome = true
  len : P.cellsOf t = zs.length
  one : aggD u = false → zs.length = 1
  key : ∀ c xs lx v, kindL zs xs = true → Reps c xs lx → asV (aggD u) lx v → ∀ e w, (Instr.checkKey e D t v).run P w = .ok () w
  eq : ∀ c xs lx v, kindL zs xs = true → Reps c xs lx → asV (aggD u) lx v → ∀ ys ly v' r w, sameCells xs ys = some r → Reps c ys ly → asV (aggD u) ly v' → (Op.equalIn D t v v').run P w = .ok r w
theorem run_isAgg {t : TypeId} {u : TypeDesc} (h : P.underlying t = some u) (w : World) : (isAgg t).run P w = .ok (aggD u) w := by
  unfold isAgg
  simp only [Sem.run_bind, run_underlying h, Result.andThen_ok]
  cases u <;> rfl
theorem part_run {t : TypeId} {u : TypeDesc} (hu : P.underlying t = some u) (hi : (P.info? t).isSome = true) {l : List Value} {off n : Nat} (hn : P.cellsOf t = n) {v : Value} (hv : asV (aggD u) ((l.drop off).take n) v) (w : World) :
    (part t l.toArray off).run P w = .ok v w := by
  unfold part
  simp only [Sem.run_bind, run_isAgg hu, Result.andThen_ok]
  cases ha : aggD u with
  | true =>
    rw [ha] at hv
    simp only [if_true, Sem.run_bind, cellsOf_run hi, Result.andThen_ok, Sem.run_pure, hn]
    rw [hv.1 rfl]
    congr 2
    simp [List.extract_eq_take_drop]
  | false =>
    rw [ha] at hv
    have h := hv.2 rfl
    have h0 : l[off]? = some v := by
      have : ((l.drop off).take n)[0]? = some v := by rw [h]; rfl
      rw [List.getElem?_take] at this
      split at this
      · simpa using this
      · cases this
    simp [h0]

theorem eqFs_ok {D : Nat} {ck : TypeId → List V → Bool} (hck : ∀ t zs, ck t zs = true → ∃ u, EqR P D t zs u) : ∀ (fs : List Field) (off : Nat) (zs : List V), eqFs P ck fs off zs = true →
    ∀ (c : Ctx) (xs : List V) (lx : List Value), kindL zs xs = true → Reps c xs (lx.drop off) →
      (∀ e w, (forIn fs PUnit.unit (fun f (_ : PUnit) => do
        if f.name ≠ "_" then do
          Instr.checkKey e D f.type (← part f.type lx.toArray f.offset)
          pure (ForInStep.yield PUnit.unit)
        else pure (ForInStep.yield PUnit.unit)) : Sem PUnit).run P w = .ok PUnit.unit w) ∧
      ∀ (ys : List V) (ly : List Value) (r : Bool) (w : World), sameCells xs ys = some r → Reps c ys (ly.drop off) → (Op.eqFields D lx.toArray ly.toArray fs).run P w = .ok r w
  | [], off, zs, h, c, xs, lx, hk, hx => by
    simp only [eqFs, List.isEmpty_iff] at h
    subst h
    have : xs = [] := List.eq_nil_of_length_eq_zero (kindL_len hk)
    subst this
    refine ⟨fun e w => by simp, fun ys ly r w hs hy => ?_⟩
    cases ys with
    | nil =>
      simp only [sameCells, Option.some.injEq] at hs
      subst hs
      simp [Op.eqFields]
    | cons y ys => simp [sameCells] at hs
  | f :: fs, off, zs, h, c, xs, lx, hk, hx => by
    simp only [eqFs, Bool.and_eq_true] at h
    obtain ⟨⟨hn, ho⟩, hc, hr⟩ := h
    have ho := Nat.eq_of_beq_eq_true ho
    have hn : f.name ≠ "_" := by simpa using hn
    generalize hsz : P.cellsOf f.type = n at hc hr
    obtain ⟨u, E⟩ := hck _ _ hc
    have hk1 := kindL_take n hk
    have hx1 := hx.takes n
    have hlen : ∀ (xs : List V) (l : List Value), xs.length = zs.length → Reps c xs (l.drop off) → aggD u = false → ((l.drop off).take n).length = 1 := fun xs l hl hx ha => by
      rw [(hx.takes n).length, List.length_take, hl, ← List.length_take]
      exact E.one ha
    obtain ⟨v, hv⟩ := asV_ex (hlen xs lx (kindL_len hk) hx)
    have hp := part_run E.und E.info hsz hv
    obtain ⟨i1, i2⟩ := eqFs_ok hck fs (off + n) (zs.drop n) hr c (xs.drop n) lx (kindL_drop n hk) (by rw [← List.drop_drop]; exact hx.drops n)
    refine ⟨fun e w => ?_, fun ys ly r w hs hy => ?_⟩
    · have k1 := E.key c _ _ v hk1 hx1 hv e w
      rw [List.forIn_cons]
      simp only [ne_eq, hn, not_false_eq_true, if_true, Sem.run_bind, ho, hp w, Result.andThen_ok, k1, Sem.run_pure]
      exact i1 e w
    · obtain ⟨a, b, s1, s2, rfl⟩ := sameCells_cut n hs
      have hl : ys.length = zs.length := by rw [← kindL_len hk, sameCells_len hs]
      obtain ⟨v', hv'⟩ := asV_ex (hlen ys ly hl hy)
      have hp' := part_run E.und E.info hsz hv'
      have k1 := E.eq c _ _ v hk1 hx1 hv _ _ v' a w s1 (hy.takes n) hv'
      simp only [Op.eqFields, ne_eq, hn, not_false_eq_true, if_true, Sem.run_bind, ho, hp w, hp' w, Result.andThen_ok, k1, Sem.run_ite]
      cases a with
      | false => simp
      | true =>
        simp only [Bool.not_true, Bool.false_eq_true, if_false, Bool.true_and]
        exact i2 _ ly b w s2 (by rw [← List.drop_drop]; exact hy.drops n)

theorem sameCells_one {x y : V} {r : Bool} (h : sameCells [x] [y] = some r) : sameCell x y = some r := by
  simp only [sameCells] at h
  split at h
  · rename_i p q hp hq
    simp only [Option.some.injEq] at hq h
    subst hq
    simp only [Bool.and_true] at h
    rw [hp, h]
  · cases h
theorem eq1_bool {D : Nat} {t : TypeId} {c : Ctx} {x y : V} {v v' : Value} {r b : Bool} {w : World} (hu : P.underlying t = some .bool) (hk : kindL [.b b] [x] = true) (hx : Rep c x v) (hy : Rep c y v') (hs : sameCells [x] [y] = some r) :
    (Op.equalIn (D + 1) t v v').run P w = .ok r w := by
  replace hs := sameCells_one hs
  cases x <;> simp only [kindL] at hk <;> try (cases hk; done)
  cases y <;> simp only [sameCell] at hs <;> try (cases hs; done)
  simp only [Rep] at hx hy
  subst hx hy
  rw [run_equalIn_bool' w D t _ _ hu]
  simp only [Option.some.injEq] at hs
  rw [hs]
theorem eq1_string {D : Nat} {t : TypeId} {c : Ctx} {x y : V} {v v' : Value} {r : Bool} {b : List Nat} {w : World} (hu : P.underlying t = some .string) (hk : kindL [.s b] [x] = true) (hx : Rep c x v) (hy : Rep c y v') (hs : sameCells [x] [y] = some r) :
    (Op.equalIn (D + 1) t v v').run P w = .ok r w := by
  replace hs := sameCells_one hs
  cases x <;> simp only [kindL] at hk <;> try (cases hk; done)
  cases y <;> simp only [sameCell] at hs <;> try (cases hs; done)
  simp only [Rep] at hx hy
  obtain ⟨h1, rfl⟩ := hx
  obtain ⟨h2, rfl⟩ := hy
  rw [run_equalIn_string w D t _ _ hu, ← beq_toListBytes, strBEq h1 h2]
  simp only [Option.some.injEq] at hs
  rw [hs]
theorem eq1_int {D : Nat} {t : TypeId} {c : Ctx} {x y : V} {v v' : Value} {r : Bool} {k k' : IntKind} {n : Int} {w : World} (hu : P.underlying t = some (.int k)) (hk : kindL [.i k' n] [x] = true) (hx : Rep c x v) (hy : Rep c y v') (hs : sameCells [x] [y] = some r) :
    (Op.equalIn (D + 1) t v v').run P w = .ok r w := by
  replace hs := sameCells_one hs
  cases x <;> simp only [kindL] at hk <;> try (cases hk; done)
  cases y <;> simp only [sameCell] at hs <;> try (cases hs; done)
  simp only [Rep] at hx hy
  subst hx hy
  split at hs
  · rename_i he
    have he := of_decide_eq_true he
    subst he
    have hs := Option.some.inj hs
    rw [run_equalIn_int w D t _ _ _ _ hu, ← hs]
    rfl
  · cases hs
theorem eqAs_ok {D : Nat} {e : TypeId} {u : TypeDesc} {n : Nat} {ck : List V → Bool} (hi : (P.info? e).isSome = true) (hn : P.cellsOf e = n) (hu : P.underlying e = some u) (hck : ∀ zs, ck zs = true → EqR P D e zs u) : ∀ (m i : Nat) (zs : List V), eqAs ck n m zs = true →
    ∀ (c : Ctx) (xs : List V) (lx : List Value), kindL zs xs = true → Reps c xs (lx.drop (i * n)) →
      (∀ b w, (forIn (List.range' i m) PUnit.unit (fun i (_ : PUnit) => do
        let s ← sizeOf e
        let v ← part e lx.toArray (i * s)
        Instr.checkKey b D e v
        pure (ForInStep.yield PUnit.unit)) : Sem PUnit).run P w = .ok PUnit.unit w) ∧
      ∀ (ys : List V) (ly : List Value) (r : Bool) (w : World), sameCells xs ys = some r → Reps c ys (ly.drop (i * n)) →
        (forIn (List.range' i m) ((none, ()) : Option Bool × PUnit) (fun i _ => do
            let x ← part e lx.toArray (i * n)
            let y ← part e ly.toArray (i * n)
            let b ← Op.equalIn D e x y
            if (!b) = true then pure (ForInStep.done (some false, ())) else pure (ForInStep.yield (none, ()))) : Sem (Option Bool × PUnit)).run P w = .ok (if r then none else some false, ()) w
  | 0, i, zs, h, c, xs, lx, hk, hx => by
    simp only [eqAs, List.isEmpty_iff] at h
    subst h
    have : xs = [] := List.eq_nil_of_length_eq_zero (kindL_len hk)
    subst this
    refine ⟨fun e w => by simp, fun ys ly r w hs hy => ?_⟩
    cases ys with
    | nil =>
      simp only [sameCells, Option.some.injEq] at hs
      subst hs
      simp
    | cons y ys => simp [sameCells] at hs
  | m + 1, i, zs, h, c, xs, lx, hk, hx => by
    simp only [eqAs, Bool.and_eq_true] at h
    obtain ⟨hc, hr⟩ := h
    have E := hck _ hc
    have hk1 := kindL_take n hk
    have hx1 := hx.takes n
    have hlen : ∀ (xs : List V) (l : List Value), xs.length = zs.length → Reps c xs (l.drop (i * n)) → aggD u = false → ((l.drop (i * n)).take n).length = 1 := fun xs l hl hx ha => by
      rw [(hx.takes n).length, List.length_take, hl, ← List.length_take]
      exact E.one ha
    obtain ⟨v, hv⟩ := asV_ex (hlen xs lx (kindL_len hk) hx)
    have hp := part_run E.und E.info hn hv
    have hd : ∀ l : List Value, l.drop ((i + 1) * n) = (l.drop (i * n)).drop n := fun l => by rw [List.drop_drop, Nat.succ_mul]
    obtain ⟨i1, i2⟩ := eqAs_ok hi hn hu hck m (i + 1) (zs.drop n) hr c (xs.drop n) lx (kindL_drop n hk) (by rw [hd]; exact hx.drops n)
    refine ⟨fun e w => ?_, fun ys ly r w hs hy => ?_⟩
    · have k1 := E.key c _ _ v hk1 hx1 hv e w
      rw [List.range'_succ, List.forIn_cons]
      simp only [Sem.run_bind, cellsOf_run hi, hn, hp w, Result.andThen_ok, k1, Sem.run_pure]
      exact i1 e w
    · obtain ⟨a, b, s1, s2, rfl⟩ := sameCells_cut n hs
      have hl : ys.length = zs.length := by rw [← kindL_len hk, sameCells_len hs]
      obtain ⟨v', hv'⟩ := asV_ex (hlen ys ly hl hy)
      have hp' := part_run E.und E.info hn hv'
      have k1 := E.eq c _ _ v hk1 hx1 hv _ _ v' a w s1 (hy.takes n) hv'
      rw [List.range'_succ, List.forIn_cons]
      simp only [Sem.run_bind, hp w, hp' w, Result.andThen_ok, k1, Sem.run_ite]
      cases a with
      | false => simp
      | true =>
        simp only [Bool.not_true, Bool.false_eq_true, if_false, Bool.true_and, Sem.run_pure, Result.andThen_ok]
        exact i2 _ ly b w s2 (by rw [hd]; exact hy.drops n)
theorem eqCk_ok : ∀ (d : Nat) (t : TypeId) (zs : List V), eqCk P d t zs = true → ∀ D, d ≤ D → ∃ u, EqR P D t zs u
  | 0, t, zs, h, D, hD => by simp [eqCk] at h
  | d + 1, t, zs, h, D, hD => by
    obtain ⟨D, rfl⟩ : ∃ k, D = k + 1 := ⟨D - 1, by omega⟩
    simp only [eqCk, Bool.and_eq_true] at h
    obtain ⟨⟨h1, h2⟩, h3⟩ := h
    have h1 := Nat.eq_of_beq_eq_true h1
    split at h3
    · rename_i hu
      split at h3
      · rename_i z
        refine ⟨.bool, hu, h2, h1, fun _ => rfl, ?_, ?_⟩
        · intro c xs lx v hk hx hv e w
          simp [Instr.checkKey, run_underlying hu]
        · intro c xs lx v hk hx hv ys ly v' r w hs hy hv'
          have e1 := hv.2 rfl
          have e2 := hv'.2 rfl
          subst e1 e2
          have n1 := hx.length
          have n2 := hy.length
          obtain ⟨x, rfl⟩ := List.length_eq_one_iff.1 n1.symm
          obtain ⟨y, rfl⟩ := List.length_eq_one_iff.1 n2.symm
          have hx := (Reps.cons'.1 hx).1
          have hy := (Reps.cons'.1 hy).1
          exact eq1_bool hu hk hx hy hs
      · cases h3
    · rename_i hu
      split at h3
      · rename_i z
        refine ⟨.string, hu, h2, h1, fun _ => rfl, ?_, ?_⟩
        · intro c xs lx v hk hx hv e w
          simp [Instr.checkKey, run_underlying hu]
        · intro c xs lx v hk hx hv ys ly v' r w hs hy hv'
          have e1 := hv.2 rfl
          have e2 := hv'.2 rfl
          subst e1 e2
          have n1 := hx.length
          have n2 := hy.length
          obtain ⟨x, rfl⟩ := List.length_eq_one_iff.1 n1.symm
          obtain ⟨y, rfl⟩ := List.length_eq_one_iff.1 n2.symm
          have hx := (Reps.cons'.1 hx).1
          have hy := (Reps.cons'.1 hy).1
          exact eq1_string hu hk hx hy hs
      · cases h3
    · rename_i k hu
      split at h3
      · rename_i z
        refine ⟨.int k, hu, h2, h1, fun _ => rfl, ?_, ?_⟩
        · intro c xs lx v hk hx hv e w
          simp [Instr.checkKey, run_underlying hu]
        · intro c xs lx v hk hx hv ys ly v' r w hs hy hv'
          have e1 := hv.2 rfl
          have e2 := hv'.2 rfl
          subst e1 e2
          have n1 := hx.length
          have n2 := hy.length
          obtain ⟨x, rfl⟩ := List.length_eq_one_iff.1 n1.symm
          obtain ⟨y, rfl⟩ := List.length_eq_one_iff.1 n2.symm
          have hx := (Reps.cons'.1 hx).1
          have hy := (Reps.cons'.1 hy).1
          exact eq1_int hu hk hx hy hs
      · cases h3
    · rename_i fs hu
      simp only [Bool.and_eq_true, Bool.not_eq_true'] at h3
      have ih := fun t zs h => eqCk_ok d t zs h D (by omega)
      have hf : fs = P.fieldsOf t := by simp [Program.fieldsOf, hu]
      refine ⟨.struct fs, hu, h2, h1, nofun, ?_, ?_⟩
      · intro c xs lx v hk hx hv e w
        obtain ⟨k1, k2⟩ := eqFs_ok ih fs.toList 0 zs h3.2 c xs lx hk (by simpa using hx)
        rw [hv.1 rfl]
        have := k1 e w
        simp only [Instr.checkKey, Sem.run_bind, run_underlying hu, Result.andThen_ok]
        rw [← Array.forIn_toList, this]
        rfl
      · intro c xs lx v hk hx hv ys ly v' r w hs hy hv'
        obtain ⟨k1, k2⟩ := eqFs_ok ih fs.toList 0 zs h3.2 c xs lx hk (by simpa using hx)
        rw [hv.1 rfl, hv'.1 rfl, run_equalIn_struct w D t _ _ (by rw [← hf]; exact hu) h3.1, ← hf]
        exact k2 ys ly r w hs (by simpa using hy)
    · rename_i n e hu
      simp only [Bool.and_eq_true] at h3
      have ih := fun t zs h => eqCk_ok d t zs h D (by omega)
      obtain ⟨⟨h31, h3u⟩, h3⟩ := h3
      obtain ⟨ue, hue⟩ := Option.isSome_iff_exists.1 h3u
      have ih' : ∀ zs, eqCk P d e zs = true → EqR P D e zs ue := fun zs h => by
        obtain ⟨u, E⟩ := ih e zs h
        have := E.und
        rw [hue] at this
        cases this
        exact E
      refine ⟨.array n e, hu, h2, h1, nofun, ?_, ?_⟩
      · intro c xs lx v hk hx hv b w
        obtain ⟨k1, k2⟩ := eqAs_ok h31 rfl hue ih' n 0 zs h3 c xs lx hk (by simpa using hx)
        rw [hv.1 rfl]
        simp only [Instr.checkKey, Sem.run_bind, run_underlying hu, Result.andThen_ok, Std.Legacy.Range.forIn_eq_forIn_range']
        have := k1 b w
        simp only [Std.Legacy.Range.size] 
        simp only [Nat.sub_zero, Nat.add_sub_cancel, Nat.div_one]
        rw [this]
        rfl
      · intro c xs lx v hk hx hv ys ly v' r w hs hy hv'
        obtain ⟨k1, k2⟩ := eqAs_ok h31 rfl hue ih' n 0 zs h3 c xs lx hk (by simpa using hx)
        rw [hv.1 rfl, hv'.1 rfl]
        have := k2 ys ly r w hs (by simpa using hy)
        simp only [Op.equalIn, Sem.run_bind, run_underlying hu, Result.andThen_ok, Std.Legacy.Range.forIn_eq_forIn_range', cellsOf_run h31]
        simp only [Std.Legacy.Range.size] 
        simp only [Nat.sub_zero, Nat.add_sub_cancel, Nat.div_one]
        rw [this]
        cases r <;> simp
    · cases h3
/-- == upon a type, its cells' kinds those of its zero value. -/
def eqAll (P : Program) (t : TypeId) (zs : List V) : Bool := eqCk P 20 t zs && ((match P.underlying t with
  | some u => aggD u
  | none => false) && !P.eqGuardType P.depth t)
theorem eqAll_ok {t : TypeId} {zs : List V} (h : eqAll P t zs = true) : EqOk P t zs := by
  simp only [eqAll, Bool.and_eq_true, Bool.not_eq_true'] at h
  obtain ⟨h1, h2, h3⟩ := h
  obtain ⟨u, E⟩ := eqCk_ok 20 t zs h1 10000 (by omega)
  rw [E.und] at h2
  have h2 : aggD u = true := h2
  have ag : ∀ A : Array Value, asV (aggD u) A.toList (.agg A) := fun A => ⟨fun _ => by simp, fun h => by rw [h2] at h; cases h⟩
  exact ⟨fun c xs ys A B r w hs hk hx hy => E.eq c xs A.toList _ hk hx (ag A) ys B.toList _ r w hs hy (ag B), h3, fun c xs A e w hk hx => E.key c xs A.toList _ hk hx (ag A) e w⟩
end
end Go.Proofs.YtbkipanlicgooaaGreatDoor
namespace Go.Proofs.YtbkipanlicgooaaGreatDoor

/-- An entry of the table: the part in which it is shown, its steps, arguments, result. -/
abbrev KE := Nat × Nat × List V × V
namespace Tr
variable {α β : Type}
def map (g : α → β) : Tr α → Tr β
  | .nil => .nil
  | .node l v r => .node (l.map g) (match v with
    | none => none
    | some x => some (g x)) (r.map g)
/-- One entry. -/
def sing : Nat → Nat → α → Tr α
  | 0, _, _ => .nil
  | d + 1, n, x => match n with
    | 0 => .node .nil (some x) .nil
    | m + 1 => match Nat.beq (m % 2) 0 with
      | true => .node (sing d (m / 2) x) none .nil
      | false => .node .nil none (sing d (m / 2) x)
theorem map_get (g : α → β) : ∀ (t : Tr α) (n : Nat), (t.map g).get n = (t.get n).map g
  | .nil, n => by simp [map, get]
  | .node l v r, 0 => by cases v <;> simp [map, get]
  | .node l v r, n + 1 => by
    simp only [map, get]
    split
    · exact map_get g l _
    · exact map_get g r _
def fold (g : Nat → α → β → β) : Tr α → Nat → Nat → β → β
  | .nil, _, _, z => z
  | .node l v r, a, b, z => l.fold g (2 * a) (a + b) (match v with
    | none => r.fold g (2 * a) (2 * a + b) z
    | some x => g b x (r.fold g (2 * a) (2 * a + b) z))
/-- What holds after an entry stays. -/
theorem fold_mem {g : Nat → α → List β → List β} (hg : ∀ n x l y, y ∈ l → y ∈ g n x l) : ∀ (t : Tr α) (a b : Nat) (z : List β) (y : β), y ∈ z → y ∈ t.fold g a b z
  | .nil, _, _, z, y, h => h
  | .node l v r, a, b, z, y, h => by
    simp only [fold]
    refine fold_mem hg l _ _ _ y ?_
    have := fold_mem hg r (2 * a) (2 * a + b) z y h
    cases v with
    | none => exact this
    | some x => exact hg _ _ _ _ this
theorem fold_get {g : Nat → α → List β → List β} (hg : ∀ n x l y, y ∈ l → y ∈ g n x l) : ∀ (t : Tr α) (a b n : Nat) (x : α) (z : List β) (y : β), t.get n = some x → (∀ l, y ∈ g (a * n + b) x l) → y ∈ t.fold g a b z
  | .nil, a, b, n, x, z, y, h, _ => by simp [get] at h
  | .node l v r, a, b, 0, x, z, y, h, hy => by
    simp only [get] at h
    subst h
    simp only [fold]
    refine fold_mem hg l _ _ _ y ?_
    have := hy (r.fold g (2 * a) (2 * a + b) z)
    simpa using this
  | .node l v r, a, b, n + 1, x, z, y, h, hy => by
    simp only [fold]
    simp only [get] at h
    split at h
    · rename_i hp
      have hp := Nat.eq_of_beq_eq_true hp
      have e : 2 * a * (n / 2) + (a + b) = a * (n + 1) + b := by
        have : n = 2 * (n / 2) := by omega
        generalize n / 2 = m at this
        subst this
        rw [Nat.mul_add, Nat.mul_comm 2 a, Nat.mul_assoc]
        omega
      refine fold_get hg l _ _ (n / 2) x _ y h ?_
      rw [e]
      exact hy
    · rename_i hp
      have hp := Nat.ne_of_beq_eq_false hp
      have e : 2 * a * (n / 2) + (2 * a + b) = a * (n + 1) + b := by
        have : n = 2 * (n / 2) + 1 := by omega
        generalize n / 2 = m at this
        subst this
        rw [Nat.mul_add, Nat.mul_add, Nat.mul_comm 2 a, Nat.mul_assoc]
        omega
      refine fold_mem hg l _ _ _ y ?_
      have := fold_get hg r (2 * a) (2 * a + b) (n / 2) x z y h (by rw [e]; exact hy)
      cases v with
      | none => exact this
      | some x => exact hg _ _ _ _ this
end Tr

/-- The entries of the parts before. -/
def lvL (c : Nat) : List KE → List (List V × V)
  | [] => []
  | (d, _, e) :: l => match Nat.blt d c with
    | true => e :: lvL c l
    | false => lvL c l
def lvM (c : Nat) (M : Tr (Tr (List KE))) : Tr (Tr (List (List V × V))) := M.map fun t => t.map (lvL c)
/-- The calls of a part. -/
def colL (c f : Nat) : List KE → List (FuncId × Nat × List V × V) → List (FuncId × Nat × List V × V)
  | [], z => z
  | (d, n, ks, r) :: l, z => match Nat.beq d c with
    | true => (f, n, ks, r) :: colL c f l z
    | false => colL c f l z
def colM (c : Nat) (M : Tr (Tr (List KE))) : List (FuncId × Nat × List V × V) := M.fold (fun f t z => t.fold (fun _ l z => colL c f l z) 1 0 z) 1 0 []
theorem lvL_mem {c : Nat} {x : List V × V} : ∀ {l : List KE}, x ∈ lvL c l → ∃ d n, d < c ∧ (d, n, x) ∈ l
  | [], h => by simp [lvL] at h
  | (d, n, e) :: l, h => by
    simp only [lvL] at h
    split at h
    · rename_i hd
      rcases List.mem_cons.1 h with rfl | h
      · exact ⟨d, n, (by rw [Nat.blt_eq] at hd; exact hd), by simp⟩
      · obtain ⟨d', n', h1, h2⟩ := lvL_mem h
        exact ⟨d', n', h1, by simp [h2]⟩
    · obtain ⟨d', n', h1, h2⟩ := lvL_mem h
      exact ⟨d', n', h1, by simp [h2]⟩
theorem mem_lvL {c d n : Nat} {x : List V × V} (hd : d < c) : ∀ {l : List KE}, (d, n, x) ∈ l → x ∈ lvL c l
  | [], h => by simp at h
  | (d', n', e) :: l, h => by
    simp only [lvL]
    rcases List.mem_cons.1 h with h | h
    · cases h
      have : Nat.blt d c = true := by rw [Nat.blt_eq]; exact hd
      rw [this]
      simp
    · split
      · exact List.mem_cons_of_mem _ (mem_lvL hd h)
      · exact mem_lvL hd h
theorem colL_keep {c f : Nat} : ∀ {l : List KE} {z : List (FuncId × Nat × List V × V)} {y : FuncId × Nat × List V × V}, y ∈ z → y ∈ colL c f l z
  | [], z, y, h => h
  | (d, n, ks, r) :: l, z, y, h => by
    simp only [colL]
    split
    · exact List.mem_cons_of_mem _ (colL_keep h)
    · exact colL_keep h
theorem colL_mem {c f n : Nat} {x : List V × V} : ∀ {l : List KE} {z : List (FuncId × Nat × List V × V)}, (c, n, x) ∈ l → (f, n, x) ∈ colL c f l z
  | [], z, h => by simp at h
  | (d, n', ks, r) :: l, z, h => by
    simp only [colL]
    rcases List.mem_cons.1 h with h | h
    · cases h
      simp
    · split
      · exact List.mem_cons_of_mem _ (colL_mem h)
      · exact colL_mem h
theorem colM_mem {c f q n : Nat} {M : Tr (Tr (List KE))} {t : Tr (List KE)} {l : List KE} {x : List V × V} (h1 : M.get f = some t) (h2 : t.get q = some l) (h3 : (c, n, x) ∈ l) : (f, n, x) ∈ colM c M := by
  unfold colM
  refine Tr.fold_get (fun m t z y hy => Tr.fold_mem (fun _ _ _ _ h => colL_keep h) t _ _ _ _ hy) M 1 0 f t [] _ h1 fun z => ?_
  rw [Nat.one_mul, Nat.add_zero]
  exact Tr.fold_get (fun _ _ _ _ h => colL_keep h) t 1 0 q l z _ h2 fun z => colL_mem h3

section
variable {P : Program} {T : Tr TI} {F : Tr AFn} {ls : List (TypeId × Nat × TypeId)} {ng : Nat} {H0 : AH} {M : Tr (Tr (List KE))}
theorem lvM_get {c f : Nat} {t : Tr (List (List V × V))} (h : (lvM c M).get f = some t) : ∃ t', M.get f = some t' ∧ t = t'.map (lvL c) := by
  unfold lvM at h
  rw [Tr.map_get] at h
  cases hm : M.get f with
  | none => rw [hm] at h; cases h
  | some t' => rw [hm] at h; cases h; exact ⟨t', rfl, rfl⟩
theorem lvM_get2 {c f q : Nat} {t : Tr (List (List V × V))} {l : List (List V × V)} (h : (lvM c M).get f = some t) (h2 : t.get q = some l) : ∃ t' l', M.get f = some t' ∧ t'.get q = some l' ∧ l = lvL c l' := by
  obtain ⟨t', h1, rfl⟩ := lvM_get h
  rw [Tr.map_get] at h2
  cases hm : t'.get q with
  | none => rw [hm] at h2; cases h2
  | some l' => rw [hm] at h2; cases h2; exact ⟨t', l', h1, hm, rfl⟩
/-- The tables whose parts have been shown one by one. -/
theorem parts_ok (h0 : GOk P ⟨T, F, .nil, ls, ng⟩ (okG ⟨T, F, .nil, ls, ng⟩) H0) : ∀ (N : Nat), (∀ c, c < N → okCalls ⟨T, F, lvM c M, ls, ng⟩ H0 (colM c M) = true) → GOk P ⟨T, F, lvM N M, ls, ng⟩ (okG ⟨T, F, lvM N M, ls, ng⟩) H0
  | 0, _ => h0.withM fun f t h1 q e h2 x hx => by
    obtain ⟨t', l', k1, k2, rfl⟩ := lvM_get2 h1 h2
    obtain ⟨d, n, hd, _⟩ := lvL_mem hx
    omega
  | N + 1, hc => by
    have ih := parts_ok h0 N fun c h => hc c (by omega)
    refine h0.withM fun f t h1 q e h2 x hx => ?_
    obtain ⟨t', l', k1, k2, rfl⟩ := lvM_get2 h1 h2
    obtain ⟨d, n, hd, hm⟩ := lvL_mem hx
    by_cases hN : d < N
    · refine ih.known f (t'.map (lvL N)) q (lvL N l') x.1 x.2 ?_ ?_ (mem_lvL hN hm)
      · show (lvM N M).get f = _
        unfold lvM
        rw [Tr.map_get, k1]
        rfl
      · rw [Tr.map_get, k2]
        rfl
    · have : d = N := by omega
      subst this
      have hmem := colM_mem k1 k2 hm
      obtain ⟨i, hi, he⟩ := List.getElem_of_mem hmem
      exact pure_calls ih (hc d (by omega)) i _ (List.getElem?_eq_some_iff.2 ⟨hi, he⟩)
end
theorem ltAll {p : Nat → Prop} {n : Nat} (h : ∀ c, c < n → p c) (k : p n) : ∀ c, c < n + 1 → p c := fun c hc => by
  by_cases hn : c < n
  · exact h c hn
  · have : c = n := by omega
    subst this
    exact k
theorem ltNone {p : Nat → Prop} : ∀ c, c < 0 → p c := fun c h => absurd h (Nat.not_lt_zero c)

/-! ### Short names -/
namespace Q
def i (n : Nat) : V := .i .i64 (Int.ofNat n)
def j (n : Nat) : V := .i .i64 (Int.negSucc n)
def u (n : Nat) : V := .i .u8 (Int.ofNat n)
def s (l : List Nat) : V := .s l
def a (l : List V) : V := .agg l
def t (l : List V) : V := .tup l
def S (l : List V) (n : Nat) : V := .S true l n
def N (l : List V) (n : Nat) : V := .S false l n
def e (k c n : Nat) (ks : List V) (r : V) : Tr (List KE) := .sing 24 k [(c, n, ks, r)]
def f (k : Nat) (l : List KE) : Tr (List KE) := .sing 24 k l
def o {α : Type} (l r : Tr α) : Tr α := .node l none r
def k {α : Type} (l : Tr α) (v : α) (r : Tr α) : Tr α := .node l (some v) r
def z {α : Type} : Tr α := .nil
def m {α : Type} (n : Nat) (v : α) : Tr α := .sing 24 n v
def b : V := .b true
def c : V := .b false
end Q
end Go.Proofs.YtbkipanlicgooaaGreatDoor
namespace Go.Proofs.YtbkipanlicgooaaGreatDoor

section
variable {P : Program} {T : Tr TI} {F : Tr AFn} {M : Tr (Tr (List (List V × V)))} {ls : List (TypeId × Nat × TypeId)} {ng : Nat} {H0 : AH}
/-- What the load's facts say of a function. -/
def FP (P : Program) (f : Nat) (af : AFn) : Prop := P.funcs[f]? = some af.fn ∧ (af.ext = none → ∀ args w, (callFunc f args).run P w = .ok (.enter f args) w) ∧ ∀ x, af.ext = some x → ExtOk P f x
theorem fns_ok (hck : F.ck fnCk 1 0 = true) (hA : F.All (FP P) 1 0) (f : FuncId) (af : AFn) (h : F.get f = some af) : FnOk P (okG ⟨T, F, M, ls, ng⟩) f af := by
  have h1 := Tr.ck_get _ F 1 0 f af hck h
  have h2 := Tr.all_get _ F 1 0 f af hA h
  rw [Nat.one_mul, Nat.add_zero] at h1 h2
  refine ⟨h2.1, h2.2.1, fun _ c hc => ?_, h2.2.2⟩
  show okC planOk (plansOf ⟨T, F, M, ls, ng⟩ f) c = true
  have : plansOf ⟨T, F, M, ls, ng⟩ f = af.plans := by
    unfold plansOf
    show (match F.get f with | some af => af.plans | none => []) = _
    rw [h]
  rw [this]
  simp only [fnCk, hc] at h1
  exact h1

/-! ### Tries, branch by branch -/
variable {α : Type} {p : Nat → α → Prop} {a b : Nat}
theorem allZ : (Q.z : Tr α).All p a b := by simp only [Q.z, Tr.All]
theorem allO {l r : Tr α} (hl : l.All p (2 * a) (a + b)) (hr : r.All p (2 * a) (2 * a + b)) : (Q.o l r).All p a b := ⟨trivial, hl, hr⟩
theorem allK {l r : Tr α} {v : α} (hv : p b v) (hl : l.All p (2 * a) (a + b)) (hr : r.All p (2 * a) (2 * a + b)) : (Q.k l v r).All p a b := ⟨hv, hl, hr⟩
theorem all_sing {v : α} : ∀ (d n a b : Nat), p (a * n + b) v → (Tr.sing d n v).All p a b
  | 0, _, _, _, _ => by simp only [Tr.sing, Tr.All]
  | d + 1, 0, a, b, h => by
    simp only [Tr.sing, Tr.All]
    exact ⟨by simpa using h, trivial, trivial⟩
  | d + 1, n + 1, a, b, h => by
    simp only [Tr.sing]
    split
    · rename_i hp
      have hp := Nat.eq_of_beq_eq_true hp
      have e : 2 * a * (n / 2) + (a + b) = a * (n + 1) + b := by
        have : n = 2 * (n / 2) := by omega
        generalize n / 2 = m at this
        subst this
        rw [Nat.mul_add, Nat.mul_comm 2 a, Nat.mul_assoc]
        omega
      simp only [Tr.All]
      exact ⟨trivial, all_sing d (n / 2) (2 * a) (a + b) (by rw [e]; exact h), trivial⟩
    · rename_i hp
      have hp := Nat.ne_of_beq_eq_false hp
      have e : 2 * a * (n / 2) + (2 * a + b) = a * (n + 1) + b := by
        have : n = 2 * (n / 2) + 1 := by omega
        generalize n / 2 = m at this
        subst this
        rw [Nat.mul_add, Nat.mul_add, Nat.mul_comm 2 a, Nat.mul_assoc]
        omega
      simp only [Tr.All]
      exact ⟨trivial, trivial, all_sing d (n / 2) (2 * a) (2 * a + b) (by rw [e]; exact h)⟩
theorem allM {n : Nat} {v : α} (m : Nat) (h : p m v) (e : Nat.beq (a * n + b) m = true) : (Q.m n v).All p a b := all_sing 24 n a b (by rw [Nat.eq_of_beq_eq_true e]; exact h)

/-! ### Types -/
def tyEq (P : Program) (t : TypeId) (ti : TI) : Bool := tyCk P t ti && (match ti.eqf with
  | true => eqAll P t ti.zero
  | false => true)
theorem tys_ok (hT : T.ck (tyEq P) 1 0 = true) (t : TypeId) (ti : TI) (h : T.get t = some ti) : TyOk P t ti := by
  have h1 := Tr.ck_get _ T 1 0 t ti hT h
  rw [Nat.one_mul, Nat.add_zero] at h1
  simp only [tyEq, Bool.and_eq_true] at h1
  refine tyCk_ok h1.1 fun he => ?_
  have h2 := h1.2
  rw [he] at h2
  exact eqAll_ok h2
theorem lies_self {e : TypeId} {k n : Nat} (hd : P.depth = k + 1) (h : 0 < n * P.cellsOf e) : liesAt P P.depth e n 0 e 1 = true := by
  have hs : P.cellsOf e ≠ 0 := fun h0 => by rw [h0] at h; omega
  have hn : 1 ≤ n := by
    cases n with
    | zero => simp at h
    | succ n => omega
  have hl : sameLayout P P.depth e e = true := by rw [hd]; simp [sameLayout]
  have hr : rowAt P (sameLayout P P.depth · e) P.depth e n 0 1 = true := by
    have : ∀ fits : TypeId → Bool, fits e = true → rowAt P fits (k + 1) e n 0 1 = true := fun fits hf => by
      simp [rowAt, hs, hf, hn]
    rw [hd] at hl ⊢
    exact this _ hl
  have : ∀ d, d = k + 1 → rowAt P (sameLayout P P.depth · e) P.depth e n 0 1 = true → liesAt P d e n 0 e 1 = true := fun d hd hr => by
    subst hd
    simp only [liesAt, hr, Bool.true_or]
  exact this _ hd hr
theorem lies_one {t k : Nat} (hd : P.depth = k + 1) : ∀ e o u, liesA (e, o, u) [(t, 0, t)] = true → ∀ n, o < n * P.cellsOf e → liesAt P P.depth e n o u 1 = true := fun e o u h n hn => by
  simp only [liesA, Bool.or_false, Bool.and_eq_true] at h
  have h1 := Nat.eq_of_beq_eq_true h.1
  have h2 := Nat.eq_of_beq_eq_true h.2.1
  have h3 := Nat.eq_of_beq_eq_true h.2.2
  subst h1 h2 h3
  exact lies_self hd hn

/-! ### Functions without a body -/
theorem ext_same {f : FuncId} {fn : Func} (hf : P.funcs[f]? = some fn) (hname : (fn.name == "runtime.NumGoroutine") = false) (hb : fn.body.isNone = true) (hn : Extern.findNext fn = none) (he : Extern.find fn = some Extern.AbiNoEscape.same) :
    ExtOk P f .same := fun v w => by
  have h1 : (Extern.AbiNoEscape.same #[v]).run P w = .ok v w := rfl
  rw [run_callFunc_extern hf hname hb hn he, h1]
  rfl
theorem ext_noZero {f : FuncId} {fn : Func} {e : TypeId} {ps : Array TypeId} {t : TypeId} (hf : P.funcs[f]? = some fn) (hname : (fn.name == "runtime.NumGoroutine") = false) (hb : fn.body.isNone = true) (hn : Extern.findNext fn = none)
    (he : Extern.find fn = some (Extern.BytealgMakeNoZero.makeNoZero ps #[t])) (ht : P.underlying t = some (.slice e)) (hc : P.cellsOf e = 1) : ExtOk P f (.noZero e) := by
  refine ⟨hc, fun n w h0 h1 => ?_⟩
  obtain ⟨m, rfl⟩ := Int.eq_ofNat_of_zero_le h0
  obtain ⟨cs, k1, k2, k3⟩ := Lib.run_makeNoZero w ps t e ht m (by omega)
  refine ⟨w.drew.drew.alloc (.cells cs e), cs, ?_, ?_, k2, ?_⟩
  · have h2 : (callFunc f #[.int .i64 (m : Int)]).run P w = _ := run_callFunc_extern hf hname hb hn he #[.int .i64 (m : Int)] w
    rw [k1] at h2
    exact h2
  · rfl
  · exact ⟨rfl, rfl, rfl, by simp⟩
end
end Go.Proofs.YtbkipanlicgooaaGreatDoor
namespace Go.Proofs.YtbkipanlicgooaaGreatDoor

/-! ### Tries made anew -/
section
variable {α : Type}
def mkT : List (Nat × α) → Tr α → Tr α
  | [], t => t
  | (k, x) :: l, t => mkT l (t.set k (some x))
def pickT (t : Tr α) : List Nat → List (Nat × α)
  | [] => []
  | k :: ks => match t.get k with
    | some x => (k, x) :: pickT t ks
    | none => pickT t ks
/-- The entries at these places alone, in a tree of this depth. -/
def keepT (d : Nat) (ks : List Nat) (t : Tr α) : Tr α := mkT (pickT t ks) (Tr.full d)
theorem mkT_get : ∀ {l : List (Nat × α)} {t : Tr α} {n : Nat} {x : α}, (mkT l t).get n = some x → (n, x) ∈ l ∨ t.get n = some x
  | [], t, n, x, h => .inr h
  | (k, y) :: l, t, n, x, h => by
    rcases mkT_get (l := l) h with h | h
    · exact .inl (List.mem_cons_of_mem _ h)
    · rcases Tr.get_set _ _ _ _ _ h with ⟨rfl, hx⟩ | ⟨_, h⟩
      · cases hx
        exact .inl (by simp)
      · exact .inr h
theorem pickT_mem {t : Tr α} : ∀ {ks : List Nat} {n : Nat} {x : α}, (n, x) ∈ pickT t ks → t.get n = some x
  | [], n, x, h => by simp [pickT] at h
  | k :: ks, n, x, h => by
    simp only [pickT] at h
    split at h
    · rename_i y hy
      rcases List.mem_cons.1 h with h | h
      · cases h
        exact hy
      · exact pickT_mem h
    · exact pickT_mem h
theorem full_get : ∀ (d n : Nat), (Tr.full d : Tr α).get n = none
  | 0, n => by simp [Tr.full, Tr.get]
  | d + 1, 0 => by simp [Tr.full, Tr.get]
  | d + 1, n + 1 => by
    simp only [Tr.full, Tr.get]
    split <;> exact full_get d _
theorem keepT_get {d : Nat} {ks : List Nat} {t : Tr α} {n : Nat} {x : α} (h : (keepT d ks t).get n = some x) : t.get n = some x := by
  rcases mkT_get h with h | h
  · exact pickT_mem h
  · rw [full_get] at h
    cases h
end

/-! ### Code by its place -/
def subC : List Nat → Code → Code
  | [], c => c
  | n :: p, c => match c with
    | .seq a b => match n with
      | 0 => subC p a
      | _ => subC p b
    | .cond _ a b => match n with
      | 0 => subC p a
      | _ => subC p b
    | .rangeFunc _ _ a b => match n with
      | 0 => subC p a
      | _ => subC p b
    | .block _ c => subC p c
    | .loop c => subC p c
    | .scope c => subC p c
    | c => c
def fnC (f : Func) (p : List Nat) : Code := match f.body with
  | some c => subC p c
  | none => .skip
def fnO (f : Func) (p : List Nat) : Array Oper := match fnC f p with
  | .region _ ops _ => ops
  | _ => #[]

/-! ### Less is known -/
def trimM (ks : List Nat) (d : Nat) (ids : List Nat) (dh : Nat) : AM → Option AM
  | ⟨⟨fn, n, env, todo, dfs, ret, dk, rnd⟩, cs, ⟨nx, t⟩⟩ => match ret with
    | true => none
    | false => match todo with
      | .dreg .. :: _ => none
      | todo => some ⟨⟨fn, n, keepT d ks env, todo, dfs, false, dk, rnd⟩, cs, ⟨nx, keepT dh ids t⟩⟩
section
variable {P : Program} {G : Glob} {H0 : AH} {w0 : World} {cl : List Frame} {cs0 : List Frame}
theorem HR.less {ok : FuncId → Code → Prop} {ng : Nat} {c : Ctx} {H H' : AH} {w : World} (h : HR P ok ng c H w) (hn : H'.nx = H.nx) (hs : ∀ id o, H'.get id = some o → H.get id = some o) : HR P ok ng c H' w :=
  ⟨h.fro, fun j u l hu hl => h.at_ j u l (hs j u hu) hl, fun j j' u u' l l' hu hu' => h.apart j j' u u' l l' (hs _ _ hu) (hs _ _ hu'),
    fun j u l hu => h.own j u l (hs _ _ hu), fun id l hl => by rw [hn]; exact h.dom id l hl, fun j u hu => by rw [hn]; exact h.new j u (hs _ _ hu), h.glob, h.based, h.bsz, fun j u hu => h.gown j u (hs _ _ hu)⟩
theorem trim_ok {ks ids : List Nat} {d dh : Nat} {m m' : AM} (h : trimM ks d ids dh m = some m') {M : Machine} (hm : NextR P G w0 cl cs0 m M) : NextR P G w0 cl cs0 m' M := by
  obtain ⟨⟨fn, n, env, todo, dfs, ret, dk, rnd⟩, cs, ⟨nx, t⟩⟩ := m
  obtain ⟨c, f, fs, w, lo, hs, hm⟩ := hm
  refine ⟨c, f, fs, w, lo, hs, ?_⟩
  cases ret with
  | true => simp [trimM] at h
  | false =>
    have key : ∀ todo', todo = todo' → (∀ ops td rv k, todo' ≠ .dreg ops td rv :: k) → MR P G w0 cl cs0 false c ⟨fn, n, keepT d ks env, todo', dfs, false, dk, rnd⟩ cs ⟨nx, keepT dh ids t⟩ f fs w lo := fun todo' e hne => by
      subst e
      obtain ⟨hr, lon, fr, fss, kp, old, base⟩ := hm
      refine ⟨hr.less rfl fun id o h => keepT_get h, lon, ⟨fr.fn, fr.kind, fr.rnd, fr.dfs, fun _ => ?_, nofun, fr.nd⟩, fss, kp, old, base⟩
      obtain ⟨h1, h2⟩ := fr.run rfl
      refine ⟨h1, ?_⟩
      generalize hw : false = wt at h2
      generalize htd : todo = td at h2 hne
      generalize hft : f.todo = ftd at h2
      cases h2 with
      | plain hi he =>
        subst hw
        refine .plain (htd ▸ hi) ⟨he.1, fun t v hv => he.2.1 t v (keepT_get hv), fun t v hv => he.2.2 t v (keepT_get hv)⟩
      | dreg => exact absurd rfl (hne _ _ _ _)
      | wait => cases hw
    simp only [trimM] at h
    split at h
    · cases h
    · rename_i hne
      cases h
      exact key _ rfl fun ops td rv k e => hne ops td rv k e

/-- The first part: so many steps, then what is kept. -/
def runPart (G : Glob) (n : Nat) (ks : List Nat) (d : Nat) (ids : List Nat) (dh : Nat) (m : AM) : Option AM := match runA G n m with
  | some (m1, none) => trimM ks d ids dh m1
  | _ => none
def startPart (G : Glob) (H0 : AH) (f : FuncId) (as : List V) (n : Nat) (ks : List Nat) (d : Nat) (ids : List Nat) (dh : Nat) : Option AM := match enter G f as false with
  | some a => runPart G n ks d ids dh ⟨a, [], H0⟩
  | none => none
def endPart (G : Glob) (f : FuncId) (r : V) (n : Nat) (m : AM) : Bool := match runA G n m with
  | some (m, some v) => Nat.beq m.fr.fn f && (mt m.H G.ng true r v && fresh r)
  | _ => false
theorem runPart_ok (hG : GOk P G (okG G) H0) (hglb : Glb P (okG G) G.ng H0 w0) {n : Nat} {ks ids : List Nat} {d dh : Nat} {m m' : AM} (h : runPart G n ks d ids dh m = some m') {M : Machine} (hm : NextR P G w0 cl cs0 m M) : NextR P G w0 cl cs0 m' M := by
  unfold runPart at h
  split at h
  · rename_i m1 hr
    obtain ⟨c, f, fs, w, lo, hs, hm⟩ := hm
    obtain ⟨⟨c1, f1, fs1, w1, lo1, hs1, hm1⟩, _⟩ := runA_ok hG hglb n hm hr
    exact trim_ok h ⟨c1, f1, fs1, w1, lo1, hs.trans hs1, hm1⟩
  · cases h
/-- A call that is run in parts. -/
inductive Parts (G : Glob) (H0 : AH) (f : FuncId) (as : List V) : AM → Prop
  | start {n : Nat} {ks ids : List Nat} {d dh : Nat} {m : AM} (h : startPart G H0 f as n ks d ids dh = some m) : Parts G H0 f as m
  | more {n : Nat} {ks ids : List Nat} {d dh : Nat} {m m' : AM} (k : Parts G H0 f as m) (h : runPart G n ks d ids dh m = some m') : Parts G H0 f as m'
theorem parts_next (hG : GOk P G (okG G) H0) {f : FuncId} {as : List V} {m : AM} (h : Parts G H0 f as m) {w : World} {xs : Array Value} (hglb : Glb P (okG G) G.ng H0 w) (hx : Reps (c0 G.ng w) as xs.toList) : NextR P G w cl cs0 m (lone (Frame.enter P f xs .normal) (cl ++ cs0) w) := by
  induction h with
  | start h =>
    unfold startPart at h
    split at h
    · rename_i a he
      exact runPart_ok hG hglb h ⟨_, _, _, _, _, Steps.refl _ _, start_ok (cl := cl) (cs0 := cs0) hG hglb he hx⟩
    · cases h
  | more _ h ih => exact runPart_ok hG hglb h ih
/-- What the call comes to, whoever calls. -/
theorem parts_end (hG : GOk P G (okG G) H0) {f : FuncId} {as : List V} {r : V} {m : AM} {n : Nat} (h1 : Parts G H0 f as m) (h2 : endPart G f r n m = true) {w : World} {xs : Array Value} (hglb : Glb P (okG G) G.ng H0 w) (hx : Reps (c0 G.ng w) as xs.toList) (cs : List Frame) :
    ∃ y w' fr, Steps P (lone (Frame.enter P f xs .normal) cs w) (lone fr cs w') ∧ fr.fn = f ∧ fr.leaving P w' (.returned y) ∧ Kp w w' ∧ (∀ b, b < w.heap.size → w'.heap[b]? = w.heap[b]?) ∧
      Rep ⟨fun _ => none, fun b => if b < w.heap.size then none else w'.heap[b]?, w.heap.size⟩ r y := by
  obtain ⟨c, f', fs, w', lo, hs, hm⟩ := parts_next (cl := []) (cs0 := cs) hG h1 hglb hx
  unfold endPart at h2
  split at h2
  · rename_i m2 v hr
    simp only [Bool.and_eq_true] at h2
    obtain ⟨⟨c1, f1, fs1, w1, lo1, hs1, hm1⟩, hfin⟩ := runA_ok hG hglb n hm hr
    obtain ⟨y, rfl, k1, k0, k2⟩ := final_ok hG hm1 (hfin v rfl)
    refine ⟨y, w1, f1, hs.trans hs1, k0.trans (Nat.eq_of_beq_eq_true h2.1), k1, hm1.kp, fun b hb => ?_, ?_⟩
    · have := hm1.hr.fro b w.heap[b] (hm1.old b _ (Array.getElem?_eq_getElem hb))
      rw [this, Array.getElem?_eq_getElem hb]
    · have := mt_ok hm1.hr (new := true) (c' := ⟨fun _ => none, fun b => w1.heap[b]?, w.heap.size⟩) (fun b ob h => h) (fun _ => by rw [hm1.base]; exact Nat.le_refl _) r v y h2.2.1 k2
      exact fresh_ok r y h2.2.2 this
  · cases h2
end
end Go.Proofs.YtbkipanlicgooaaGreatDoor
namespace Go.Proofs.YtbkipanlicgooaaGreatDoor

/-! ### Data without pointers, cell by cell -/
mutual
def flatD {H : Type} : DataW H → Option (List V)
  | .lit (.bool b) => some [.b b]
  | .lit (.int k n) => some [.i k n]
  | .lit (.string s) => some [.s (s.map UInt8.toNat)]
  | .agg ds => flatDs ds
  | _ => none
def flatDs {H : Type} : List (DataW H) → Option (List V)
  | [] => some []
  | d :: ds => match flatD d, flatDs ds with
    | some x, some r => some (x ++ r)
    | _, _ => none
end
def flF (P : Program) (ck : TypeId → Bool) : List Field → Nat → Nat → Bool
  | [], off, tot => Nat.beq off tot
  | f :: fs, off, tot => Nat.beq f.offset off && (ck f.type && flF P ck fs (off + P.cellsOf f.type) tot)
/-- A type of numbers, booleans and strings, its parts one behind the other. -/
def flCk (P : Program) : Nat → TypeId → Bool
  | 0, _ => false
  | d + 1, t => match P.underlying t with
    | some .bool => true
    | some .string => true
    | some (.int _) => true
    | some (.struct fs) => flF P (flCk P d) fs.toList 0 (P.cellsOf t)
    | some (.array n e) => flCk P d e && Nat.beq (n * P.cellsOf e) (P.cellsOf t)
    | _ => false

section
variable {H : Type} {enc : TypeId × Value → H} {P : Program} {w : World} {base : Nat} {spare : Nat → Bool} {held : Bool}
/-- What it stands for. -/
def FlR (t : TypeId) (fuel : Nat) (H : Type) (enc : TypeId × Value → H) (P : Program) (w : World) (base : Nat) (spare : Nat → Bool) (held : Bool) : Prop :=
  ∀ (cs : List Value) (d : DataW H) (p : List MemPlace), DataW.trod enc P w base spare held fuel t cs = some (d, p) → ∃ vs, flatD d = some vs ∧ ∀ c, Reps c vs cs
theorem mapM_cons_some {α β : Type} {f : α → Option β} {a : α} {l : List α} {r : List β} (h : (a :: l).mapM f = some r) : ∃ x xs, f a = some x ∧ l.mapM f = some xs ∧ r = x :: xs := by
  rw [List.mapM_cons] at h
  cases hx : f a with
  | none => rw [hx] at h; cases h
  | some x =>
    cases hy : l.mapM f with
    | none => rw [hx, hy] at h; cases h
    | some xs => rw [hx, hy] at h; cases h; exact ⟨x, xs, rfl, rfl, rfl⟩
theorem flF_ok {ck : TypeId → Bool} {fuel : Nat} (hck : ∀ t, ck t = true → FlR t fuel H enc P w base spare held) {cs : List Value} : ∀ {fs : List Field} {off : Nat} {xs : List (DataW H × List MemPlace)}, flF P ck fs off cs.length = true →
    (fs.mapM fun f => DataW.trod enc P w base spare held fuel f.type ((cs.drop f.offset).take (P.cellsOf f.type))) = some xs → ∃ vs, flatDs (xs.map (·.1)) = some vs ∧ ∀ c, Reps c vs (cs.drop off)
  | [], off, xs, h, hm => by
    simp only [flF] at h
    have h := Nat.eq_of_beq_eq_true h
    simp only [List.mapM_nil, Option.pure_def, Option.some.injEq] at hm
    subst hm
    exact ⟨[], by simp [flatDs], fun c => by rw [Reps.nil, h]; simp⟩
  | f :: fs, off, xs, h, hm => by
    simp only [flF, Bool.and_eq_true] at h
    obtain ⟨ho, hc, hr⟩ := h
    have ho := Nat.eq_of_beq_eq_true ho
    obtain ⟨x, ys, h1, h2, rfl⟩ := mapM_cons_some hm
    obtain ⟨d, p⟩ := x
    obtain ⟨vs, k1, k2⟩ := hck _ hc _ _ _ h1
    obtain ⟨us, k3, k4⟩ := flF_ok hck hr h2
    refine ⟨vs ++ us, by simp only [List.map_cons, flatDs, k1, k3], fun c => ?_⟩
    have := (k2 c).append (k4 c)
    rw [ho, ← List.drop_drop, List.take_append_drop] at this
    exact this
theorem flA_ok {e : TypeId} {fuel : Nat} (hck : FlR e fuel H enc P w base spare held) {cs : List Value} : ∀ {m i : Nat} {xs : List (DataW H × List MemPlace)}, (i + m) * P.cellsOf e = cs.length →
    ((List.range' i m).mapM fun i => DataW.trod enc P w base spare held fuel e ((cs.drop (i * P.cellsOf e)).take (P.cellsOf e))) = some xs → ∃ vs, flatDs (xs.map (·.1)) = some vs ∧ ∀ c, Reps c vs (cs.drop (i * P.cellsOf e))
  | 0, i, xs, h, hm => by
    simp only [List.range'_zero, List.mapM_nil, Option.pure_def, Option.some.injEq] at hm
    subst hm
    exact ⟨[], by simp [flatDs], fun c => by rw [Reps.nil]; simp at h; simp [h]⟩
  | m + 1, i, xs, h, hm => by
    rw [List.range'_succ] at hm
    obtain ⟨x, ys, h1, h2, rfl⟩ := mapM_cons_some hm
    obtain ⟨d, p⟩ := x
    obtain ⟨vs, k1, k2⟩ := hck _ _ _ h1
    obtain ⟨us, k3, k4⟩ := flA_ok hck (m := m) (i := i + 1) (by rw [← h]; congr 1; omega) h2
    refine ⟨vs ++ us, by simp only [List.map_cons, flatDs, k1, k3], fun c => ?_⟩
    have := (k2 c).append (k4 c)
    rw [Nat.succ_mul, ← List.drop_drop, List.take_append_drop] at this
    exact this
theorem fl_ok : ∀ (d : Nat) (t : TypeId), flCk P d t = true → ∀ fuel, FlR t fuel H enc P w base spare held
  | 0, t, h => by simp [flCk] at h
  | d + 1, t, h => by
    intro fuel cs dd p ht
    cases fuel with
    | zero => simp [DataW.trod] at ht
    | succ fuel =>
      simp only [flCk] at h
      unfold DataW.trod at ht
      split at h
      · rename_i hu
        simp only [hu] at ht
        rcases cs with _ | ⟨v, _ | ⟨v2, cs⟩⟩
        · cases ht
        · cases v <;> first | (cases ht; done) | (simp only [Option.some.injEq, Prod.mk.injEq] at ht; obtain ⟨rfl, rfl⟩ := ht; exact ⟨_, rfl, fun c => Reps.cons'.2 ⟨by simp only [Rep], Reps.nil.2 rfl⟩⟩)
        · cases v <;> cases ht
      · rename_i hu
        simp only [hu] at ht
        rcases cs with _ | ⟨v, _ | ⟨v2, cs⟩⟩
        · cases ht
        · cases v <;> first | (cases ht; done) | skip
          rename_i st
          simp only at ht
          split at ht
          · simp only [Option.some.injEq, Prod.mk.injEq] at ht
            obtain ⟨rfl, rfl⟩ := ht
            refine ⟨_, rfl, fun c => Reps.cons'.2 ⟨?_, Reps.nil.2 rfl⟩⟩
            simp only [Rep]
            refine ⟨fun z hz => ?_, ?_⟩
            · obtain ⟨y, _, rfl⟩ := List.mem_map.1 hz
              exact UInt8.toNat_lt y
            · unfold str
              congr 1
              rw [List.map_map]
              have : (UInt8.ofNat ∘ UInt8.toNat) = id := by funext x; simp
              rw [this, List.map_id]
          · cases ht
        · cases v <;> cases ht
      · rename_i k hu
        simp only [hu] at ht
        rcases cs with _ | ⟨v, _ | ⟨v2, cs⟩⟩
        · cases ht
        · cases v <;> first | (cases ht; done) | skip
          simp only at ht
          split at ht
          · rename_i hk
            simp only [Option.some.injEq, Prod.mk.injEq] at ht
            obtain ⟨rfl, rfl⟩ := ht
            exact ⟨_, rfl, fun c => Reps.cons'.2 ⟨by simp only [Rep]; rw [hk.1], Reps.nil.2 rfl⟩⟩
          · cases ht
        · cases v <;> cases ht
      · rename_i fs hu
        simp only [hu] at ht
        split at ht
        · rename_i hl
          cases hm : fs.toList.mapM (fun f => DataW.trod enc P w base spare held fuel f.type ((cs.drop f.offset).take (P.cellsOf f.type))) with
          | none => rw [hm] at ht; cases ht
          | some xs =>
            rw [hm] at ht
            cases ht
            rw [← hl] at h
            obtain ⟨vs, k1, k2⟩ := flF_ok (fun t ht => fl_ok d t ht fuel) h hm
            exact ⟨vs, by simp only [flatD, k1], fun c => by simpa using k2 c⟩
        · cases ht
      · rename_i n e hu
        simp only [hu] at ht
        simp only [Bool.and_eq_true] at h
        split at ht
        · rename_i hl
          rw [List.range_eq_range'] at ht
          cases hm : (List.range' 0 n).mapM (fun i => DataW.trod enc P w base spare held fuel e ((cs.drop (i * P.cellsOf e)).take (P.cellsOf e))) with
          | none => rw [hm] at ht; cases ht
          | some xs =>
            rw [hm] at ht
            cases ht
            obtain ⟨vs, k1, k2⟩ := flA_ok (fl_ok d e h.1 fuel) (by rw [hl, Nat.zero_add]; exact Nat.eq_of_beq_eq_true h.2) hm
            exact ⟨vs, by simp only [flatD, k1], fun c => by simpa using k2 c⟩
        · cases ht
      · cases h
end

/-! ### The package's variables -/
section
variable {P : Program}
/-- What a listed variable reads as. -/
structure VarR (P : Program) (w : World) (n : String) (d : DataW Unit) : Prop where
  ex : ∃ g t cs fuel p, P.globalNamed n = some g ∧ (P.globals[g]?).map (·.type) = some t ∧ w.var? P n = some cs ∧ DataW.trod (fun _ => ()) P w 0 (fun _ => true) false fuel t cs.toList = some (d, p)
theorem laidVars_mem {w : World} : ∀ {l : List (String × DataW Unit)} {ps : List MemPlace}, DataW.LaidVars P w l ps → ∀ x ∈ l, VarR P w x.1 x.2
  | [], _, _, _, h => by cases h
  | (n, d) :: r, ps, h, x, hx => by
    obtain ⟨g, t, cs, fuel, p, q, h1, h2, h3, h4, h5, _⟩ := h
    rcases List.mem_cons.1 hx with rfl | hx
    · exact ⟨g, t, cs, fuel, p, h1, h2, h3, h4⟩
    · exact laidVars_mem h5 x hx
def gRow (P : Program) (g : Nat) (e : TypeId) : Bool := match ((begin P (fun _ _ => 0) default).world.heap[g]?).bind Obj.row? with
  | some (_, t) => Nat.beq t e
  | none => false
def gOne (P : Program) (g : Nat) (cs : List V) (x : String × DataW Unit) : Bool := (match P.globalNamed x.1 with
  | some k => Nat.beq k g
  | none => false) && ((match (P.globals[g]?).map (·.type) with
  | some t => flCk P 20 t
  | none => false) && (match flatD x.2 with
  | some vs => vbeqs vs cs
  | none => false))
def gCk (P : Program) (laid : List (String × DataW Unit)) (g : Nat) : AO → Bool
  | .cells cs e rw => !rw && (Nat.blt g P.globals.size && (gRow P g e && laid.any (gOne P g cs)))
  | _ => false
theorem glb_of {ok : FuncId → Code → Prop} {ng : Nat} {H0 : AH} {laid : List (String × DataW Unit)} {w : World} (hn : H0.nx = ng) (hg : P.globals.size = ng) (hc : H0.t.ck (gCk P laid) 1 0 = true) (hs : w.ShapedOpen P) (hl : laidMet P laid w) : Glb P ok ng H0 w := by
  refine ⟨hn, fun id o ho => ?_⟩
  have h1 := Tr.ck_get _ H0.t 1 0 id o hc ho
  rw [Nat.one_mul, Nat.add_zero] at h1
  cases o with
  | cells cs e rw =>
    simp only [gCk, Bool.and_eq_true, Bool.not_eq_true'] at h1
    obtain ⟨rfl, hlt, hr, ha⟩ := h1
    rw [Nat.blt_eq] at hlt
    obtain ⟨x, hx, ha⟩ := List.any_eq_true.1 ha
    obtain ⟨ps, hv, _⟩ := hl
    obtain ⟨g, t, C, fuel, p, k1, k2, k3, k4⟩ := (laidVars_mem hv x hx).ex
    simp only [gOne, k1, Bool.and_eq_true] at ha
    obtain ⟨a1, a2, a3⟩ := ha
    have a1 := Nat.eq_of_beq_eq_true a1
    subst a1
    rw [k2] at a2
    simp only at a2
    obtain ⟨vs, f1, f2⟩ := fl_ok 20 t a2 fuel _ _ _ k4
    rw [f1] at a3
    have a3 := vbeqs_eq a3
    subst a3
    unfold gRow at hr
    split at hr
    · rename_i z t' hz
      have hr := Nat.eq_of_beq_eq_true hr
      subst hr
      obtain ⟨cs', q1, _⟩ := hs.1 g z t' hlt hz
      have : cs' = C := by
        unfold World.var? at k3
        rw [k1] at k3
        simp only [Option.bind_some, q1, Option.some.injEq] at k3
        exact k3
      subst this
      refine ⟨by omega, rfl, _, q1, fun base => ?_⟩
      exact ⟨cs', _, rfl, RepC.of (f2 _) (fun j y hj => by simpa using hj), nofun⟩
    · cases hr
  | _ => simp [gCk] at h1
theorem laidMet_of {laid : List (String × DataW Unit)} {w : World} (hf : (laid.filter fun x => x.2.handleName?.isSome) = []) (h : laidMetH P laid w) : laidMet P laid w := by
  unfold laidMetH at h
  rw [hf] at h
  exact h

/-! ### The row's wrap: the world's shape and what is laid -/
theorem returns_laid {H : Type} {enc : TypeId × Value → H} {a : Assume} {C : Checked} {os : Os} {f : FuncId} {fn : Func} {s : ChangeSpec} {conds : List PathCond} {apart fresh handsOn again : Bool} {X : World → Array Value → Prop}
    (hX : ∀ (w w' : World) (args : Array Value), w.heap = w'.heap → X w args → X w' args)
    (own : ownKnob C.prog.godebug = none) (started : os.Started) (noInit : C.prog.inits.idxOf? f = none) (hfn : C.prog.funcs[f]? = some fn)
    (witness : ∃ (w : World) (tape : Tape) (i : Input), w.os = os ∧ (w.forCall tape i).Shaped C.prog ∧ i.vars = [] ∧ Input.okWide C.prog (w.forCall tape i) .any w.heap.size f i ∧
      ((s.pre enc C.prog fn conds apart (w.forCall tape i).memory i.args ∧ X (w.forCall tape i).memory i.args) ∧ sizedMet enc C.prog fn (OpenSpec.ofChange s) apart (w.forCall tape i).memory i.args) ∧ a.holds C.prog (lone (Frame.enter C.prog f i.args .normal) [] (w.forCall tape i)))
    (contract : ∀ (W : World) (base : Nat) (args : Array Value) (ds gs : List (DataW H)) (before : List MemPlace),
      (∀ (j : Nat) t v, fn.params[j]? = some t → args[j]? = some v → Value.okWide C.prog W .any base t v) →
      DataW.Whole enc C.prog fn.params.toList s.vars apart W args.toList ds gs before →
      W.ShapedOpen C.prog → X W args →
      Calls C.prog f args W fun e W' => ∃ v, e = .returned v ∧ s.post enc C.prog fn apart fresh handsOn again W args v W') :
    ReturnsInHanded a C os f .any (fun w args => (s.pre enc C.prog fn conds apart w args ∧ X w args) ∧ sizedMet enc C.prog fn (OpenSpec.ofChange s) apart w args) (s.post enc C.prog fn apart fresh handsOn again) := by
  refine returnsInHanded_of_calls own started noInit witness ?_
  intro w tape i _ hsh _ hok hpre hholds
  obtain ⟨_, _, _, fn', hfn', _, _, _, _, hval⟩ := hok
  have e : fn' = fn := Option.some.inj (hfn'.symm.trans hfn)
  subst e
  obtain ⟨⟨⟨ds, gs, before, hw, hc⟩, hx⟩, hz⟩ := hpre
  have hw' := DataW.Whole.of_heap (w' := w.forCall tape i) (by rfl) hw
  refine (contract (w.forCall tape i) w.heap.size i.args ds gs before hval hw' hsh (hX _ _ _ (by rfl) hx)).mono fun e W' ⟨v, he, hp⟩ => ?_
  subst he
  exact ChangeSpec.post_blind hp
end
end Go.Proofs.YtbkipanlicgooaaGreatDoor
