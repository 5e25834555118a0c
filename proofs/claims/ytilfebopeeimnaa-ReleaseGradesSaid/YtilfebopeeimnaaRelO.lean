/-
  Settle: what the call returns. No conditions but those in each statement.
-/
import Derived.Test.YtilfebopeeimnaaRelN
import Derived.Test.YtilfebopeeimnaaRelI
namespace Go.Proofs.Ytilfebopeeimnaa
open Go.RowKit Go.Maps

def GRel (P : Nat → Pay) (np : Nat) (w : World) (B : Nat) (v26 : Value) (wr : World) : Prop :=
  ∃ k : Nat, k ≤ np ∧ v26 = .int .i64 k ∧ Below w.heap.size w wr ∧ Grp P k wr B wr.heap.size

theorem int_info : (Try.prog.info? 3).map (fun i => (i.zero, i.size, i.bytes)) = some (some (.int .i64 0), 1, 8) := by kernel_rfl
theorem one_cell {w : World} {b : Nat} {x : Value} {t : TypeId} (h : w.heap[b]? = some (.cells #[x] t (0, 0))) : ∀ j u, [x][j]? = some u → w.cell? ((⟨b, 0, none⟩ : Addr).add j) = some u := by
  intro j u hu
  rw [add_mul]
  exact cell_blk h j u (by simpa using hu)
theorem make_ints (n : Nat) (w : World) (hn : n ≤ 1000) : ∃ cs : Array Value, (cs.size = n ∧ ∀ i, i < n → cs[i]? = some (.int .i64 0)) ∧
    (Instr.makeSlice 68 (.int .i64 n) (.int .i64 n)).run Try.prog w = .ok (.slice (some ⟨w.heap.size, 0, none⟩) n n) (w.alloc (.cells cs 3)) := by
  obtain ⟨i0, hi0, hz0, hz1, hz2⟩ := info_parts int_info
  have h := run_make (P := Try.prog) w 68 3 i0 _ Try.underlying68 hi0 hz0 .i64 .i64 n n (by omega) (Int.le_refl _) (by rw [hz2]; omega) (by omega)
  refine ⟨_, ⟨?_, fun i hi => ?_⟩, h⟩
  · rw [size_madeCells]; simp [hz1]
  · have hi2 : i < (Int.toNat (n : Int)) * i0.size := by rw [hz1]; simpa using hi
    have e : (Value.int IntKind.i64 0).cells = #[.int .i64 0] := rfl
    simp [madeCells, hz1, hi, e, Nat.mod_one]
/-- The cells of a slice of numbers. -/
def Outs (cs : Array Value) (n : Nat) (o : Nat → Int) : Prop := cs.size = n ∧ ∀ i, i < n → cs[i]? = some (.int .i64 (o i))
theorem Outs.set {cs : Array Value} {n i : Nat} {o : Nat → Int} (h : Outs cs n o) (v : Int) : Outs (cs.setIfInBounds i (.int .i64 v)) n (fun x => if x = i then v else o x) := by
  refine ⟨by simpa using h.1, fun x hx => ?_⟩
  have hs := h.1
  by_cases e : x = i
  · subst e
    simp [hs, hx]
  · rw [Array.getElem?_setIfInBounds_ne (Ne.symm e)]
    show _ = some (Value.int _ (if x = i then v else o x))
    rw [if_neg e]
    exact h.2 x hx
def ORel (D : Nat → Dbt) (nd : Nat) (P : Nat → Pay) (np : Nat) (m : Int) (wA : World) (X : Nat) (v52 : Value) (wr : World) : Prop :=
  ∃ i : Nat, i ≤ nd ∧ v52 = .int .i64 i ∧ ∃ cs o, Outs cs nd o ∧ (∀ x, x < i → -1 ≤ o x ∧ o x < np ∧ decide (0 ≤ o x) = anyTo (fun k => setB (D x) (P k) m) np) ∧ St wA wr [(X, cs, 3)]
theorem any_idx {P : Nat → Pay} {n : Nat} {d : Dbt} {m : Int} : anyTo (fun x => inR (P ((idxs P d.cls n).getD x 0)).a d.lo (min d.hi m)) (idxs P d.cls n).length = anyTo (fun k => setB d (P k) m) n := by
  rw [Bool.eq_iff_iff, anyTo_iff, anyTo_iff]
  have hs : ∀ k, setB d (P k) m = true ↔ (P k).cls = d.cls ∧ inR (P k).a d.lo (min d.hi m) = true := fun k => by
    simp only [setB, Pay.cls, Dbt.cls, Bool.and_eq_true, decide_eq_true_eq]
    constructor
    · rintro ⟨⟨⟨h1, h2⟩, h3⟩, h4⟩
      exact ⟨by rw [h1, h2, h3], h4⟩
    · rintro ⟨h1, h4⟩
      injection h1 with a1 a2
      injection a2 with a2 a3
      exact ⟨⟨⟨a1, a2⟩, a3⟩, h4⟩
  constructor
  · rintro ⟨x, hx, h⟩
    have hm : (idxs P d.cls n).getD x 0 ∈ idxs P d.cls n := by
      rw [List.getD_eq_getElem?_getD, List.getElem?_eq_getElem hx]
      exact List.getElem_mem hx
    exact ⟨_, (idxs_lt hm).1, (hs _).2 ⟨(idxs_lt hm).2, h⟩⟩
  · rintro ⟨k, hk, h⟩
    obtain ⟨h1, h2⟩ := (hs k).1 h
    have hm : k ∈ idxs P d.cls n := by simp [idxs, hk, h1]
    obtain ⟨x, hx, e⟩ := List.mem_iff_getElem.1 hm
    refine ⟨x, hx, ?_⟩
    have e2 : (idxs P d.cls n).getD x 0 = k := by rw [List.getD_eq_getElem?_getD, List.getElem?_eq_getElem hx]; exact e
    show inR (P ((idxs P d.cls n).getD x 0)).a d.lo (min d.hi m) = true
    rw [e2]
    exact h2
def IRel (q : Nat → Bool) (l : List Nat) (nd np i : Nat) (o : Nat → Int) (wA : World) (X bx : Nat) (dc : Array Value) (v70 : Value) (wr : World) : Prop :=
  ∃ j : Nat, j ≤ l.length ∧ v70 = .int .i64 j ∧ ∃ cs' o', Outs cs' nd o' ∧ (∀ x, x ≠ i → o' x = o x) ∧ -1 ≤ o' i ∧ o' i < np ∧ decide (0 ≤ o' i) = anyTo (fun x => q (l.getD x 0)) j ∧ St wA wr [(bx, dc, 79), (X, cs', 3)]
/-- What Settle returns. -/
def SettlePost (D : Nat → Dbt) (nd : Nat) (P : Nat → Pay) (np : Nat) (m : Int) (w : World) (e : Ending) (w' : World) : Prop :=
  Below w.heap.size w w' ∧ ((validB D nd P np m = false ∧ e = .returned (.tuple #[.slice none 0 0, .int .i64 1])) ∨
    (validB D nd P np m = true ∧ ∃ b cs o, e = .returned (.tuple #[.slice (some ⟨b, 0, none⟩) nd nd, .int .i64 0]) ∧ w'.heap[b]? = some (.cells cs 3 (0, 0)) ∧ Outs cs nd o ∧
      ∀ x, x < nd → decide (0 ≤ o x) = anyTo (fun k => setB (D x) (P k) m) np))
set_option maxRecDepth 100000 in
set_option maxHeartbeats 1000000 in
theorem settle_no (A : Option Addr) (nd c : Nat) (D : Nat → Dbt) (B0 : Option Addr) (np d : Nat) (P : Nat → Pay) (m : Int) (w : World) (hd : DbtsAt w A nd D) (hp : PaysAt w B0 np P) (hv : validB D nd P np m = false) :
    Calls Try.prog 22 #[.slice A nd c, .slice B0 np d, .int .i64 m] w (SettlePost D nd P np m w) := by
  have C0 := Lib.hid (hv ▸ valid_any A nd c D B0 np d P m w hd hp)
  have HV := Lib.hid hv
  clear hv hd hp
  go_enter Try.func22, Try.ntmps22
  go_wp2_with fail
  refine (C0.out).mono ?_
  rintro e' w1 ⟨rfl, h⟩
  go_wp2
  refine bodyPost_ret (v := .tuple #[.slice none 0 0, .int .i64 1]) (by simp [results, Try.results22, go_sem, *]) rfl ⟨h, .inl ⟨HV.out, rfl⟩⟩

set_option maxRecDepth 100000 in
set_option maxHeartbeats 4000000 in
theorem settle_yes (A : Option Addr) (nd c : Nat) (D : Nat → Dbt) (B0 : Option Addr) (np d : Nat) (P : Nat → Pay) (m : Int) (w : World) (hd : DbtsAt w A nd D) (hp : PaysAt w B0 np P) (hv : validB D nd P np m = true) :
    Calls Try.prog 22 #[.slice A nd c, .slice B0 np d, .int .i64 m] w (SettlePost D nd P np m w) := by
  have C0 := Lib.hid (fun W (h : Below w.heap.size w W) => hv ▸ valid_any A nd c D B0 np d P m W (hd.later h) (hp.later h))
  have hn0 : nd ≤ 1000 ∧ np ≤ 1000 := by
    simp only [validB, Bool.and_eq_true, decide_eq_true_eq] at hv
    omega
  have hn1 : np ≤ 1000 := hn0.2
  replace hn0 : nd ≤ 1000 := hn0.1
  have HP := Lib.hid (show ∀ j, j < np → clsB (P j).k (P j).t (P j).f = true from fun j hj => by
    simp only [validB, Bool.and_eq_true, decide_eq_true_eq] at hv
    have := allTo_iff.1 hv.2 j hj
    simp only [payB, Bool.and_eq_true] at this
    exact this.1)
  have HDc := Lib.hid (show ∀ j, j < nd → clsB (D j).k (D j).t (D j).f = true from fun j hj => by
    simp only [validB, Bool.and_eq_true, decide_eq_true_eq] at hv
    have := allTo_iff.1 hv.1.2 j hj
    simp only [dbtB, Bool.and_eq_true] at this
    exact this.1.1.1.1)
  have HV := Lib.hid hv
  clear hv
  have hmm := @run_makeMap Try.prog
  go_enter Try.func22, Try.ntmps22
  go_wp2_with fail
  refine (C0.out _ (Below.refl _ _)).mono ?_
  rintro e' w1 ⟨rfl, h⟩
  have hb1 : Below w.heap.size w w1 := h
  clear h
  go_wp2_with fail
  have g0 := Grp.start P w1
  have hbB := hb1.alloc hb1.size (.map #[] 0)
  generalize hX : World.alloc w1 _ = X at g0 hbB ⊢
  have hsX : X.heap.size = w1.heap.size + 1 := by rw [← hX]; simp
  have hlB : w.heap.size ≤ w1.heap.size := hb1.size
  have g1 := g0.wide (Nat.le_refl _) (by omega)
  rw [← hsX] at g1
  clear hX hmm g0 hb1
  go_loopw [26] (GRel P np w w1.heap.size) (fun v _ => np - (intOf v).toNat)
  case atStart => exact ⟨0, by omega, rfl, hbB, g1⟩
  case round =>
    clear hbB g1
    obtain ⟨k, hk, rfl, hbel, hG⟩ := hrel
    by_cases hlt : k < np
    · obtain ⟨ad, rfl, hb0, c0, c1, c2, c3⟩ := (hp.later hbel) k hlt
      have hlt' : (k : Int) < np := by omega
      have HC := Lib.hid (HP.out k hlt)
      have HG := Lib.hid hG
      clear hG
      obtain ⟨i0, hi0, hz0, hz1, hz2⟩ := info_parts int_info
      have hlen := idxs_len P (P k).cls k
      go_wp2_with fail
      generalize hX : World.alloc _ _ = X
      have B := St.cast hX ((((St.start wr).alloc _ _).alloc _ _).alloc _ _)
      try simp only [World.size_alloc] at B
      clear hX c0 c1 c2 c3 hb0
      have hB1 := HG.out.1
      obtain ⟨v, born, w4, r1, r2, r3, r4, r5, r6⟩ := (HG.out.below B.below).step HC.out
      have HR6 := Lib.hid r6
      have hr : (Instr.mapEntry 82 (.map (some w1.heap.size)) (.agg #[.int .i64 (P k).k, .int .i64 (P k).t, .int .i64 (P k).f])).run Try.prog X = .ok (.tuple #[v, .int .i64 (born : Int)]) w4 := r1
      clear r1 r6
      have HX := Lib.hid B
      clear B
      have hwX := HX.out.below.size
      have HN := Lib.hid ((r2.block _ (lt_of_block HX.out.blks.1) (by simp; omega)).trans HX.out.blks.1)
      have hszX : wr.heap.size + 1 + 1 < X.heap.size := lt_of_block HX.out.blks.1
      have hbw := hbel.size
      have hb4 := (below_step hbel (Nat.le_refl _) HX.out.below).grown r2 (by omega) (fun g hg => by cases hg; exact hlB)
      have HB4 := Lib.hid hb4
      clear hb4 hwX r2
      go_wp2_with (at_builtin; refine wpList_append_own_at _ rfl _ _ 68 rfl (w1.heap.size + 1) 3 i0 _ 1 8 Try.underlying68 hi0 hz0 hz1 hz2 rfl (by decide) _ _ _ rfl r4 ⟨wr.heap.size + 1 + 1, 0, none⟩ 1 1 [.int .i64 (k : Int)] rfl rfl (one_cell HN.out) (by intro u hu; simp at hu; rcases hu with rfl; rfl) (by simp only [maxLen]; omega) (by omega) (by omega) ?_; intro v' w5 hown' hgrow _ hat)
      obtain ⟨w6, s1, s2, s3⟩ := HR6.out v' w4 w5 (Below.refl _ _) hgrow hown' (hat.imp id fun q => ⟨_, q, Nat.le_refl _⟩)
      have hb5 := HB4.out.grown hgrow HB4.out.size (fun g hg => by have := r5 g hg; omega)
      have hb6 := hb5.grown s2 hb5.size (fun g hg => by cases hg; exact hlB)
      have HS := Lib.hid s3
      clear hgrow hown' hat s2 s3 r4 r5 hb5
      rw [s1]
      clear s1
      go_wp2
      exact ⟨⟨k + 1, by omega, by go_num, hb6, HS.out⟩, by simp [intOf]; omega⟩
    · obtain rfl : k = np := by omega
      obtain ⟨wA, rfl⟩ : ∃ x, x = wr := ⟨_, rfl⟩
      have HG := Lib.hid hG
      clear hG
      obtain ⟨i0, hi0, hz0, hz1, hz2⟩ := info_parts int_info
      obtain ⟨cs0, hcs0, hmk⟩ := make_ints nd wA (by omega)
      clear hi0 hz0 hz1 hz2
      go_wp2_with fail
      have B := (St.start wA).alloc cs0 3
      generalize hX : World.alloc wA _ = X at B ⊢
      have hXs : wA.heap.size < X.heap.size := lt_of_block B.blks.1
      clear hX hmk
      go_loopw [52] (ORel D nd P k m wA wA.heap.size) (fun v _ => nd - (intOf v).toNat)
      case atStart => exact ⟨0, by omega, rfl, cs0, fun _ => 0, hcs0, fun x hx => absurd hx (by omega), B⟩
      case round =>
        clear B hXs
        obtain ⟨i, hi, rfl, cs, o, ho, hall, B⟩ := hrel
        have hbw := below_step hbel (Nat.le_refl _) B.below
        by_cases hlt : i < nd
        · obtain ⟨ad, rfl, hb0, c0, c1, c2, c3, c4, c5⟩ := (hd.later hbw) i hlt
          have hlt' : (i : Int) < nd := by omega
          have R := B.rules
          simp only [Rules] at R
          have hcs : cs.size = nd := ho.1
          have HO := Lib.hid ho
          clear ho
          go_wp2_with fail
          generalize hX2 : World.alloc _ _ = X2
          replace B := St.cast hX2 ((B.set wA.heap.size i (.int .i64 (-1)) (Nat.le_refl _)).alloc _ _)
          simp only [setIn, if_true, World.size_setCell] at B
          have hxA : wA.heap.size < wr.heap.size := R.1.2.2
          clear hX2 R c0 c1 c2 c3 c4 c5 hb0
          obtain ⟨Al, cap, hlk, hrow, hT⟩ := (HG.out.below B.below).look (c := (D i).cls) (HDc.out i hlt)
          have hlk' : (Instr.lookup 82 (.map (some w1.heap.size)) (.agg #[.int .i64 (D i).k, .int .i64 (D i).t, .int .i64 (D i).f]) false).run Try.prog X2 = .ok (.slice Al (idxs P (D i).cls k).length cap) X2 := hlk
          have HRow := Lib.hid (show ∀ j, j < (idxs P (D i).cls k).length → ∃ g, Al = some ⟨g, 0, none⟩ ∧ g < wA.heap.size ∧ wA.cell? ⟨g, j, none⟩ = some (.int .i64 ((idxs P (D i).cls k).getD j 0 : Nat)) from fun j hj => by
            obtain ⟨g, q1, _, q3⟩ := hrow j hj
            exact ⟨g, q1, hT g q1, (B.below.cell (p := ⟨g, j, none⟩) (hT g q1)).symm.trans q3⟩)
          have HIl := Lib.hid (show ∀ j, j < (idxs P (D i).cls k).length → (idxs P (D i).cls k).getD j 0 < k from fun j hj => by
            have : (idxs P (D i).cls k).getD j 0 ∈ idxs P (D i).cls k := by
              rw [List.getD_eq_getElem?_getD, List.getElem?_eq_getElem hj]
              exact List.getElem_mem hj
            exact (idxs_lt this).1)
          have HAny := Lib.hid (any_idx (P := P) (n := k) (d := D i) (m := m))
          have hll := idxs_len P (D i).cls k
          clear hlk hrow hT
          generalize idxs P (D i).cls k = l at hlk' HRow HIl HAny hll
          rw [hlk']
          clear hlk'
          have ho2 := Lib.hid (HO.out.set (i := i) (-1))
          have HAll := Lib.hid hall
          clear hall HO hcs
          have hbx : wA.heap.size < wr.heap.size := hxA
          generalize wr.heap.size = bx at B hbx ⊢
          go_wp2_with fail
          go_loopw [70] (IRel (fun x => inR (P x).a (D i).lo (min (D i).hi m)) l nd k i o wA wA.heap.size bx #[.int .i64 (D i).k, .int .i64 (D i).t, .int .i64 (D i).f, .int .i64 (D i).lo, .int .i64 (D i).hi, .int .i64 (D i).p]) (fun v _ => l.length - (intOf v).toNat)
          case atStart => exact ⟨0, by omega, rfl, _, _, ho2.out, fun x hx => if_neg hx, by simp, by simp; omega, by simp [anyTo], B⟩
          case round =>
            clear B ho2
            obtain ⟨j, hj, rfl, cs', o', ho', hsame, hlo, hhi, hany, B⟩ := hrel
            have hbw := below_step hbel (Nat.le_refl _) B.below
            have R := B.rules
            simp only [Rules] at R
            have HO := Lib.hid ho'
            have HA := Lib.hid hany
            have HSm := Lib.hid hsame
            clear ho' hany hsame
            by_cases hlj : j < l.length
            · obtain ⟨g, rfl, hg, cg⟩ := HRow.out j hlj
              have cg' := (B.below.cell (p := ⟨g, j, none⟩) hg).trans cg
              have hg' : g < wr.heap.size := by have := B.below.size; omega
              have hκ := HIl.out j hlj
              obtain ⟨q, hq, hNx⟩ : ∃ q, inR (P (l.getD j 0)).a (D i).lo (min (D i).hi m) = q ∧ anyTo (fun x => inR (P (l.getD x 0)).a (D i).lo (min (D i).hi m)) (j + 1) = (anyTo (fun x => inR (P (l.getD x 0)).a (D i).lo (min (D i).hi m)) j || q) := ⟨_, rfl, rfl⟩
              have HNx := Lib.hid hNx
              clear hNx
              generalize l.getD j 0 = κ at cg cg' hκ hq
              obtain ⟨pd, rfl, hp0, p0, p1, p2, p3⟩ := (hp.later hbw) κ hκ
              have hlj' : (j : Int) < l.length := by omega
              have hκ' : (κ : Int) < k := by omega
              have hci := HO.out.2 i hlt
              clear p0 p1 p2 cg
              obtain ⟨mn, hmn⟩ : ∃ mn, min (D i).hi m = mn := ⟨_, rfl⟩
              have hmc : (m < (D i).hi ∧ m = mn) ∨ ((D i).hi ≤ m ∧ (D i).hi = mn) := by omega
              rw [hmn] at hq
              have C1 := Lib.hid (fun W => hq ▸ within_any (P κ).a (D i).lo mn W)
              clear hmn hq
              cases q with
              | false =>
                have HQ := Lib.hid (HA.out.trans (HNx.out.trans (Bool.or_false _)).symm)
                clear HNx
                rcases hmc with ⟨hmm, hmn⟩ | ⟨hmm, hmn⟩
                all_goals
                  subst hmn
                  go_wp2_with fail
                  refine (C1.out _).mono ?_
                  rintro e' w9 ⟨rfl, h⟩
                  replace B := B.later h
                  clear h R
                  go_wp2
                  exact ⟨⟨j + 1, by omega, by go_num, cs', o', HO.out, HSm.out, hlo, hhi, HQ.out, B⟩, by simp [intOf]; omega⟩
              | true =>
                have HQ := Lib.hid (HNx.out.trans (Bool.or_true _))
                have hst : ∀ w9, St wA w9 [(bx, #[.int .i64 (D i).k, .int .i64 (D i).t, .int .i64 (D i).f, .int .i64 (D i).lo, .int .i64 (D i).hi, .int .i64 (D i).p], 79), (wA.heap.size, cs', 3)] →
                    IRel (fun x => inR (P x).a (D i).lo (min (D i).hi m)) l nd k i o wA wA.heap.size bx #[.int .i64 (D i).k, .int .i64 (D i).t, .int .i64 (D i).f, .int .i64 (D i).lo, .int .i64 (D i).hi, .int .i64 (D i).p] (.int .i64 ((j : Int) + 1)) (w9.setCell ⟨wA.heap.size, i, none⟩ (.int .i64 (κ : Int))) := fun w9 B9 => by
                  have B2 := B9.set wA.heap.size i (.int .i64 (κ : Int)) (Nat.le_refl _)
                  have hne : ¬ bx = wA.heap.size := by omega
                  simp only [setIn, if_true, if_neg hne] at B2
                  exact ⟨j + 1, by omega, by go_num, _, _, HO.out.set (κ : Int), fun x hx => by rw [if_neg hx]; exact HSm.out x hx, by rw [if_pos rfl]; omega, by rw [if_pos rfl]; omega, by rw [HQ.out]; simp, B2⟩
                have HST := Lib.hid hst
                clear HNx HA hst
                by_cases ho : o' i < 0
                · rcases hmc with ⟨hmm, hmn⟩ | ⟨hmm, hmn⟩
                  all_goals
                    subst hmn
                    go_wp2_with fail
                    refine (C1.out _).mono ?_
                    rintro e' w9 ⟨rfl, h⟩
                    replace B := B.later h
                    replace R := B.rules
                    simp only [Rules] at R
                    clear h
                    go_wp2
                    exact ⟨HST.out _ B, by simp [intOf]; omega⟩
                · obtain ⟨r, hr⟩ := Int.eq_ofNat_of_zero_le (Int.not_lt.1 ho)
                  have hrk : r < k := by omega
                  have hrk' : (r : Int) < k := by omega
                  have HQ2 := Lib.hid (show decide (0 ≤ o' i) = anyTo (fun x => inR (P (l.getD x 0)).a (D i).lo (min (D i).hi m)) (j + 1) from by rw [HQ.out]; simp; omega)
                  rw [hr] at hci
                  have HR := Lib.hid hr
                  clear hr
                  by_cases hlt2 : (P κ).a < (P r).a
                  · rcases hmc with ⟨hmm, hmn⟩ | ⟨hmm, hmn⟩
                    all_goals
                      subst hmn
                      go_wp2_with fail
                      refine (C1.out _).mono ?_
                      rintro e' w9 ⟨rfl, h⟩
                      replace B := B.later h
                      replace R := B.rules
                      simp only [Rules] at R
                      obtain ⟨pd', e, hr0, r0, r1, r2, r3⟩ := (hp.later (below_step hbel (Nat.le_refl _) B.below)) r hrk
                      obtain rfl := Option.some.inj e
                      clear h e r0 r1 r2
                      go_wp2
                      exact ⟨HST.out _ B, by simp [intOf]; omega⟩
                  · rcases hmc with ⟨hmm, hmn⟩ | ⟨hmm, hmn⟩
                    all_goals
                      subst hmn
                      go_wp2_with fail
                      refine (C1.out _).mono ?_
                      rintro e' w9 ⟨rfl, h⟩
                      replace B := B.later h
                      replace R := B.rules
                      simp only [Rules] at R
                      obtain ⟨pd', e, hr0, r0, r1, r2, r3⟩ := (hp.later (below_step hbel (Nat.le_refl _) B.below)) r hrk
                      obtain rfl := Option.some.inj e
                      clear h e r0 r1 r2
                      go_wp2
                      exact ⟨⟨j + 1, by omega, by go_num, cs', o', HO.out, HSm.out, hlo, hhi, HQ2.out, B⟩, by simp [intOf]; omega⟩
            · obtain rfl : j = l.length := by omega
              have HF := Lib.hid (HA.out.trans HAny.out)
              go_wp2
              refine ⟨⟨i + 1, by omega, by go_num, cs', o', HO.out, fun x hx => ?_, B.below, B.blks.2.1, trivial⟩, by simp [intOf]; omega⟩
              by_cases ex : x = i
              · subst ex
                exact ⟨hlo, hhi, HF.out⟩
              · rw [HSm.out x ex]
                exact HAll.out x (by omega)
        · obtain rfl : i = nd := by omega
          have HAll := Lib.hid hall
          have HOo := Lib.hid ho
          clear hall ho
          go_wp2
          refine bodyPost_ret (v := .tuple #[.slice (some ⟨wA.heap.size, 0, none⟩) i i, .int .i64 0]) (by simp [results, Try.results22, go_sem, *]) rfl ⟨hbw, .inr ⟨HV.out, _, cs, o, rfl, B.blks.1, HOo.out, fun x hx => (HAll.out x hx).2.2⟩⟩

theorem settle_any (A : Option Addr) (nd c : Nat) (D : Nat → Dbt) (B0 : Option Addr) (np d : Nat) (P : Nat → Pay) (m : Int) (w : World) (hd : DbtsAt w A nd D) (hp : PaysAt w B0 np P) :
    Calls Try.prog 22 #[.slice A nd c, .slice B0 np d, .int .i64 m] w (SettlePost D nd P np m w) := by
  cases hv : validB D nd P np m with
  | false => exact settle_no A nd c D B0 np d P m w hd hp hv
  | true => exact settle_yes A nd c D B0 np d P m w hd hp hv
end Go.Proofs.Ytilfebopeeimnaa
