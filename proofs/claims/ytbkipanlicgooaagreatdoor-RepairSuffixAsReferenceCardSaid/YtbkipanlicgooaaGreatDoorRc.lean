/-
  The reference's payments: a payment put at its place. No conditions but those in each statement.
-/
import Derived.Test.YtbkipanlicgooaaGreatDoorRb
namespace Go.Proofs.YtbkipanlicgooaaGreatDoor
open Go.RowKit

theorem info45' : (Tryz.prog.info? 45).map (fun i => (i.zero, i.size, i.bytes)) = some (some (.agg #[.int .i64 0, .int .i64 0, .int .i64 0, .int .i64 0]), 4, 32) := by kernel_rfl
/-- The last ones of a row, where the slice operation says. -/
theorem rows_last {α : Type} {W : World} {A : Option Addr} {sz c k : Nat} {g : α → Nat → Int} {l : List α} (hc : l.length ≤ c) (h : RowsAt W A sz g l) : RowsAt W (if c = k then A else A.map (fun x => x.add (k * sz))) sz g (l.drop k) := by
  split
  · rename_i e
    rw [List.drop_eq_nil_of_le (by omega)]
    intro i x hx
    cases i <;> cases hx
  · rcases A with _ | ad
    · have := RowsAt.none h
      subst this
      intro i x hx
      simp at hx
    · exact rows_drop k h
theorem join_eq {W : World} {base e m n n' : Nat} {v : Value} {l : List Pay} {p : Pay} {k : Nat} (h : W.ownsRow base e 4 v n ([] ++ rowL Pay.g 4 (l.take k) ++ [.int .i64 (Pay.g p 0), .int .i64 (Pay.g p 1), .int .i64 (Pay.g p 2), .int .i64 (Pay.g p 3)] ++ rowL Pay.g 4 (l.drop k))) (_hm : m = l.length) (hn : n = n') : W.ownsRow base e 4 v n' (rowL Pay.g 4 (l.take k ++ p :: l.drop k)) := by
  subst hn
  rw [rowL_app]
  simpa [rowL, rowC, List.range, List.range.loop] using h
set_option maxRecDepth 100000 in
set_option maxHeartbeats 8000000 in
theorem r19_in (p : Pay) (l : List Pay) (n : Nat) (hn : n = l.length) (hl : n ≤ 100) (k : Nat) (hk : k ≤ n) (A : Option Addr) (c : Nat) (hc : n ≤ c) (tb : Nat) (w : World) (L : List (Nat × Array Value × TypeId)) (hL : ∀ W, Blks W L → RowsAt W A 4 Pay.g l ∧ Blks W [(tb, #[.int .i64 (Pay.g p 0), .int .i64 (Pay.g p 1), .int .i64 (Pay.g p 2), .int .i64 (Pay.g p 3)], 45)]) {Q : Exit → Act → World → Prop} (u0 u1 u2 u3 u4 u5 u6 u8 u10 u11 u13 u14 u15 u16 u17 u18 u19 u20 u21 u22 u23 u24 u25 u26 u27 u28 u29 u30 u31 u32 u33 u34 u35 u36 u37 u38 u39 u40 u41 u42 u43 u44 u45 u46 u47 u48 u49 u50 u51 u52 u53 u54 u55 u56 u57 u58 u59 u60 u61 u62 u63 u64 u65 u66 u67 u68 u69 u70 u71 u72 u73 u74 u75 u76 u77 u78 u79 u80 u81 u82 u83 u84 u85 u86 u87 u88 u89 u90 u91 u92 u93 u94 u95 u96 u97 u98 u99 u100 u101 u102 u103 u104 u105 : Value) (X : World) (B : St w X L)
    (hQ : ∀ (v93 v94 v95 v96 v97 v98 v99 v100 v101 v102 v103 v104 : Value) (Z : Option Addr) (n' c' : Nat) (W' : World), n' = n + 1 → W'.ownsRow w.heap.size 45 4 (.slice Z n' c') n' (rowL Pay.g 4 (l.take k ++ p :: l.drop k)) → NoOwn (.slice Z n' c') L → St w W' L → Q .normal ⟨#[u0, u1, u2, u3, u4, u5, u6, (.slice Z n' c'), u8, .pointer (some ⟨tb, 0, none⟩), u10, u11, .int .i64 (k : Nat), u13, u14, u15, u16, u17, u18, u19, u20, u21, u22, u23, u24, u25, u26, u27, u28, u29, u30, u31, u32, u33, u34, u35, u36, u37, u38, u39, u40, u41, u42, u43, u44, u45, u46, u47, u48, u49, u50, u51, u52, u53, u54, u55, u56, u57, u58, u59, u60, u61, u62, u63, u64, u65, u66, u67, u68, u69, u70, u71, u72, u73, u74, u75, u76, u77, u78, u79, u80, u81, u82, u83, u84, u85, u86, u87, u88, u89, u90, u91, u92, v93, v94, v95, v96, v97, v98, v99, v100, v101, v102, v103, v104, u105], []⟩ W') :
    Code.wp Tryz.prog (codeAt Tryz.f18 [1, 1, 0, 1, 0, 0, 1, 0, 0, 1, 1, 1, 1, 1, 1, 1, 1, 1, 0]) Q ⟨#[u0, u1, u2, u3, u4, u5, u6, .slice A n c, u8, .pointer (some ⟨tb, 0, none⟩), u10, u11, .int .i64 (k : Nat), u13, u14, u15, u16, u17, u18, u19, u20, u21, u22, u23, u24, u25, u26, u27, u28, u29, u30, u31, u32, u33, u34, u35, u36, u37, u38, u39, u40, u41, u42, u43, u44, u45, u46, u47, u48, u49, u50, u51, u52, u53, u54, u55, u56, u57, u58, u59, u60, u61, u62, u63, u64, u65, u66, u67, u68, u69, u70, u71, u72, u73, u74, u75, u76, u77, u78, u79, u80, u81, u82, u83, u84, u85, u86, u87, u88, u89, u90, u91, u92, u93, u94, u95, u96, u97, u98, u99, u100, u101, u102, u103, u104, u105], []⟩ X := by
  show Code.wp Tryz.prog (Code.region _ _ _) _ _ _
  dsimp only
  have HQ := Lib.hid hQ
  have HN := Lib.hid hn
  obtain ⟨i0, hi0, hz0, hz1, hz2⟩ := info_parts info45'
  obtain ⟨AD, hAD⟩ : ∃ AD, (if c = k then A else A.map (fun x => x.add (k * 4))) = AD := ⟨_, rfl⟩
  have hrow : ∀ W, Blks W L → RowsAt W AD 4 Pay.g (l.drop k) := fun W hW => hAD ▸ rows_last (by omega) (hL W hW).1
  have hA0 : A = none → l = [] := fun e => RowsAt.none (by have h := (hL _ B.blks).1; rw [e] at h; exact h)
  have hA1 : A = none → l.take k = [] := fun e => by rw [hA0 e, List.take_nil]
  have hA2 : AD = none → l.drop k = [] := fun e => RowsAt.none (by have h := hrow _ B.blks; rw [e] at h; exact h)
  clear hQ hA0
  have hX := B.below.size
  have hk1 : (k : Int) ≤ n := by omega
  have hk2 : (k : Int) ≤ c := by omega
  have hk3 : (n : Int) ≤ c := by omega
  have hk4 : (0 : Int) ≤ k := by omega
  have hk5 : (0 : Int) ≤ n := by omega
  have htk : (l.take k).length = k := by rw [List.length_take]; omega
  have hdk : (l.drop k).length = n - k := by rw [List.length_drop]; omega
  have hev1 : (Value.slice A k c) = .slice A (l.take k).length c := by rw [htk]
  have hev1 : (Value.slice A k c) = .slice A (l.take k).length c := by rw [htk]
  have hev2 : (Value.slice AD (n - k) (c - k)) = .slice AD (l.drop k).length (c - k) := by rw [hdk]
  clear hn
  have Z := (hL _ (B.blks)).2.rules; simp only [Rules] at Z; have e0 : World.cell? X ⟨tb, 0, none⟩ = some (.int .i64 (Pay.g p 0)) := Z.1.1 0; have e1 : World.cell? X ⟨tb, 1, none⟩ = some (.int .i64 (Pay.g p 1)) := Z.1.1 1; have e2 : World.cell? X ⟨tb, 2, none⟩ = some (.int .i64 (Pay.g p 2)) := Z.1.1 2; have e3 : World.cell? X ⟨tb, 3, none⟩ = some (.int .i64 (Pay.g p 3)) := Z.1.1 3; clear Z
  go_region_held3 (fun (Y : World) => World.cell? Y ⟨tb, 0, none⟩ = some (.int .i64 (Pay.g p 0)) ∧ World.cell? Y ⟨tb, 1, none⟩ = some (.int .i64 (Pay.g p 1)) ∧ World.cell? Y ⟨tb, 2, none⟩ = some (.int .i64 (Pay.g p 2)) ∧ World.cell? Y ⟨tb, 3, none⟩ = some (.int .i64 (Pay.g p 3)))
    (with_reducible first | exact ⟨e0, e1, e2, e3⟩ | exact ⟨keep_dr e0, keep_dr e1, keep_dr e2, keep_dr e3⟩ | exact ⟨keep_dr (keep_al e0), keep_dr (keep_al e1), keep_dr (keep_al e2), keep_dr (keep_al e3)⟩ | exact ⟨keep_dr (keep_al (keep_al e0)), keep_dr (keep_al (keep_al e1)), keep_dr (keep_al (keep_al e2)), keep_dr (keep_al (keep_al e3))⟩ | exact ⟨keep_al e0, keep_al e1, keep_al e2, keep_al e3⟩)
    (first
      | (refine ite_yes (by kernel_rfl) ?_; (with_reducible refine oper_at (B.skip (.cells #[] 45)).drew 97 ?_); (refine @oper_join Tryz.prog Pay w _ _ (B.skip (.cells #[] 45)).drew _ _ _ _ (.tmp 93) (.tmp 96) 25 45 rfl i0 _ 4 32 Tryz.underlying25 hi0 hz0 hz1 hz2 rfl (by decide) (.slice (some ⟨X.heap.size, 0, none⟩) 0 0) 0 [] rfl (own_of_blk (blk_new X (.cells #[] 45)) (by omega) 4) (noown_at (Nat.le_refl _) B.blks) A c Pay.g (l.take k) rfl (rows_take k (hL _ (B.skip (.cells #[] 45)).drew.blks).1) hA1 (by simp only [maxLen]; omega) (by omega) ?_); intro v2 w2 hown hno B2; (try simp only [alloc_size] at B2 hno); clear e0 e1 e2 e3; have Z := (hL _ (B2.blks)).2.rules; simp only [Rules] at Z; have e0 : World.cell? w2 ⟨tb, 0, none⟩ = some (.int .i64 (Pay.g p 0)) := Z.1.1 0; have e1 : World.cell? w2 ⟨tb, 1, none⟩ = some (.int .i64 (Pay.g p 1)) := Z.1.1 1; have e2 : World.cell? w2 ⟨tb, 2, none⟩ = some (.int .i64 (Pay.g p 2)) := Z.1.1 2; have e3 : World.cell? w2 ⟨tb, 3, none⟩ = some (.int .i64 (Pay.g p 3)) := Z.1.1 3; clear Z)
      | (refine ite_yes (by kernel_rfl) ?_; (with_reducible refine oper_at ((B.skip (.cells #[] 45)).alloc #[.int .i64 (Pay.g p 0), .int .i64 (Pay.g p 1), .int .i64 (Pay.g p 2), .int .i64 (Pay.g p 3)] 45).drew 97 ?_); (refine @oper_join Tryz.prog Pay w _ _ ((B.skip (.cells #[] 45)).alloc #[.int .i64 (Pay.g p 0), .int .i64 (Pay.g p 1), .int .i64 (Pay.g p 2), .int .i64 (Pay.g p 3)] 45).drew _ _ _ _ (.tmp 93) (.tmp 96) 25 45 rfl i0 _ 4 32 Tryz.underlying25 hi0 hz0 hz1 hz2 rfl (by decide) (.slice (some ⟨X.heap.size, 0, none⟩) 0 0) 0 [] rfl (own_of_blk (blk_old (blk_new X (.cells #[] 45)) _) (by omega) 4) ⟨by simp [Value.ownBlock], noown_at (Nat.le_refl _) B.blks⟩ A c Pay.g (l.take k) rfl (rows_take k (hL _ ((B.skip (.cells #[] 45)).alloc #[.int .i64 (Pay.g p 0), .int .i64 (Pay.g p 1), .int .i64 (Pay.g p 2), .int .i64 (Pay.g p 3)] 45).drew.blks.2).1) hA1 (by simp only [maxLen]; omega) (by omega) ?_); intro v2 w2 hown hno B2; (try simp only [alloc_size] at B2 hno); clear e0 e1 e2 e3; have Z := (hL _ (B2.blks.2)).2.rules; simp only [Rules] at Z; have e0 : World.cell? w2 ⟨tb, 0, none⟩ = some (.int .i64 (Pay.g p 0)) := Z.1.1 0; have e1 : World.cell? w2 ⟨tb, 1, none⟩ = some (.int .i64 (Pay.g p 1)) := Z.1.1 1; have e2 : World.cell? w2 ⟨tb, 2, none⟩ = some (.int .i64 (Pay.g p 2)) := Z.1.1 2; have e3 : World.cell? w2 ⟨tb, 3, none⟩ = some (.int .i64 (Pay.g p 3)) := Z.1.1 3; clear Z)
      | (refine ite_yes (by kernel_rfl) ?_; (with_reducible refine oper_at ((B.alloc #[.int .i64 (Pay.g p 0), .int .i64 (Pay.g p 1), .int .i64 (Pay.g p 2), .int .i64 (Pay.g p 3)] 45).skip (.cells #[] 45)).drew 97 ?_); (refine @oper_join Tryz.prog Pay w _ _ ((B.alloc #[.int .i64 (Pay.g p 0), .int .i64 (Pay.g p 1), .int .i64 (Pay.g p 2), .int .i64 (Pay.g p 3)] 45).skip (.cells #[] 45)).drew _ _ _ _ (.tmp 93) (.tmp 96) 25 45 rfl i0 _ 4 32 Tryz.underlying25 hi0 hz0 hz1 hz2 rfl (by decide) (.slice (some ⟨X.heap.size + 1, 0, none⟩) 0 0) 0 [] rfl (own_of_blk (blk_at (X.alloc (.cells #[.int .i64 (Pay.g p 0), .int .i64 (Pay.g p 1), .int .i64 (Pay.g p 2), .int .i64 (Pay.g p 3)] 45)) (.cells #[] 45) (X.heap.size + 1) (alloc_size _ _).symm) (by omega) 4) (noown_at (Nat.le_of_eq (alloc_size _ _)) (B.alloc #[.int .i64 (Pay.g p 0), .int .i64 (Pay.g p 1), .int .i64 (Pay.g p 2), .int .i64 (Pay.g p 3)] 45).blks) A c Pay.g (l.take k) rfl (rows_take k (hL _ ((B.alloc #[.int .i64 (Pay.g p 0), .int .i64 (Pay.g p 1), .int .i64 (Pay.g p 2), .int .i64 (Pay.g p 3)] 45).skip (.cells #[] 45)).drew.blks.2).1) hA1 (by simp only [maxLen]; omega) (by omega) ?_); intro v2 w2 hown hno B2; (try simp only [alloc_size] at B2 hno); clear e0 e1 e2 e3; have Z := (hL _ (B2.blks.2)).2.rules; simp only [Rules] at Z; have e0 : World.cell? w2 ⟨tb, 0, none⟩ = some (.int .i64 (Pay.g p 0)) := Z.1.1 0; have e1 : World.cell? w2 ⟨tb, 1, none⟩ = some (.int .i64 (Pay.g p 1)) := Z.1.1 1; have e2 : World.cell? w2 ⟨tb, 2, none⟩ = some (.int .i64 (Pay.g p 2)) := Z.1.1 2; have e3 : World.cell? w2 ⟨tb, 3, none⟩ = some (.int .i64 (Pay.g p 3)) := Z.1.1 3; clear Z)
      | (refine ite_yes (by kernel_rfl) ?_; (with_reducible refine oper_at (B2.alloc #[.int .i64 (Pay.g p 0), .int .i64 (Pay.g p 1), .int .i64 (Pay.g p 2), .int .i64 (Pay.g p 3)] 45) 100 ?_); (refine @oper_push Tryz.prog w _ _ (B2.alloc #[.int .i64 (Pay.g p 0), .int .i64 (Pay.g p 1), .int .i64 (Pay.g p 2), .int .i64 (Pay.g p 3)] 45) _ _ _ _ (.tmp 97) (.tmp 99) 25 45 rfl i0 _ 4 32 Tryz.underlying25 hi0 hz0 hz1 hz2 rfl (by decide) _ _ _ rfl (own_alloc hown _) ⟨own_new hown, hno⟩ _ _ [.int .i64 (Pay.g p 0), .int .i64 (Pay.g p 1), .int .i64 (Pay.g p 2), .int .i64 (Pay.g p 3)] rfl rfl (cells_blk (B2.alloc #[.int .i64 (Pay.g p 0), .int .i64 (Pay.g p 1), .int .i64 (Pay.g p 2), .int .i64 (Pay.g p 3)] 45)) (one_cells rfl) (by simp only [maxLen]; omega) (by omega) ?_); intro v3 w3 hown3 hno3 B3; clear e0 e1 e2 e3; have Z := (hL _ (B3.blks.2)).2.rules; simp only [Rules] at Z; have e0 : World.cell? w3 ⟨tb, 0, none⟩ = some (.int .i64 (Pay.g p 0)) := Z.1.1 0; have e1 : World.cell? w3 ⟨tb, 1, none⟩ = some (.int .i64 (Pay.g p 1)) := Z.1.1 1; have e2 : World.cell? w3 ⟨tb, 2, none⟩ = some (.int .i64 (Pay.g p 2)) := Z.1.1 2; have e3 : World.cell? w3 ⟨tb, 3, none⟩ = some (.int .i64 (Pay.g p 3)) := Z.1.1 3; clear Z)
      | (refine ite_yes (by kernel_rfl) ?_; (with_reducible refine oper_at B2 100 ?_); (refine @oper_push Tryz.prog w _ _ B2 _ _ _ _ (.tmp 97) (.tmp 99) 25 45 rfl i0 _ 4 32 Tryz.underlying25 hi0 hz0 hz1 hz2 rfl (by decide) _ _ _ rfl hown hno _ _ [.int .i64 (Pay.g p 0), .int .i64 (Pay.g p 1), .int .i64 (Pay.g p 2), .int .i64 (Pay.g p 3)] rfl rfl (cells_blk B2) (one_cells rfl) (by simp only [maxLen]; omega) (by omega) ?_); intro v3 w3 hown3 hno3 B3; clear e0 e1 e2 e3; have Z := (hL _ (B3.blks.2)).2.rules; simp only [Rules] at Z; have e0 : World.cell? w3 ⟨tb, 0, none⟩ = some (.int .i64 (Pay.g p 0)) := Z.1.1 0; have e1 : World.cell? w3 ⟨tb, 1, none⟩ = some (.int .i64 (Pay.g p 1)) := Z.1.1 1; have e2 : World.cell? w3 ⟨tb, 2, none⟩ = some (.int .i64 (Pay.g p 2)) := Z.1.1 2; have e3 : World.cell? w3 ⟨tb, 3, none⟩ = some (.int .i64 (Pay.g p 3)) := Z.1.1 3; clear Z)
      | (refine ite_yes (by kernel_rfl) ?_; (with_reducible refine oper_at B3 104 ?_); (refine @oper_join Tryz.prog Pay w _ _ B3 _ _ _ _ (.tmp 100) (.tmp 103) 25 45 rfl i0 _ 4 32 Tryz.underlying25 hi0 hz0 hz1 hz2 rfl (by decide) _ _ _ rfl hown3 hno3 AD (c - k) Pay.g (l.drop k) rfl (hrow _ B3.blks.2) hA2 (by simp only [maxLen]; omega) (by omega) ?_); intro v4 w4 hown4 hno4 B4; clear e0 e1 e2 e3; have Z := (hL _ (B4.blks.2)).2.rules; simp only [Rules] at Z; have e0 : World.cell? w4 ⟨tb, 0, none⟩ = some (.int .i64 (Pay.g p 0)) := Z.1.1 0; have e1 : World.cell? w4 ⟨tb, 1, none⟩ = some (.int .i64 (Pay.g p 1)) := Z.1.1 1; have e2 : World.cell? w4 ⟨tb, 2, none⟩ = some (.int .i64 (Pay.g p 2)) := Z.1.1 2; have e3 : World.cell? w4 ⟨tb, 3, none⟩ = some (.int .i64 (Pay.g p 3)) := Z.1.1 3; clear Z))
  all_goals
    show Q _ _ _
    obtain ⟨SA4, sc4, rfl⟩ := own_slice hown4
    have hnn : 0 + (l.take k).length + 1 + (l.drop k).length = n + 1 := by omega
    rw [hnn] at hno4 hown4 ⊢
    exact HQ.out _ _ _ _ _ _ _ _ _ _ _ _ SA4 (n + 1) sc4 _ rfl (join_eq hown4 HN.out rfl) hno4.2 ⟨B4.below, B4.blks.2⟩
end Go.Proofs.YtbkipanlicgooaaGreatDoor
namespace Go.Proofs.YtbkipanlicgooaaGreatDoor
open Go.RowKit

theorem NoOwn.snd {v : Value} : ∀ {L M : List (Nat × Array Value × TypeId)}, NoOwn v (L ++ M) → NoOwn v M
  | [], _, h => h
  | _ :: L, _, h => NoOwn.snd (L := L) h.2
set_option maxRecDepth 100000 in
set_option maxHeartbeats 4000000 in
theorem r18_rest (p : Pay) (l : List Pay) (hl : l.length ≤ 100) (k : Nat) (hk : k = kI p l) (A : Option Addr) (c : Nat) (hc : l.length ≤ c) (tb : Nat) (w : World) (E L0 : List (Nat × Array Value × TypeId)) (hE : HasRow E A 4 Pay.g l) {Q : Exit → Act → World → Prop} (u0 u1 u2 u3 u4 u5 u6 u8 u10 u11 u13 u14 u15 u16 u17 u18 u19 u20 u21 u22 u23 u24 u25 u26 u27 u28 u29 u30 u31 u32 u33 u34 u35 u36 u37 u38 u39 u40 u41 u42 u43 u44 u45 u46 u47 u48 u49 u50 u51 u52 u53 u54 u55 u56 u57 u58 u59 u60 u61 u62 u63 u64 u65 u66 u67 u68 u69 u70 u71 u72 u73 u74 u75 u76 u77 u78 u79 u80 u81 u82 u83 u84 u85 u86 u87 u88 u89 u90 u91 u92 u93 u94 u95 u96 u97 u98 u99 u100 u101 u102 u103 u104 u105 : Value) (X : World) (B : St w X ((tb, #[.int .i64 (Pay.g p 0), .int .i64 (Pay.g p 1), .int .i64 (Pay.g p 2), .int .i64 (Pay.g p 3)], 45) :: (E ++ L0))) (hown : X.ownsRow w.heap.size 45 4 (.slice A l.length c) l.length (rowL Pay.g 4 l)) (hno : NoOwn (.slice A l.length c) L0)
    (hQ : ∀ (v81 v82 v83 v84 v85 v86 v87 v88 v89 v90 v91 v92 v93 v94 v95 v96 v97 v98 v99 v100 v101 v102 v103 v104 : Value) (Z : Option Addr) (n' c' : Nat) (W' : World), n' = (insP p l).length → W'.ownsRow w.heap.size 45 4 (.slice Z n' c') n' (rowL Pay.g 4 (insP p l)) → NoOwn (.slice Z n' c') L0 → St w W' L0 → Q .normal ⟨#[u0, u1, u2, u3, u4, u5, u6, (.slice Z n' c'), u8, .pointer (some ⟨tb, 0, none⟩), u10, u11, .int .i64 (k : Nat), u13, u14, u15, u16, u17, u18, u19, u20, u21, u22, u23, u24, u25, u26, u27, u28, u29, u30, u31, u32, u33, u34, u35, u36, u37, u38, u39, u40, u41, u42, u43, u44, u45, u46, u47, u48, u49, u50, u51, u52, u53, u54, u55, u56, u57, u58, u59, u60, u61, u62, u63, u64, u65, u66, u67, u68, u69, u70, u71, u72, u73, u74, u75, u76, u77, u78, u79, u80, v81, v82, v83, v84, v85, v86, v87, v88, v89, v90, v91, v92, v93, v94, v95, v96, v97, v98, v99, v100, v101, v102, v103, v104, u105], []⟩ W') :
    Code.wp Tryz.prog (codeAt Tryz.f18 [1, 1, 0, 1, 0, 0, 1, 0, 0, 1, 1, 1, 1, 1, 1, 1, 1]) Q ⟨#[u0, u1, u2, u3, u4, u5, u6, .slice A l.length c, u8, .pointer (some ⟨tb, 0, none⟩), u10, u11, .int .i64 (k : Nat), u13, u14, u15, u16, u17, u18, u19, u20, u21, u22, u23, u24, u25, u26, u27, u28, u29, u30, u31, u32, u33, u34, u35, u36, u37, u38, u39, u40, u41, u42, u43, u44, u45, u46, u47, u48, u49, u50, u51, u52, u53, u54, u55, u56, u57, u58, u59, u60, u61, u62, u63, u64, u65, u66, u67, u68, u69, u70, u71, u72, u73, u74, u75, u76, u77, u78, u79, u80, u81, u82, u83, u84, u85, u86, u87, u88, u89, u90, u91, u92, u93, u94, u95, u96, u97, u98, u99, u100, u101, u102, u103, u104, u105], []⟩ X := by
  show Code.wp Tryz.prog (Code.seq _ _) _ _ _
  dsimp only
  have HQ := Lib.hid hQ
  have HO := Lib.hid hown
  have HN := Lib.hid hno
  have hL : ∀ W, Blks W ((tb, #[.int .i64 (Pay.g p 0), .int .i64 (Pay.g p 1), .int .i64 (Pay.g p 2), .int .i64 (Pay.g p 3)], 45) :: (E ++ L0)) → RowsAt W A 4 Pay.g l ∧ Blks W [(tb, #[.int .i64 (Pay.g p 0), .int .i64 (Pay.g p 1), .int .i64 (Pay.g p 2), .int .i64 (Pay.g p 3)], 45)] := fun W hW => ⟨hE W hW.2.fst, hW.1, trivial⟩
  have HL := Lib.hid hL
  have HK := Lib.hid hk
  clear hQ hown hno hE hL hk
  by_cases he : k = l.length
  · have hins : insP p l = l.take k ++ p :: l.drop k := by
      rw [insP_eq, ← HK.out, if_neg]
      rw [he]
      simp
    have hlen : l.length + 1 = (insP p l).length := by rw [hins, he]; simp
    have HI := Lib.hid hins
    have HE := Lib.hid hlen
    have HK2 := Lib.hid (show k ≤ l.length by omega)
    clear hins hlen
    subst he
    go_wp2_with fail
    refine r18_end A l.length c tb X _ _ _ _ _ _ _ _ _ _ _ _ _ _ _ _ _ _ _ _ _ _ _ _ _ _ _ _ _ _ _ _ _ _ _ _ _ _ _ _ _ _ _ _ _ _ _ _ _ _ _ _ _ _ _ _ _ _ _ _ _ _ _ _ _ _ _ _ _ _ _ _ _ _ _ _ _ _ _ _ _ _ _ _ _ _ _ _ _ _ _ _ _ _ _ _ _ _ _ _ _ _ _ ?_
    intro z0 z1 z2 z3 z4 z5 z6 z7 z8 z9 z10 w1 hb1
    replace B := B.later hb1
    dsimp only
    go_wp2_with fail
    refine r19_in p l l.length rfl hl l.length HK2.out A c hc tb w _ HL.out _ _ _ _ _ _ _ _ _ _ _ _ _ _ _ _ _ _ _ _ _ _ _ _ _ _ _ _ _ _ _ _ _ _ _ _ _ _ _ _ _ _ _ _ _ _ _ _ _ _ _ _ _ _ _ _ _ _ _ _ _ _ _ _ _ _ _ _ _ _ _ _ _ _ _ _ _ _ _ _ _ _ _ _ _ _ _ _ _ _ _ _ _ _ _ _ _ _ _ _ _ _ _ w1 B ?_
    intro y0 y1 y2 y3 y4 y5 y6 y7 y8 y9 y10 y11 Z n' c' w2 hn ho hno B2
    refine HQ.out _ _ _ _ _ _ _ _ _ _ _ _ _ _ _ _ _ _ _ _ _ _ _ _ Z n' c' w2 (hn.trans HE.out) ?_ hno.2.snd ⟨B2.below, B2.blks.2.snd⟩
    rw [HI.out]
    exact ho
  · have hlt : k < l.length := by
      have := kI_le p l
      have := HK.out
      omega
    have hx : l[k]? = some l[k] := List.getElem?_eq_getElem hlt
    have HX := Lib.hid hx
    obtain ⟨ad, ha, hA, e0, e⟩ := (HL.out _ B.blks).1 k _ hx
    have e1 := e 1 (by omega) (by omega)
    have e2 := e 2 (by omega) (by omega)
    have e3 := e 3 (by omega) (by omega)
    clear e hx
    generalize l[k] = q at HX e0 e1 e2 e3
    subst ha
    have hb := B.blks.1
    have hin := insP_eq p l
    rw [← HK.out, HX.out] at hin
    by_cases eq : q = p
    · subst eq
      have hi : insP q l = l := by rw [hin, if_pos rfl]
      have HI := Lib.hid hi
      clear hin hi
      go_wp2_with fail
      refine r18_in q q ad l.length k c tb false (by simp) hlt hl X (lt_of_block hb) hA e0 e1 e2 e3 (cell_blk hb 0 _ rfl) (cell_blk hb 1 _ rfl) (cell_blk hb 2 _ rfl) (cell_blk hb 3 _ rfl) _ _ _ _ _ _ _ _ _ _ _ _ _ _ _ _ _ _ _ _ _ _ _ _ _ _ _ _ _ _ _ _ _ _ _ _ _ _ _ _ _ _ _ _ _ _ _ _ _ _ _ _ _ _ _ _ _ _ _ _ _ _ _ _ _ _ _ _ _ _ _ _ _ _ _ _ _ _ _ _ _ _ _ _ _ _ _ _ _ _ _ _ _ _ _ _ _ _ _ _ _ _ _ ?_
      intro z0 z1 z2 z3 z4 z5 z6 z7 z8 z9 z10 w1 hb1
      clear e0 e1 e2 e3 hb hA
      replace B := B.later hb1
      have HO1 := Lib.hid (own_later HO.out hb1)
      dsimp only
      go_wp2_with fail
      refine HQ.out _ _ _ _ _ _ _ _ _ _ _ _ _ _ _ _ _ _ _ _ _ _ _ _ (some ad) l.length c w1 (by rw [HI.out]) ?_ HN.out ⟨B.below, B.blks.2.snd⟩
      rw [HI.out]
      exact HO1.out
    · have hr : true = !(q.k == p.k && q.t == p.t && q.f == p.f && q.a == p.a) := by
        cases hh : (q.k == p.k && q.t == p.t && q.f == p.f && q.a == p.a)
        · rfl
        · exfalso
          apply eq
          cases q
          cases p
          simp at hh
          simp [hh]
      rw [if_neg (fun h => eq (Option.some.inj h))] at hin
      have hlen : l.length + 1 = (insP p l).length := by rw [hin]; simp; omega
      have HI := Lib.hid hin
      have HE := Lib.hid hlen
      have HR := Lib.hid hr
      clear hin hlen hr
      go_wp2_with fail
      refine r18_in p q ad l.length k c tb true HR.out hlt hl X (lt_of_block hb) hA e0 e1 e2 e3 (cell_blk hb 0 _ rfl) (cell_blk hb 1 _ rfl) (cell_blk hb 2 _ rfl) (cell_blk hb 3 _ rfl) _ _ _ _ _ _ _ _ _ _ _ _ _ _ _ _ _ _ _ _ _ _ _ _ _ _ _ _ _ _ _ _ _ _ _ _ _ _ _ _ _ _ _ _ _ _ _ _ _ _ _ _ _ _ _ _ _ _ _ _ _ _ _ _ _ _ _ _ _ _ _ _ _ _ _ _ _ _ _ _ _ _ _ _ _ _ _ _ _ _ _ _ _ _ _ _ _ _ _ _ _ _ _ ?_
      intro z0 z1 z2 z3 z4 z5 z6 z7 z8 z9 z10 w1 hb1
      clear e0 e1 e2 e3 hb hA HR
      replace B := B.later hb1
      dsimp only
      go_wp2_with fail
      refine r19_in p l l.length rfl hl k (by omega) (some ad) c hc tb w _ HL.out _ _ _ _ _ _ _ _ _ _ _ _ _ _ _ _ _ _ _ _ _ _ _ _ _ _ _ _ _ _ _ _ _ _ _ _ _ _ _ _ _ _ _ _ _ _ _ _ _ _ _ _ _ _ _ _ _ _ _ _ _ _ _ _ _ _ _ _ _ _ _ _ _ _ _ _ _ _ _ _ _ _ _ _ _ _ _ _ _ _ _ _ _ _ _ _ _ _ _ _ _ _ _ w1 B ?_
      intro y0 y1 y2 y3 y4 y5 y6 y7 y8 y9 y10 y11 Z n' c' w2 hn ho hno B2
      refine HQ.out _ _ _ _ _ _ _ _ _ _ _ _ _ _ _ _ _ _ _ _ _ _ _ _ Z n' c' w2 (hn.trans HE.out) ?_ hno.2.snd ⟨B2.below, B2.blks.2.snd⟩
      rw [HI.out]
      exact ho
end Go.Proofs.YtbkipanlicgooaaGreatDoor
namespace Go.Proofs.YtbkipanlicgooaaGreatDoor
open Go.RowKit

theorem insP_len (p : Pay) : ∀ l : List Pay, (insP p l).length ≤ l.length + 1
  | [] => by simp [insP]
  | q :: l => by
    rw [insP]
    split
    · have := insP_len p l; simp; exact this
    · split <;> simp
def insS (l : List Pay) : List Pay := l.foldl (fun o p => insP p o) []
def insT (q : Pay → Bool) (l : List Pay) (k : Nat) : List Pay := insS ((l.take k).filter q)
theorem insT_succ {q : Pay → Bool} {l : List Pay} {k : Nat} {x : Pay} (h : l[k]? = some x) : insT q l (k + 1) = if q x then insP x (insT q l k) else insT q l k := by
  unfold insT insS
  rw [filt_succ h, List.foldl_append]
  cases q x <;> rfl
theorem insT_len (q : Pay → Bool) (l : List Pay) (k : Nat) : (insT q l k).length ≤ k := by
  have key : ∀ (m o : List Pay), (m.foldl (fun o p => insP p o) o).length ≤ o.length + m.length := by
    intro m
    induction m with
    | nil => intro o; simp
    | cons x m ih => intro o; have := ih (insP x o); have := insP_len x o; simp; omega
  have h1 := key ((l.take k).filter q) []
  have h2 : ((l.take k).filter q).length ≤ k := Nat.le_trans (List.length_filter_le _ _) (by rw [List.length_take]; omega)
  unfold insT insS
  simp at h1
  omega
def P3 (w : World) (L : List (Nat × Array Value × TypeId)) (q : Pay → Bool) (l : List Pay) (v7 v8 : Value) (wr : World) : Prop :=
  ∃ k : Nat, k ≤ l.length ∧ v8 = .int .i64 k ∧ wr.ownsRow w.heap.size 45 4 v7 (insT q l k).length (rowL Pay.g 4 (insT q l k)) ∧ NoOwn v7 L ∧ St w wr L
set_option maxRecDepth 100000 in
set_option maxHeartbeats 8000000 in
theorem pr_loop (d : Scr) (A1 A2 A3 A4 A5 : Option Addr) (c1 c2 c3 c4 c5 : Nat) (at_ m : Int) (hm0 : 0 ≤ m) (hm : m ≤ 38400) (hu0 : 0 ≤ d.u) (hu : d.u ≤ 38399) (hum : m ≤ d.u) (hn : d.py.length ≤ 100) (w : World) (h : RowsAt w A4 4 Pay.g d.py) {K : Act → World → Prop} {Q : Exit → Act → World → Prop} (u0 u4 u5 u6 u9 u10 u11 u12 u13 u14 u15 u16 u17 u18 u19 u20 u21 u22 u23 u24 u25 u26 u27 u28 u29 u30 u31 u32 u33 u34 u35 u36 u37 u38 u39 u40 u41 u42 u43 u44 u45 u46 u47 u48 u49 u50 u51 u52 u53 u54 u55 u56 u57 u58 u59 u60 u61 u62 u63 u64 u65 u66 u67 u68 u69 u70 u71 u72 u73 u74 u75 u76 u77 u78 u79 u80 u81 u82 u83 u84 u85 u86 u87 u88 u89 u90 u91 u92 u93 u94 u95 u96 u97 u98 u99 u100 u101 u102 u103 u104 u105 : Value) (wr : World) (B : St w wr [(w.heap.size, #[.int .i64 d.f, .int .i64 d.u, .slice A1 d.sp.length c1, .slice A2 d.ov.length c2, .slice A3 d.df.length c3, .slice A4 d.py.length c4, .slice A5 d.fo.length c5], 28)])
    (hK : ∀ (v9 v10 v11 v12 v13 v14 v15 v16 v17 v18 v19 v20 v21 v22 v23 v24 v25 v26 v27 v28 v29 v30 v31 v32 v33 v34 v35 v36 v37 v38 v39 v40 v41 v42 v43 v44 v45 v46 v47 v48 v49 v50 v51 v52 v53 v54 v55 v56 v57 v58 v59 v60 v61 v62 v63 v64 v65 v66 v67 v68 v69 v70 v71 v72 v73 v74 v75 v76 v77 v78 v79 v80 v81 v82 v83 v84 v85 v86 v87 v88 v89 v90 v91 v92 v93 v94 v95 v96 v97 v98 v99 v100 v101 v102 v103 v104 : Value) (v7 : Value) (w' : World), w'.ownsRow w.heap.size 45 4 v7 (insS (d.py.filter (inW d.u at_ m))).length (rowL Pay.g 4 (insS (d.py.filter (inW d.u at_ m)))) → NoOwn v7 [(w.heap.size, #[.int .i64 d.f, .int .i64 d.u, .slice A1 d.sp.length c1, .slice A2 d.ov.length c2, .slice A3 d.df.length c3, .slice A4 d.py.length c4, .slice A5 d.fo.length c5], 28)] → St w w' [(w.heap.size, #[.int .i64 d.f, .int .i64 d.u, .slice A1 d.sp.length c1, .slice A2 d.ov.length c2, .slice A3 d.df.length c3, .slice A4 d.py.length c4, .slice A5 d.fo.length c5], 28)] → K ⟨#[u0, .int .i64 at_, .int .i64 m, .pointer (some ⟨w.heap.size, 0, none⟩), u4, u5, u6, v7, .int .i64 d.py.length, v9, v10, v11, v12, v13, v14, v15, v16, v17, v18, v19, v20, v21, v22, v23, v24, v25, v26, v27, v28, v29, v30, v31, v32, v33, v34, v35, v36, v37, v38, v39, v40, v41, v42, v43, v44, v45, v46, v47, v48, v49, v50, v51, v52, v53, v54, v55, v56, v57, v58, v59, v60, v61, v62, v63, v64, v65, v66, v67, v68, v69, v70, v71, v72, v73, v74, v75, v76, v77, v78, v79, v80, v81, v82, v83, v84, v85, v86, v87, v88, v89, v90, v91, v92, v93, v94, v95, v96, v97, v98, v99, v100, v101, v102, v103, v104, u105], []⟩ w') :
    Code.wp Tryz.prog (codeAt Tryz.f18 [1, 1, 0, 1, 0]) (Exit.inBlock 0 (Exit.then K Q)) ⟨#[u0, .int .i64 at_, .int .i64 m, .pointer (some ⟨w.heap.size, 0, none⟩), u4, u5, u6, .slice none 0 0, .int .i64 0, u9, u10, u11, u12, u13, u14, u15, u16, u17, u18, u19, u20, u21, u22, u23, u24, u25, u26, u27, u28, u29, u30, u31, u32, u33, u34, u35, u36, u37, u38, u39, u40, u41, u42, u43, u44, u45, u46, u47, u48, u49, u50, u51, u52, u53, u54, u55, u56, u57, u58, u59, u60, u61, u62, u63, u64, u65, u66, u67, u68, u69, u70, u71, u72, u73, u74, u75, u76, u77, u78, u79, u80, u81, u82, u83, u84, u85, u86, u87, u88, u89, u90, u91, u92, u93, u94, u95, u96, u97, u98, u99, u100, u101, u102, u103, u104, u105], []⟩ wr := by
  show Code.wp Tryz.prog (Code.loop _) _ _ _
  dsimp only
  have H := Lib.hid h
  have HK := Lib.hid hK
  clear h hK
  go_loopw [7, 8] (P3 w [(w.heap.size, #[.int .i64 d.f, .int .i64 d.u, .slice A1 d.sp.length c1, .slice A2 d.ov.length c2, .slice A3 d.df.length c3, .slice A4 d.py.length c4, .slice A5 d.fo.length c5], 28)] (inW d.u at_ m) d.py) (fun _ v _ => d.py.length - (intOf v).toNat)
  case atStart => exact ⟨0, by omega, rfl, ⟨by simp [insT, insS, rowL], .inl ⟨rfl, by simp [insT, insS]⟩⟩, NoOwn.nil, B⟩
  case round =>
    clear B
    obtain ⟨k, hk, rfl, hown, hno, B⟩ := hrel
    by_cases hlt : k < d.py.length
    rotate_left
    · have Hown := Lib.hid hown
      have Hno := Lib.hid hno
      clear hown hno
      have R := B.rules
      simp only [Rules] at R
      obtain rfl : k = d.py.length := by omega
      have hT : insT (inW d.u at_ m) d.py d.py.length = insS (d.py.filter (inW d.u at_ m)) := by unfold insT; rw [List.take_length]
      rw [hT] at Hown
      clear hT hlt
      go_wp2_with fail
      exact HK.out _ _ _ _ _ _ _ _ _ _ _ _ _ _ _ _ _ _ _ _ _ _ _ _ _ _ _ _ _ _ _ _ _ _ _ _ _ _ _ _ _ _ _ _ _ _ _ _ _ _ _ _ _ _ _ _ _ _ _ _ _ _ _ _ _ _ _ _ _ _ _ _ _ _ _ _ _ _ _ _ _ _ _ _ _ _ _ _ _ _ _ _ _ _ _ _ _ _ Hown.out Hno.out B
    have hfl := insT_len (inW d.u at_ m) d.py k
    have hx : d.py[k]? = some d.py[k] := List.getElem?_eq_getElem hlt
    have HS := Lib.hid (insT_succ (q := (inW d.u at_ m)) hx)
    generalize insT (inW d.u at_ m) d.py k = fl at hown HS hfl
    obtain ⟨A, c, rfl, hcap, hrows⟩ := own_rows (g := Pay.g) (sz := 4) (Nat.succ_pos 3) hown
    have Hown := Lib.hid hown
    have Hno := Lib.hid hno
    have Hrow := Lib.hid hrows
    clear hown hno hrows
    have R := B.rules
    simp only [Rules] at R
    have hlt' : (k : Int) < d.py.length := by omega
    obtain ⟨ad, ha, hl, e0, e⟩ := (H.out.later B.below) k _ hx
    have e1 := e 1 (by omega) (by omega)
    have e2 := e 2 (by omega) (by omega)
    have e3 := e 3 (by omega) (by omega)
    clear e hx
    generalize d.py[k] = x at HS e0 e1 e2 e3
    obtain ⟨xk, xt, xf, xa⟩ := x
    simp only [Pay.g] at e0 e1 e2 e3
    have Hq := Lib.hid (show inW d.u at_ m ⟨xk, xt, xf, xa⟩ = (decide (xa ≤ at_) && (decide (loR xk m ≤ xa) && decide (xa ≤ hiR xk d.u))) from rfl)
    generalize inW d.u at_ m ⟨xk, xt, xf, xa⟩ = r at HS Hq
    subst ha
    by_cases h1 : xk = 1
    · have Hlo := Lib.hid (show loR xk m = m - 96 from by simp [loR, h1])
      have Hhi := Lib.hid (show hiR xk d.u = d.u + 96 from by simp [hiR, h1])
      have g1 : (xk == 1) = true := by simp [h1]
      have g3 : (xk == 3) = false := by simp [h1]
      clear h1
      by_cases q1 : at_ < xa
      · have hr : r = false := by rw [Hq.out, Hlo.out, Hhi.out]; simp; omega
        go_wp2
        exact ⟨⟨k + 1, by omega, by go_num, by rw [HS.out, hr, if_neg Bool.false_ne_true]; exact own_alloc Hown.out _, Hno.out, B.skip _⟩, by simp [intOf]; omega⟩
      by_cases q2 : xa < m - 96
      · have hr : r = false := by rw [Hq.out, Hlo.out, Hhi.out]; simp; omega
        go_wp2
        exact ⟨⟨k + 1, by omega, by go_num, by rw [HS.out, hr, if_neg Bool.false_ne_true]; exact own_alloc Hown.out _, Hno.out, B.skip _⟩, by simp [intOf]; omega⟩
      by_cases q3 : d.u + 96 < xa
      · have hr : r = false := by rw [Hq.out, Hlo.out, Hhi.out]; simp; omega
        go_wp2
        exact ⟨⟨k + 1, by omega, by go_num, by rw [HS.out, hr, if_neg Bool.false_ne_true]; exact own_alloc Hown.out _, Hno.out, B.skip _⟩, by simp [intOf]; omega⟩
      have hr : r = true := by rw [Hq.out, Hlo.out, Hhi.out]; simp; omega
      have HT := Lib.hid (show insT (inW d.u at_ m) d.py (k + 1) = insP ⟨xk, xt, xf, xa⟩ fl from by rw [HS.out, hr, if_pos rfl])
      clear hr Hq HS Hlo Hhi
      go_wp2_with fail
      generalize hX : World.alloc _ _ = X
      have Hown1 := Lib.hid (show X.ownsRow w.heap.size 45 4 (.slice A fl.length c) fl.length (rowL Pay.g 4 fl) from hX ▸ own_alloc Hown.out _)
      replace B := St.cast hX (B.alloc _ _)
      clear hX R Hown Hrow q1 q2 q3 e0 e1 e2 e3 g1 g3
      obtain ⟨A', c', he, _, hrows⟩ := own_rows (g := Pay.g) (sz := 4) (Nat.succ_pos 3) Hown1.out
      cases he
      have Hrows := Lib.hid hrows
      clear hrows
      have hn67 : fl.length ≤ 100 := by omega
      obtain ⟨E, hE1, hE2, _, _⟩ := row_blk Hrows.out (own_plain Hown1.out)
      have B2 : St w X ((wr.heap.size, #[.int .i64 (Pay.g ⟨xk, xt, xf, xa⟩ 0), .int .i64 (Pay.g ⟨xk, xt, xf, xa⟩ 1), .int .i64 (Pay.g ⟨xk, xt, xf, xa⟩ 2), .int .i64 (Pay.g ⟨xk, xt, xf, xa⟩ 3)], 45) :: (E ++ [(w.heap.size, #[.int .i64 d.f, .int .i64 d.u, .slice A1 d.sp.length c1, .slice A2 d.ov.length c2, .slice A3 d.df.length c3, .slice (some ad) d.py.length c4, .slice A5 d.fo.length c5], 28)])) := ⟨B.below, B.blks.1, hE1.app B.blks.2⟩

      refine rin_loop ⟨xk, xt, xf, xa⟩ fl hn67 A c wr.heap.size _ _ _ _ _ _ _ _ _ _ _ _ _ _ _ _ _ _ _ _ _ _ _ _ _ _ _ _ _ _ _ _ _ _ _ _ _ _ _ _ _ _ _ _ _ _ _ _ _ _ _ _ _ _ _ _ _ _ _ _ _ _ _ _ _ _ _ _ _ _ _ _ _ _ _ _ _ _ _ _ _ _ _ _ _ _ _ _ _ _ _ _ _ _ _ _ _ _ _ _ _ _ _ X Hrows.out B2.blks.1 ?_
      intro z0 z1 z2 z3 z4 z5 z6 z7 z8 z9 z10 z11 z12 z13 w1 hb1
      have Hown2 := Lib.hid (own_later Hown1.out hb1)
      replace B2 := B2.later hb1
      apply_assumption
      refine r18_rest ⟨xk, xt, xf, xa⟩ fl hn67 (kI ⟨xk, xt, xf, xa⟩ fl) rfl A c hcap wr.heap.size w E [(w.heap.size, #[.int .i64 d.f, .int .i64 d.u, .slice A1 d.sp.length c1, .slice A2 d.ov.length c2, .slice A3 d.df.length c3, .slice (some ad) d.py.length c4, .slice A5 d.fo.length c5], 28)] hE2 _ _ _ _ _ _ _ _ _ _ _ _ _ _ _ _ _ _ _ _ _ _ _ _ _ _ _ _ _ _ _ _ _ _ _ _ _ _ _ _ _ _ _ _ _ _ _ _ _ _ _ _ _ _ _ _ _ _ _ _ _ _ _ _ _ _ _ _ _ _ _ _ _ _ _ _ _ _ _ _ _ _ _ _ _ _ _ _ _ _ _ _ _ _ _ _ _ _ _ _ _ _ _ w1 B2 Hown2.out Hno.out ?_
      intro y0 y1 y2 y3 y4 y5 y6 y7 y8 y9 y10 y11 y12 y13 y14 y15 y16 y17 y18 y19 y20 y21 y22 y23 Z n' c' w2 hn2 ho2 hno2 B3
      clear B2 B Hown1 Hown2 Hno hE1 hE2
      dsimp only
      go_wp2
      exact ⟨⟨k + 1, by omega, by go_num, by rw [HT.out, ← hn2]; exact ho2, hno2, B3⟩, by simp [intOf]; omega⟩
    by_cases h3 : xk = 3
    · have Hlo := Lib.hid (show loR xk m = m from by simp [loR, h3])
      have Hhi := Lib.hid (show hiR xk d.u = d.u + 48 from by simp [hiR, h3])
      have g1 : (xk == 1) = false := by simp [h1]
      have g3 : (xk == 3) = true := by simp [h3]
      clear h1 h3
      by_cases q1 : at_ < xa
      · have hr : r = false := by rw [Hq.out, Hlo.out, Hhi.out]; simp; omega
        go_wp2
        exact ⟨⟨k + 1, by omega, by go_num, by rw [HS.out, hr, if_neg Bool.false_ne_true]; exact own_alloc Hown.out _, Hno.out, B.skip _⟩, by simp [intOf]; omega⟩
      by_cases q2 : xa < m
      · have hr : r = false := by rw [Hq.out, Hlo.out, Hhi.out]; simp; omega
        go_wp2
        exact ⟨⟨k + 1, by omega, by go_num, by rw [HS.out, hr, if_neg Bool.false_ne_true]; exact own_alloc Hown.out _, Hno.out, B.skip _⟩, by simp [intOf]; omega⟩
      by_cases q3 : d.u + 48 < xa
      · have hr : r = false := by rw [Hq.out, Hlo.out, Hhi.out]; simp; omega
        go_wp2
        exact ⟨⟨k + 1, by omega, by go_num, by rw [HS.out, hr, if_neg Bool.false_ne_true]; exact own_alloc Hown.out _, Hno.out, B.skip _⟩, by simp [intOf]; omega⟩
      have hr : r = true := by rw [Hq.out, Hlo.out, Hhi.out]; simp; omega
      have HT := Lib.hid (show insT (inW d.u at_ m) d.py (k + 1) = insP ⟨xk, xt, xf, xa⟩ fl from by rw [HS.out, hr, if_pos rfl])
      clear hr Hq HS Hlo Hhi
      go_wp2_with fail
      generalize hX : World.alloc _ _ = X
      have Hown1 := Lib.hid (show X.ownsRow w.heap.size 45 4 (.slice A fl.length c) fl.length (rowL Pay.g 4 fl) from hX ▸ own_alloc Hown.out _)
      replace B := St.cast hX (B.alloc _ _)
      clear hX R Hown Hrow q1 q2 q3 e0 e1 e2 e3 g1 g3
      obtain ⟨A', c', he, _, hrows⟩ := own_rows (g := Pay.g) (sz := 4) (Nat.succ_pos 3) Hown1.out
      cases he
      have Hrows := Lib.hid hrows
      clear hrows
      have hn67 : fl.length ≤ 100 := by omega
      obtain ⟨E, hE1, hE2, _, _⟩ := row_blk Hrows.out (own_plain Hown1.out)
      have B2 : St w X ((wr.heap.size, #[.int .i64 (Pay.g ⟨xk, xt, xf, xa⟩ 0), .int .i64 (Pay.g ⟨xk, xt, xf, xa⟩ 1), .int .i64 (Pay.g ⟨xk, xt, xf, xa⟩ 2), .int .i64 (Pay.g ⟨xk, xt, xf, xa⟩ 3)], 45) :: (E ++ [(w.heap.size, #[.int .i64 d.f, .int .i64 d.u, .slice A1 d.sp.length c1, .slice A2 d.ov.length c2, .slice A3 d.df.length c3, .slice (some ad) d.py.length c4, .slice A5 d.fo.length c5], 28)])) := ⟨B.below, B.blks.1, hE1.app B.blks.2⟩

      refine rin_loop ⟨xk, xt, xf, xa⟩ fl hn67 A c wr.heap.size _ _ _ _ _ _ _ _ _ _ _ _ _ _ _ _ _ _ _ _ _ _ _ _ _ _ _ _ _ _ _ _ _ _ _ _ _ _ _ _ _ _ _ _ _ _ _ _ _ _ _ _ _ _ _ _ _ _ _ _ _ _ _ _ _ _ _ _ _ _ _ _ _ _ _ _ _ _ _ _ _ _ _ _ _ _ _ _ _ _ _ _ _ _ _ _ _ _ _ _ _ _ _ X Hrows.out B2.blks.1 ?_
      intro z0 z1 z2 z3 z4 z5 z6 z7 z8 z9 z10 z11 z12 z13 w1 hb1
      have Hown2 := Lib.hid (own_later Hown1.out hb1)
      replace B2 := B2.later hb1
      apply_assumption
      refine r18_rest ⟨xk, xt, xf, xa⟩ fl hn67 (kI ⟨xk, xt, xf, xa⟩ fl) rfl A c hcap wr.heap.size w E [(w.heap.size, #[.int .i64 d.f, .int .i64 d.u, .slice A1 d.sp.length c1, .slice A2 d.ov.length c2, .slice A3 d.df.length c3, .slice (some ad) d.py.length c4, .slice A5 d.fo.length c5], 28)] hE2 _ _ _ _ _ _ _ _ _ _ _ _ _ _ _ _ _ _ _ _ _ _ _ _ _ _ _ _ _ _ _ _ _ _ _ _ _ _ _ _ _ _ _ _ _ _ _ _ _ _ _ _ _ _ _ _ _ _ _ _ _ _ _ _ _ _ _ _ _ _ _ _ _ _ _ _ _ _ _ _ _ _ _ _ _ _ _ _ _ _ _ _ _ _ _ _ _ _ _ _ _ _ _ w1 B2 Hown2.out Hno.out ?_
      intro y0 y1 y2 y3 y4 y5 y6 y7 y8 y9 y10 y11 y12 y13 y14 y15 y16 y17 y18 y19 y20 y21 y22 y23 Z n' c' w2 hn2 ho2 hno2 B3
      clear B2 B Hown1 Hown2 Hno hE1 hE2
      dsimp only
      go_wp2
      exact ⟨⟨k + 1, by omega, by go_num, by rw [HT.out, ← hn2]; exact ho2, hno2, B3⟩, by simp [intOf]; omega⟩
    · have Hlo := Lib.hid (show loR xk m = m - 288 from by simp [loR, h1, h3])
      have Hhi := Lib.hid (show hiR xk d.u = d.u + 288 from by simp [hiR, h1, h3])
      have g1 : (xk == 1) = false := by simp [h1]
      have g3 : (xk == 3) = false := by simp [h3]
      by_cases q1 : at_ < xa
      · have hr : r = false := by rw [Hq.out, Hlo.out, Hhi.out]; simp; omega
        go_wp2
        exact ⟨⟨k + 1, by omega, by go_num, by rw [HS.out, hr, if_neg Bool.false_ne_true]; exact own_alloc Hown.out _, Hno.out, B.skip _⟩, by simp [intOf]; omega⟩
      by_cases q2 : xa < m - 288
      · have hr : r = false := by rw [Hq.out, Hlo.out, Hhi.out]; simp; omega
        go_wp2
        exact ⟨⟨k + 1, by omega, by go_num, by rw [HS.out, hr, if_neg Bool.false_ne_true]; exact own_alloc Hown.out _, Hno.out, B.skip _⟩, by simp [intOf]; omega⟩
      by_cases q3 : d.u + 288 < xa
      · have hr : r = false := by rw [Hq.out, Hlo.out, Hhi.out]; simp; omega
        go_wp2
        exact ⟨⟨k + 1, by omega, by go_num, by rw [HS.out, hr, if_neg Bool.false_ne_true]; exact own_alloc Hown.out _, Hno.out, B.skip _⟩, by simp [intOf]; omega⟩
      have hr : r = true := by rw [Hq.out, Hlo.out, Hhi.out]; simp; omega
      have HT := Lib.hid (show insT (inW d.u at_ m) d.py (k + 1) = insP ⟨xk, xt, xf, xa⟩ fl from by rw [HS.out, hr, if_pos rfl])
      clear hr Hq HS Hlo Hhi
      go_wp2_with fail
      generalize hX : World.alloc _ _ = X
      have Hown1 := Lib.hid (show X.ownsRow w.heap.size 45 4 (.slice A fl.length c) fl.length (rowL Pay.g 4 fl) from hX ▸ own_alloc Hown.out _)
      replace B := St.cast hX (B.alloc _ _)
      clear hX R Hown Hrow q1 q2 q3 e0 e1 e2 e3 g1 g3
      obtain ⟨A', c', he, _, hrows⟩ := own_rows (g := Pay.g) (sz := 4) (Nat.succ_pos 3) Hown1.out
      cases he
      have Hrows := Lib.hid hrows
      clear hrows
      have hn67 : fl.length ≤ 100 := by omega
      obtain ⟨E, hE1, hE2, _, _⟩ := row_blk Hrows.out (own_plain Hown1.out)
      have B2 : St w X ((wr.heap.size, #[.int .i64 (Pay.g ⟨xk, xt, xf, xa⟩ 0), .int .i64 (Pay.g ⟨xk, xt, xf, xa⟩ 1), .int .i64 (Pay.g ⟨xk, xt, xf, xa⟩ 2), .int .i64 (Pay.g ⟨xk, xt, xf, xa⟩ 3)], 45) :: (E ++ [(w.heap.size, #[.int .i64 d.f, .int .i64 d.u, .slice A1 d.sp.length c1, .slice A2 d.ov.length c2, .slice A3 d.df.length c3, .slice (some ad) d.py.length c4, .slice A5 d.fo.length c5], 28)])) := ⟨B.below, B.blks.1, hE1.app B.blks.2⟩

      refine rin_loop ⟨xk, xt, xf, xa⟩ fl hn67 A c wr.heap.size _ _ _ _ _ _ _ _ _ _ _ _ _ _ _ _ _ _ _ _ _ _ _ _ _ _ _ _ _ _ _ _ _ _ _ _ _ _ _ _ _ _ _ _ _ _ _ _ _ _ _ _ _ _ _ _ _ _ _ _ _ _ _ _ _ _ _ _ _ _ _ _ _ _ _ _ _ _ _ _ _ _ _ _ _ _ _ _ _ _ _ _ _ _ _ _ _ _ _ _ _ _ _ X Hrows.out B2.blks.1 ?_
      intro z0 z1 z2 z3 z4 z5 z6 z7 z8 z9 z10 z11 z12 z13 w1 hb1
      have Hown2 := Lib.hid (own_later Hown1.out hb1)
      replace B2 := B2.later hb1
      apply_assumption
      refine r18_rest ⟨xk, xt, xf, xa⟩ fl hn67 (kI ⟨xk, xt, xf, xa⟩ fl) rfl A c hcap wr.heap.size w E [(w.heap.size, #[.int .i64 d.f, .int .i64 d.u, .slice A1 d.sp.length c1, .slice A2 d.ov.length c2, .slice A3 d.df.length c3, .slice (some ad) d.py.length c4, .slice A5 d.fo.length c5], 28)] hE2 _ _ _ _ _ _ _ _ _ _ _ _ _ _ _ _ _ _ _ _ _ _ _ _ _ _ _ _ _ _ _ _ _ _ _ _ _ _ _ _ _ _ _ _ _ _ _ _ _ _ _ _ _ _ _ _ _ _ _ _ _ _ _ _ _ _ _ _ _ _ _ _ _ _ _ _ _ _ _ _ _ _ _ _ _ _ _ _ _ _ _ _ _ _ _ _ _ _ _ _ _ _ _ w1 B2 Hown2.out Hno.out ?_
      intro y0 y1 y2 y3 y4 y5 y6 y7 y8 y9 y10 y11 y12 y13 y14 y15 y16 y17 y18 y19 y20 y21 y22 y23 Z n' c' w2 hn2 ho2 hno2 B3
      clear B2 B Hown1 Hown2 Hno hE1 hE2
      dsimp only
      go_wp2
      exact ⟨⟨k + 1, by omega, by go_num, by rw [HT.out, ← hn2]; exact ho2, hno2, B3⟩, by simp [intOf]; omega⟩
end Go.Proofs.YtbkipanlicgooaaGreatDoor
namespace Go.Proofs.YtbkipanlicgooaaGreatDoor
open Go.RowKit

def P0 (w : World) (L : List (Nat × Array Value × TypeId)) (v7 v8 : Value) (wr : World) : Prop := v7 = .slice none 0 0 ∧ v8 = .int .i64 0 ∧ St w wr L
set_option maxRecDepth 100000 in
set_option maxHeartbeats 4000000 in
theorem pr_none (d : Scr) (A1 A2 A3 A4 A5 : Option Addr) (c1 c2 c3 c4 c5 : Nat) (at_ m : Int) (hum : d.u < m) (hn : d.py.length ≤ 100) (w : World) {K : Act → World → Prop} {Q : Exit → Act → World → Prop} (u0 u4 u5 u6 u9 u10 u11 u12 u13 u14 u15 u16 u17 u18 u19 u20 u21 u22 u23 u24 u25 u26 u27 u28 u29 u30 u31 u32 u33 u34 u35 u36 u37 u38 u39 u40 u41 u42 u43 u44 u45 u46 u47 u48 u49 u50 u51 u52 u53 u54 u55 u56 u57 u58 u59 u60 u61 u62 u63 u64 u65 u66 u67 u68 u69 u70 u71 u72 u73 u74 u75 u76 u77 u78 u79 u80 u81 u82 u83 u84 u85 u86 u87 u88 u89 u90 u91 u92 u93 u94 u95 u96 u97 u98 u99 u100 u101 u102 u103 u104 u105 : Value) (wr : World) (B : St w wr [(w.heap.size, #[.int .i64 d.f, .int .i64 d.u, .slice A1 d.sp.length c1, .slice A2 d.ov.length c2, .slice A3 d.df.length c3, .slice A4 d.py.length c4, .slice A5 d.fo.length c5], 28)])
    (hK : ∀ (v9 v10 v11 v12 v13 v14 v15 v16 v17 v18 v19 v20 v21 v22 v23 v24 v25 v26 v27 v28 v29 v30 v31 v32 v33 v34 v35 v36 v37 v38 v39 v40 v41 v42 v43 v44 v45 v46 v47 v48 v49 v50 v51 v52 v53 v54 v55 v56 v57 v58 v59 v60 v61 v62 v63 v64 v65 v66 v67 v68 v69 v70 v71 v72 v73 v74 v75 v76 v77 v78 v79 v80 v81 v82 v83 v84 v85 v86 v87 v88 v89 v90 v91 v92 v93 v94 v95 v96 v97 v98 v99 v100 v101 v102 v103 v104 : Value) (w' : World), St w w' [(w.heap.size, #[.int .i64 d.f, .int .i64 d.u, .slice A1 d.sp.length c1, .slice A2 d.ov.length c2, .slice A3 d.df.length c3, .slice A4 d.py.length c4, .slice A5 d.fo.length c5], 28)] → K ⟨#[u0, .int .i64 at_, .int .i64 m, .pointer (some ⟨w.heap.size, 0, none⟩), u4, u5, u6, .slice none 0 0, .int .i64 0, v9, v10, v11, v12, v13, v14, v15, v16, v17, v18, v19, v20, v21, v22, v23, v24, v25, v26, v27, v28, v29, v30, v31, v32, v33, v34, v35, v36, v37, v38, v39, v40, v41, v42, v43, v44, v45, v46, v47, v48, v49, v50, v51, v52, v53, v54, v55, v56, v57, v58, v59, v60, v61, v62, v63, v64, v65, v66, v67, v68, v69, v70, v71, v72, v73, v74, v75, v76, v77, v78, v79, v80, v81, v82, v83, v84, v85, v86, v87, v88, v89, v90, v91, v92, v93, v94, v95, v96, v97, v98, v99, v100, v101, v102, v103, v104, u105], []⟩ w') :
    Code.wp Tryz.prog (codeAt Tryz.f18 [1, 1, 0, 1, 0]) (Exit.inBlock 0 (Exit.then K Q)) ⟨#[u0, .int .i64 at_, .int .i64 m, .pointer (some ⟨w.heap.size, 0, none⟩), u4, u5, u6, .slice none 0 0, .int .i64 0, u9, u10, u11, u12, u13, u14, u15, u16, u17, u18, u19, u20, u21, u22, u23, u24, u25, u26, u27, u28, u29, u30, u31, u32, u33, u34, u35, u36, u37, u38, u39, u40, u41, u42, u43, u44, u45, u46, u47, u48, u49, u50, u51, u52, u53, u54, u55, u56, u57, u58, u59, u60, u61, u62, u63, u64, u65, u66, u67, u68, u69, u70, u71, u72, u73, u74, u75, u76, u77, u78, u79, u80, u81, u82, u83, u84, u85, u86, u87, u88, u89, u90, u91, u92, u93, u94, u95, u96, u97, u98, u99, u100, u101, u102, u103, u104, u105], []⟩ wr := by
  show Code.wp Tryz.prog (Code.loop _) _ _ _
  dsimp only
  have HK := Lib.hid hK
  clear hK
  go_loopw [7, 8] (P0 w [(w.heap.size, #[.int .i64 d.f, .int .i64 d.u, .slice A1 d.sp.length c1, .slice A2 d.ov.length c2, .slice A3 d.df.length c3, .slice A4 d.py.length c4, .slice A5 d.fo.length c5], 28)]) (fun _ _ _ => 0)
  case atStart => exact ⟨rfl, rfl, B⟩
  case round =>
    clear B
    obtain ⟨rfl, rfl, B⟩ := hrel
    have R := B.rules
    simp only [Rules] at R
    by_cases h0 : d.py.length = 0
    · have h1 : ¬ ((0 : Int) < (d.py.length : Int)) := by omega
      clear h0
      go_wp2_with fail
      exact HK.out _ _ _ _ _ _ _ _ _ _ _ _ _ _ _ _ _ _ _ _ _ _ _ _ _ _ _ _ _ _ _ _ _ _ _ _ _ _ _ _ _ _ _ _ _ _ _ _ _ _ _ _ _ _ _ _ _ _ _ _ _ _ _ _ _ _ _ _ _ _ _ _ _ _ _ _ _ _ _ _ _ _ _ _ _ _ _ _ _ _ _ _ _ _ _ _ _ B
    · have h1 : (0 : Int) < d.py.length := by omega
      have h2 : ¬ (m ≤ d.u) := by omega
      clear h0
      go_wp2_with fail
      exact HK.out _ _ _ _ _ _ _ _ _ _ _ _ _ _ _ _ _ _ _ _ _ _ _ _ _ _ _ _ _ _ _ _ _ _ _ _ _ _ _ _ _ _ _ _ _ _ _ _ _ _ _ _ _ _ _ _ _ _ _ _ _ _ _ _ _ _ _ _ _ _ _ _ _ _ _ _ _ _ _ _ _ _ _ _ _ _ _ _ _ _ _ _ _ _ _ _ _ B
set_option maxRecDepth 100000 in
set_option maxHeartbeats 4000000 in
theorem rpay_any (d : Scr) (A1 A2 A3 A4 A5 : Option Addr) (c1 c2 c3 c4 c5 : Nat) (at_ m : Int) (hm0 : 0 ≤ m) (hm : m ≤ 38400) (hu0 : 0 ≤ d.u) (hu : d.u ≤ 38399) (hn : d.py.length ≤ 100) (w : World) (h : RowsAt w A4 4 Pay.g d.py) :
    Calls Tryz.prog 18 #[scrV d A1 A2 A3 A4 A5 c1 c2 c3 c4 c5, .int .i64 at_, .int .i64 m] w (fun e w' => ∃ A c, e = .returned (.slice A (payS d.u at_ m d.py).length c) ∧ RowsAt w' A 4 Pay.g (payS d.u at_ m d.py) ∧ Plain w.heap.size w' A ∧ Below w.heap.size w w') := by
  have H := Lib.hid h
  clear h
  have HP := refP_eq d.u at_ m d.py
  unfold scrV
  by_cases hum : d.u < m
  · have hp : payS d.u at_ m d.py = [] := by rw [← HP, refP, if_pos hum]
    rw [hp]
    clear hp HP
    go_enter Tryz.func18, Tryz.ntmps18
    have B := St.start w
    go_wp2_with fail
    generalize hX : World.alloc _ _ = X
    replace B := St.cast hX (B.alloc _ _)
    clear hX
    refine pr_none d A1 A2 A3 A4 A5 c1 c2 c3 c4 c5 at_ m hum hn w _ _ _ _ _ _ _ _ _ _ _ _ _ _ _ _ _ _ _ _ _ _ _ _ _ _ _ _ _ _ _ _ _ _ _ _ _ _ _ _ _ _ _ _ _ _ _ _ _ _ _ _ _ _ _ _ _ _ _ _ _ _ _ _ _ _ _ _ _ _ _ _ _ _ _ _ _ _ _ _ _ _ _ _ _ _ _ _ _ _ _ _ _ _ _ _ _ _ _ _ _ X B ?_
    intro y0 y1 y2 y3 y4 y5 y6 y7 y8 y9 y10 y11 y12 y13 y14 y15 y16 y17 y18 y19 y20 y21 y22 y23 y24 y25 y26 y27 y28 y29 y30 y31 y32 y33 y34 y35 y36 y37 y38 y39 y40 y41 y42 y43 y44 y45 y46 y47 y48 y49 y50 y51 y52 y53 y54 y55 y56 y57 y58 y59 y60 y61 y62 y63 y64 y65 y66 y67 y68 y69 y70 y71 y72 y73 y74 y75 y76 y77 y78 y79 y80 y81 y82 y83 y84 y85 y86 y87 y88 y89 y90 y91 y92 y93 y94 y95 w1 B1
    dsimp only
    go_wp2
    go_ret
    exact ⟨none, 0, rfl, fun i x hx => by simp at hx, .nil, B1.below⟩
  · have hp : payS d.u at_ m d.py = insS (d.py.filter (inW d.u at_ m)) := by rw [← HP, refP, if_neg hum]; rfl
    rw [hp]
    clear hp HP
    obtain ⟨s, hs⟩ : ∃ s, insS (d.py.filter (inW d.u at_ m)) = s := ⟨_, rfl⟩
    rw [hs]
    replace hs := Lib.hid hs
    go_enter Tryz.func18, Tryz.ntmps18
    have B := St.start w
    go_wp2_with fail
    generalize hX : World.alloc _ _ = X
    replace B := St.cast hX (B.alloc _ _)
    clear hX
    refine pr_loop d A1 A2 A3 A4 A5 c1 c2 c3 c4 c5 at_ m hm0 hm hu0 hu (by omega) hn w H.out _ _ _ _ _ _ _ _ _ _ _ _ _ _ _ _ _ _ _ _ _ _ _ _ _ _ _ _ _ _ _ _ _ _ _ _ _ _ _ _ _ _ _ _ _ _ _ _ _ _ _ _ _ _ _ _ _ _ _ _ _ _ _ _ _ _ _ _ _ _ _ _ _ _ _ _ _ _ _ _ _ _ _ _ _ _ _ _ _ _ _ _ _ _ _ _ _ _ _ _ _ X B ?_
    intro y0 y1 y2 y3 y4 y5 y6 y7 y8 y9 y10 y11 y12 y13 y14 y15 y16 y17 y18 y19 y20 y21 y22 y23 y24 y25 y26 y27 y28 y29 y30 y31 y32 y33 y34 y35 y36 y37 y38 y39 y40 y41 y42 y43 y44 y45 y46 y47 y48 y49 y50 y51 y52 y53 y54 y55 y56 y57 y58 y59 y60 y61 y62 y63 y64 y65 y66 y67 y68 y69 y70 y71 y72 y73 y74 y75 y76 y77 y78 y79 y80 y81 y82 y83 y84 y85 y86 y87 y88 y89 y90 y91 y92 y93 y94 y95 v7 w1 hown hno B1
    rw [hs.out] at hown
    obtain ⟨A, c, rfl, _, hr⟩ := own_rows (g := Pay.g) (sz := 4) (Nat.succ_pos 3) hown
    have hp := own_plain hown
    dsimp only
    go_wp2
    go_ret
    exact ⟨A, c, rfl, hr, hp, B1.below⟩
end Go.Proofs.YtbkipanlicgooaaGreatDoor
