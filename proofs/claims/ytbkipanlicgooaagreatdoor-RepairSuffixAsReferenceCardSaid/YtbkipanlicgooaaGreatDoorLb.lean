/-
  Numbers as text: what the reference's digits, Decimal and number return. No conditions but those in each statement.
-/
import Derived.Test.YtbkipanlicgooaaGreatDoorProg
import Derived.Test.YtbkipanlicgooaaGreatDoorLa
import Derived.WalkMore
import Derived.IntWalk
import Derived.Laws.Concat
namespace Go.Proofs.YtbkipanlicgooaaGreatDoor
open Go.RowKit

def dg (n : Nat) : ByteArray := ByteArray.extract { data := #[48, 49, 50, 51, 52, 53, 54, 55, 56, 57] } (n % 10) (n % 10 + 1)
theorem dg_size (n : Nat) : (dg n).size = 1 := by
  unfold dg
  rw [ByteArray.size_extract]
  have : (ByteArray.mk #[48, 49, 50, 51, 52, 53, 54, 55, 56, 57]).size = 10 := rfl
  rw [this]
  omega
def digL : Nat → Nat → ByteArray → ByteArray
  | 0, _, s => s
  | f + 1, n, s => if n = 0 then s else digL f (n / 10) (dg n ++ s)
def digS (n : Nat) : ByteArray := digL 64 (n / 10) (dg n)
def DRel (n : Nat) (w : World) (v0 v3 : Value) (wr : World) : Prop :=
  ∃ (m f : Nat) (s : ByteArray), v0 = .int .u64 m ∧ v3 = .string s ∧ m < 2 ^ f ∧ f ≤ 64 ∧ s.size + f ≤ 65 ∧ digL f m s = digS n ∧ wr = w
set_option maxRecDepth 100000 in
set_option maxHeartbeats 1000000 in
theorem digits_any (n : Nat) (hn : n < 2 ^ 64) (w : World) : Calls Tryz.prog 124 #[.int .u64 n] w (fun e w' => e = .returned (.string (digS n)) ∧ w' = w) := by
  go_enter Tryz.func124, Tryz.ntmps124
  go_wp2
  have e0 : ((n : Int) / 10) = ((n / 10 : Nat) : Int) := by omega
  have Hn := Lib.hid hn
  clear hn
  go_loopw [0, 3] (DRel n w) (fun v _ _ => (intOf v).toNat)
  case atStart => exact ⟨n / 10, 64, dg n, by rw [e0], rfl, by have := Hn.out; omega, by omega, by have := dg_size n; omega, rfl, rfl⟩
  case round =>
    obtain ⟨m, f, s, rfl, rfl, hm, hf, hs, hd, rfl⟩ := hrel
    have Hd := Lib.hid hd
    have Hm := Lib.hid hm
    clear hd hm e0
    by_cases h0 : m = 0
    · subst h0
      go_wp2
      go_ret
      refine ⟨?_, rfl⟩
      rw [← Hd.out]
      cases f <;> simp [digL]
    · have hpos : (0 : Int) < m := by omega
      have q := dg_size m
      have e1 : ((m : Int) / 10) = ((m / 10 : Nat) : Int) := by omega
      have hsz : ¬ ((ByteArray.extract { data := #[48, 49, 50, 51, 52, 53, 54, 55, 56, 57] } (m % 10) (m % 10 + 1)).size + s.size > 9223372036854775807) := by
        unfold dg at q
        omega
      have Q := Lib.hid q
      clear q
      have hm64 : m < 18446744073709551616 := Nat.lt_of_lt_of_le Hm.out (Nat.le_trans (Nat.pow_le_pow_right (by omega) hf) (by decide))
      clear e1
      go_wp2
      have q := Q.out
      obtain ⟨f, rfl⟩ : ∃ k, f = k + 1 := ⟨f - 1, by
        cases f with
        | zero => have := Hm.out; omega
        | succ k => omega⟩
      refine ⟨⟨m / 10, f, dg m ++ s, by go_num, rfl, ?_, by omega, ?_, ?_, rfl⟩, ?_⟩
      · have := Hm.out
        rw [Nat.pow_succ] at this
        omega
      · rw [ByteArray.size_append, q]
        omega
      · rw [← Hd.out]
        simp only [digL, if_neg h0]
      · simp [intOf]
        omega
theorem digL_size : ∀ (f m : Nat) (s : ByteArray), (digL f m s).size ≤ s.size + f
  | 0, m, s => by simp [digL]
  | f + 1, m, s => by
    simp only [digL]
    split
    · omega
    · have := digL_size f (m / 10) (dg m ++ s)
      rw [ByteArray.size_append, dg_size] at this
      omega
theorem digS_size (n : Nat) : (digS n).size ≤ 65 := by
  have := digL_size 64 (n / 10) (dg n)
  rw [dg_size] at this
  exact this

/-- The decimal digits of a number. -/
def decS (n : Int) : ByteArray := if n < 0 then { data := #[45] } ++ digS (-(n + 1)).toNat.succ else digS n.toNat
theorem decS_size (n : Int) : (decS n).size ≤ 66 := by
  unfold decS
  split
  · rw [ByteArray.size_append]
    have := digS_size (-(n + 1)).toNat.succ
    have : (ByteArray.mk #[45]).size = 1 := rfl
    omega
  · have := digS_size n.toNat
    omega
set_option maxRecDepth 100000 in
set_option maxHeartbeats 1000000 in
theorem decimal_any (n : Int) (h1 : -9223372036854775808 ≤ n) (h2 : n ≤ 9223372036854775807) (w : World) : Calls Tryz.prog 56 #[.int .i64 n] w (fun e w' => e = .returned (.string (decS n)) ∧ w' = w) := by
  by_cases h0 : n < 0
  · have hs := digS_size (-(n + 1)).toNat.succ
    have C := digits_any (-(n + 1)).toNat.succ (by omega) w
    have Hq := Lib.hid (show decS n = { data := #[45] } ++ digS (-(n + 1)).toNat.succ from by rw [decS, if_pos h0])
    have e1 : -(n + 1) + 1 = (((-(n + 1)).toNat.succ : Nat) : Int) := by omega
    generalize (-(n + 1)).toNat.succ = q at hs C Hq e1
    have C := Lib.hid C
    have hsz : ¬ ((ByteArray.mk #[45]).size + (digS q).size > 9223372036854775807) := by
      have : (ByteArray.mk #[45]).size = 1 := rfl
      omega
    go_enter Tryz.func56, Tryz.ntmps56
    go_wp2_with fail
    refine C.out.mono ?_
    rintro e' w1 ⟨rfl, rfl⟩
    go_wp2
    go_ret
    exact ⟨by rw [Hq.out]; rfl, rfl⟩
  · have hs := digS_size n.toNat
    have C := digits_any n.toNat (by omega) w
    have Hq := Lib.hid (show decS n = digS n.toNat from by rw [decS, if_neg h0])
    obtain ⟨q, rfl⟩ : ∃ q : Nat, n = q := ⟨n.toNat, by omega⟩
    have e1 : (q : Int).toNat = q := by omega
    rw [e1] at hs C Hq
    have C := Lib.hid C
    go_enter Tryz.func56, Tryz.ntmps56
    go_wp2_with fail
    refine C.out.mono ?_
    rintro e' w1 ⟨rfl, rfl⟩
    go_wp2
    go_ret
    exact ⟨by rw [Hq.out]; rfl, rfl⟩

/-- Numbers, each with a blank behind it. -/
def numF (l : Nat → Int) : Nat → ByteArray
  | 0 => { data := #[] }
  | n + 1 => numF l n ++ decS (l n) ++ { data := #[32] }
theorem numF_size (l : Nat → Int) : ∀ n, (numF l n).size ≤ 67 * n
  | 0 => by simp [numF]; rfl
  | n + 1 => by
    have h1 := numF_size l n
    have h2 := decS_size (l n)
    have h3 : (ByteArray.mk #[32]).size = 1 := rfl
    simp only [numF, ByteArray.size_append, h3]
    omega
/-- Behind the slice A lie n numbers. -/
def IntsAt (W : World) (A : Option Addr) (n : Nat) (l : Nat → Int) : Prop := ∀ i, i < n → ∃ ad, A = some ad ∧ (ad.add i).block < W.heap.size ∧ W.cell? (ad.add i) = some (.int .i64 (l i))
/-- An int. -/
def I64 (n : Int) : Prop := -9223372036854775808 ≤ n ∧ n ≤ 9223372036854775807
def NRel (l : Nat → Int) (n : Nat) (w : World) (v3 v4 : Value) (wr : World) : Prop := ∃ k : Nat, k ≤ n ∧ v3 = .string (numF l k) ∧ v4 = .int .i64 k ∧ wr = w
set_option maxRecDepth 100000 in
set_option maxHeartbeats 1000000 in
theorem number_any (A : Option Addr) (n c : Nat) (hn : n ≤ 100) (l : Nat → Int) (hb : ∀ i, i < n → I64 (l i)) (w : World) (h : IntsAt w A n l) :
    Calls Tryz.prog 29 #[.slice A n c] w (fun e w' => e = .returned (.string (numF l n)) ∧ w' = w) := by
  have H := Lib.hid h
  have Hb := Lib.hid hb
  clear h hb
  go_enter Tryz.func29, Tryz.ntmps29
  go_wp2_with fail
  go_loopw [3, 4] (NRel l n w) (fun _ v _ => n - (intOf v).toNat)
  case atStart => exact ⟨0, by omega, rfl, rfl, rfl⟩
  case round =>
    obtain ⟨k, hk, rfl, rfl, rfl⟩ := hrel
    by_cases hlt : k < n
    · obtain ⟨ad, rfl, hblk, hc⟩ := H.out k hlt
      have hlt' : (k : Int) < n := by omega
      have D := Lib.hid (decimal_any (l k) (Hb.out k hlt).1 (Hb.out k hlt).2 wr)
      have q1 := numF_size l k
      have q2 := decS_size (l k)
      have hs1 : ¬ ((numF l k).size + (decS (l k)).size > 9223372036854775807) := by omega
      have hs2 : ¬ ((numF l k ++ decS (l k)).size + (ByteArray.mk #[32]).size > 9223372036854775807) := by
        have h3 : (ByteArray.mk #[32]).size = 1 := rfl
        rw [ByteArray.size_append, h3]
        omega
      clear q1 q2
      go_wp2_with fail
      refine D.out.mono ?_
      rintro e' w1 ⟨rfl, rfl⟩
      go_wp2
      exact ⟨⟨k + 1, by omega, rfl, by go_num, rfl⟩, by simp [intOf]; omega⟩
    · obtain rfl : n = k := by omega
      go_wp2
      go_ret
      exact ⟨rfl, rfl⟩
end Go.Proofs.YtbkipanlicgooaaGreatDoor
namespace Go.Proofs.YtbkipanlicgooaaGreatDoor
open Go.RowKit

structure Pay where
  (k t f a : Int)
  deriving DecidableEq
structure Spl where
  (k q n f u : Int)
structure Ovr where
  (k t p i f u n : Int)
structure Dfc where
  (t c f u n : Int)
structure Frg where
  (t c f v a r : Int)
def Pay.g (x : Pay) : Nat → Int
  | 0 => x.k
  | 1 => x.t
  | 2 => x.f
  | _ => x.a
def Spl.g (x : Spl) : Nat → Int
  | 0 => x.k
  | 1 => x.q
  | 2 => x.n
  | 3 => x.f
  | _ => x.u
def Ovr.g (x : Ovr) : Nat → Int
  | 0 => x.k
  | 1 => x.t
  | 2 => x.p
  | 3 => x.i
  | 4 => x.f
  | 5 => x.u
  | _ => x.n
def Dfc.g (x : Dfc) : Nat → Int
  | 0 => x.t
  | 1 => x.c
  | 2 => x.f
  | 3 => x.u
  | _ => x.n
def Frg.g (x : Frg) : Nat → Int
  | 0 => x.t
  | 1 => x.c
  | 2 => x.f
  | 3 => x.v
  | 4 => x.a
  | _ => x.r
structure Scr where
  (f u : Int)
  sp : List Spl
  ov : List Ovr
  df : List Dfc
  py : List Pay
  fo : List Frg

/-- Behind the slice A lie these elements, each of sz cells. -/
def RowsAt {α : Type} (W : World) (A : Option Addr) (sz : Nat) (g : α → Nat → Int) (l : List α) : Prop :=
  ∀ i x, l[i]? = some x → ∃ ad, A = some ad ∧ (ad.add (i * sz)).block < W.heap.size ∧ W.cell? (ad.add (i * sz)) = some (.int .i64 (g x 0)) ∧
    ∀ j, 0 < j → j < sz → W.cell? ⟨(ad.add (i * sz)).block, (ad.add (i * sz)).off + j, none⟩ = some (.int .i64 (g x j))
theorem RowsAt.later {α : Type} {W W' : World} {A : Option Addr} {sz : Nat} {g : α → Nat → Int} {l : List α} (h : RowsAt W A sz g l) (hb : Below W.heap.size W W') : RowsAt W' A sz g l := by
  intro i x hx
  obtain ⟨ad, rfl, hl, h0, h1⟩ := h i x hx
  exact ⟨ad, rfl, Nat.lt_of_lt_of_le hl hb.size, (hb.cell hl).trans h0, fun j hj hs => (hb.cell (p := ⟨_, _, none⟩) hl).trans (h1 j hj hs)⟩
/-- The numbers of an element, of all elements, are ints. -/
def RowsB {α : Type} (sz : Nat) (g : α → Nat → Int) (l : List α) : Prop := ∀ x ∈ l, ∀ j, j < sz → I64 (g x j)

/-- Text of elements, behind a text. -/
def rowsF {α : Type} (s : ByteArray) (g : α → Nat → Int) (sz : Nat) (l : List α) : ByteArray := l.foldl (fun s x => s ++ numF (g x) sz) s
theorem rowsF_succ {α : Type} {s : ByteArray} {g : α → Nat → Int} {sz : Nat} {l : List α} {k : Nat} {x : α} (h : l[k]? = some x) : rowsF s g sz (l.take (k + 1)) = rowsF s g sz (l.take k) ++ numF (g x) sz := by
  unfold rowsF
  rw [List.take_add_one, h, List.foldl_append]
  rfl
theorem rowsF_size {α : Type} (g : α → Nat → Int) (sz : Nat) : ∀ (l : List α) (s : ByteArray), (rowsF s g sz l).size ≤ s.size + 67 * sz * l.length
  | [], s => by simp [rowsF]
  | x :: l, s => by
    have h1 := rowsF_size g sz l (s ++ numF (g x) sz)
    have h2 := numF_size (g x) sz
    rw [ByteArray.size_append] at h1
    show (rowsF (s ++ numF (g x) sz) g sz l).size ≤ _
    rw [List.length_cons, Nat.mul_succ]
    omega
def one1 (a : Int) : Nat → Int := fun _ => a
def one3 (a b c : Int) : Nat → Int
  | 0 => a
  | 1 => b
  | _ => c
def scr0 (d : Scr) : ByteArray := numF (one3 d.f d.u d.sp.length) 3
def scr1 (d : Scr) : ByteArray := rowsF (scr0 d) Spl.g 5 d.sp ++ numF (one1 d.ov.length) 1
def scr2 (d : Scr) : ByteArray := rowsF (scr1 d) Ovr.g 7 d.ov ++ numF (one1 d.df.length) 1
def scr3 (d : Scr) : ByteArray := rowsF (scr2 d) Dfc.g 5 d.df ++ numF (one1 d.py.length) 1
def scr4 (d : Scr) : ByteArray := rowsF (scr3 d) Pay.g 4 d.py ++ numF (one1 d.fo.length) 1
/-- The text of a script. -/
def scrS (d : Scr) : ByteArray := rowsF (scr4 d) Frg.g 6 d.fo
structure ScrB (d : Scr) : Prop where
  f : I64 d.f
  u : I64 d.u
  n1 : d.sp.length ≤ 100
  n2 : d.ov.length ≤ 100
  n3 : d.df.length ≤ 100
  n4 : d.py.length ≤ 100
  n5 : d.fo.length ≤ 100
  b1 : RowsB 5 Spl.g d.sp
  b2 : RowsB 7 Ovr.g d.ov
  b3 : RowsB 5 Dfc.g d.df
  b4 : RowsB 4 Pay.g d.py
  b5 : RowsB 6 Frg.g d.fo
structure ScrAt (W : World) (d : Scr) (A1 A2 A3 A4 A5 : Option Addr) : Prop where
  r1 : RowsAt W A1 5 Spl.g d.sp
  r2 : RowsAt W A2 7 Ovr.g d.ov
  r3 : RowsAt W A3 5 Dfc.g d.df
  r4 : RowsAt W A4 4 Pay.g d.py
  r5 : RowsAt W A5 6 Frg.g d.fo
theorem ScrAt.later {W W' : World} {d : Scr} {A1 A2 A3 A4 A5 : Option Addr} (h : ScrAt W d A1 A2 A3 A4 A5) (hb : Below W.heap.size W W') : ScrAt W' d A1 A2 A3 A4 A5 :=
  ⟨h.r1.later hb, h.r2.later hb, h.r3.later hb, h.r4.later hb, h.r5.later hb⟩
theorem scr0_size (d : Scr) : (scr0 d).size ≤ 201 := numF_size _ _
theorem scr1_size {d : Scr} (h : ScrB d) : (scr1 d).size ≤ 40000 := by
  have h1 := scr0_size d
  have h2 := rowsF_size Spl.g 5 d.sp (scr0 d)
  have h3 := numF_size (one1 d.ov.length) 1
  have := h.n1
  rw [scr1, ByteArray.size_append]
  omega
theorem scr2_size {d : Scr} (h : ScrB d) : (scr2 d).size ≤ 90000 := by
  have h1 := scr1_size h
  have h2 := rowsF_size Ovr.g 7 d.ov (scr1 d)
  have h3 := numF_size (one1 d.df.length) 1
  have := h.n2
  rw [scr2, ByteArray.size_append]
  omega
theorem scr3_size {d : Scr} (h : ScrB d) : (scr3 d).size ≤ 130000 := by
  have h1 := scr2_size h
  have h2 := rowsF_size Dfc.g 5 d.df (scr2 d)
  have h3 := numF_size (one1 d.py.length) 1
  have := h.n3
  rw [scr3, ByteArray.size_append]
  omega
theorem scr4_size {d : Scr} (h : ScrB d) : (scr4 d).size ≤ 170000 := by
  have h1 := scr3_size h
  have h2 := rowsF_size Pay.g 4 d.py (scr3 d)
  have h3 := numF_size (one1 d.fo.length) 1
  have := h.n4
  rw [scr4, ByteArray.size_append]
  omega
/-- Numbers in a block that was just made. -/
theorem ints_new (w : World) (t : TypeId) (cs : Array Value) (n : Nat) (l : Nat → Int) (h : ∀ i, i < n → cs[i]? = some (.int .i64 (l i))) : IntsAt (w.alloc (.cells cs t)) (some ⟨w.heap.size, 0, none⟩) n l := by
  intro i hi
  have e : (⟨w.heap.size, 0, none⟩ : Addr).add i = ⟨w.heap.size, i, none⟩ := by unfold Addr.add; split <;> simp_all
  exact ⟨_, rfl, by rw [e]; simp, by rw [e]; exact cell_blk (blk_new w _) i _ (h i hi)⟩
theorem ints_at (w : World) (t : TypeId) (cs : Array Value) (n : Nat) (l : Nat → Int) (b : Nat) (hb : b = w.heap.size) (h : ∀ i, i < n → cs[i]? = some (.int .i64 (l i))) : IntsAt (w.alloc (.cells cs t)) (some ⟨b, 0, none⟩) n l := by
  subst hb
  exact ints_new w t cs n l h
theorem St.skip {w W : World} {L : List (Nat × Array Value × TypeId)} (h : St w W L) (o : Obj) : St w (W.alloc o) L :=
  ⟨h.below.alloc h.below.size _, h.blks.keep fun _ _ hb => blk_old hb _⟩

/-! ### Code by its place -/
def pathC : List Nat → Code → Code
  | [], c => c
  | n :: p, c => match c with
    | .seq a b => match n with
      | 0 => pathC p a
      | _ => pathC p b
    | .cond _ a b => match n with
      | 0 => pathC p a
      | _ => pathC p b
    | .block _ c => pathC p c
    | .loop c => pathC p c
    | .scope c => pathC p c
    | c => c
def codeAt (f : Func) (p : List Nat) : Code := match f.body with
  | some c => pathC p c
  | none => .skip
end Go.Proofs.YtbkipanlicgooaaGreatDoor
namespace Go.Proofs.YtbkipanlicgooaaGreatDoor
open Go.RowKit

def SRel {α : Type} (w : World) (L : List (Nat × Array Value × TypeId)) (s : ByteArray) (g : α → Nat → Int) (sz : Nat) (l : List α) (v3 v4 : Value) (wr : World) : Prop :=
  ∃ k : Nat, k ≤ l.length ∧ v3 = .string (rowsF s g sz (l.take k)) ∧ v4 = .int .i64 k ∧ St w wr L
set_option maxRecDepth 100000 in
set_option maxHeartbeats 4000000 in
theorem script_loop0 (d : Scr) (A1 A2 A3 A4 A5 : Option Addr) (c1 c2 c3 c4 c5 : Nat) (hb : ScrB d) (w : World) (h : ScrAt w d A1 A2 A3 A4 A5) {K : Act → World → Prop} {Q : Exit → Act → World → Prop} (u0 u2 u5 u6 u7 u8 u9 u10 u11 u12 u13 u14 u15 u16 u17 u18 u19 u20 u21 u22 u23 u24 u25 u26 u27 u28 u29 u30 u31 u32 u33 u34 u35 u36 u37 u38 u39 u40 u41 u42 u43 u44 u45 u46 u47 u48 u49 u50 u51 u52 u53 u54 u55 u56 u57 u58 u59 u60 u61 u62 u63 u64 u65 u66 u67 u68 u69 u70 u71 u72 u73 u74 u75 u76 u77 u78 u79 u80 u81 u82 u83 u84 u85 u86 u87 u88 u89 u90 u91 u92 u93 u94 u95 u96 u97 u98 u99 u100 u101 u102 u103 u104 u105 u106 u107 u108 u109 u110 u111 u112 u113 u114 u115 u116 u117 u118 u119 u120 u121 u122 u123 u124 u125 u126 u127 u128 u129 u130 u131 u132 u133 u134 u135 u136 u137 u138 u139 u140 u141 u142 u143 u144 u145 u146 u147 u148 u149 u150 u151 u152 u153 u154 u155 u156 u157 u158 u159 u160 u161 u162 u163 u164 u165 u166 u167 u168 u169 u170 u171 u172 u173 u174 u175 u176 u177 u178 u179 u180 u181 u182 u183 u184 u185 u186 u187 u188 u189 u190 : Value) (wr : World) (B : St w wr [(w.heap.size, #[.int .i64 d.f, .int .i64 d.u, .slice A1 d.sp.length c1, .slice A2 d.ov.length c2, .slice A3 d.df.length c3, .slice A4 d.py.length c4, .slice A5 d.fo.length c5], 28)])
    (hK : ∀ (v5 v23 v24 v25 v26 v27 v28 v29 v30 v31 v32 v33 v34 v35 v36 v37 v38 v39 v40 v41 v42 v43 v44 v45 v46 v47 v48 : Value) (w' : World), St w w' [(w.heap.size, #[.int .i64 d.f, .int .i64 d.u, .slice A1 d.sp.length c1, .slice A2 d.ov.length c2, .slice A3 d.df.length c3, .slice A4 d.py.length c4, .slice A5 d.fo.length c5], 28)] → K ⟨#[u0, .pointer (some ⟨w.heap.size, 0, none⟩), u2, .string (rowsF (scr0 d) Spl.g 5 d.sp), .int .i64 d.sp.length, v5, u6, u7, u8, u9, u10, u11, u12, u13, u14, u15, u16, u17, u18, u19, u20, u21, u22, v23, v24, v25, v26, v27, v28, v29, v30, v31, v32, v33, v34, v35, v36, v37, v38, v39, v40, v41, v42, v43, v44, v45, v46, v47, v48, u49, u50, u51, u52, u53, u54, u55, u56, u57, u58, u59, u60, u61, u62, u63, u64, u65, u66, u67, u68, u69, u70, u71, u72, u73, u74, u75, u76, u77, u78, u79, u80, u81, u82, u83, u84, u85, u86, u87, u88, u89, u90, u91, u92, u93, u94, u95, u96, u97, u98, u99, u100, u101, u102, u103, u104, u105, u106, u107, u108, u109, u110, u111, u112, u113, u114, u115, u116, u117, u118, u119, u120, u121, u122, u123, u124, u125, u126, u127, u128, u129, u130, u131, u132, u133, u134, u135, u136, u137, u138, u139, u140, u141, u142, u143, u144, u145, u146, u147, u148, u149, u150, u151, u152, u153, u154, u155, u156, u157, u158, u159, u160, u161, u162, u163, u164, u165, u166, u167, u168, u169, u170, u171, u172, u173, u174, u175, u176, u177, u178, u179, u180, u181, u182, u183, u184, u185, u186, u187, u188, u189, u190], []⟩ w') :
    Code.wp Tryz.prog (codeAt Tryz.f19 [1, 1, 0, 1, 0]) (Exit.inBlock 0 (Exit.then K Q)) ⟨#[u0, .pointer (some ⟨w.heap.size, 0, none⟩), u2, .string (scr0 d), .int .i64 0, u5, u6, u7, u8, u9, u10, u11, u12, u13, u14, u15, u16, u17, u18, u19, u20, u21, u22, u23, u24, u25, u26, u27, u28, u29, u30, u31, u32, u33, u34, u35, u36, u37, u38, u39, u40, u41, u42, u43, u44, u45, u46, u47, u48, u49, u50, u51, u52, u53, u54, u55, u56, u57, u58, u59, u60, u61, u62, u63, u64, u65, u66, u67, u68, u69, u70, u71, u72, u73, u74, u75, u76, u77, u78, u79, u80, u81, u82, u83, u84, u85, u86, u87, u88, u89, u90, u91, u92, u93, u94, u95, u96, u97, u98, u99, u100, u101, u102, u103, u104, u105, u106, u107, u108, u109, u110, u111, u112, u113, u114, u115, u116, u117, u118, u119, u120, u121, u122, u123, u124, u125, u126, u127, u128, u129, u130, u131, u132, u133, u134, u135, u136, u137, u138, u139, u140, u141, u142, u143, u144, u145, u146, u147, u148, u149, u150, u151, u152, u153, u154, u155, u156, u157, u158, u159, u160, u161, u162, u163, u164, u165, u166, u167, u168, u169, u170, u171, u172, u173, u174, u175, u176, u177, u178, u179, u180, u181, u182, u183, u184, u185, u186, u187, u188, u189, u190], []⟩ wr := by
  show Code.wp Tryz.prog (Code.loop _) _ _ _
  dsimp only
  have H := Lib.hid h
  have Hb := Lib.hid hb
  have HK := Lib.hid hK
  clear h hb hK
  have N := Lib.hid number_any
  go_loopw [3, 4] (SRel w [(w.heap.size, #[.int .i64 d.f, .int .i64 d.u, .slice A1 d.sp.length c1, .slice A2 d.ov.length c2, .slice A3 d.df.length c3, .slice A4 d.py.length c4, .slice A5 d.fo.length c5], 28)] (scr0 d) Spl.g 5 d.sp) (fun _ v _ => d.sp.length - (intOf v).toNat)
  case atStart => exact ⟨0, by omega, rfl, rfl, B⟩
  case round =>
    clear B
    obtain ⟨k, hk, rfl, rfl, B⟩ := hrel
    have R := B.rules
    simp only [Rules] at R
    have hn := Hb.out.n1
    by_cases hlt : k < d.sp.length
    · have hlt' : (k : Int) < d.sp.length := by omega
      have hx : d.sp[k]? = some d.sp[k] := List.getElem?_eq_getElem hlt
      have HS := Lib.hid (rowsF_succ (s := scr0 d) (g := Spl.g) (sz := 5) hx)
      have HB := Lib.hid (Hb.out.b1 d.sp[k] (List.getElem_mem hlt))
      have hs1 : ¬ ((rowsF (scr0 d) Spl.g 5 (d.sp.take k)).size + (numF d.sp[k].g 5).size > 9223372036854775807) := by
        have h1 := rowsF_size Spl.g 5 (d.sp.take k) (scr0 d)
        have h2 := scr0_size d
        have h4 := numF_size d.sp[k].g 5
        rw [List.length_take] at h1
        omega
      obtain ⟨ad, ha, hl, e0, e⟩ := (H.out.r1.later B.below) k _ hx
      have e1 := e 1 (by omega) (by omega)
      have e2 := e 2 (by omega) (by omega)
      have e3 := e 3 (by omega) (by omega)
      have e4 := e 4 (by omega) (by omega)
      clear e hx
      generalize d.sp[k] = x at HS HB hs1 e0 e1 e2 e3 e4
      simp only [Spl.g] at e0 e1 e2 e3 e4
      subst ha
      go_wp2_with fail
      refine (N.out _ 5 _ (by omega) x.g ?_ _ ?_).mono ?_
      · exact fun i hi => HB.out i hi
      · exact ints_at _ _ _ _ _ _ (by simp) (fun i hi => by rcases i with _ | _ | _ | _ | _ | i <;> first | rfl | omega)
      generalize hX : World.alloc _ _ = X
      replace B := St.cast hX ((B.skip _).skip _)
      clear hX e0 e1 e2 e3 e4 hl
      rintro e' w1 ⟨rfl, rfl⟩
      replace R := B.rules
      simp only [Rules] at R
      go_wp2
      exact ⟨⟨k + 1, by omega, by rw [HS.out], by go_num, B⟩, by simp [intOf]; omega⟩
    · obtain rfl : k = d.sp.length := by omega
      rw [List.take_length]
      go_wp2_with fail
      exact HK.out _ _ _ _ _ _ _ _ _ _ _ _ _ _ _ _ _ _ _ _ _ _ _ _ _ _ _ _ B
set_option maxRecDepth 100000 in
set_option maxHeartbeats 4000000 in
theorem script_loop1 (d : Scr) (A1 A2 A3 A4 A5 : Option Addr) (c1 c2 c3 c4 c5 : Nat) (hb : ScrB d) (w : World) (h : ScrAt w d A1 A2 A3 A4 A5) {K : Act → World → Prop} {Q : Exit → Act → World → Prop} (u0 u2 u4 u5 u7 u8 u9 u10 u11 u12 u13 u14 u15 u16 u17 u18 u19 u20 u21 u22 u23 u24 u25 u26 u27 u28 u29 u30 u31 u32 u33 u34 u35 u36 u37 u38 u39 u40 u41 u42 u43 u44 u45 u46 u47 u48 u49 u50 u51 u52 u53 u54 u55 u56 u57 u58 u59 u60 u61 u62 u63 u64 u65 u66 u67 u68 u69 u70 u71 u72 u73 u74 u75 u76 u77 u78 u79 u80 u81 u82 u83 u84 u85 u86 u87 u88 u89 u90 u91 u92 u93 u94 u95 u96 u97 u98 u99 u100 u101 u102 u103 u104 u105 u106 u107 u108 u109 u110 u111 u112 u113 u114 u115 u116 u117 u118 u119 u120 u121 u122 u123 u124 u125 u126 u127 u128 u129 u130 u131 u132 u133 u134 u135 u136 u137 u138 u139 u140 u141 u142 u143 u144 u145 u146 u147 u148 u149 u150 u151 u152 u153 u154 u155 u156 u157 u158 u159 u160 u161 u162 u163 u164 u165 u166 u167 u168 u169 u170 u171 u172 u173 u174 u175 u176 u177 u178 u179 u180 u181 u182 u183 u184 u185 u186 u187 u188 u189 u190 : Value) (wr : World) (B : St w wr [(w.heap.size, #[.int .i64 d.f, .int .i64 d.u, .slice A1 d.sp.length c1, .slice A2 d.ov.length c2, .slice A3 d.df.length c3, .slice A4 d.py.length c4, .slice A5 d.fo.length c5], 28)])
    (hK : ∀ (v7 v56 v57 v58 v59 v60 v61 v62 v63 v64 v65 v66 v67 v68 v69 v70 v71 v72 v73 v74 v75 v76 v77 v78 v79 v80 v81 v82 v83 v84 v85 : Value) (w' : World), St w w' [(w.heap.size, #[.int .i64 d.f, .int .i64 d.u, .slice A1 d.sp.length c1, .slice A2 d.ov.length c2, .slice A3 d.df.length c3, .slice A4 d.py.length c4, .slice A5 d.fo.length c5], 28)] → K ⟨#[u0, .pointer (some ⟨w.heap.size, 0, none⟩), u2, .string (rowsF (scr1 d) Ovr.g 7 d.ov), u4, u5, .int .i64 d.ov.length, v7, u8, u9, u10, u11, u12, u13, u14, u15, u16, u17, u18, u19, u20, u21, u22, u23, u24, u25, u26, u27, u28, u29, u30, u31, u32, u33, u34, u35, u36, u37, u38, u39, u40, u41, u42, u43, u44, u45, u46, u47, u48, u49, u50, u51, u52, u53, u54, u55, v56, v57, v58, v59, v60, v61, v62, v63, v64, v65, v66, v67, v68, v69, v70, v71, v72, v73, v74, v75, v76, v77, v78, v79, v80, v81, v82, v83, v84, v85, u86, u87, u88, u89, u90, u91, u92, u93, u94, u95, u96, u97, u98, u99, u100, u101, u102, u103, u104, u105, u106, u107, u108, u109, u110, u111, u112, u113, u114, u115, u116, u117, u118, u119, u120, u121, u122, u123, u124, u125, u126, u127, u128, u129, u130, u131, u132, u133, u134, u135, u136, u137, u138, u139, u140, u141, u142, u143, u144, u145, u146, u147, u148, u149, u150, u151, u152, u153, u154, u155, u156, u157, u158, u159, u160, u161, u162, u163, u164, u165, u166, u167, u168, u169, u170, u171, u172, u173, u174, u175, u176, u177, u178, u179, u180, u181, u182, u183, u184, u185, u186, u187, u188, u189, u190], []⟩ w') :
    Code.wp Tryz.prog (codeAt Tryz.f19 [1, 1, 1, 1, 0, 1, 0]) (Exit.inBlock 2 (Exit.then K Q)) ⟨#[u0, .pointer (some ⟨w.heap.size, 0, none⟩), u2, .string (scr1 d), u4, u5, .int .i64 0, u7, u8, u9, u10, u11, u12, u13, u14, u15, u16, u17, u18, u19, u20, u21, u22, u23, u24, u25, u26, u27, u28, u29, u30, u31, u32, u33, u34, u35, u36, u37, u38, u39, u40, u41, u42, u43, u44, u45, u46, u47, u48, u49, u50, u51, u52, u53, u54, u55, u56, u57, u58, u59, u60, u61, u62, u63, u64, u65, u66, u67, u68, u69, u70, u71, u72, u73, u74, u75, u76, u77, u78, u79, u80, u81, u82, u83, u84, u85, u86, u87, u88, u89, u90, u91, u92, u93, u94, u95, u96, u97, u98, u99, u100, u101, u102, u103, u104, u105, u106, u107, u108, u109, u110, u111, u112, u113, u114, u115, u116, u117, u118, u119, u120, u121, u122, u123, u124, u125, u126, u127, u128, u129, u130, u131, u132, u133, u134, u135, u136, u137, u138, u139, u140, u141, u142, u143, u144, u145, u146, u147, u148, u149, u150, u151, u152, u153, u154, u155, u156, u157, u158, u159, u160, u161, u162, u163, u164, u165, u166, u167, u168, u169, u170, u171, u172, u173, u174, u175, u176, u177, u178, u179, u180, u181, u182, u183, u184, u185, u186, u187, u188, u189, u190], []⟩ wr := by
  show Code.wp Tryz.prog (Code.loop _) _ _ _
  dsimp only
  have H := Lib.hid h
  have Hb := Lib.hid hb
  have HK := Lib.hid hK
  clear h hb hK
  have N := Lib.hid number_any
  go_loopw [3, 6] (SRel w [(w.heap.size, #[.int .i64 d.f, .int .i64 d.u, .slice A1 d.sp.length c1, .slice A2 d.ov.length c2, .slice A3 d.df.length c3, .slice A4 d.py.length c4, .slice A5 d.fo.length c5], 28)] (scr1 d) Ovr.g 7 d.ov) (fun _ v _ => d.ov.length - (intOf v).toNat)
  case atStart => exact ⟨0, by omega, rfl, rfl, B⟩
  case round =>
    clear B
    obtain ⟨k, hk, rfl, rfl, B⟩ := hrel
    have R := B.rules
    simp only [Rules] at R
    have hn := Hb.out.n2
    by_cases hlt : k < d.ov.length
    · have hlt' : (k : Int) < d.ov.length := by omega
      have hx : d.ov[k]? = some d.ov[k] := List.getElem?_eq_getElem hlt
      have HS := Lib.hid (rowsF_succ (s := scr1 d) (g := Ovr.g) (sz := 7) hx)
      have HB := Lib.hid (Hb.out.b2 d.ov[k] (List.getElem_mem hlt))
      have hs1 : ¬ ((rowsF (scr1 d) Ovr.g 7 (d.ov.take k)).size + (numF d.ov[k].g 7).size > 9223372036854775807) := by
        have h1 := rowsF_size Ovr.g 7 (d.ov.take k) (scr1 d)
        have h2 := scr1_size Hb.out
        have h4 := numF_size d.ov[k].g 7
        rw [List.length_take] at h1
        omega
      obtain ⟨ad, ha, hl, e0, e⟩ := (H.out.r2.later B.below) k _ hx
      have e1 := e 1 (by omega) (by omega)
      have e2 := e 2 (by omega) (by omega)
      have e3 := e 3 (by omega) (by omega)
      have e4 := e 4 (by omega) (by omega)
      have e5 := e 5 (by omega) (by omega)
      have e6 := e 6 (by omega) (by omega)
      clear e hx
      generalize d.ov[k] = x at HS HB hs1 e0 e1 e2 e3 e4 e5 e6
      simp only [Ovr.g] at e0 e1 e2 e3 e4 e5 e6
      subst ha
      go_wp2_with fail
      refine (N.out _ 7 _ (by omega) x.g ?_ _ ?_).mono ?_
      · exact fun i hi => HB.out i hi
      · exact ints_at _ _ _ _ _ _ (by simp) (fun i hi => by rcases i with _ | _ | _ | _ | _ | _ | _ | i <;> first | rfl | omega)
      generalize hX : World.alloc _ _ = X
      replace B := St.cast hX ((B.skip _).skip _)
      clear hX e0 e1 e2 e3 e4 e5 e6 hl
      rintro e' w1 ⟨rfl, rfl⟩
      replace R := B.rules
      simp only [Rules] at R
      go_wp2
      exact ⟨⟨k + 1, by omega, by rw [HS.out], by go_num, B⟩, by simp [intOf]; omega⟩
    · obtain rfl : k = d.ov.length := by omega
      rw [List.take_length]
      go_wp2_with fail
      exact HK.out _ _ _ _ _ _ _ _ _ _ _ _ _ _ _ _ _ _ _ _ _ _ _ _ _ _ _ _ _ _ _ _ B
set_option maxRecDepth 100000 in
set_option maxHeartbeats 4000000 in
theorem script_loop2 (d : Scr) (A1 A2 A3 A4 A5 : Option Addr) (c1 c2 c3 c4 c5 : Nat) (hb : ScrB d) (w : World) (h : ScrAt w d A1 A2 A3 A4 A5) {K : Act → World → Prop} {Q : Exit → Act → World → Prop} (u0 u2 u4 u5 u6 u7 u9 u10 u11 u12 u13 u14 u15 u16 u17 u18 u19 u20 u21 u22 u23 u24 u25 u26 u27 u28 u29 u30 u31 u32 u33 u34 u35 u36 u37 u38 u39 u40 u41 u42 u43 u44 u45 u46 u47 u48 u49 u50 u51 u52 u53 u54 u55 u56 u57 u58 u59 u60 u61 u62 u63 u64 u65 u66 u67 u68 u69 u70 u71 u72 u73 u74 u75 u76 u77 u78 u79 u80 u81 u82 u83 u84 u85 u86 u87 u88 u89 u90 u91 u92 u93 u94 u95 u96 u97 u98 u99 u100 u101 u102 u103 u104 u105 u106 u107 u108 u109 u110 u111 u112 u113 u114 u115 u116 u117 u118 u119 u120 u121 u122 u123 u124 u125 u126 u127 u128 u129 u130 u131 u132 u133 u134 u135 u136 u137 u138 u139 u140 u141 u142 u143 u144 u145 u146 u147 u148 u149 u150 u151 u152 u153 u154 u155 u156 u157 u158 u159 u160 u161 u162 u163 u164 u165 u166 u167 u168 u169 u170 u171 u172 u173 u174 u175 u176 u177 u178 u179 u180 u181 u182 u183 u184 u185 u186 u187 u188 u189 u190 : Value) (wr : World) (B : St w wr [(w.heap.size, #[.int .i64 d.f, .int .i64 d.u, .slice A1 d.sp.length c1, .slice A2 d.ov.length c2, .slice A3 d.df.length c3, .slice A4 d.py.length c4, .slice A5 d.fo.length c5], 28)])
    (hK : ∀ (v9 v93 v94 v95 v96 v97 v98 v99 v100 v101 v102 v103 v104 v105 v106 v107 v108 v109 v110 v111 v112 v113 v114 v115 v116 v117 v118 : Value) (w' : World), St w w' [(w.heap.size, #[.int .i64 d.f, .int .i64 d.u, .slice A1 d.sp.length c1, .slice A2 d.ov.length c2, .slice A3 d.df.length c3, .slice A4 d.py.length c4, .slice A5 d.fo.length c5], 28)] → K ⟨#[u0, .pointer (some ⟨w.heap.size, 0, none⟩), u2, .string (rowsF (scr2 d) Dfc.g 5 d.df), u4, u5, u6, u7, .int .i64 d.df.length, v9, u10, u11, u12, u13, u14, u15, u16, u17, u18, u19, u20, u21, u22, u23, u24, u25, u26, u27, u28, u29, u30, u31, u32, u33, u34, u35, u36, u37, u38, u39, u40, u41, u42, u43, u44, u45, u46, u47, u48, u49, u50, u51, u52, u53, u54, u55, u56, u57, u58, u59, u60, u61, u62, u63, u64, u65, u66, u67, u68, u69, u70, u71, u72, u73, u74, u75, u76, u77, u78, u79, u80, u81, u82, u83, u84, u85, u86, u87, u88, u89, u90, u91, u92, v93, v94, v95, v96, v97, v98, v99, v100, v101, v102, v103, v104, v105, v106, v107, v108, v109, v110, v111, v112, v113, v114, v115, v116, v117, v118, u119, u120, u121, u122, u123, u124, u125, u126, u127, u128, u129, u130, u131, u132, u133, u134, u135, u136, u137, u138, u139, u140, u141, u142, u143, u144, u145, u146, u147, u148, u149, u150, u151, u152, u153, u154, u155, u156, u157, u158, u159, u160, u161, u162, u163, u164, u165, u166, u167, u168, u169, u170, u171, u172, u173, u174, u175, u176, u177, u178, u179, u180, u181, u182, u183, u184, u185, u186, u187, u188, u189, u190], []⟩ w') :
    Code.wp Tryz.prog (codeAt Tryz.f19 [1, 1, 1, 1, 1, 1, 0, 1, 0]) (Exit.inBlock 4 (Exit.then K Q)) ⟨#[u0, .pointer (some ⟨w.heap.size, 0, none⟩), u2, .string (scr2 d), u4, u5, u6, u7, .int .i64 0, u9, u10, u11, u12, u13, u14, u15, u16, u17, u18, u19, u20, u21, u22, u23, u24, u25, u26, u27, u28, u29, u30, u31, u32, u33, u34, u35, u36, u37, u38, u39, u40, u41, u42, u43, u44, u45, u46, u47, u48, u49, u50, u51, u52, u53, u54, u55, u56, u57, u58, u59, u60, u61, u62, u63, u64, u65, u66, u67, u68, u69, u70, u71, u72, u73, u74, u75, u76, u77, u78, u79, u80, u81, u82, u83, u84, u85, u86, u87, u88, u89, u90, u91, u92, u93, u94, u95, u96, u97, u98, u99, u100, u101, u102, u103, u104, u105, u106, u107, u108, u109, u110, u111, u112, u113, u114, u115, u116, u117, u118, u119, u120, u121, u122, u123, u124, u125, u126, u127, u128, u129, u130, u131, u132, u133, u134, u135, u136, u137, u138, u139, u140, u141, u142, u143, u144, u145, u146, u147, u148, u149, u150, u151, u152, u153, u154, u155, u156, u157, u158, u159, u160, u161, u162, u163, u164, u165, u166, u167, u168, u169, u170, u171, u172, u173, u174, u175, u176, u177, u178, u179, u180, u181, u182, u183, u184, u185, u186, u187, u188, u189, u190], []⟩ wr := by
  show Code.wp Tryz.prog (Code.loop _) _ _ _
  dsimp only
  have H := Lib.hid h
  have Hb := Lib.hid hb
  have HK := Lib.hid hK
  clear h hb hK
  have N := Lib.hid number_any
  go_loopw [3, 8] (SRel w [(w.heap.size, #[.int .i64 d.f, .int .i64 d.u, .slice A1 d.sp.length c1, .slice A2 d.ov.length c2, .slice A3 d.df.length c3, .slice A4 d.py.length c4, .slice A5 d.fo.length c5], 28)] (scr2 d) Dfc.g 5 d.df) (fun _ v _ => d.df.length - (intOf v).toNat)
  case atStart => exact ⟨0, by omega, rfl, rfl, B⟩
  case round =>
    clear B
    obtain ⟨k, hk, rfl, rfl, B⟩ := hrel
    have R := B.rules
    simp only [Rules] at R
    have hn := Hb.out.n3
    by_cases hlt : k < d.df.length
    · have hlt' : (k : Int) < d.df.length := by omega
      have hx : d.df[k]? = some d.df[k] := List.getElem?_eq_getElem hlt
      have HS := Lib.hid (rowsF_succ (s := scr2 d) (g := Dfc.g) (sz := 5) hx)
      have HB := Lib.hid (Hb.out.b3 d.df[k] (List.getElem_mem hlt))
      have hs1 : ¬ ((rowsF (scr2 d) Dfc.g 5 (d.df.take k)).size + (numF d.df[k].g 5).size > 9223372036854775807) := by
        have h1 := rowsF_size Dfc.g 5 (d.df.take k) (scr2 d)
        have h2 := scr2_size Hb.out
        have h4 := numF_size d.df[k].g 5
        rw [List.length_take] at h1
        omega
      obtain ⟨ad, ha, hl, e0, e⟩ := (H.out.r3.later B.below) k _ hx
      have e1 := e 1 (by omega) (by omega)
      have e2 := e 2 (by omega) (by omega)
      have e3 := e 3 (by omega) (by omega)
      have e4 := e 4 (by omega) (by omega)
      clear e hx
      generalize d.df[k] = x at HS HB hs1 e0 e1 e2 e3 e4
      simp only [Dfc.g] at e0 e1 e2 e3 e4
      subst ha
      go_wp2_with fail
      refine (N.out _ 5 _ (by omega) x.g ?_ _ ?_).mono ?_
      · exact fun i hi => HB.out i hi
      · exact ints_at _ _ _ _ _ _ (by simp) (fun i hi => by rcases i with _ | _ | _ | _ | _ | i <;> first | rfl | omega)
      generalize hX : World.alloc _ _ = X
      replace B := St.cast hX ((B.skip _).skip _)
      clear hX e0 e1 e2 e3 e4 hl
      rintro e' w1 ⟨rfl, rfl⟩
      replace R := B.rules
      simp only [Rules] at R
      go_wp2
      exact ⟨⟨k + 1, by omega, by rw [HS.out], by go_num, B⟩, by simp [intOf]; omega⟩
    · obtain rfl : k = d.df.length := by omega
      rw [List.take_length]
      go_wp2_with fail
      exact HK.out _ _ _ _ _ _ _ _ _ _ _ _ _ _ _ _ _ _ _ _ _ _ _ _ _ _ _ _ B
set_option maxRecDepth 100000 in
set_option maxHeartbeats 4000000 in
theorem script_loop3 (d : Scr) (A1 A2 A3 A4 A5 : Option Addr) (c1 c2 c3 c4 c5 : Nat) (hb : ScrB d) (w : World) (h : ScrAt w d A1 A2 A3 A4 A5) {K : Act → World → Prop} {Q : Exit → Act → World → Prop} (u0 u2 u4 u5 u6 u7 u8 u9 u11 u12 u13 u14 u15 u16 u17 u18 u19 u20 u21 u22 u23 u24 u25 u26 u27 u28 u29 u30 u31 u32 u33 u34 u35 u36 u37 u38 u39 u40 u41 u42 u43 u44 u45 u46 u47 u48 u49 u50 u51 u52 u53 u54 u55 u56 u57 u58 u59 u60 u61 u62 u63 u64 u65 u66 u67 u68 u69 u70 u71 u72 u73 u74 u75 u76 u77 u78 u79 u80 u81 u82 u83 u84 u85 u86 u87 u88 u89 u90 u91 u92 u93 u94 u95 u96 u97 u98 u99 u100 u101 u102 u103 u104 u105 u106 u107 u108 u109 u110 u111 u112 u113 u114 u115 u116 u117 u118 u119 u120 u121 u122 u123 u124 u125 u126 u127 u128 u129 u130 u131 u132 u133 u134 u135 u136 u137 u138 u139 u140 u141 u142 u143 u144 u145 u146 u147 u148 u149 u150 u151 u152 u153 u154 u155 u156 u157 u158 u159 u160 u161 u162 u163 u164 u165 u166 u167 u168 u169 u170 u171 u172 u173 u174 u175 u176 u177 u178 u179 u180 u181 u182 u183 u184 u185 u186 u187 u188 u189 u190 : Value) (wr : World) (B : St w wr [(w.heap.size, #[.int .i64 d.f, .int .i64 d.u, .slice A1 d.sp.length c1, .slice A2 d.ov.length c2, .slice A3 d.df.length c3, .slice A4 d.py.length c4, .slice A5 d.fo.length c5], 28)])
    (hK : ∀ (v11 v126 v127 v128 v129 v130 v131 v132 v133 v134 v135 v136 v137 v138 v139 v140 v141 v142 v143 v144 v145 v146 v147 v148 v149 : Value) (w' : World), St w w' [(w.heap.size, #[.int .i64 d.f, .int .i64 d.u, .slice A1 d.sp.length c1, .slice A2 d.ov.length c2, .slice A3 d.df.length c3, .slice A4 d.py.length c4, .slice A5 d.fo.length c5], 28)] → K ⟨#[u0, .pointer (some ⟨w.heap.size, 0, none⟩), u2, .string (rowsF (scr3 d) Pay.g 4 d.py), u4, u5, u6, u7, u8, u9, .int .i64 d.py.length, v11, u12, u13, u14, u15, u16, u17, u18, u19, u20, u21, u22, u23, u24, u25, u26, u27, u28, u29, u30, u31, u32, u33, u34, u35, u36, u37, u38, u39, u40, u41, u42, u43, u44, u45, u46, u47, u48, u49, u50, u51, u52, u53, u54, u55, u56, u57, u58, u59, u60, u61, u62, u63, u64, u65, u66, u67, u68, u69, u70, u71, u72, u73, u74, u75, u76, u77, u78, u79, u80, u81, u82, u83, u84, u85, u86, u87, u88, u89, u90, u91, u92, u93, u94, u95, u96, u97, u98, u99, u100, u101, u102, u103, u104, u105, u106, u107, u108, u109, u110, u111, u112, u113, u114, u115, u116, u117, u118, u119, u120, u121, u122, u123, u124, u125, v126, v127, v128, v129, v130, v131, v132, v133, v134, v135, v136, v137, v138, v139, v140, v141, v142, v143, v144, v145, v146, v147, v148, v149, u150, u151, u152, u153, u154, u155, u156, u157, u158, u159, u160, u161, u162, u163, u164, u165, u166, u167, u168, u169, u170, u171, u172, u173, u174, u175, u176, u177, u178, u179, u180, u181, u182, u183, u184, u185, u186, u187, u188, u189, u190], []⟩ w') :
    Code.wp Tryz.prog (codeAt Tryz.f19 [1, 1, 1, 1, 1, 1, 1, 1, 0, 1, 0]) (Exit.inBlock 6 (Exit.then K Q)) ⟨#[u0, .pointer (some ⟨w.heap.size, 0, none⟩), u2, .string (scr3 d), u4, u5, u6, u7, u8, u9, .int .i64 0, u11, u12, u13, u14, u15, u16, u17, u18, u19, u20, u21, u22, u23, u24, u25, u26, u27, u28, u29, u30, u31, u32, u33, u34, u35, u36, u37, u38, u39, u40, u41, u42, u43, u44, u45, u46, u47, u48, u49, u50, u51, u52, u53, u54, u55, u56, u57, u58, u59, u60, u61, u62, u63, u64, u65, u66, u67, u68, u69, u70, u71, u72, u73, u74, u75, u76, u77, u78, u79, u80, u81, u82, u83, u84, u85, u86, u87, u88, u89, u90, u91, u92, u93, u94, u95, u96, u97, u98, u99, u100, u101, u102, u103, u104, u105, u106, u107, u108, u109, u110, u111, u112, u113, u114, u115, u116, u117, u118, u119, u120, u121, u122, u123, u124, u125, u126, u127, u128, u129, u130, u131, u132, u133, u134, u135, u136, u137, u138, u139, u140, u141, u142, u143, u144, u145, u146, u147, u148, u149, u150, u151, u152, u153, u154, u155, u156, u157, u158, u159, u160, u161, u162, u163, u164, u165, u166, u167, u168, u169, u170, u171, u172, u173, u174, u175, u176, u177, u178, u179, u180, u181, u182, u183, u184, u185, u186, u187, u188, u189, u190], []⟩ wr := by
  show Code.wp Tryz.prog (Code.loop _) _ _ _
  dsimp only
  have H := Lib.hid h
  have Hb := Lib.hid hb
  have HK := Lib.hid hK
  clear h hb hK
  have N := Lib.hid number_any
  go_loopw [3, 10] (SRel w [(w.heap.size, #[.int .i64 d.f, .int .i64 d.u, .slice A1 d.sp.length c1, .slice A2 d.ov.length c2, .slice A3 d.df.length c3, .slice A4 d.py.length c4, .slice A5 d.fo.length c5], 28)] (scr3 d) Pay.g 4 d.py) (fun _ v _ => d.py.length - (intOf v).toNat)
  case atStart => exact ⟨0, by omega, rfl, rfl, B⟩
  case round =>
    clear B
    obtain ⟨k, hk, rfl, rfl, B⟩ := hrel
    have R := B.rules
    simp only [Rules] at R
    have hn := Hb.out.n4
    by_cases hlt : k < d.py.length
    · have hlt' : (k : Int) < d.py.length := by omega
      have hx : d.py[k]? = some d.py[k] := List.getElem?_eq_getElem hlt
      have HS := Lib.hid (rowsF_succ (s := scr3 d) (g := Pay.g) (sz := 4) hx)
      have HB := Lib.hid (Hb.out.b4 d.py[k] (List.getElem_mem hlt))
      have hs1 : ¬ ((rowsF (scr3 d) Pay.g 4 (d.py.take k)).size + (numF d.py[k].g 4).size > 9223372036854775807) := by
        have h1 := rowsF_size Pay.g 4 (d.py.take k) (scr3 d)
        have h2 := scr3_size Hb.out
        have h4 := numF_size d.py[k].g 4
        rw [List.length_take] at h1
        omega
      obtain ⟨ad, ha, hl, e0, e⟩ := (H.out.r4.later B.below) k _ hx
      have e1 := e 1 (by omega) (by omega)
      have e2 := e 2 (by omega) (by omega)
      have e3 := e 3 (by omega) (by omega)
      clear e hx
      generalize d.py[k] = x at HS HB hs1 e0 e1 e2 e3
      simp only [Pay.g] at e0 e1 e2 e3
      subst ha
      go_wp2_with fail
      refine (N.out _ 4 _ (by omega) x.g ?_ _ ?_).mono ?_
      · exact fun i hi => HB.out i hi
      · exact ints_at _ _ _ _ _ _ (by simp) (fun i hi => by rcases i with _ | _ | _ | _ | i <;> first | rfl | omega)
      generalize hX : World.alloc _ _ = X
      replace B := St.cast hX ((B.skip _).skip _)
      clear hX e0 e1 e2 e3 hl
      rintro e' w1 ⟨rfl, rfl⟩
      replace R := B.rules
      simp only [Rules] at R
      go_wp2
      exact ⟨⟨k + 1, by omega, by rw [HS.out], by go_num, B⟩, by simp [intOf]; omega⟩
    · obtain rfl : k = d.py.length := by omega
      rw [List.take_length]
      go_wp2_with fail
      exact HK.out _ _ _ _ _ _ _ _ _ _ _ _ _ _ _ _ _ _ _ _ _ _ _ _ _ _ B
set_option maxRecDepth 100000 in
set_option maxHeartbeats 4000000 in
theorem script_loop4 (d : Scr) (A1 A2 A3 A4 A5 : Option Addr) (c1 c2 c3 c4 c5 : Nat) (hb : ScrB d) (w : World) (h : ScrAt w d A1 A2 A3 A4 A5) {K : Act → World → Prop} {Q : Exit → Act → World → Prop} (u0 u2 u4 u5 u6 u7 u8 u9 u10 u11 u13 u14 u15 u16 u17 u18 u19 u20 u21 u22 u23 u24 u25 u26 u27 u28 u29 u30 u31 u32 u33 u34 u35 u36 u37 u38 u39 u40 u41 u42 u43 u44 u45 u46 u47 u48 u49 u50 u51 u52 u53 u54 u55 u56 u57 u58 u59 u60 u61 u62 u63 u64 u65 u66 u67 u68 u69 u70 u71 u72 u73 u74 u75 u76 u77 u78 u79 u80 u81 u82 u83 u84 u85 u86 u87 u88 u89 u90 u91 u92 u93 u94 u95 u96 u97 u98 u99 u100 u101 u102 u103 u104 u105 u106 u107 u108 u109 u110 u111 u112 u113 u114 u115 u116 u117 u118 u119 u120 u121 u122 u123 u124 u125 u126 u127 u128 u129 u130 u131 u132 u133 u134 u135 u136 u137 u138 u139 u140 u141 u142 u143 u144 u145 u146 u147 u148 u149 u150 u151 u152 u153 u154 u155 u156 u157 u158 u159 u160 u161 u162 u163 u164 u165 u166 u167 u168 u169 u170 u171 u172 u173 u174 u175 u176 u177 u178 u179 u180 u181 u182 u183 u184 u185 u186 u187 u188 u189 u190 : Value) (wr : World) (B : St w wr [(w.heap.size, #[.int .i64 d.f, .int .i64 d.u, .slice A1 d.sp.length c1, .slice A2 d.ov.length c2, .slice A3 d.df.length c3, .slice A4 d.py.length c4, .slice A5 d.fo.length c5], 28)])
    (hK : ∀ (v13 v157 v158 v159 v160 v161 v162 v163 v164 v165 v166 v167 v168 v169 v170 v171 v172 v173 v174 v175 v176 v177 v178 v179 v180 v181 v182 v183 v184 v185 v186 v187 v188 v189 : Value) (w' : World), St w w' [(w.heap.size, #[.int .i64 d.f, .int .i64 d.u, .slice A1 d.sp.length c1, .slice A2 d.ov.length c2, .slice A3 d.df.length c3, .slice A4 d.py.length c4, .slice A5 d.fo.length c5], 28)] → K ⟨#[u0, .pointer (some ⟨w.heap.size, 0, none⟩), u2, .string (rowsF (scr4 d) Frg.g 6 d.fo), u4, u5, u6, u7, u8, u9, u10, u11, .int .i64 d.fo.length, v13, u14, u15, u16, u17, u18, u19, u20, u21, u22, u23, u24, u25, u26, u27, u28, u29, u30, u31, u32, u33, u34, u35, u36, u37, u38, u39, u40, u41, u42, u43, u44, u45, u46, u47, u48, u49, u50, u51, u52, u53, u54, u55, u56, u57, u58, u59, u60, u61, u62, u63, u64, u65, u66, u67, u68, u69, u70, u71, u72, u73, u74, u75, u76, u77, u78, u79, u80, u81, u82, u83, u84, u85, u86, u87, u88, u89, u90, u91, u92, u93, u94, u95, u96, u97, u98, u99, u100, u101, u102, u103, u104, u105, u106, u107, u108, u109, u110, u111, u112, u113, u114, u115, u116, u117, u118, u119, u120, u121, u122, u123, u124, u125, u126, u127, u128, u129, u130, u131, u132, u133, u134, u135, u136, u137, u138, u139, u140, u141, u142, u143, u144, u145, u146, u147, u148, u149, u150, u151, u152, u153, u154, u155, u156, v157, v158, v159, v160, v161, v162, v163, v164, v165, v166, v167, v168, v169, v170, v171, v172, v173, v174, v175, v176, v177, v178, v179, v180, v181, v182, v183, v184, v185, v186, v187, v188, v189, u190], []⟩ w') :
    Code.wp Tryz.prog (codeAt Tryz.f19 [1, 1, 1, 1, 1, 1, 1, 1, 1, 1, 0, 1, 0]) (Exit.inBlock 8 (Exit.then K Q)) ⟨#[u0, .pointer (some ⟨w.heap.size, 0, none⟩), u2, .string (scr4 d), u4, u5, u6, u7, u8, u9, u10, u11, .int .i64 0, u13, u14, u15, u16, u17, u18, u19, u20, u21, u22, u23, u24, u25, u26, u27, u28, u29, u30, u31, u32, u33, u34, u35, u36, u37, u38, u39, u40, u41, u42, u43, u44, u45, u46, u47, u48, u49, u50, u51, u52, u53, u54, u55, u56, u57, u58, u59, u60, u61, u62, u63, u64, u65, u66, u67, u68, u69, u70, u71, u72, u73, u74, u75, u76, u77, u78, u79, u80, u81, u82, u83, u84, u85, u86, u87, u88, u89, u90, u91, u92, u93, u94, u95, u96, u97, u98, u99, u100, u101, u102, u103, u104, u105, u106, u107, u108, u109, u110, u111, u112, u113, u114, u115, u116, u117, u118, u119, u120, u121, u122, u123, u124, u125, u126, u127, u128, u129, u130, u131, u132, u133, u134, u135, u136, u137, u138, u139, u140, u141, u142, u143, u144, u145, u146, u147, u148, u149, u150, u151, u152, u153, u154, u155, u156, u157, u158, u159, u160, u161, u162, u163, u164, u165, u166, u167, u168, u169, u170, u171, u172, u173, u174, u175, u176, u177, u178, u179, u180, u181, u182, u183, u184, u185, u186, u187, u188, u189, u190], []⟩ wr := by
  show Code.wp Tryz.prog (Code.loop _) _ _ _
  dsimp only
  have H := Lib.hid h
  have Hb := Lib.hid hb
  have HK := Lib.hid hK
  clear h hb hK
  have N := Lib.hid number_any
  go_loopw [3, 12] (SRel w [(w.heap.size, #[.int .i64 d.f, .int .i64 d.u, .slice A1 d.sp.length c1, .slice A2 d.ov.length c2, .slice A3 d.df.length c3, .slice A4 d.py.length c4, .slice A5 d.fo.length c5], 28)] (scr4 d) Frg.g 6 d.fo) (fun _ v _ => d.fo.length - (intOf v).toNat)
  case atStart => exact ⟨0, by omega, rfl, rfl, B⟩
  case round =>
    clear B
    obtain ⟨k, hk, rfl, rfl, B⟩ := hrel
    have R := B.rules
    simp only [Rules] at R
    have hn := Hb.out.n5
    by_cases hlt : k < d.fo.length
    · have hlt' : (k : Int) < d.fo.length := by omega
      have hx : d.fo[k]? = some d.fo[k] := List.getElem?_eq_getElem hlt
      have HS := Lib.hid (rowsF_succ (s := scr4 d) (g := Frg.g) (sz := 6) hx)
      have HB := Lib.hid (Hb.out.b5 d.fo[k] (List.getElem_mem hlt))
      have hs1 : ¬ ((rowsF (scr4 d) Frg.g 6 (d.fo.take k)).size + (numF d.fo[k].g 6).size > 9223372036854775807) := by
        have h1 := rowsF_size Frg.g 6 (d.fo.take k) (scr4 d)
        have h2 := scr4_size Hb.out
        have h4 := numF_size d.fo[k].g 6
        rw [List.length_take] at h1
        omega
      obtain ⟨ad, ha, hl, e0, e⟩ := (H.out.r5.later B.below) k _ hx
      have e1 := e 1 (by omega) (by omega)
      have e2 := e 2 (by omega) (by omega)
      have e3 := e 3 (by omega) (by omega)
      have e4 := e 4 (by omega) (by omega)
      have e5 := e 5 (by omega) (by omega)
      clear e hx
      generalize d.fo[k] = x at HS HB hs1 e0 e1 e2 e3 e4 e5
      simp only [Frg.g] at e0 e1 e2 e3 e4 e5
      subst ha
      go_wp2_with fail
      refine (N.out _ 6 _ (by omega) x.g ?_ _ ?_).mono ?_
      · exact fun i hi => HB.out i hi
      · exact ints_at _ _ _ _ _ _ (by simp) (fun i hi => by rcases i with _ | _ | _ | _ | _ | _ | i <;> first | rfl | omega)
      generalize hX : World.alloc _ _ = X
      replace B := St.cast hX ((B.skip _).skip _)
      clear hX e0 e1 e2 e3 e4 e5 hl
      rintro e' w1 ⟨rfl, rfl⟩
      replace R := B.rules
      simp only [Rules] at R
      go_wp2
      exact ⟨⟨k + 1, by omega, by rw [HS.out], by go_num, B⟩, by simp [intOf]; omega⟩
    · obtain rfl : k = d.fo.length := by omega
      rw [List.take_length]
      go_wp2_with fail
      exact HK.out _ _ _ _ _ _ _ _ _ _ _ _ _ _ _ _ _ _ _ _ _ _ _ _ _ _ _ _ _ _ _ _ _ _ _ B
set_option maxRecDepth 100000 in
set_option maxHeartbeats 40000000 in
theorem script_any (d : Scr) (A1 A2 A3 A4 A5 : Option Addr) (c1 c2 c3 c4 c5 : Nat) (hb : ScrB d) (w : World) (h : ScrAt w d A1 A2 A3 A4 A5) :
    Calls Tryz.prog 19 #[.agg #[.int .i64 d.f, .int .i64 d.u, .slice A1 d.sp.length c1, .slice A2 d.ov.length c2, .slice A3 d.df.length c3, .slice A4 d.py.length c4, .slice A5 d.fo.length c5]] w (Ret (.string (scrS d)) w) := by
  have H := Lib.hid h
  have Hb := Lib.hid hb
  clear h hb
  have N := Lib.hid number_any
  go_enter Tryz.func19, Tryz.ntmps19
  have B := St.start w
  have R := B.rules
  go_wp2_with fail
  refine (N.out _ 3 _ (by omega) (one3 d.f d.u d.sp.length) ?_ _ ?_).mono ?_
  · intro i hi
    have := Hb.out.n1
    rcases i with _ | _ | _ | i
    · exact Hb.out.f
    · exact Hb.out.u
    · show I64 (d.sp.length : Int)
      constructor <;> omega
    · omega
  · exact ints_at _ _ _ _ _ _ (by simp) (fun i hi => by rcases i with _ | _ | _ | i <;> first | rfl | omega)
  generalize hX : World.alloc _ _ = X
  replace B := St.cast hX ((B.alloc _ _).skip _)
  clear hX
  rintro e' w1 ⟨rfl, rfl⟩
  replace R := B.rules
  simp only [Rules] at R
  go_wp2_with fail
  refine script_loop0 d A1 A2 A3 A4 A5 c1 c2 c3 c4 c5 Hb.out w H.out _ _ _ _ _ _ _ _ _ _ _ _ _ _ _ _ _ _ _ _ _ _ _ _ _ _ _ _ _ _ _ _ _ _ _ _ _ _ _ _ _ _ _ _ _ _ _ _ _ _ _ _ _ _ _ _ _ _ _ _ _ _ _ _ _ _ _ _ _ _ _ _ _ _ _ _ _ _ _ _ _ _ _ _ _ _ _ _ _ _ _ _ _ _ _ _ _ _ _ _ _ _ _ _ _ _ _ _ _ _ _ _ _ _ _ _ _ _ _ _ _ _ _ _ _ _ _ _ _ _ _ _ _ _ _ _ _ _ _ _ _ _ _ _ _ _ _ _ _ _ _ _ _ _ _ _ _ _ _ _ _ _ _ _ _ _ _ _ _ _ _ _ _ _ _ _ _ _ _ _ _ _ _ _ _ _ _ _ _ B ?_
  clear B R
  intro v5 v23 v24 v25 v26 v27 v28 v29 v30 v31 v32 v33 v34 v35 v36 v37 v38 v39 v40 v41 v42 v43 v44 v45 v46 v47 v48 w2 B
  have R := B.rules
  simp only [Rules] at R
  have hs1 : ¬ ((rowsF (scr0 d) Spl.g 5 d.sp).size + (numF (one1 d.ov.length) 1).size > 9223372036854775807) := by
    have h1 := rowsF_size Spl.g 5 d.sp (scr0 d)
    have h2 := scr0_size d
    have h3 := Hb.out.n1
    have h4 := numF_size (one1 d.ov.length) 1
    omega
  go_wp2_with fail
  refine (N.out _ 1 _ (by omega) (one1 d.ov.length) ?_ _ ?_).mono ?_
  · intro i hi
    have := Hb.out.n2
    show I64 (d.ov.length : Int)
    constructor <;> omega
  · exact ints_at _ _ _ _ _ _ (by simp) (fun i hi => by rcases i with _ | i <;> first | rfl | omega)
  generalize hX : World.alloc _ _ = X
  replace B := St.cast hX (B.skip _)
  clear hX
  rintro e' w3 ⟨rfl, rfl⟩
  replace R := B.rules
  simp only [Rules] at R
  go_wp2_with fail
  clear hs1
  refine script_loop1 d A1 A2 A3 A4 A5 c1 c2 c3 c4 c5 Hb.out w H.out _ _ _ _ _ _ _ _ _ _ _ _ _ _ _ _ _ _ _ _ _ _ _ _ _ _ _ _ _ _ _ _ _ _ _ _ _ _ _ _ _ _ _ _ _ _ _ _ _ _ _ _ _ _ _ _ _ _ _ _ _ _ _ _ _ _ _ _ _ _ _ _ _ _ _ _ _ _ _ _ _ _ _ _ _ _ _ _ _ _ _ _ _ _ _ _ _ _ _ _ _ _ _ _ _ _ _ _ _ _ _ _ _ _ _ _ _ _ _ _ _ _ _ _ _ _ _ _ _ _ _ _ _ _ _ _ _ _ _ _ _ _ _ _ _ _ _ _ _ _ _ _ _ _ _ _ _ _ _ _ _ _ _ _ _ _ _ _ _ _ _ _ _ _ _ _ _ _ _ _ _ _ _ _ _ _ _ _ _ B ?_
  clear B R
  intro v7 v56 v57 v58 v59 v60 v61 v62 v63 v64 v65 v66 v67 v68 v69 v70 v71 v72 v73 v74 v75 v76 v77 v78 v79 v80 v81 v82 v83 v84 v85 w2 B
  have R := B.rules
  simp only [Rules] at R
  have hs1 : ¬ ((rowsF (scr1 d) Ovr.g 7 d.ov).size + (numF (one1 d.df.length) 1).size > 9223372036854775807) := by
    have h1 := rowsF_size Ovr.g 7 d.ov (scr1 d)
    have h2 := scr1_size Hb.out
    have h3 := Hb.out.n2
    have h4 := numF_size (one1 d.df.length) 1
    omega
  go_wp2_with fail
  refine (N.out _ 1 _ (by omega) (one1 d.df.length) ?_ _ ?_).mono ?_
  · intro i hi
    have := Hb.out.n3
    show I64 (d.df.length : Int)
    constructor <;> omega
  · exact ints_at _ _ _ _ _ _ (by simp) (fun i hi => by rcases i with _ | i <;> first | rfl | omega)
  generalize hX : World.alloc _ _ = X
  replace B := St.cast hX (B.skip _)
  clear hX
  rintro e' w3 ⟨rfl, rfl⟩
  replace R := B.rules
  simp only [Rules] at R
  go_wp2_with fail
  clear hs1
  refine script_loop2 d A1 A2 A3 A4 A5 c1 c2 c3 c4 c5 Hb.out w H.out _ _ _ _ _ _ _ _ _ _ _ _ _ _ _ _ _ _ _ _ _ _ _ _ _ _ _ _ _ _ _ _ _ _ _ _ _ _ _ _ _ _ _ _ _ _ _ _ _ _ _ _ _ _ _ _ _ _ _ _ _ _ _ _ _ _ _ _ _ _ _ _ _ _ _ _ _ _ _ _ _ _ _ _ _ _ _ _ _ _ _ _ _ _ _ _ _ _ _ _ _ _ _ _ _ _ _ _ _ _ _ _ _ _ _ _ _ _ _ _ _ _ _ _ _ _ _ _ _ _ _ _ _ _ _ _ _ _ _ _ _ _ _ _ _ _ _ _ _ _ _ _ _ _ _ _ _ _ _ _ _ _ _ _ _ _ _ _ _ _ _ _ _ _ _ _ _ _ _ _ _ _ _ _ _ _ _ _ _ B ?_
  clear B R
  intro v9 v93 v94 v95 v96 v97 v98 v99 v100 v101 v102 v103 v104 v105 v106 v107 v108 v109 v110 v111 v112 v113 v114 v115 v116 v117 v118 w2 B
  have R := B.rules
  simp only [Rules] at R
  have hs1 : ¬ ((rowsF (scr2 d) Dfc.g 5 d.df).size + (numF (one1 d.py.length) 1).size > 9223372036854775807) := by
    have h1 := rowsF_size Dfc.g 5 d.df (scr2 d)
    have h2 := scr2_size Hb.out
    have h3 := Hb.out.n3
    have h4 := numF_size (one1 d.py.length) 1
    omega
  go_wp2_with fail
  refine (N.out _ 1 _ (by omega) (one1 d.py.length) ?_ _ ?_).mono ?_
  · intro i hi
    have := Hb.out.n4
    show I64 (d.py.length : Int)
    constructor <;> omega
  · exact ints_at _ _ _ _ _ _ (by simp) (fun i hi => by rcases i with _ | i <;> first | rfl | omega)
  generalize hX : World.alloc _ _ = X
  replace B := St.cast hX (B.skip _)
  clear hX
  rintro e' w3 ⟨rfl, rfl⟩
  replace R := B.rules
  simp only [Rules] at R
  go_wp2_with fail
  clear hs1
  refine script_loop3 d A1 A2 A3 A4 A5 c1 c2 c3 c4 c5 Hb.out w H.out _ _ _ _ _ _ _ _ _ _ _ _ _ _ _ _ _ _ _ _ _ _ _ _ _ _ _ _ _ _ _ _ _ _ _ _ _ _ _ _ _ _ _ _ _ _ _ _ _ _ _ _ _ _ _ _ _ _ _ _ _ _ _ _ _ _ _ _ _ _ _ _ _ _ _ _ _ _ _ _ _ _ _ _ _ _ _ _ _ _ _ _ _ _ _ _ _ _ _ _ _ _ _ _ _ _ _ _ _ _ _ _ _ _ _ _ _ _ _ _ _ _ _ _ _ _ _ _ _ _ _ _ _ _ _ _ _ _ _ _ _ _ _ _ _ _ _ _ _ _ _ _ _ _ _ _ _ _ _ _ _ _ _ _ _ _ _ _ _ _ _ _ _ _ _ _ _ _ _ _ _ _ _ _ _ _ _ _ _ B ?_
  clear B R
  intro v11 v126 v127 v128 v129 v130 v131 v132 v133 v134 v135 v136 v137 v138 v139 v140 v141 v142 v143 v144 v145 v146 v147 v148 v149 w2 B
  have R := B.rules
  simp only [Rules] at R
  have hs1 : ¬ ((rowsF (scr3 d) Pay.g 4 d.py).size + (numF (one1 d.fo.length) 1).size > 9223372036854775807) := by
    have h1 := rowsF_size Pay.g 4 d.py (scr3 d)
    have h2 := scr3_size Hb.out
    have h3 := Hb.out.n4
    have h4 := numF_size (one1 d.fo.length) 1
    omega
  go_wp2_with fail
  refine (N.out _ 1 _ (by omega) (one1 d.fo.length) ?_ _ ?_).mono ?_
  · intro i hi
    have := Hb.out.n5
    show I64 (d.fo.length : Int)
    constructor <;> omega
  · exact ints_at _ _ _ _ _ _ (by simp) (fun i hi => by rcases i with _ | i <;> first | rfl | omega)
  generalize hX : World.alloc _ _ = X
  replace B := St.cast hX (B.skip _)
  clear hX
  rintro e' w3 ⟨rfl, rfl⟩
  replace R := B.rules
  simp only [Rules] at R
  go_wp2_with fail
  clear hs1
  refine script_loop4 d A1 A2 A3 A4 A5 c1 c2 c3 c4 c5 Hb.out w H.out _ _ _ _ _ _ _ _ _ _ _ _ _ _ _ _ _ _ _ _ _ _ _ _ _ _ _ _ _ _ _ _ _ _ _ _ _ _ _ _ _ _ _ _ _ _ _ _ _ _ _ _ _ _ _ _ _ _ _ _ _ _ _ _ _ _ _ _ _ _ _ _ _ _ _ _ _ _ _ _ _ _ _ _ _ _ _ _ _ _ _ _ _ _ _ _ _ _ _ _ _ _ _ _ _ _ _ _ _ _ _ _ _ _ _ _ _ _ _ _ _ _ _ _ _ _ _ _ _ _ _ _ _ _ _ _ _ _ _ _ _ _ _ _ _ _ _ _ _ _ _ _ _ _ _ _ _ _ _ _ _ _ _ _ _ _ _ _ _ _ _ _ _ _ _ _ _ _ _ _ _ _ _ _ _ _ _ _ _ B ?_
  clear B R
  intro v13 v157 v158 v159 v160 v161 v162 v163 v164 v165 v166 v167 v168 v169 v170 v171 v172 v173 v174 v175 v176 v177 v178 v179 v180 v181 v182 v183 v184 v185 v186 v187 v188 v189 w2 B
  have R := B.rules
  simp only [Rules] at R
  go_wp2
  go_ret
  exact ⟨rfl, B.below⟩
end Go.Proofs.YtbkipanlicgooaaGreatDoor
