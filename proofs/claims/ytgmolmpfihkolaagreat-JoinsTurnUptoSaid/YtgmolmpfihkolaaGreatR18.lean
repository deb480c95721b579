/- Part of the proof. -/
import Derived.Test.YtgmolmpfihkolaaGreatR17
import Derived.Deep.Cut
import Derived.Deep.CutRange
namespace Go.Proofs.YtgmolmpfihkolaaGreat
open Go.RowKit
set_option linter.unusedVariables false
set_option maxRecDepth 100000
theorem wrI_add {a b c : Nat} (h : a + b = c) (hc : c < 2199023255552) : IntKind.i64.wrap ((a : Int) + (b : Int)) = (c : Int) := by rw [IntKind.wrap_i64]; omega
theorem wrI_sub {a b c : Nat} (h : c + b = a) (hc : a < 2199023255552) : IntKind.i64.wrap ((a : Int) - (b : Int)) = (c : Int) := by rw [IntKind.wrap_i64]; omega
theorem wrI_nat {c : Nat} (hc : c < 2199023255552) : IntKind.i64.wrap (c : Int) = (c : Int) := by rw [IntKind.wrap_i64]; omega
theorem wrU_nat {c : Nat} (hc : c < 2199023255552) : IntKind.u64.wrap (c : Int) = (c : Int) := by rw [IntKind.wrap_u64]; omega
def Bs (q : Nat → Prop) (lo hi i j : Nat) : Prop := lo ≤ i ∧ i ≤ j ∧ j ≤ hi ∧ (∀ k, lo ≤ k → k < i → q k) ∧ (∀ k, j ≤ k → k < hi → ¬ q k)
theorem Bs.right {q : Nat → Prop} {lo hi i j h : Nat} (H : Bs q lo hi i j) (hm : ∀ a b, lo ≤ a → a ≤ b → b < hi → q b → q a) (hh : h = (i + j) / 2) (hij : i < j) (hq : q h) : Bs q lo hi (h + 1) j := by
 obtain ⟨h1, h2, h3, h4, h5⟩ := H
 exact ⟨by omega, by omega, h3, fun k k1 k2 => hm k h k1 (by omega) (by omega) hq, h5⟩
theorem Bs.left {q : Nat → Prop} {lo hi i j h : Nat} (H : Bs q lo hi i j) (hm : ∀ a b, lo ≤ a → a ≤ b → b < hi → q b → q a) (hh : h = (i + j) / 2) (hij : i < j) (hq : ¬ q h) : Bs q lo hi i h := by
 obtain ⟨h1, h2, h3, h4, h5⟩ := H
 exact ⟨h1, by omega, by omega, h4, fun k k1 k2 qk => hq (hm h k (by omega) k1 k2 qk)⟩
def mv (P R S : List E2) (x : E2) (n : Nat) : List E2 := P ++ (R.take n ++ x :: (R.drop n ++ S))
theorem mv_length (P R S : List E2) (x : E2) (n : Nat) : (mv P R S x n).length = P.length + (R.length + S.length + 1) := by
 have h : (R.take n).length + (R.drop n).length = R.length := by rw [← List.length_append, List.take_append_drop]
 unfold mv
 simp only [List.length_append, List.length_cons]
 omega
theorem swpE_fwd (Q T : List E2) (x y : E2) : swpE (Q ++ x :: y :: T) Q.length (Q.length + 1) = Q ++ y :: x :: T := by
 unfold swpE
 have e1 : (Q ++ x :: y :: T)[Q.length]! = x := by
  rw [List.getElem!_eq_getElem?_getD, List.getElem?_append_right (Nat.le_refl _)]; simp
 have e2 : (Q ++ x :: y :: T)[Q.length + 1]! = y := by
  rw [List.getElem!_eq_getElem?_getD, List.getElem?_append_right (by omega)]; simp
 rw [e1, e2, List.set_append_right _ _ (Nat.le_refl _), Nat.sub_self, List.set_append_right _ _ (by omega), Nat.add_sub_cancel_left]
 rfl
theorem mv_at {P R S : List E2} {x : E2} {n : Nat} (h : n < R.length) : mv P R S x n = (P ++ R.take n) ++ x :: R[n] :: (R.drop (n + 1) ++ S) := by
 unfold mv
 rw [List.drop_eq_getElem_cons h, List.append_assoc]
 rfl
theorem mv_at2 {P R S : List E2} {x : E2} {n : Nat} (h : n < R.length) : mv P R S x (n + 1) = (P ++ R.take n) ++ R[n] :: x :: (R.drop (n + 1) ++ S) := by
 unfold mv
 rw [List.take_succ_eq_append_getElem h, List.append_assoc, List.append_assoc]
 rfl
theorem mv_eq (P R S : List E2) (x : E2) (n : Nat) : mv P R S x n = P ++ ((R.take n ++ x :: R.drop n) ++ S) := by
 unfold mv; simp only [List.append_assoc, List.cons_append]
theorem mv_up {P R S : List E2} {x : E2} {n : Nat} (h : n < R.length) : swpE (mv P R S x n) (P.length + n) (P.length + n + 1) = mv P R S x (n + 1) := by
 rw [mv_at h, mv_at2 h]
 have e : P.length + n = (P ++ R.take n).length := by rw [List.length_append, List.length_take]; omega
 rw [e, swpE_fwd]
theorem mv_down {P R S : List E2} {x : E2} {n : Nat} (h : n < R.length) : swpE (mv P R S x (n + 1)) (P.length + n + 1) (P.length + n) = mv P R S x n := by
 rw [mv_at h, mv_at2 h]
 have e : P.length + n = (P ++ R.take n).length := by rw [List.length_append, List.length_take]; omega
 rw [e, swpE_back]
set_option maxHeartbeats 4000000 in
theorem symL_any (blk tag sz cap : Nat) (cf : E2 → E2 → Int) (OK : E2 → Prop) (hcf : Cmps cf) (P R S : List E2) (x : E2) (w0 w : World) (hC : CmpAns w0 blk cf OK) (hOK : ∀ x', x' ∈ P ++ (x :: (R ++ S)) → OK x') (hR : SortedE cf R) (h0 : 0 < R.length)
 (hS : SortW w0 blk tag sz (P ++ (x :: (R ++ S))) w) (len a m b : Nat) (hlen : (P ++ (x :: (R ++ S))).length = len) (ha : P.length = a) (hm : a + 1 = m) (hb : m + R.length = b) (hl : len < 1099511627776) :
 Calls Tryz.prog 100 #[.slice (some ⟨blk, 0, none⟩) len cap, .int .i64 a, .int .i64 m, .int .i64 b, byF] w fun e w' => e = .returned (.tuple #[]) ∧ ∃ X', X'.Perm ([x] ++ R) ∧ SortedE cf X' ∧ SortW w0 blk tag sz (P ++ (X' ++ S)) w' := by
 obtain ⟨d, hd⟩ : ∃ d, d = P ++ (x :: (R ++ S)) := ⟨_, rfl⟩
 rw [← hd] at hS hOK hlen
 have hle : b ≤ len := by rw [← hlen, hd, ← hb, ← hm, ← ha]; simp only [List.length_append, List.length_cons]; omega
 have hx : d[a]! = x := by rw [hd, ← ha, List.getElem!_eq_getElem?_getD, List.getElem?_append_right (Nat.le_refl _)]; simp
 have hr : ∀ k, m ≤ k → k < b → d[k]! = R[k - m]! := fun k h1 h2 => by
  rw [hd, List.getElem!_eq_getElem?_getD, List.getElem!_eq_getElem?_getD, List.getElem?_append_right (by omega), show k - P.length = (k - m) + 1 by omega, List.getElem?_cons_succ, List.getElem?_append_left (by omega)]
 have MONO : Hid (∀ u v, m ≤ u → u ≤ v → v < b → cf d[v]! x < 0 → cf d[u]! x < 0) := hdq (fun u v h1 h2 h3 h4 => by
  rw [hr u h1 (by omega)]
  rw [hr v (by omega) h3] at h4
  exact hcf.lt_of_le (hR.at hcf (by omega) (by omega)) h4)
 have HCF := hdq hcf
 have HC := hdq hC
 have HOK := hdq hOK
 have HLN := hdq hlen
 have HX := hdq hx
 have HLE : Hid (b ≤ len ∧ len < 1099511627776 ∧ a + 1 = m ∧ m < b) := ⟨hle, hl, hm, by omega⟩
 have FIN : Hid (∀ i, Bs (fun k => cf d[k]! x < 0) m b i i → (R.take (i - m) ++ x :: R.drop (i - m)).Perm ([x] ++ R) ∧ SortedE cf (R.take (i - m) ++ x :: R.drop (i - m))) := hdq (fun i hB => by
  obtain ⟨h1, h2, h3, h4, h5⟩ := hB
  refine one_left hcf hR (by omega) ?_ ?_
  ·by_cases e : i = m
   ·exact Or.inl (by omega)
   ·have := h4 (i - 1) (by omega) (by omega)
    simp only at this
    rw [hr _ (by omega) (by omega)] at this
    exact Or.inr (by rw [show i - m - 1 = i - 1 - m by omega]; exact this)
  ·by_cases e : i = b
   ·exact Or.inl (by omega)
   ·have := h5 i (by omega) (by omega)
    simp only at this
    rw [hr _ (by omega) (by omega)] at this
    exact Or.inr this)
 have DD := hdq hd
 have LR := hdq hb
 have PA := hdq ha
 have ST := hdq hS
 have B0 : Hid (Bs (fun k => cf d[k]! x < 0) m b m b) := ⟨Nat.le_refl _, by omega, Nat.le_refl _, fun k h1 h2 => by omega, fun k h1 h2 => by omega⟩
 clear hcf hC hOK hlen hx hle hl hb ha hd hr hS hR h0
 have r0 : IntKind.i64.wrap ((m : Int) - (a : Int)) = 1 := by have := HLE.out; rw [IntKind.wrap_i64]; omega
 have s0 : wrap64 ((m : Int) - (a : Int)) = 1 := by have := HLE.out; clear r0; exact wr_i64 _ (by omega) (by omega) (by omega)
 clear hm
 go_enter Tryz.func100, Tryz.ntmps100
 go_wp2
 go_loopw [10, 11] (fun vi vj wr => ∃ i j : Nat, vi = .int .i64 i ∧ vj = .int .i64 j ∧ Hid (Bs (fun k => cf d[k]! x < 0) m b i j) ∧ Hid (SortW w0 blk tag sz d wr)) (fun vi vj _ => (intOf vj).toNat - (intOf vi).toNat)
 case atStart => exact ⟨m, b, rfl, rfl, B0, ST⟩
 case round =>
  obtain ⟨i, j, rfl, rfl, HB, HW⟩ := hrel
  clear ST B0 r0 s0
  by_cases hlt : i < j
  ·obtain ⟨z1, z2, z3, _, _⟩ := HB.out
   have hle := HLE.out
   obtain ⟨ij, hij⟩ : ∃ ij, ij = i + j := ⟨_, rfl⟩
   obtain ⟨h, hh⟩ : ∃ h, h = ij / 2 := ⟨_, rfl⟩
   have HD2 : Hid ((ij : Int) / 2 = (h : Int)) := hdq (by omega)
   have n1 : ij < 2199023255552 := by omega
   have n2 : h < 2199023255552 := by omega
   have HH : Hid (h = (i + j) / 2 ∧ m ≤ i ∧ i ≤ h ∧ h < j ∧ j ≤ b ∧ h < len) := ⟨by rw [hh, hij], z1, by omega, by omega, z3, by omega⟩
   obtain ⟨u, hu⟩ : ∃ u, u = d[h]! := ⟨_, rfl⟩
   have hal : a < len := by have := HH.out; have := HLE.out; omega
   have gu := E2.get! (dk := d) (i := h) (by have := HH.out; have := HLN.out; omega)
   have gx := E2.get! (dk := d) (i := a) (by have := HLN.out; omega)
   rw [← hu] at gu
   rw [HX.out] at gx
   have oku := HOK.out u (List.mem_of_getElem? gu)
   have okx := HOK.out x (List.mem_of_getElem? gx)
   obtain ⟨c1, c2, _, _⟩ := HW.out.cells gu
   obtain ⟨c3, c4, _, _⟩ := HW.out.cells gx
   have GU := hdq gu
   have GX := hdq gx
   obtain ⟨p, hp⟩ : ∃ p, p = cf u x := ⟨_, rfl⟩
   have HP := hdq (show p = cf d[h]! x by rw [hp, hu])
   obtain ⟨x0, x1⟩ := u
   obtain ⟨y0, y1⟩ := x
   simp only at c1 c2 c3 c4
   have HCC : Hid (∀ W : World, (W.cell? ⟨blk, h * 2, none⟩ = some x0 ∧ W.cell? ⟨blk, h * 2 + 1, none⟩ = some x1 ∧ W.cell? ⟨blk, a * 2, none⟩ = some y0 ∧ W.cell? ⟨blk, a * 2 + 1, none⟩ = some y1 ∧ Hid (SortW w0 blk tag sz d W)) → Calls Tryz.prog 44 #[.agg #[x0, x1], .agg #[y0, y1]] W fun e w' => e = .returned (.int .i64 p) ∧ (w'.cell? ⟨blk, h * 2, none⟩ = some x0 ∧ w'.cell? ⟨blk, h * 2 + 1, none⟩ = some x1 ∧ w'.cell? ⟨blk, a * 2, none⟩ = some y0 ∧ w'.cell? ⟨blk, a * 2 + 1, none⟩ = some y1 ∧ Hid (SortW w0 blk tag sz d w'))) := hdq (fun W hS => (HC.out (x0, x1) (y0, y1) W oku okx hS.2.2.2.2.out.2.1).mono (fun e w' h => by
    have h2 := hS.2.2.2.2.out.below h.2
    obtain ⟨q1, q2, _, _⟩ := h2.cells GU.out
    obtain ⟨q3, q4, _, _⟩ := h2.cells GX.out
    exact ⟨by rw [h.1, hp], q1, q2, q3, q4, hdq h2⟩))
   have ph : (0 : Int) ≤ (h : Int) := by omega
   have bh : (h : Int) < (len : Int) := by have := HH.out; omega
   have nh : h < len := HH.out.2.2.2.2.2
   have pa : (0 : Int) ≤ (a : Int) := by omega
   have ba : (a : Int) < (len : Int) := by omega
   clear hu gu gx oku okx hp
   by_cases hp0 : p < 0
   ·obtain ⟨h1, hh1⟩ : ∃ h1, h1 = h + 1 := ⟨_, rfl⟩
    have NB : Hid (Bs (fun k => cf d[k]! (y0, y1) < 0) m b h1 j) := hdq (hh1 ▸ HB.out.right MONO.out HH.out.1 hlt (by show cf d[h]! (y0, y1) < 0; rw [← HP.out]; exact hp0))
    have MS : Hid (j - h1 < j - i) := hdq (by have := HH.out; omega)
    have n3 : h1 < 2199023255552 := by omega
    have r5 := wrI_add (a := h) (b := 1) hh1.symm n3
    have s5 := wr_add (a := h) (b := 1) hh1.symm n3
    simp only [Int.natCast_one] at r5 s5
    clear hh1 n3 MONO FIN
    have q1 := wrU_nat n1
    have q2 := wrI_nat n2
    have r1 := wrI_add hij.symm n1
    have s1 := wr_add hij.symm n1
    clear hij hh n1 n2 z1 z2 z3 hle
    have hd2 : (ij : Int) / 2 = (h : Int) := HD2.out
    go_wp2
    go_region_held3 (fun W : World => W.cell? ⟨blk, h * 2, none⟩ = some x0 ∧ W.cell? ⟨blk, h * 2 + 1, none⟩ = some x1 ∧ W.cell? ⟨blk, a * 2, none⟩ = some y0 ∧ W.cell? ⟨blk, a * 2 + 1, none⟩ = some y1 ∧ Hid (SortW w0 blk tag sz d W)) (first | (exact ⟨by simpa using c1, by simpa using c2, by simpa using c3, by simpa using c4, hdq HW.out.drew⟩) | assumption) (first | (go_at_call 44; refine (HCC.out _ (by assumption)).mono ?_; rintro e wx ⟨rfl, hSx⟩))
    have HFIN := hdq hSx.2.2.2.2.out
    clear hSx c1 c2 c3 c4
    go_wp2
    go_roundw
    case rel => exact ⟨h1, j, rfl, rfl, NB, HFIN⟩
    case measure => simpa [intOf] using MS.out
   ·have NB : Hid (Bs (fun k => cf d[k]! (y0, y1) < 0) m b i h) := hdq (HB.out.left MONO.out HH.out.1 hlt (by show ¬ cf d[h]! (y0, y1) < 0; rw [← HP.out]; exact hp0))
    have MS : Hid (h - i < j - i) := hdq (by have := HH.out; omega)
    have HP1 := hdq hp0
    clear hp0 MONO FIN
    have q1 := wrU_nat n1
    have q2 := wrI_nat n2
    have r1 := wrI_add hij.symm n1
    have s1 := wr_add hij.symm n1
    clear hij hh n1 n2 z1 z2 z3 hle
    have hd2 : (ij : Int) / 2 = (h : Int) := HD2.out
    go_wp2
    go_region_held3 (fun W : World => W.cell? ⟨blk, h * 2, none⟩ = some x0 ∧ W.cell? ⟨blk, h * 2 + 1, none⟩ = some x1 ∧ W.cell? ⟨blk, a * 2, none⟩ = some y0 ∧ W.cell? ⟨blk, a * 2 + 1, none⟩ = some y1 ∧ Hid (SortW w0 blk tag sz d W)) (first | (exact ⟨by simpa using c1, by simpa using c2, by simpa using c3, by simpa using c4, hdq HW.out.drew⟩) | assumption) (first | (go_at_call 44; refine (HCC.out _ (by assumption)).mono ?_; rintro e wx ⟨rfl, hSx⟩))
    have HFIN := hdq hSx.2.2.2.2.out
    clear hSx c1 c2 c3 c4
    have hd0 : decide (p < 0) = false := decide_eq_false (Int.not_lt.2 HP1.out)
    rw [hd0]
    clear hd0
    go_wp2
    go_roundw
    case rel => exact ⟨i, h, rfl, rfl, NB, HFIN⟩
    case measure => simpa [intOf] using MS.out
  ·obtain rfl : i = j := by obtain ⟨_, h1, _⟩ := HB.out; omega
   have FI := hdq (FIN.out i HB.out)
   obtain ⟨i1, hi1⟩ : ∃ i1, i1 + 1 = i := ⟨i - 1, by have := HLE.out; have := HB.out.1; omega⟩
   have HI : Hid (m ≤ i ∧ i ≤ b ∧ i1 + 1 = i) := ⟨HB.out.1, HB.out.2.2.1, hi1⟩
   have ni : i < 2199023255552 := by have := HLE.out; have := HI.out; omega
   have ST2 : Hid (SortW w0 blk tag sz (mv P R S x 0) wr) := hdq (by have := HW.out; rw [DD.out] at this; exact this)
   have NL : Hid (P.length + (R.length + S.length + 1) = len) := hdq (by have := HLN.out; rw [DD.out] at this; simp only [List.length_append, List.length_cons] at this; omega)
   have r0 := wrI_sub (a := i) (b := 1) hi1 ni
   have s0 := wr_sub (a := i) (b := 1) hi1 ni
   simp only [Int.natCast_one] at r0 s0
   clear FIN HB HW MONO DD HLN HX HOK HC HCF hi1 ni
   go_wp2
   go_loopw [13] (fun vk wr2 => ∃ k n : Nat, vk = .int .i64 k ∧ Hid (k = a + n ∧ k ≤ i1) ∧ Hid (SortW w0 blk tag sz (mv P R S x n) wr2)) (fun vk _ => i1 - (intOf vk).toNat)
   case atStart => exact ⟨a, 0, rfl, hdq ⟨rfl, by have := HI.out; have := HLE.out; omega⟩, ST2⟩
   case round =>
    obtain ⟨k, n, rfl, HK, HW2⟩ := hrel
    clear ST2
    by_cases hlt2 : k < i1
    ·have hle := HLE.out
     have hb := LR.out
     have hk := HK.out.1
     have hn : n < R.length := by have := HI.out; omega
     obtain ⟨k1, hk1⟩ : ∃ k1, k1 = k + 1 := ⟨_, rfl⟩
     obtain ⟨dk, hdk⟩ : ∃ dk, dk = mv P R S x n := ⟨_, rfl⟩
     have hW := HW2.out
     rw [← hdk] at hW
     have hdl : dk.length = len := by rw [hdk, mv_length, NL.out]
     have hkl : k1 < len := by have := HI.out; omega
     have hnx : swpE dk k k1 = mv P R S x (n + 1) := by
      rw [hdk, hk1, hk, ← PA.out]; exact mv_up hn
     obtain ⟨y, hy⟩ : ∃ y, y = dk[k]! := ⟨_, rfl⟩
     obtain ⟨z, hz⟩ : ∃ z, z = dk[k1]! := ⟨_, rfl⟩
     have gy := E2.get! (dk := dk) (i := k) (by omega)
     have gz := E2.get! (dk := dk) (i := k1) (by omega)
     rw [← hy] at gy
     rw [← hz] at gz
     obtain ⟨c1, c2, f1, f2⟩ := hW.cells gy
     obtain ⟨c3, c4, f3, f4⟩ := hW.cells gz
     have o1 := hW.one gy
     have o2 := hW.one gz
     have HSW := hdq (hW.swap (i := k) (j := k1) (by omega) (by omega)).drew
     rw [← hy, ← hz, hnx] at HSW
     obtain ⟨x0, x1⟩ := y
     obtain ⟨y0, y1⟩ := z
     simp only at c1 c2 c3 c4 f1 f2 f3 f4 o1 o2 HSW
     have sx0 : ∀ (W : World) (p : Addr) (m : Mode), (store p x0 m).run Tryz.prog W = stored Tryz.prog W p x0 m := fun W p m => run_store Tryz.prog W p x0 m o1.1
     have sx1 : ∀ (W : World) (p : Addr) (m : Mode), (store p x1 m).run Tryz.prog W = stored Tryz.prog W p x1 m := fun W p m => run_store Tryz.prog W p x1 m o1.2
     have sy0 : ∀ (W : World) (p : Addr) (m : Mode), (store p y0 m).run Tryz.prog W = stored Tryz.prog W p y0 m := fun W p m => run_store Tryz.prog W p y0 m o2.1
     have sy1 : ∀ (W : World) (p : Addr) (m : Mode), (store p y1 m).run Tryz.prog W = stored Tryz.prog W p y1 m := fun W p m => run_store Tryz.prog W p y1 m o2.2
     have pk : (0 : Int) ≤ (k : Int) := by omega
     have bk : (k : Int) < (len : Int) := by omega
     have nk : k < len := by omega
     have pk1 : (0 : Int) ≤ (k1 : Int) := by omega
     have bk1 : (k1 : Int) < (len : Int) := by omega
     have ne1 : ¬ k * 2 = k1 * 2 := by omega
     have ne2 : ¬ k * 2 + 1 = k1 * 2 := by omega
     have ne3 : ¬ k * 2 = k1 * 2 + 1 := by omega
     have ne4 : ¬ k * 2 + 1 = k1 * 2 + 1 := by omega
     have KN : Hid (k1 = a + (n + 1) ∧ k1 ≤ i1) := hdq ⟨by omega, by omega⟩
     have MS : Hid (i1 - k1 < i1 - k) := hdq (by omega)
     have n1 : k1 < 2199023255552 := by omega
     have n2 : k1 = k + 1 := hk1
     have LT : Hid (k < i1) := hdq hlt2
     clear hle hb hk hn hk1 hdk hW hdl hnx hy hz gy gz o1 o2 HW2
     have r1 := wrI_add (a := k) (b := 1) n2.symm n1
     have s1 := wr_add (a := k) (b := 1) n2.symm n1
     simp only [Int.natCast_one] at r1 s1
     clear n2 n1
     go_wp2_with fail
     go_big_region
     go_wp2
     go_roundw
     case rel => exact ⟨k1, n + 1, rfl, KN, HSW⟩
     case measure => simpa [intOf] using MS.out
    ·have hk : n = i - m := by have := HI.out; have := HK.out; have := HLE.out; omega
     have HE := HW2.out
     rw [hk, mv_eq] at HE
     have FN := hdq (And.intro FI.out.1 (And.intro FI.out.2 HE))
     clear HE
     have HK2 := hdq hk
     clear hk
     go_wp2
     (try simp only [Exit.inBlock, Exit.then])
     refine bodyPost_ret (results_none rfl _ _ _) rfl ?_
     exact ⟨rfl, _, FN.out⟩
theorem mv_full (P R S : List E2) (x : E2) : mv P R S x R.length = P ++ (R ++ (x :: S)) := by
 unfold mv; simp
set_option maxHeartbeats 4000000 in
theorem symR_any (blk tag sz cap : Nat) (cf : E2 → E2 → Int) (OK : E2 → Prop) (hcf : Cmps cf) (P L S : List E2) (x : E2) (w0 w : World) (hC : CmpAns w0 blk cf OK) (hOK : ∀ x', x' ∈ P ++ (L ++ (x :: S)) → OK x') (hL : SortedE cf L) (h0 : 1 < L.length)
 (hS : SortW w0 blk tag sz (P ++ (L ++ (x :: S))) w) (len a m b : Nat) (hlen : (P ++ (L ++ (x :: S))).length = len) (ha : P.length = a) (hm : a + L.length = m) (hb : m + 1 = b) (hl : len < 1099511627776) :
 Calls Tryz.prog 100 #[.slice (some ⟨blk, 0, none⟩) len cap, .int .i64 a, .int .i64 m, .int .i64 b, byF] w fun e w' => e = .returned (.tuple #[]) ∧ ∃ X', X'.Perm (L ++ [x]) ∧ SortedE cf X' ∧ SortW w0 blk tag sz (P ++ (X' ++ S)) w' := by
 obtain ⟨d, hd⟩ : ∃ d, d = P ++ (L ++ (x :: S)) := ⟨_, rfl⟩
 rw [← hd] at hS hOK hlen
 have hle : b ≤ len := by rw [← hlen, hd, ← hb, ← hm, ← ha]; simp only [List.length_append, List.length_cons]; omega
 have hx : d[m]! = x := by rw [hd, ← hm, ← ha, List.getElem!_eq_getElem?_getD, List.getElem?_append_right (by omega), List.getElem?_append_right (by omega)]; simp
 have hr : ∀ k, a ≤ k → k < m → d[k]! = L[k - a]! := fun k h1 h2 => by
  rw [hd, List.getElem!_eq_getElem?_getD, List.getElem!_eq_getElem?_getD, List.getElem?_append_right (by omega), List.getElem?_append_left (by omega), ha]
 have MONO : Hid (∀ u v, a ≤ u → u ≤ v → v < m → 0 ≤ cf x d[v]! → 0 ≤ cf x d[u]!) := hdq (fun u v h1 h2 h3 h4 => by
  rw [hr u h1 (by omega)]
  rw [hr v (by omega) h3] at h4
  exact Int.not_lt.1 (hcf.trans _ _ _ (hL.at hcf (i := u - a) (j := v - a) (by omega) (by omega)) (Int.not_lt.2 h4)))
 have HCF := hdq hcf
 have HC := hdq hC
 have HOK := hdq hOK
 have HLN := hdq hlen
 have HX := hdq hx
 obtain ⟨c, hc⟩ : ∃ c, c = L.length := ⟨_, rfl⟩
 rw [← hc] at hm h0
 have HLE : Hid (b ≤ len ∧ len < 1099511627776 ∧ a + c = m ∧ m + 1 = b ∧ 1 < c) := ⟨hle, hl, hm, hb, h0⟩
 have FIN : Hid (∀ i, Bs (fun k => 0 ≤ cf x d[k]!) a m i i → (L.take (i - a) ++ x :: L.drop (i - a)).Perm (L ++ [x]) ∧ SortedE cf (L.take (i - a) ++ x :: L.drop (i - a))) := hdq (fun i hB => by
  obtain ⟨h1, h2, h3, h4, h5⟩ := hB
  refine one_right hcf hL (by omega) ?_ ?_
  ·by_cases e : i = a
   ·exact Or.inl (by omega)
   ·have := h4 (i - 1) (by omega) (by omega)
    simp only at this
    rw [hr _ (by omega) (by omega)] at this
    exact Or.inr (by rw [show i - a - 1 = i - 1 - a by omega]; exact Int.not_lt.2 this)
  ·by_cases e : i = m
   ·exact Or.inl (by omega)
   ·have := h5 i (by omega) (by omega)
    simp only at this
    rw [hr _ (by omega) (by omega)] at this
    exact Or.inr (Int.not_le.1 this))
 have DD := hdq hd
 have PA := hdq ha
 have CL := hdq hc
 have ST := hdq hS
 have B0 : Hid (Bs (fun k => 0 ≤ cf x d[k]!) a m a m) := ⟨Nat.le_refl _, by omega, Nat.le_refl _, fun k h1 h2 => by omega, fun k h1 h2 => by omega⟩
 clear hcf hC hOK hlen hx hle hl hb ha hd hr hS hL h0 hm hc
 have nc : ¬ (c : Int) = 1 := by have := HLE.out; omega
 have nb : ((c : Int) == 1) = false := by simp [nc]
 have r0 := wrI_sub (a := m) (b := a) (c := c) (by have := HLE.out; omega) (by have := HLE.out; omega)
 have s0 := wr_sub (a := m) (b := a) (c := c) (by have := HLE.out; clear r0; omega) (by have := HLE.out; clear r0; omega)
 have r1 : IntKind.i64.wrap ((b : Int) - (m : Int)) = 1 := by have := HLE.out; clear r0 s0; rw [IntKind.wrap_i64]; omega
 have s1 : wrap64 ((b : Int) - (m : Int)) = 1 := by have := HLE.out; clear r0 s0 r1; exact wr_i64 _ (by omega) (by omega) (by omega)
 go_enter Tryz.func100, Tryz.ntmps100
 go_wp2
 go_loopw [14, 15] (fun vi vj wr => ∃ i j : Nat, vi = .int .i64 i ∧ vj = .int .i64 j ∧ Hid (Bs (fun k => 0 ≤ cf x d[k]!) a m i j) ∧ Hid (SortW w0 blk tag sz d wr)) (fun vi vj _ => (intOf vj).toNat - (intOf vi).toNat)
 case atStart => exact ⟨a, m, rfl, rfl, B0, ST⟩
 case round =>
  obtain ⟨i, j, rfl, rfl, HB, HW⟩ := hrel
  clear ST B0 r0 s0 r1 s1 nc nb
  by_cases hlt : i < j
  ·obtain ⟨z1, z2, z3, _, _⟩ := HB.out
   have hle := HLE.out
   obtain ⟨ij, hij⟩ : ∃ ij, ij = i + j := ⟨_, rfl⟩
   obtain ⟨h, hh⟩ : ∃ h, h = ij / 2 := ⟨_, rfl⟩
   have HD2 : Hid ((ij : Int) / 2 = (h : Int)) := hdq (by omega)
   have n1 : ij < 2199023255552 := by omega
   have n2 : h < 2199023255552 := by omega
   have HH : Hid (h = (i + j) / 2 ∧ a ≤ i ∧ i ≤ h ∧ h < j ∧ j ≤ m ∧ h < len) := ⟨by rw [hh, hij], z1, by omega, by omega, z3, by omega⟩
   obtain ⟨u, hu⟩ : ∃ u, u = d[h]! := ⟨_, rfl⟩
   have hml : m < len := by have := HH.out; have := HLE.out; omega
   have gu := E2.get! (dk := d) (i := h) (by have := HH.out; have := HLN.out; omega)
   have gx := E2.get! (dk := d) (i := m) (by have := HLN.out; omega)
   rw [← hu] at gu
   rw [HX.out] at gx
   have oku := HOK.out u (List.mem_of_getElem? gu)
   have okx := HOK.out x (List.mem_of_getElem? gx)
   obtain ⟨c3, c4, _, _⟩ := HW.out.cells gu
   obtain ⟨c1, c2, _, _⟩ := HW.out.cells gx
   have GU := hdq gu
   have GX := hdq gx
   obtain ⟨p, hp⟩ : ∃ p, p = cf x u := ⟨_, rfl⟩
   have HP := hdq (show p = cf x d[h]! by rw [hp, hu])
   obtain ⟨y0, y1⟩ := u
   obtain ⟨x0, x1⟩ := x
   simp only at c1 c2 c3 c4
   have HCC : Hid (∀ W : World, (W.cell? ⟨blk, m * 2, none⟩ = some x0 ∧ W.cell? ⟨blk, m * 2 + 1, none⟩ = some x1 ∧ W.cell? ⟨blk, h * 2, none⟩ = some y0 ∧ W.cell? ⟨blk, h * 2 + 1, none⟩ = some y1 ∧ Hid (SortW w0 blk tag sz d W)) → Calls Tryz.prog 44 #[.agg #[x0, x1], .agg #[y0, y1]] W fun e w' => e = .returned (.int .i64 p) ∧ (w'.cell? ⟨blk, m * 2, none⟩ = some x0 ∧ w'.cell? ⟨blk, m * 2 + 1, none⟩ = some x1 ∧ w'.cell? ⟨blk, h * 2, none⟩ = some y0 ∧ w'.cell? ⟨blk, h * 2 + 1, none⟩ = some y1 ∧ Hid (SortW w0 blk tag sz d w'))) := hdq (fun W hS => (HC.out (x0, x1) (y0, y1) W okx oku hS.2.2.2.2.out.2.1).mono (fun e w' h => by
    have h2 := hS.2.2.2.2.out.below h.2
    obtain ⟨q1, q2, _, _⟩ := h2.cells GX.out
    obtain ⟨q3, q4, _, _⟩ := h2.cells GU.out
    exact ⟨by rw [h.1, hp], q1, q2, q3, q4, hdq h2⟩))
   have ph : (0 : Int) ≤ (h : Int) := by omega
   have bh : (h : Int) < (len : Int) := by have := HH.out; omega
   have nh : h < len := HH.out.2.2.2.2.2
   have pm : (0 : Int) ≤ (m : Int) := by omega
   have bm : (m : Int) < (len : Int) := by omega
   clear hu gu gx oku okx hp
   by_cases hp0 : p < 0
   ·have NB : Hid (Bs (fun k => 0 ≤ cf (x0, x1) d[k]!) a m i h) := hdq (HB.out.left MONO.out HH.out.1 hlt (by show ¬ 0 ≤ cf (x0, x1) d[h]!; rw [← HP.out]; exact Int.not_le.2 hp0))
    have MS : Hid (h - i < j - i) := hdq (by have := HH.out; omega)
    clear MONO FIN
    have q1 := wrU_nat n1
    have q2 := wrI_nat n2
    have r1 := wrI_add hij.symm n1
    have s1 := wr_add hij.symm n1
    clear hij hh n1 n2 z1 z2 z3 hle
    have hd2 : (ij : Int) / 2 = (h : Int) := HD2.out
    go_wp2
    go_region_held3 (fun W : World => W.cell? ⟨blk, m * 2, none⟩ = some x0 ∧ W.cell? ⟨blk, m * 2 + 1, none⟩ = some x1 ∧ W.cell? ⟨blk, h * 2, none⟩ = some y0 ∧ W.cell? ⟨blk, h * 2 + 1, none⟩ = some y1 ∧ Hid (SortW w0 blk tag sz d W)) (first | (exact ⟨by simpa using c1, by simpa using c2, by simpa using c3, by simpa using c4, hdq HW.out.drew⟩) | assumption) (first | (go_at_call 44; refine (HCC.out _ (by assumption)).mono ?_; rintro e wx ⟨rfl, hSx⟩))
    have HFIN := hdq hSx.2.2.2.2.out
    clear hSx c1 c2 c3 c4
    go_wp2
    go_roundw
    case rel => exact ⟨i, h, rfl, rfl, NB, HFIN⟩
    case measure => simpa [intOf] using MS.out
   ·obtain ⟨h1, hh1⟩ : ∃ h1, h1 = h + 1 := ⟨_, rfl⟩
    have NB : Hid (Bs (fun k => 0 ≤ cf (x0, x1) d[k]!) a m h1 j) := hdq (hh1 ▸ HB.out.right MONO.out HH.out.1 hlt (by show 0 ≤ cf (x0, x1) d[h]!; rw [← HP.out]; exact Int.not_lt.1 hp0))
    have MS : Hid (j - h1 < j - i) := hdq (by have := HH.out; omega)
    have HP1 := hdq hp0
    have n3 : h1 < 2199023255552 := by omega
    have r5 := wrI_add (a := h) (b := 1) hh1.symm n3
    have s5 := wr_add (a := h) (b := 1) hh1.symm n3
    simp only [Int.natCast_one] at r5 s5
    clear hh1 n3 MONO FIN hp0
    have q1 := wrU_nat n1
    have q2 := wrI_nat n2
    have r1 := wrI_add hij.symm n1
    have s1 := wr_add hij.symm n1
    clear hij hh n1 n2 z1 z2 z3 hle
    have hd2 : (ij : Int) / 2 = (h : Int) := HD2.out
    go_wp2
    go_region_held3 (fun W : World => W.cell? ⟨blk, m * 2, none⟩ = some x0 ∧ W.cell? ⟨blk, m * 2 + 1, none⟩ = some x1 ∧ W.cell? ⟨blk, h * 2, none⟩ = some y0 ∧ W.cell? ⟨blk, h * 2 + 1, none⟩ = some y1 ∧ Hid (SortW w0 blk tag sz d W)) (first | (exact ⟨by simpa using c1, by simpa using c2, by simpa using c3, by simpa using c4, hdq HW.out.drew⟩) | assumption) (first | (go_at_call 44; refine (HCC.out _ (by assumption)).mono ?_; rintro e wx ⟨rfl, hSx⟩))
    have HFIN := hdq hSx.2.2.2.2.out
    clear hSx c1 c2 c3 c4
    have hd0 : decide (p < 0) = false := decide_eq_false (Int.not_lt.2 HP1.out)
    rw [hd0]
    clear hd0
    go_wp2
    go_roundw
    case rel => exact ⟨h1, j, rfl, rfl, NB, HFIN⟩
    case measure => simpa [intOf] using MS.out
  ·obtain rfl : i = j := by obtain ⟨_, h1, _⟩ := HB.out; omega
   have FI := hdq (FIN.out i HB.out)
   have HI : Hid (a ≤ i ∧ i ≤ m) := ⟨HB.out.1, HB.out.2.2.1⟩
   have ST2 : Hid (SortW w0 blk tag sz (mv P L S x c) wr) := hdq (by have := HW.out; rw [DD.out] at this; rw [CL.out, mv_full]; exact this)
   have NL : Hid (P.length + (L.length + S.length + 1) = len) := hdq (by have := HLN.out; rw [DD.out] at this; simp only [List.length_append, List.length_cons] at this; omega)
   clear FIN HB HW MONO DD HLN HX HOK HC HCF
   go_wp2
   go_loopw [17] (fun vk wr2 => ∃ k n : Nat, vk = .int .i64 k ∧ Hid (k = a + n ∧ i ≤ k ∧ k ≤ m) ∧ Hid (SortW w0 blk tag sz (mv P L S x n) wr2)) (fun vk _ => (intOf vk).toNat - i)
   case atStart => exact ⟨m, c, rfl, hdq ⟨by have := HLE.out; omega, HI.out.2, Nat.le_refl _⟩, ST2⟩
   case round =>
    obtain ⟨k, n, rfl, HK, HW2⟩ := hrel
    clear ST2
    by_cases hlt2 : i < k
    ·have hle := HLE.out
     have hc := CL.out
     obtain ⟨n', hn'⟩ : ∃ n', n = n' + 1 := ⟨n - 1, by have := HK.out; have := HI.out; omega⟩
     subst hn'
     have hk := HK.out.1
     have hn : n' < L.length := by have := HK.out; omega
     obtain ⟨k1, hk1⟩ : ∃ k1, k = k1 + 1 := ⟨k - 1, by omega⟩
     obtain ⟨dk, hdk⟩ : ∃ dk, dk = mv P L S x (n' + 1) := ⟨_, rfl⟩
     have hW := HW2.out
     rw [← hdk] at hW
     have hdl : dk.length = len := by rw [hdk, mv_length, NL.out]
     have hkl : k < len := by have := HK.out; omega
     have hnx : swpE dk k k1 = mv P L S x n' := by
      rw [hdk, show k = P.length + n' + 1 by have := PA.out; omega, show k1 = P.length + n' by have := PA.out; omega]; exact mv_down hn
     obtain ⟨y, hy⟩ : ∃ y, y = dk[k]! := ⟨_, rfl⟩
     obtain ⟨z, hz⟩ : ∃ z, z = dk[k1]! := ⟨_, rfl⟩
     have gy := E2.get! (dk := dk) (i := k) (by omega)
     have gz := E2.get! (dk := dk) (i := k1) (by omega)
     rw [← hy] at gy
     rw [← hz] at gz
     obtain ⟨c1, c2, f1, f2⟩ := hW.cells gy
     obtain ⟨c3, c4, f3, f4⟩ := hW.cells gz
     have o1 := hW.one gy
     have o2 := hW.one gz
     have HSW := hdq (hW.swap (i := k) (j := k1) (by omega) (by omega)).drew
     rw [← hy, ← hz, hnx] at HSW
     obtain ⟨x0, x1⟩ := y
     obtain ⟨y0, y1⟩ := z
     simp only at c1 c2 c3 c4 f1 f2 f3 f4 o1 o2 HSW
     have sx0 : ∀ (W : World) (p : Addr) (m : Mode), (store p x0 m).run Tryz.prog W = stored Tryz.prog W p x0 m := fun W p m => run_store Tryz.prog W p x0 m o1.1
     have sx1 : ∀ (W : World) (p : Addr) (m : Mode), (store p x1 m).run Tryz.prog W = stored Tryz.prog W p x1 m := fun W p m => run_store Tryz.prog W p x1 m o1.2
     have sy0 : ∀ (W : World) (p : Addr) (m : Mode), (store p y0 m).run Tryz.prog W = stored Tryz.prog W p y0 m := fun W p m => run_store Tryz.prog W p y0 m o2.1
     have sy1 : ∀ (W : World) (p : Addr) (m : Mode), (store p y1 m).run Tryz.prog W = stored Tryz.prog W p y1 m := fun W p m => run_store Tryz.prog W p y1 m o2.2
     have pk : (0 : Int) ≤ (k : Int) := by omega
     have bk : (k : Int) < (len : Int) := by omega
     have pk1 : (0 : Int) ≤ (k1 : Int) := by omega
     have bk1 : (k1 : Int) < (len : Int) := by omega
     have nk1 : k1 < len := by omega
     have ne1 : ¬ k * 2 = k1 * 2 := by omega
     have ne2 : ¬ k * 2 + 1 = k1 * 2 := by omega
     have ne3 : ¬ k * 2 = k1 * 2 + 1 := by omega
     have ne4 : ¬ k * 2 + 1 = k1 * 2 + 1 := by omega
     have KN : Hid (k1 = a + n' ∧ i ≤ k1 ∧ k1 ≤ m) := hdq ⟨by omega, by omega, by have := HK.out; omega⟩
     have MS : Hid (k1 - i < k - i) := hdq (by omega)
     have n1 : k < 2199023255552 := by omega
     have n2 : k1 + 1 = k := hk1.symm
     clear hle hc hk hn hk1 hdk hW hdl hnx hy hz gy gz o1 o2 HW2
     have r1 := wrI_sub (a := k) (b := 1) n2 n1
     have s1 := wr_sub (a := k) (b := 1) n2 n1
     simp only [Int.natCast_one] at r1 s1
     clear n2 n1
     go_wp2_with fail
     go_big_region
     go_wp2
     go_roundw
     case rel => exact ⟨k1, n', rfl, KN, HSW⟩
     case measure => simpa [intOf] using MS.out
    ·have hk : n = i - a := by have := HI.out; have := HK.out; omega
     have HE := HW2.out
     rw [hk, mv_eq] at HE
     have FN := hdq (And.intro FI.out.1 (And.intro FI.out.2 HE))
     clear HE
     have HK2 := hdq hk
     clear hk
     go_wp2
     (try simp only [Exit.inBlock, Exit.then])
     refine bodyPost_ret (results_none rfl _ _ _) rfl ?_
     exact ⟨rfl, _, FN.out⟩
def SymAt (w0 : World) (blk tag sz cap len : Nat) (cf : E2 → E2 → Int) (OK : E2 → Prop) (n : Nat) : Prop :=
 ∀ (P L R S : List E2) (w : World) (a m b : Nat), (∀ x, x ∈ P ++ (L ++ (R ++ S)) → OK x) → SortedE cf L → SortedE cf R → 0 < L.length → 0 < R.length → SortW w0 blk tag sz (P ++ (L ++ (R ++ S))) w → (P ++ (L ++ (R ++ S))).length = len → P.length = a → a + L.length = m → m + R.length = b → b - a ≤ n →
  Calls Tryz.prog 100 #[.slice (some ⟨blk, 0, none⟩) len cap, .int .i64 a, .int .i64 m, .int .i64 b, byF] w fun e w' => e = .returned (.tuple #[]) ∧ ∃ X', X'.Perm (L ++ R) ∧ SortedE cf X' ∧ SortW w0 blk tag sz (P ++ (X' ++ S)) w'
def Lo (a m b md lo hi : Nat) : Prop := a ≤ lo ∧ lo ≤ hi ∧ hi ≤ m ∧ hi ≤ md ∧ md + m ≤ lo + b ∧ (lo = a ∨ lo + b = md + m) ∧ (hi = m ∨ hi = md)
theorem Lo.mono {cf : E2 → E2 → Int} (hcf : Cmps cf) {P L R S d : List E2} {a m b md pp lo hi : Nat} (hd : d = P ++ (L ++ (R ++ S))) (ha : P.length = a) (hm : a + L.length = m) (hb : m + R.length = b) (hL : SortedE cf L) (hR : SortedE cf R) (hpp : pp + 1 = md + m) (hlo : Lo a m b md lo hi) :
 ∀ u v, lo ≤ u → u ≤ v → v < hi → 0 ≤ cf d[pp - v]! d[v]! → 0 ≤ cf d[pp - u]! d[u]! := by
 obtain ⟨q1, q2, q3, q4, q5, _, _⟩ := hlo
 have hl : ∀ k, a ≤ k → k < m → d[k]! = L[k - a]! := fun k h1 h2 => by
  rw [hd, List.getElem!_eq_getElem?_getD, List.getElem!_eq_getElem?_getD, List.getElem?_append_right (by omega), List.getElem?_append_left (by omega), ha]
 have hr : ∀ k, m ≤ k → k < b → d[k]! = R[k - m]! := fun k h1 h2 => by
  rw [hd, List.getElem!_eq_getElem?_getD, List.getElem!_eq_getElem?_getD, List.getElem?_append_right (by omega), List.getElem?_append_right (by omega), List.getElem?_append_left (by omega), show k - P.length - L.length = k - m by omega]
 intro u v h1 h2 h3 h4
 rw [hr _ (by omega) (by omega), hl _ (by omega) (by omega)] at h4 ⊢
 have e1 := hL.at hcf (i := u - a) (j := v - a) (by omega) (by omega)
 have e2 := hR.at hcf (i := pp - v - m) (j := pp - u - m) (by omega) (by omega)
 exact Int.not_lt.1 (hcf.trans _ _ _ (hcf.trans _ _ _ e1 (Int.not_lt.2 h4)) e2)
def Parted (cf : E2 → E2 → Int) (L R : List E2) (a m b md t en : Nat) (L1 L2 R1 R2 : List E2) : Prop :=
 L = L1 ++ L2 ∧ R = R1 ++ R2 ∧ a + L1.length = t ∧ t + L2.length = m ∧ m + R1.length = en ∧ en + R2.length = b ∧ t + R1.length = md ∧ md + L2.length = en ∧ (∀ x, x ∈ L1 ++ R1 → ∀ y, y ∈ L2 ++ R2 → ¬ cf y x < 0)
theorem Lo.parted {cf : E2 → E2 → Int} (hcf : Cmps cf) {P L R S d : List E2} {a m b md pp lo hi t : Nat} (hd : d = P ++ (L ++ (R ++ S))) (ha : P.length = a) (hm : a + L.length = m) (hb : m + R.length = b) (hL : SortedE cf L) (hR : SortedE cf R) (hpp : pp + 1 = md + m) (hmb : md ≤ b) (hlo : Lo a m b md lo hi)
 (hB : Bs (fun k => 0 ≤ cf d[pp - k]! d[k]!) lo hi t t) : ∃ L1 L2 R1 R2, Parted cf L R a m b md t (md + m - t) L1 L2 R1 R2 := by
 obtain ⟨q1, q2, q3, q4, q5, q6, q7⟩ := hlo
 have hl : ∀ k, a ≤ k → k < m → d[k]! = L[k - a]! := fun k h1 h2 => by
  rw [hd, List.getElem!_eq_getElem?_getD, List.getElem!_eq_getElem?_getD, List.getElem?_append_right (by omega), List.getElem?_append_left (by omega), ha]
 have hr : ∀ k, m ≤ k → k < b → d[k]! = R[k - m]! := fun k h1 h2 => by
  rw [hd, List.getElem!_eq_getElem?_getD, List.getElem!_eq_getElem?_getD, List.getElem?_append_right (by omega), List.getElem?_append_right (by omega), List.getElem?_append_left (by omega), show k - P.length - L.length = k - m by omega]
 obtain ⟨z1, _, z2, z3, z4⟩ := hB
 refine ⟨L.take (t - a), L.drop (t - a), R.take (md - t), R.drop (md - t), (List.take_append_drop _ _).symm, (List.take_append_drop _ _).symm, by rw [List.length_take]; omega, by rw [List.length_drop]; omega, by rw [List.length_take]; omega, by rw [List.length_drop]; omega, by rw [List.length_take]; omega, by rw [List.length_drop]; omega, ?_⟩
 refine sym_split hcf hL hR (by omega) (by omega) ?_ ?_
 ·by_cases e : t = lo
  ·rcases q6 with q6 | q6
   ·exact Or.inl (by omega)
   ·exact Or.inr (Or.inl (by omega))
  ·have h := z3 (t - 1) (by omega) (by omega)
   simp only at h
   rw [hr _ (by omega) (by omega), hl _ (by omega) (by omega), show pp - (t - 1) - m = md - t by omega, show t - 1 - a = t - a - 1 by omega] at h
   exact Or.inr (Or.inr (Int.not_lt.2 h))
 ·by_cases e : t = hi
  ·rcases q7 with q7 | q7
   ·exact Or.inr (Or.inl (by omega))
   ·exact Or.inl (by omega)
  ·have h := z4 t (by omega) (by omega)
   simp only at h
   rw [hr _ (by omega) (by omega), hl _ (by omega) (by omega), show pp - t - m = md - t - 1 by omega] at h
   exact Or.inr (Or.inr (Int.not_le.1 h))
set_option maxHeartbeats 8000000 in
theorem symM_step (blk tag sz cap len : Nat) (cf : E2 → E2 → Int) (OK : E2 → Prop) (hcf : Cmps cf) (w0 : World) (hC : CmpAns w0 blk cf OK) (hlen0 : len < 1099511627776) (n : Nat) (IH : SymAt w0 blk tag sz cap len cf OK n)
 (P L R S : List E2) (w : World) (a m b : Nat) (hOK : ∀ x, x ∈ P ++ (L ++ (R ++ S)) → OK x) (hL : SortedE cf L) (hR : SortedE cf R) (h0 : 1 < L.length) (h1 : 1 < R.length) (hS : SortW w0 blk tag sz (P ++ (L ++ (R ++ S))) w) (hlen : (P ++ (L ++ (R ++ S))).length = len) (ha : P.length = a) (hm : a + L.length = m) (hb : m + R.length = b) (hn : b - a ≤ n + 1) :
 Calls Tryz.prog 100 #[.slice (some ⟨blk, 0, none⟩) len cap, .int .i64 a, .int .i64 m, .int .i64 b, byF] w fun e w' => e = .returned (.tuple #[]) ∧ ∃ X', X'.Perm (L ++ R) ∧ SortedE cf X' ∧ SortW w0 blk tag sz (P ++ (X' ++ S)) w' := by
 obtain ⟨d, hd⟩ : ∃ d, d = P ++ (L ++ (R ++ S)) := ⟨_, rfl⟩
 have HOKD := hdq hOK
 rw [← hd] at hS hOK
 have hlp : P.length + (L.length + (R.length + S.length)) = len := by rw [← hlen]; simp only [List.length_append]
 have hdl : d.length = len := by rw [hd]; exact hlen
 have hle : b ≤ len := by omega
 obtain ⟨c, hc⟩ : ∃ c, c + a = m := ⟨L.length, by omega⟩
 obtain ⟨c2, hc2⟩ : ∃ c2, c2 + m = b := ⟨R.length, by omega⟩
 obtain ⟨ab, hab⟩ : ∃ ab, ab = a + b := ⟨_, rfl⟩
 obtain ⟨md, hmd⟩ : ∃ md, md = ab / 2 := ⟨_, rfl⟩
 obtain ⟨nn, hnn⟩ : ∃ nn, nn = md + m := ⟨_, rfl⟩
 obtain ⟨pp, hpp⟩ : ∃ pp, pp + 1 = nn := ⟨nn - 1, by omega⟩
 have HLE : Hid (b ≤ len ∧ len < 1099511627776 ∧ c + a = m ∧ c2 + m = b ∧ 1 < c ∧ 1 < c2 ∧ ab = a + b ∧ md = ab / 2 ∧ nn = md + m ∧ pp + 1 = nn ∧ b - a ≤ n + 1 ∧ P.length = a ∧ a + L.length = m ∧ m + R.length = b ∧ b + S.length = len) := ⟨hle, hlen0, hc, hc2, by omega, by omega, hab, hmd, hnn, hpp, hn, ha, hm, hb, by omega⟩
 have MONO : Hid (∀ lo hi, Lo a m b md lo hi → ∀ u v, lo ≤ u → u ≤ v → v < hi → 0 ≤ cf d[pp - v]! d[v]! → 0 ≤ cf d[pp - u]! d[u]!) := hdq (fun lo hi h => h.mono hcf hd ha hm hb hL hR (by omega))
 have PART : Hid (∀ lo hi t, Lo a m b md lo hi → Bs (fun k => 0 ≤ cf d[pp - k]! d[k]!) lo hi t t → ∃ L1 L2 R1 R2, Parted cf L R a m b md t (nn - t) L1 L2 R1 R2) := hdq (fun lo hi t h hB => hnn ▸ h.parted hcf hd ha hm hb hL hR (by omega) (by omega) hB)
 have HCF := hdq hcf
 have HC := hdq hC
 have HOK := hdq hOK
 have HDL := hdq hdl
 have DD := hdq hd
 have HSL := hdq (And.intro hL hR)
 have HIH := hdq IH
 have ST := hdq hS
 have HD2 : Hid ((ab : Int) / 2 = (md : Int)) := hdq (by omega)
 clear IH hcf hC hOK hL hR h0 h1 hS hlen ha hm hb hn hlp hdl hle hc hc2 hab hmd hnn hpp hd hlen0
 have nc : ¬ (c : Int) = 1 := by have := HLE.out; omega
 have nb : ((c : Int) == 1) = false := by simp [nc]
 have nc2 : ¬ (c2 : Int) = 1 := by have := HLE.out; omega
 have nb2 : ((c2 : Int) == 1) = false := by simp [nc2]
 have r0 := wrI_sub (a := m) (b := a) (c := c) (by have := HLE.out; omega) (by have := HLE.out; omega)
 have s0 := wr_sub (a := m) (b := a) (c := c) (by have := HLE.out; clear r0; omega) (by have := HLE.out; clear r0; omega)
 have r1 := wrI_sub (a := b) (b := m) (c := c2) (by have := HLE.out; clear r0 s0; omega) (by have := HLE.out; clear r0 s0; omega)
 have s1 := wr_sub (a := b) (b := m) (c := c2) (by have := HLE.out; clear r0 s0 r1; omega) (by have := HLE.out; clear r0 s0 r1; omega)
 have r2 := wrI_add (a := a) (b := b) (c := ab) (by have := HLE.out; clear r0 s0 r1 s1; omega) (by have := HLE.out; clear r0 s0 r1 s1; omega)
 have s2 := wr_add (a := a) (b := b) (c := ab) (by have := HLE.out; clear r0 s0 r1 s1 r2; omega) (by have := HLE.out; clear r0 s0 r1 s1 r2; omega)
 have q1 := wrU_nat (c := ab) (by have := HLE.out; clear r0 s0 r1 s1 r2 s2; omega)
 have q2 := wrI_nat (c := md) (by have := HLE.out; clear r0 s0 r1 s1 r2 s2 q1; omega)
 have r3 := wrI_add (a := md) (b := m) (c := nn) (by have := HLE.out; clear r0 s0 r1 s1 r2 s2 q1 q2; omega) (by have := HLE.out; clear r0 s0 r1 s1 r2 s2 q1 q2; omega)
 have s3 := wr_add (a := md) (b := m) (c := nn) (by have := HLE.out; clear r0 s0 r1 s1 r2 s2 q1 q2 r3; omega) (by have := HLE.out; clear r0 s0 r1 s1 r2 s2 q1 q2 r3; omega)
 have hd2 := HD2.out
 go_enter Tryz.func100, Tryz.ntmps100
 go_upto_if 140 with fail
 clear r0 s0 r1 s1 r2 s2 r3 s3 q1 q2 hd2 nc nb nc2 nb2
 go_cut [20, 21] from 140 to 146 (fun s r W => ∃ lo hi : Nat, s = .int .i64 lo ∧ r = .int .i64 hi ∧ Hid (Lo a m b md lo hi) ∧ Hid (SortW w0 blk tag sz d W))
 case first =>
  have hle := HLE.out
  by_cases hg : md < m
  ·obtain ⟨lo, hlo⟩ : ∃ lo, lo + b = nn := ⟨nn - b, by omega⟩
   have LO : Hid (Lo a m b md lo md) := hdq ⟨by omega, by omega, by omega, by omega, by omega, Or.inr (by omega), Or.inr rfl⟩
   have n1 : nn < 2199023255552 := by omega
   have g1 : (md : Int) < (m : Int) := by omega
   clear hle
   have r1 := wrI_sub hlo n1
   have s1 := wr_sub hlo n1
   clear n1 hlo
   go_wp2
   go_meet
   exact ⟨lo, md, rfl, rfl, LO, ST⟩
  ·have LO : Hid (Lo a m b md a m) := hdq ⟨by omega, by omega, by omega, by omega, by omega, Or.inl rfl, Or.inl rfl⟩
   have g1 : ¬ (md : Int) < (m : Int) := by omega
   have g2 : m ≤ md := by omega
   clear hle
   go_wp2
   go_meet
   exact ⟨a, m, rfl, rfl, LO, ST⟩
 case rest =>
  obtain ⟨lo, hi, rfl, rfl, HLO, HW0⟩ := hcut
  clear ST
  have B0 : Hid (Bs (fun k => 0 ≤ cf d[pp - k]! d[k]!) lo hi lo hi) := ⟨Nat.le_refl _, HLO.out.2.1, Nat.le_refl _, fun k h1 h2 => by omega, fun k h1 h2 => by omega⟩
  have n1 : nn < 2199023255552 := by have := HLE.out; omega
  have r1 := wrI_sub (a := nn) (b := 1) HLE.out.2.2.2.2.2.2.2.2.2.1 n1
  have s1 := wr_sub (a := nn) (b := 1) HLE.out.2.2.2.2.2.2.2.2.2.1 n1
  simp only [Int.natCast_one] at r1 s1
  clear n1
  go_wp2
  go_loopw [20, 21] (fun vi vj wr => ∃ i j : Nat, vi = .int .i64 i ∧ vj = .int .i64 j ∧ Hid (Bs (fun k => 0 ≤ cf d[pp - k]! d[k]!) lo hi i j) ∧ Hid (SortW w0 blk tag sz d wr)) (fun vi vj _ => (intOf vj).toNat - (intOf vi).toNat)
  case atStart => exact ⟨lo, hi, rfl, rfl, B0, HW0⟩
  case round =>
   obtain ⟨i, j, rfl, rfl, HB, HW⟩ := hrel
   clear HW0 B0 r1 s1
   by_cases hlt : i < j
   ·obtain ⟨z1, z2, z3, _, _⟩ := HB.out
    obtain ⟨v1, v2, v3, v4, v5, _, _⟩ := HLO.out
    have hle := HLE.out
    obtain ⟨ij, hij⟩ : ∃ ij, ij = i + j := ⟨_, rfl⟩
    obtain ⟨h, hh⟩ : ∃ h, h = ij / 2 := ⟨_, rfl⟩
    obtain ⟨g, hg⟩ : ∃ g, g + h = pp := ⟨pp - h, by omega⟩
    have HD2 : Hid ((ij : Int) / 2 = (h : Int)) := hdq (by omega)
    have n1 : ij < 2199023255552 := by omega
    have n2 : h < 2199023255552 := by omega
    have n4 : pp < 2199023255552 := by omega
    have HH : Hid (h = (i + j) / 2 ∧ lo ≤ i ∧ i ≤ h ∧ h < j ∧ j ≤ hi ∧ h < len ∧ g < len ∧ g = pp - h) := ⟨by rw [hh, hij], z1, by omega, by omega, z3, by omega, by omega, by omega⟩
    obtain ⟨u, hu⟩ : ∃ u, u = d[h]! := ⟨_, rfl⟩
    obtain ⟨x, hx⟩ : ∃ x, x = d[g]! := ⟨_, rfl⟩
    have gu := E2.get! (dk := d) (i := h) (by have := HH.out; have := HDL.out; omega)
    have gx := E2.get! (dk := d) (i := g) (by have := HH.out; have := HDL.out; omega)
    rw [← hu] at gu
    rw [← hx] at gx
    have oku := HOK.out u (List.mem_of_getElem? gu)
    have okx := HOK.out x (List.mem_of_getElem? gx)
    obtain ⟨c3, c4, _, _⟩ := HW.out.cells gu
    obtain ⟨c1, c2', _, _⟩ := HW.out.cells gx
    have c2 := c2'
    clear c2'
    have GU := hdq gu
    have GX := hdq gx
    obtain ⟨p, hp⟩ : ∃ p, p = cf x u := ⟨_, rfl⟩
    have HP := hdq (show p = cf d[pp - h]! d[h]! by rw [hp, hu, hx, HH.out.2.2.2.2.2.2.2])
    obtain ⟨y0, y1⟩ := u
    obtain ⟨x0, x1⟩ := x
    simp only at c1 c2 c3 c4
    have HCC : Hid (∀ W : World, (W.cell? ⟨blk, g * 2, none⟩ = some x0 ∧ W.cell? ⟨blk, g * 2 + 1, none⟩ = some x1 ∧ W.cell? ⟨blk, h * 2, none⟩ = some y0 ∧ W.cell? ⟨blk, h * 2 + 1, none⟩ = some y1 ∧ Hid (SortW w0 blk tag sz d W)) → Calls Tryz.prog 44 #[.agg #[x0, x1], .agg #[y0, y1]] W fun e w' => e = .returned (.int .i64 p) ∧ (w'.cell? ⟨blk, g * 2, none⟩ = some x0 ∧ w'.cell? ⟨blk, g * 2 + 1, none⟩ = some x1 ∧ w'.cell? ⟨blk, h * 2, none⟩ = some y0 ∧ w'.cell? ⟨blk, h * 2 + 1, none⟩ = some y1 ∧ Hid (SortW w0 blk tag sz d w'))) := hdq (fun W hS => (HC.out (x0, x1) (y0, y1) W okx oku hS.2.2.2.2.out.2.1).mono (fun e w' h => by
     have h2 := hS.2.2.2.2.out.below h.2
     obtain ⟨q1, q2, _, _⟩ := h2.cells GX.out
     obtain ⟨q3, q4, _, _⟩ := h2.cells GU.out
     exact ⟨by rw [h.1, hp], q1, q2, q3, q4, hdq h2⟩))
    have ph : (0 : Int) ≤ (h : Int) := by omega
    have bh : (h : Int) < (len : Int) := by have := HH.out; omega
    have nh : h < len := HH.out.2.2.2.2.2.1
    have pg : (0 : Int) ≤ (g : Int) := by omega
    have bg : (g : Int) < (len : Int) := by have := HH.out; omega
    have ng : g < len := HH.out.2.2.2.2.2.2.1
    clear hu gu hx gx oku okx hp
    by_cases hp0 : p < 0
    ·have NB : Hid (Bs (fun k => 0 ≤ cf d[pp - k]! d[k]!) lo hi i h) := hdq (HB.out.left (MONO.out lo hi HLO.out) HH.out.1 hlt (by show ¬ 0 ≤ cf d[pp - h]! d[h]!; rw [← HP.out]; exact Int.not_le.2 hp0))
     have MS : Hid (h - i < j - i) := hdq (by have := HH.out; omega)
     clear v1 v2 v3 v4 v5
     have q1 := wrU_nat n1
     have q2 := wrI_nat n2
     have r1 := wrI_add hij.symm n1
     have s1 := wr_add hij.symm n1
     have r2 := wrI_sub hg n4
     have s2 := wr_sub hg n4
     clear hij hh n1 n2 z1 z2 z3 hle hg n4
     have hd2 : (ij : Int) / 2 = (h : Int) := HD2.out
     go_wp2
     go_region_held3 (fun W : World => W.cell? ⟨blk, g * 2, none⟩ = some x0 ∧ W.cell? ⟨blk, g * 2 + 1, none⟩ = some x1 ∧ W.cell? ⟨blk, h * 2, none⟩ = some y0 ∧ W.cell? ⟨blk, h * 2 + 1, none⟩ = some y1 ∧ Hid (SortW w0 blk tag sz d W)) (first | (exact ⟨by simpa using c1, by simpa using c2, by simpa using c3, by simpa using c4, hdq HW.out.drew⟩) | assumption) (first | (go_at_call 44; refine (HCC.out _ (by assumption)).mono ?_; rintro e wx ⟨rfl, hSx⟩))
     have HFIN := hdq hSx.2.2.2.2.out
     clear hSx c1 c2 c3 c4
     go_wp2
     go_roundw
     case rel => exact ⟨i, h, rfl, rfl, NB, HFIN⟩
     case measure => simpa [intOf] using MS.out
    ·obtain ⟨h1, hh1⟩ : ∃ h1, h1 = h + 1 := ⟨_, rfl⟩
     have NB : Hid (Bs (fun k => 0 ≤ cf d[pp - k]! d[k]!) lo hi h1 j) := hdq (hh1 ▸ HB.out.right (MONO.out lo hi HLO.out) HH.out.1 hlt (by show 0 ≤ cf d[pp - h]! d[h]!; rw [← HP.out]; exact Int.not_lt.1 hp0))
     have MS : Hid (j - h1 < j - i) := hdq (by have := HH.out; omega)
     have HP1 := hdq hp0
     have n3 : h1 < 2199023255552 := by omega
     have r5 := wrI_add (a := h) (b := 1) hh1.symm n3
     have s5 := wr_add (a := h) (b := 1) hh1.symm n3
     simp only [Int.natCast_one] at r5 s5
     clear hh1 n3 hp0 v1 v2 v3 v4 v5
     have q1 := wrU_nat n1
     have q2 := wrI_nat n2
     have r1 := wrI_add hij.symm n1
     have s1 := wr_add hij.symm n1
     have r2 := wrI_sub hg n4
     have s2 := wr_sub hg n4
     clear hij hh n1 n2 z1 z2 z3 hle hg n4
     have hd2 : (ij : Int) / 2 = (h : Int) := HD2.out
     go_wp2
     go_region_held3 (fun W : World => W.cell? ⟨blk, g * 2, none⟩ = some x0 ∧ W.cell? ⟨blk, g * 2 + 1, none⟩ = some x1 ∧ W.cell? ⟨blk, h * 2, none⟩ = some y0 ∧ W.cell? ⟨blk, h * 2 + 1, none⟩ = some y1 ∧ Hid (SortW w0 blk tag sz d W)) (first | (exact ⟨by simpa using c1, by simpa using c2, by simpa using c3, by simpa using c4, hdq HW.out.drew⟩) | assumption) (first | (go_at_call 44; refine (HCC.out _ (by assumption)).mono ?_; rintro e wx ⟨rfl, hSx⟩))
     have HFIN := hdq hSx.2.2.2.2.out
     clear hSx c1 c2 c3 c4
     have hd0 : decide (p < 0) = false := decide_eq_false (Int.not_lt.2 HP1.out)
     rw [hd0]
     clear hd0
     go_wp2
     go_roundw
     case rel => exact ⟨h1, j, rfl, rfl, NB, HFIN⟩
     case measure => simpa [intOf] using MS.out
   ·obtain rfl : i = j := by obtain ⟨_, h1, _⟩ := HB.out; omega
    obtain ⟨v1, v2, v3, v4, v5, _, _⟩ := HLO.out
    have hle := HLE.out
    have hih := HB.out.2.2.1
    obtain ⟨en, hen⟩ : ∃ en, en + i = nn := ⟨nn - i, by omega⟩
    obtain ⟨L1, L2, R1, R2, hpar⟩ := PART.out lo hi i HLO.out HB.out
    rw [show nn - i = en by omega] at hpar
    obtain ⟨eL, eR, p1, p2, p3, p4, p5, p6, hx⟩ := hpar
    have HWA := HW.out
    rw [DD.out, eL, eR] at HWA
    simp only [List.append_assoc] at HWA
    have HWA := hdq HWA
    have PP : Hid (a + L1.length = i ∧ i + L2.length = m ∧ m + R1.length = en ∧ en + R2.length = b ∧ i + R1.length = md ∧ md + L2.length = en ∧ en + i = nn) := ⟨p1, p2, p3, p4, p5, p6, hen⟩
    have EE := hdq (And.intro eL eR)
    have HSP := hdq hx
    have SO : Hid (SortedE cf L1 ∧ SortedE cf L2 ∧ SortedE cf R1 ∧ SortedE cf R2) := hdq (by
     obtain ⟨h1, h2⟩ := HSL.out
     rw [eL] at h1
     rw [eR] at h2
     exact ⟨(List.pairwise_append.1 h1).1, (List.pairwise_append.1 h1).2.1, (List.pairwise_append.1 h2).1, (List.pairwise_append.1 h2).2.1⟩)
    have OKA : Hid (∀ d' : List E2, d'.Perm (P ++ (L1 ++ (L2 ++ (R1 ++ (R2 ++ S))))) → ∀ x, x ∈ d' → OK x) := hdq (fun d' hp x hx => HOKD.out x (by
     rw [eL, eR]; simp only [List.append_assoc]; exact hp.mem_iff.1 hx))
    have LEN : Hid (P.length + (L1.length + (L2.length + (R1.length + (R2.length + S.length)))) = len) := hdq (by omega)
    have n1 : nn < 2199023255552 := by omega
    clear v1 v2 v3 v4 v5 hih hle eL eR p1 p2 p3 p4 p5 p6 hx PART MONO HB HW HOK HDL DD HC HSL HOKD HLO
    have r1 := wrI_sub hen n1
    have s1 := wr_sub hen n1
    clear hen n1 hlt
    go_upto_region 39 with fail
    clear r1 s1
    go_cut [185] from 178 to 184 (fun v W => v = .bool (decide (i < m ∧ m < en)) ∧ Hid (SortW w0 blk tag sz (P ++ (L1 ++ (L2 ++ (R1 ++ (R2 ++ S))))) W))
    case first =>
     by_cases k1 : i < m
     ·have k1' : (i : Int) < (m : Int) := by omega
      by_cases k2 : m < en
      ·have k2' : (m : Int) < (en : Int) := by omega
       go_wp2
       go_meet
       exact ⟨by simp [k1, k2], HWA⟩
      ·have k2' : ¬ (m : Int) < (en : Int) := by omega
       have k2'' : en ≤ m := by omega
       have HK := hdq k2
       clear k2
       go_wp2
       go_meet
       exact ⟨by rw [decide_eq_false (fun h => HK.out h.2)], HWA⟩
     ·have k1' : ¬ (i : Int) < (m : Int) := by omega
      have k1'' : m ≤ i := by omega
      have HK := hdq k1
      clear k1
      go_wp2
      go_meet
      exact ⟨by rw [decide_eq_false (fun h => HK.out h.1)], HWA⟩
    case rest =>
     obtain ⟨rfl, HWB⟩ := hcut
     clear HWA
     go_upto_if 185 with fail
     go_cut [24] from 185 to 191 (fun v W => v = .int .i64 en ∧ Hid (SortW w0 blk tag sz (P ++ (L1 ++ (R1 ++ (L2 ++ (R2 ++ S))))) W))
     case first =>
      by_cases hk : i < m ∧ m < en
      ·have hd1 : decide (i < m ∧ m < en) = true := decide_eq_true hk
       rw [hd1]
       have C := hdq (rotate_any byF blk tag sz cap (P ++ L1) L2 R1 (R2 ++ S) w0 _ (by rw [List.append_assoc]; exact HWB.out) (by have := PP.out; omega) (by have := PP.out; omega) len i m en (by have := LEN.out; simp only [List.length_append]; omega) (by have := PP.out; have := HLE.out; rw [List.length_append]; omega) PP.out.2.1 PP.out.2.2.1 HLE.out.2.1)
       clear hd1 hk
       go_wp2_with (go_at_call 125; refine C.out.mono ?_; rintro e w2 ⟨rfl, h2⟩; rw [List.append_assoc] at h2; have H2 := hdq h2; clear h2)
       go_meet
       exact ⟨rfl, H2⟩
      ·have hd1 : decide (i < m ∧ m < en) = false := decide_eq_false hk
       rw [hd1]
       have HWC : Hid (P ++ (L1 ++ (L2 ++ (R1 ++ (R2 ++ S)))) = P ++ (L1 ++ (R1 ++ (L2 ++ (R2 ++ S))))) := hdq (by
        rcases Nat.lt_or_ge i m with h | h
        ·obtain rfl : R1 = [] := List.eq_nil_of_length_eq_zero (by have := PP.out; omega)
         rfl
        ·obtain rfl : L2 = [] := List.eq_nil_of_length_eq_zero (by have := PP.out; omega)
         rfl)
       clear hd1 hk
       go_wp2
       go_meet
       exact ⟨rfl, HWC.out ▸ HWB⟩
     case rest =>
      obtain ⟨rfl, HWC⟩ := hcut
      clear HWB
      go_upto_region 41 with fail
      go_cut [199] from 192 to 198 (fun v W => v = .bool (decide (a < i ∧ i < md)) ∧ Hid (SortW w0 blk tag sz (P ++ (L1 ++ (R1 ++ (L2 ++ (R2 ++ S))))) W))
      case first =>
       by_cases k1 : a < i
       ·have k1' : (a : Int) < (i : Int) := by omega
        by_cases k2 : i < md
        ·have k2' : (i : Int) < (md : Int) := by omega
         go_wp2
         go_meet
         exact ⟨by simp [k1, k2], HWC⟩
        ·have k2' : ¬ (i : Int) < (md : Int) := by omega
         have k2'' : md ≤ i := by omega
         have HK := hdq k2
         clear k2
         go_wp2
         go_meet
         exact ⟨by rw [decide_eq_false (fun h => HK.out h.2)], HWC⟩
       ·have k1' : ¬ (a : Int) < (i : Int) := by omega
        have k1'' : i ≤ a := by omega
        have HK := hdq k1
        clear k1
        go_wp2
        go_meet
        exact ⟨by rw [decide_eq_false (fun h => HK.out h.1)], HWC⟩
      case rest =>
       obtain ⟨rfl, HWD⟩ := hcut
       clear HWC
       go_upto_if 199 with fail
       go_cut [24] from 199 to 205 (fun v W => v = .int .i64 en ∧ ∃ X1 : List E2, Hid (X1.Perm (L1 ++ R1) ∧ SortedE cf X1) ∧ Hid (SortW w0 blk tag sz (P ++ (X1 ++ (L2 ++ (R2 ++ S)))) W))
       case first =>
        by_cases hk : a < i ∧ i < md
        ·have hd1 : decide (a < i ∧ i < md) = true := decide_eq_true hk
         rw [hd1]
         have C := hdq (HIH.out P L1 R1 (L2 ++ (R2 ++ S)) _ a i md (OKA.out _ (List.Perm.append_left P (List.Perm.append_left L1 (by rw [← List.append_assoc R1, ← List.append_assoc L2]; exact List.Perm.append_right _ List.perm_append_comm)))) SO.out.1 SO.out.2.2.1 (by have := PP.out; omega) (by have := PP.out; omega) HWD.out (by have := LEN.out; simp only [List.length_append]; omega) HLE.out.2.2.2.2.2.2.2.2.2.2.2.1 PP.out.1 PP.out.2.2.2.2.1 (by have := HLE.out; omega))
         clear hd1 hk
         go_wp2_with (go_at_call 100; refine C.out.mono ?_; rintro e w2 ⟨rfl, X1, h1, h2, h3⟩; have H2 := hdq h3; have H1 := hdq (And.intro h1 h2); clear h1 h2 h3)
         go_meet
         exact ⟨rfl, X1, H1, H2⟩
        ·have hd1 : decide (a < i ∧ i < md) = false := decide_eq_false hk
         rw [hd1]
         have HX1 : Hid (SortedE cf (L1 ++ R1)) := hdq (by
          rcases Nat.lt_or_ge a i with h | h
          ·obtain rfl : R1 = [] := List.eq_nil_of_length_eq_zero (by have := PP.out; omega)
           rw [List.append_nil]; exact SO.out.1
          ·obtain rfl : L1 = [] := List.eq_nil_of_length_eq_zero (by have := PP.out; omega)
           exact SO.out.2.2.1)
         have HWD2 := HWD.out
         rw [← List.append_assoc L1] at HWD2
         have HWD2 := hdq HWD2
         clear hd1 hk
         go_wp2
         go_meet
         exact ⟨rfl, L1 ++ R1, hdq ⟨.refl _, HX1.out⟩, HWD2⟩
       case rest =>
        obtain ⟨rfl, X1, HP1, HWE⟩ := hcut
        clear HWD
        go_upto_region 43 with fail
        go_cut [213] from 206 to 212 (fun v W => v = .bool (decide (md < en ∧ en < b)) ∧ Hid (SortW w0 blk tag sz (P ++ (X1 ++ (L2 ++ (R2 ++ S)))) W))
        case first =>
         by_cases k1 : md < en
         ·have k1' : (md : Int) < (en : Int) := by omega
          by_cases k2 : en < b
          ·have k2' : (en : Int) < (b : Int) := by omega
           go_wp2
           go_meet
           exact ⟨by simp [k1, k2], HWE⟩
          ·have k2' : ¬ (en : Int) < (b : Int) := by omega
           have k2'' : b ≤ en := by omega
           have HK := hdq k2
           clear k2
           go_wp2
           go_meet
           exact ⟨by rw [decide_eq_false (fun h => HK.out h.2)], HWE⟩
         ·have k1' : ¬ (md : Int) < (en : Int) := by omega
          have k1'' : en ≤ md := by omega
          have HK := hdq k1
          clear k1
          go_wp2
          go_meet
          exact ⟨by rw [decide_eq_false (fun h => HK.out h.1)], HWE⟩
        case rest =>
         obtain ⟨rfl, HWF⟩ := hcut
         clear HWE
         go_upto_if 213 with fail
         have FNL : Hid (∀ (X2 : List E2) (W : World), X2.Perm (L2 ++ R2) ∧ SortedE cf X2 → SortW w0 blk tag sz (P ++ (X1 ++ (X2 ++ S))) W → ∃ X', X'.Perm (L ++ R) ∧ SortedE cf X' ∧ SortW w0 blk tag sz (P ++ (X' ++ S)) W) := hdq (fun X2 W h1 h2 => by
          refine ⟨X1 ++ X2, ?_, ?_, by rw [List.append_assoc]; exact h2⟩
          ·rw [EE.out.1, EE.out.2]
           refine (HP1.out.1.append h1.1).trans ?_
           simp only [List.append_assoc]
           refine List.Perm.append_left L1 ?_
           rw [← List.append_assoc R1, ← List.append_assoc L2]
           exact List.Perm.append_right _ List.perm_append_comm
          ·exact List.pairwise_append.2 ⟨HP1.out.2, h1.2, fun x hx y hy => HSP.out x (HP1.out.1.mem_iff.1 hx) y (h1.1.mem_iff.1 hy)⟩)
         by_cases hk : md < en ∧ en < b
         ·have hd1 : decide (md < en ∧ en < b) = true := decide_eq_true hk
          rw [hd1]
          have LX : Hid (X1.length = L1.length + R1.length) := hdq (by rw [HP1.out.1.length_eq, List.length_append])
          have C := hdq (HIH.out (P ++ X1) L2 R2 S _ md en b (OKA.out _ (by
           rw [List.append_assoc]
           refine List.Perm.append_left P ?_
           have e : L1 ++ (L2 ++ (R1 ++ (R2 ++ S))) = L1 ++ ((L2 ++ R1) ++ (R2 ++ S)) := by rw [List.append_assoc]
           have e2 : L1 ++ ((R1 ++ L2) ++ (R2 ++ S)) = (L1 ++ R1) ++ (L2 ++ (R2 ++ S)) := by simp only [List.append_assoc]
           rw [e]
           refine List.Perm.trans ?_ (List.Perm.append_left L1 (List.Perm.append_right _ List.perm_append_comm))
           rw [e2]
           exact List.Perm.append_right _ HP1.out.1)) SO.out.2.1 SO.out.2.2.2 (by have := PP.out; omega) (by have := PP.out; omega) (by rw [List.append_assoc]; exact HWF.out) (by have := LEN.out; have := LX.out; simp only [List.length_append]; omega) (by have := LX.out; have := PP.out; have := HLE.out; rw [List.length_append]; omega) PP.out.2.2.2.2.2.1 PP.out.2.2.2.1 (by have := HLE.out; omega))
          clear hd1 hk
          go_wp2_with (go_at_call 100; refine C.out.mono ?_; rintro e w2 ⟨rfl, X2, h1, h2, h3⟩; rw [List.append_assoc] at h3; have H2 := hdq h3; have H1 := hdq (And.intro h1 h2); clear h1 h2 h3)
          go_end0
          exact ⟨rfl, FNL.out _ _ H1.out H2.out⟩
         ·have hd1 : decide (md < en ∧ en < b) = false := decide_eq_false hk
          rw [hd1]
          have HX2 : Hid (SortedE cf (L2 ++ R2)) := hdq (by
           rcases Nat.lt_or_ge md en with h | h
           ·obtain rfl : R2 = [] := List.eq_nil_of_length_eq_zero (by have := PP.out; omega)
            rw [List.append_nil]; exact SO.out.2.1
           ·obtain rfl : L2 = [] := List.eq_nil_of_length_eq_zero (by have := PP.out; omega)
            exact SO.out.2.2.2)
          have HWF2 := HWF.out
          rw [← List.append_assoc L2] at HWF2
          have HWF2 := hdq HWF2
          clear hd1 hk
          go_wp2
          go_end0
          exact ⟨rfl, FNL.out _ _ ⟨.refl _, HX2.out⟩ HWF2.out⟩
end Go.Proofs.YtgmolmpfihkolaaGreat
