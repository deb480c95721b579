/- Part of the proof. -/
import Derived.Test.YtgmolmpfihkolaaGreatD17
import Derived.Deep.Cut
import Derived.Deep.CutRange
namespace Go.Proofs.YtgmolmpfihkolaaGreat
open Go.RowKit
set_option linter.unusedVariables false
set_option maxRecDepth 100000
theorem mv_full (P R S : List E2) (x : E2) : mv P R S x R.length = P ++ (R ++ (x :: S)) := by
 unfold mv; simp
set_option maxHeartbeats 4000000 in
theorem symR_any (blk tag sz cap : Nat) (cf : E2 → E2 → Int) (OK : E2 → Prop) (hcf : Cmps cf) (P L S : List E2) (x : E2) (w0 w : World) (hC : CmpAns w0 blk cf OK) (hOK : ∀ x', x' ∈ P ++ (L ++ (x :: S)) → OK x') (hL : SortedE cf L) (h0 : 1 < L.length)
 (hS : SortW w0 blk tag sz (P ++ (L ++ (x :: S))) w) (len a m b : Nat) (hlen : (P ++ (L ++ (x :: S))).length = len) (ha : P.length = a) (hm : a + L.length = m) (hb : m + 1 = b) (hl : len < 1099511627776) :
 Calls Tryz.prog 100 #[.slice (some ⟨blk, 0, none⟩) len cap, .int .i64 a, .int .i64 m, .int .i64 b, byF] w fun e w' => e = .returned (.tuple #[]) ∧ ∃ X', X'.Perm (L ++ [x]) ∧ SortedE cf X' ∧ SortW w0 blk tag sz (P ++ (X' ++ S)) w' := by
 obtain ⟨d, hd⟩ : ∃ d, d = P ++ (L ++ (x :: S)) := ⟨_, rfl⟩
 rw [← hd] at hS hOK hlen
 have hle : b ≤ len := by rw [← hlen, hd, ← hb, ← hm, ← ha]; simp only [List.length_append, List.length_cons]; omega
 have hx : d[m]! = x := by rw [hd, ← hm, ← ha, List.getElem!_eq_getElem?_getD, List.getElem?_append_right (by omega), List.getElem?_append_right (by omega)]; simp
 have hr : ∀ k, a ≤ k → k < m → d[k]! = L[k - a]! := fun k h1 h2 => by
  rw [hd, List.getElem!_eq_getElem?_getD, List.getElem!_eq_getElem?_getD, List.getElem?_append_right (by omega), List.getElem?_append_left (by omega), ha]
 have MONO : Hid (∀ u v, a ≤ u → u ≤ v → v < m → 0 ≤ cf x d[v]! → 0 ≤ cf x d[u]!) := hdq (fun u v h1 h2 h3 h4 => by
  rw [hr u h1 (by omega)]
  rw [hr v (by omega) h3] at h4
  exact Int.not_lt.1 (hcf.trans _ _ _ (hL.at hcf (i := u - a) (j := v - a) (by omega) (by omega)) (Int.not_lt.2 h4)))
 have HCF := hdq hcf
 have HC := hdq hC
 have HOK := hdq hOK
 have HLN := hdq hlen
 have HX := hdq hx
 obtain ⟨c, hc⟩ : ∃ c, c = L.length := ⟨_, rfl⟩
 rw [← hc] at hm h0
 have HLE : Hid (b ≤ len ∧ len < 1099511627776 ∧ a + c = m ∧ m + 1 = b ∧ 1 < c) := ⟨hle, hl, hm, hb, h0⟩
 have FIN : Hid (∀ i, Bs (fun k => 0 ≤ cf x d[k]!) a m i i → (L.take (i - a) ++ x :: L.drop (i - a)).Perm (L ++ [x]) ∧ SortedE cf (L.take (i - a) ++ x :: L.drop (i - a))) := hdq (fun i hB => by
  obtain ⟨h1, h2, h3, h4, h5⟩ := hB
  refine one_right hcf hL (by omega) ?_ ?_
  ·by_cases e : i = a
   ·exact Or.inl (by omega)
   ·have := h4 (i - 1) (by omega) (by omega)
    simp only at this
    rw [hr _ (by omega) (by omega)] at this
    exact Or.inr (by rw [show i - a - 1 = i - 1 - a by omega]; exact Int.not_lt.2 this)
  ·by_cases e : i = m
   ·exact Or.inl (by omega)
   ·have := h5 i (by omega) (by omega)
    simp only at this
    rw [hr _ (by omega) (by omega)] at this
    exact Or.inr (Int.not_le.1 this))
 have DD := hdq hd
 have PA := hdq ha
 have CL := hdq hc
 have ST := hdq hS
 have B0 : Hid (Bs (fun k => 0 ≤ cf x d[k]!) a m a m) := ⟨Nat.le_refl _, by omega, Nat.le_refl _, fun k h1 h2 => by omega, fun k h1 h2 => by omega⟩
 clear hcf hC hOK hlen hx hle hl hb ha hd hr hS hL h0 hm hc
 have nc : ¬ (c : Int) = 1 := by have := HLE.out; omega
 have nb : ((c : Int) == 1) = false := by simp [nc]
 have r0 := wrI_sub (a := m) (b := a) (c := c) (by have := HLE.out; omega) (by have := HLE.out; omega)
 have s0 := wr_sub (a := m) (b := a) (c := c) (by have := HLE.out; clear r0; omega) (by have := HLE.out; clear r0; omega)
 have r1 : IntKind.i64.wrap ((b : Int) - (m : Int)) = 1 := by have := HLE.out; clear r0 s0; rw [IntKind.wrap_i64]; omega
 have s1 : wrap64 ((b : Int) - (m : Int)) = 1 := by have := HLE.out; clear r0 s0 r1; exact wr_i64 _ (by omega) (by omega) (by omega)
 go_enter Tryz.func100, Tryz.ntmps100
 go_wp2
 go_loopw [14, 15] (fun vi vj wr => ∃ i j : Nat, vi = .int .i64 i ∧ vj = .int .i64 j ∧ Hid (Bs (fun k => 0 ≤ cf x d[k]!) a m i j) ∧ Hid (SortW w0 blk tag sz d wr)) (fun vi vj _ => (intOf vj).toNat - (intOf vi).toNat)
 case atStart => exact ⟨a, m, rfl, rfl, B0, ST⟩
 case round =>
  obtain ⟨i, j, rfl, rfl, HB, HW⟩ := hrel
  clear ST B0 r0 s0 r1 s1 nc nb
  by_cases hlt : i < j
  ·obtain ⟨z1, z2, z3, _, _⟩ := HB.out
   have hle := HLE.out
   obtain ⟨ij, hij⟩ : ∃ ij, ij = i + j := ⟨_, rfl⟩
   obtain ⟨h, hh⟩ : ∃ h, h = ij / 2 := ⟨_, rfl⟩
   have HD2 : Hid ((ij : Int) / 2 = (h : Int)) := hdq (by omega)
   have n1 : ij < 2199023255552 := by omega
   have n2 : h < 2199023255552 := by omega
   have HH : Hid (h = (i + j) / 2 ∧ a ≤ i ∧ i ≤ h ∧ h < j ∧ j ≤ m ∧ h < len) := ⟨by rw [hh, hij], z1, by omega, by omega, z3, by omega⟩
   obtain ⟨u, hu⟩ : ∃ u, u = d[h]! := ⟨_, rfl⟩
   have hml : m < len := by have := HH.out; have := HLE.out; omega
   have gu := E2.get! (dk := d) (i := h) (by have := HH.out; have := HLN.out; omega)
   have gx := E2.get! (dk := d) (i := m) (by have := HLN.out; omega)
   rw [← hu] at gu
   rw [HX.out] at gx
   have oku := HOK.out u (List.mem_of_getElem? gu)
   have okx := HOK.out x (List.mem_of_getElem? gx)
   obtain ⟨c3, c4, _, _⟩ := HW.out.cells gu
   obtain ⟨c1, c2, _, _⟩ := HW.out.cells gx
   have GU := hdq gu
   have GX := hdq gx
   obtain ⟨p, hp⟩ : ∃ p, p = cf x u := ⟨_, rfl⟩
   have HP := hdq (show p = cf x d[h]! by rw [hp, hu])
   obtain ⟨y0, y1⟩ := u
   obtain ⟨x0, x1⟩ := x
   simp only at c1 c2 c3 c4
   have HCC : Hid (∀ W : World, (W.cell? ⟨blk, m * 2, none⟩ = some x0 ∧ W.cell? ⟨blk, m * 2 + 1, none⟩ = some x1 ∧ W.cell? ⟨blk, h * 2, none⟩ = some y0 ∧ W.cell? ⟨blk, h * 2 + 1, none⟩ = some y1 ∧ Hid (SortW w0 blk tag sz d W)) → Calls Tryz.prog 44 #[.agg #[x0, x1], .agg #[y0, y1]] W fun e w' => e = .returned (.int .i64 p) ∧ (w'.cell? ⟨blk, m * 2, none⟩ = some x0 ∧ w'.cell? ⟨blk, m * 2 + 1, none⟩ = some x1 ∧ w'.cell? ⟨blk, h * 2, none⟩ = some y0 ∧ w'.cell? ⟨blk, h * 2 + 1, none⟩ = some y1 ∧ Hid (SortW w0 blk tag sz d w'))) := hdq (fun W hS => (HC.out (x0, x1) (y0, y1) W okx oku hS.2.2.2.2.out.2.1).mono (fun e w' h => by
    have h2 := hS.2.2.2.2.out.below h.2
    obtain ⟨q1, q2, _, _⟩ := h2.cells GX.out
    obtain ⟨q3, q4, _, _⟩ := h2.cells GU.out
    exact ⟨by rw [h.1, hp], q1, q2, q3, q4, hdq h2⟩))
   have ph : (0 : Int) ≤ (h : Int) := by omega
   have bh : (h : Int) < (len : Int) := by have := HH.out; omega
   have nh : h < len := HH.out.2.2.2.2.2
   have pm : (0 : Int) ≤ (m : Int) := by omega
   have bm : (m : Int) < (len : Int) := by omega
   clear hu gu gx oku okx hp
   by_cases hp0 : p < 0
   ·have NB : Hid (Bs (fun k => 0 ≤ cf (x0, x1) d[k]!) a m i h) := hdq (HB.out.left MONO.out HH.out.1 hlt (by show ¬ 0 ≤ cf (x0, x1) d[h]!; rw [← HP.out]; exact Int.not_le.2 hp0))
    have MS : Hid (h - i < j - i) := hdq (by have := HH.out; omega)
    clear MONO FIN
    have q1 := wrU_nat n1
    have q2 := wrI_nat n2
    have r1 := wrI_add hij.symm n1
    have s1 := wr_add hij.symm n1
    clear hij hh n1 n2 z1 z2 z3 hle
    have hd2 : (ij : Int) / 2 = (h : Int) := HD2.out
    go_wp2
    go_region_held3 (fun W : World => W.cell? ⟨blk, m * 2, none⟩ = some x0 ∧ W.cell? ⟨blk, m * 2 + 1, none⟩ = some x1 ∧ W.cell? ⟨blk, h * 2, none⟩ = some y0 ∧ W.cell? ⟨blk, h * 2 + 1, none⟩ = some y1 ∧ Hid (SortW w0 blk tag sz d W)) (first | (exact ⟨by simpa using c1, by simpa using c2, by simpa using c3, by simpa using c4, hdq HW.out.drew⟩) | assumption) (first | (go_at_call 44; refine (HCC.out _ (by assumption)).mono ?_; rintro e wx ⟨rfl, hSx⟩))
    have HFIN := hdq hSx.2.2.2.2.out
    clear hSx c1 c2 c3 c4
    go_wp2
    go_roundw
    case rel => exact ⟨i, h, rfl, rfl, NB, HFIN⟩
    case measure => simpa [intOf] using MS.out
   ·obtain ⟨h1, hh1⟩ : ∃ h1, h1 = h + 1 := ⟨_, rfl⟩
    have NB : Hid (Bs (fun k => 0 ≤ cf (x0, x1) d[k]!) a m h1 j) := hdq (hh1 ▸ HB.out.right MONO.out HH.out.1 hlt (by show 0 ≤ cf (x0, x1) d[h]!; rw [← HP.out]; exact Int.not_lt.1 hp0))
    have MS : Hid (j - h1 < j - i) := hdq (by have := HH.out; omega)
    have HP1 := hdq hp0
    have n3 : h1 < 2199023255552 := by omega
    have r5 := wrI_add (a := h) (b := 1) hh1.symm n3
    have s5 := wr_add (a := h) (b := 1) hh1.symm n3
    simp only [Int.natCast_one] at r5 s5
    clear hh1 n3 MONO FIN hp0
    have q1 := wrU_nat n1
    have q2 := wrI_nat n2
    have r1 := wrI_add hij.symm n1
    have s1 := wr_add hij.symm n1
    clear hij hh n1 n2 z1 z2 z3 hle
    have hd2 : (ij : Int) / 2 = (h : Int) := HD2.out
    go_wp2
    go_region_held3 (fun W : World => W.cell? ⟨blk, m * 2, none⟩ = some x0 ∧ W.cell? ⟨blk, m * 2 + 1, none⟩ = some x1 ∧ W.cell? ⟨blk, h * 2, none⟩ = some y0 ∧ W.cell? ⟨blk, h * 2 + 1, none⟩ = some y1 ∧ Hid (SortW w0 blk tag sz d W)) (first | (exact ⟨by simpa using c1, by simpa using c2, by simpa using c3, by simpa using c4, hdq HW.out.drew⟩) | assumption) (first | (go_at_call 44; refine (HCC.out _ (by assumption)).mono ?_; rintro e wx ⟨rfl, hSx⟩))
    have HFIN := hdq hSx.2.2.2.2.out
    clear hSx c1 c2 c3 c4
    have hd0 : decide (p < 0) = false := decide_eq_false (Int.not_lt.2 HP1.out)
    rw [hd0]
    clear hd0
    go_wp2
    go_roundw
    case rel => exact ⟨h1, j, rfl, rfl, NB, HFIN⟩
    case measure => simpa [intOf] using MS.out
  ·obtain rfl : i = j := by obtain ⟨_, h1, _⟩ := HB.out; omega
   have FI := hdq (FIN.out i HB.out)
   have HI : Hid (a ≤ i ∧ i ≤ m) := ⟨HB.out.1, HB.out.2.2.1⟩
   have ST2 : Hid (SortW w0 blk tag sz (mv P L S x c) wr) := hdq (by have := HW.out; rw [DD.out] at this; rw [CL.out, mv_full]; exact this)
   have NL : Hid (P.length + (L.length + S.length + 1) = len) := hdq (by have := HLN.out; rw [DD.out] at this; simp only [List.length_append, List.length_cons] at this; omega)
   clear FIN HB HW MONO DD HLN HX HOK HC HCF
   go_wp2
   go_loopw [17] (fun vk wr2 => ∃ k n : Nat, vk = .int .i64 k ∧ Hid (k = a + n ∧ i ≤ k ∧ k ≤ m) ∧ Hid (SortW w0 blk tag sz (mv P L S x n) wr2)) (fun vk _ => (intOf vk).toNat - i)
   case atStart => exact ⟨m, c, rfl, hdq ⟨by have := HLE.out; omega, HI.out.2, Nat.le_refl _⟩, ST2⟩
   case round =>
    obtain ⟨k, n, rfl, HK, HW2⟩ := hrel
    clear ST2
    by_cases hlt2 : i < k
    ·have hle := HLE.out
     have hc := CL.out
     obtain ⟨n', hn'⟩ : ∃ n', n = n' + 1 := ⟨n - 1, by have := HK.out; have := HI.out; omega⟩
     subst hn'
     have hk := HK.out.1
     have hn : n' < L.length := by have := HK.out; omega
     obtain ⟨k1, hk1⟩ : ∃ k1, k = k1 + 1 := ⟨k - 1, by omega⟩
     obtain ⟨dk, hdk⟩ : ∃ dk, dk = mv P L S x (n' + 1) := ⟨_, rfl⟩
     have hW := HW2.out
     rw [← hdk] at hW
     have hdl : dk.length = len := by rw [hdk, mv_length, NL.out]
     have hkl : k < len := by have := HK.out; omega
     have hnx : swpE dk k k1 = mv P L S x n' := by
      rw [hdk, show k = P.length + n' + 1 by have := PA.out; omega, show k1 = P.length + n' by have := PA.out; omega]; exact mv_down hn
     obtain ⟨y, hy⟩ : ∃ y, y = dk[k]! := ⟨_, rfl⟩
     obtain ⟨z, hz⟩ : ∃ z, z = dk[k1]! := ⟨_, rfl⟩
     have gy := E2.get! (dk := dk) (i := k) (by omega)
     have gz := E2.get! (dk := dk) (i := k1) (by omega)
     rw [← hy] at gy
     rw [← hz] at gz
     obtain ⟨c1, c2, f1, f2⟩ := hW.cells gy
     obtain ⟨c3, c4, f3, f4⟩ := hW.cells gz
     have o1 := hW.one gy
     have o2 := hW.one gz
     have HSW := hdq (hW.swap (i := k) (j := k1) (by omega) (by omega)).drew
     rw [← hy, ← hz, hnx] at HSW
     obtain ⟨x0, x1⟩ := y
     obtain ⟨y0, y1⟩ := z
     simp only at c1 c2 c3 c4 f1 f2 f3 f4 o1 o2 HSW
     have sx0 : ∀ (W : World) (p : Addr) (m : Mode), (store p x0 m).run Tryz.prog W = stored Tryz.prog W p x0 m := fun W p m => run_store Tryz.prog W p x0 m o1.1
     have sx1 : ∀ (W : World) (p : Addr) (m : Mode), (store p x1 m).run Tryz.prog W = stored Tryz.prog W p x1 m := fun W p m => run_store Tryz.prog W p x1 m o1.2
     have sy0 : ∀ (W : World) (p : Addr) (m : Mode), (store p y0 m).run Tryz.prog W = stored Tryz.prog W p y0 m := fun W p m => run_store Tryz.prog W p y0 m o2.1
     have sy1 : ∀ (W : World) (p : Addr) (m : Mode), (store p y1 m).run Tryz.prog W = stored Tryz.prog W p y1 m := fun W p m => run_store Tryz.prog W p y1 m o2.2
     have pk : (0 : Int) ≤ (k : Int) := by omega
     have bk : (k : Int) < (len : Int) := by omega
     have pk1 : (0 : Int) ≤ (k1 : Int) := by omega
     have bk1 : (k1 : Int) < (len : Int) := by omega
     have nk1 : k1 < len := by omega
     have ne1 : ¬ k * 2 = k1 * 2 := by omega
     have ne2 : ¬ k * 2 + 1 = k1 * 2 := by omega
     have ne3 : ¬ k * 2 = k1 * 2 + 1 := by omega
     have ne4 : ¬ k * 2 + 1 = k1 * 2 + 1 := by omega
     have KN : Hid (k1 = a + n' ∧ i ≤ k1 ∧ k1 ≤ m) := hdq ⟨by omega, by omega, by have := HK.out; omega⟩
     have MS : Hid (k1 - i < k - i) := hdq (by omega)
     have n1 : k < 2199023255552 := by omega
     have n2 : k1 + 1 = k := hk1.symm
     clear hle hc hk hn hk1 hdk hW hdl hnx hy hz gy gz o1 o2 HW2
     have r1 := wrI_sub (a := k) (b := 1) n2 n1
     have s1 := wr_sub (a := k) (b := 1) n2 n1
     simp only [Int.natCast_one] at r1 s1
     clear n2 n1
     go_wp2_with fail
     go_big_region
     go_wp2
     go_roundw
     case rel => exact ⟨k1, n', rfl, KN, HSW⟩
     case measure => simpa [intOf] using MS.out
    ·have hk : n = i - a := by have := HI.out; have := HK.out; omega
     have HE := HW2.out
     rw [hk, mv_eq] at HE
     have FN := hdq (And.intro FI.out.1 (And.intro FI.out.2 HE))
     clear HE
     have HK2 := hdq hk
     clear hk
     go_wp2
     (try simp only [Exit.inBlock, Exit.then])
     refine bodyPost_ret (results_none rfl _ _ _) rfl ?_
     exact ⟨rfl, _, FN.out⟩
def SymAt (w0 : World) (blk tag sz cap len : Nat) (cf : E2 → E2 → Int) (OK : E2 → Prop) (n : Nat) : Prop :=
 ∀ (P L R S : List E2) (w : World) (a m b : Nat), (∀ x, x ∈ P ++ (L ++ (R ++ S)) → OK x) → SortedE cf L → SortedE cf R → 0 < L.length → 0 < R.length → SortW w0 blk tag sz (P ++ (L ++ (R ++ S))) w → (P ++ (L ++ (R ++ S))).length = len → P.length = a → a + L.length = m → m + R.length = b → b - a ≤ n →
  Calls Tryz.prog 100 #[.slice (some ⟨blk, 0, none⟩) len cap, .int .i64 a, .int .i64 m, .int .i64 b, byF] w fun e w' => e = .returned (.tuple #[]) ∧ ∃ X', X'.Perm (L ++ R) ∧ SortedE cf X' ∧ SortW w0 blk tag sz (P ++ (X' ++ S)) w'
def Lo (a m b md lo hi : Nat) : Prop := a ≤ lo ∧ lo ≤ hi ∧ hi ≤ m ∧ hi ≤ md ∧ md + m ≤ lo + b ∧ (lo = a ∨ lo + b = md + m) ∧ (hi = m ∨ hi = md)
theorem Lo.mono {cf : E2 → E2 → Int} (hcf : Cmps cf) {P L R S d : List E2} {a m b md pp lo hi : Nat} (hd : d = P ++ (L ++ (R ++ S))) (ha : P.length = a) (hm : a + L.length = m) (hb : m + R.length = b) (hL : SortedE cf L) (hR : SortedE cf R) (hpp : pp + 1 = md + m) (hlo : Lo a m b md lo hi) :
 ∀ u v, lo ≤ u → u ≤ v → v < hi → 0 ≤ cf d[pp - v]! d[v]! → 0 ≤ cf d[pp - u]! d[u]! := by
 obtain ⟨q1, q2, q3, q4, q5, _, _⟩ := hlo
 have hl : ∀ k, a ≤ k → k < m → d[k]! = L[k - a]! := fun k h1 h2 => by
  rw [hd, List.getElem!_eq_getElem?_getD, List.getElem!_eq_getElem?_getD, List.getElem?_append_right (by omega), List.getElem?_append_left (by omega), ha]
 have hr : ∀ k, m ≤ k → k < b → d[k]! = R[k - m]! := fun k h1 h2 => by
  rw [hd, List.getElem!_eq_getElem?_getD, List.getElem!_eq_getElem?_getD, List.getElem?_append_right (by omega), List.getElem?_append_right (by omega), List.getElem?_append_left (by omega), show k - P.length - L.length = k - m by omega]
 intro u v h1 h2 h3 h4
 rw [hr _ (by omega) (by omega), hl _ (by omega) (by omega)] at h4 ⊢
 have e1 := hL.at hcf (i := u - a) (j := v - a) (by omega) (by omega)
 have e2 := hR.at hcf (i := pp - v - m) (j := pp - u - m) (by omega) (by omega)
 exact Int.not_lt.1 (hcf.trans _ _ _ (hcf.trans _ _ _ e1 (Int.not_lt.2 h4)) e2)
def Parted (cf : E2 → E2 → Int) (L R : List E2) (a m b md t en : Nat) (L1 L2 R1 R2 : List E2) : Prop :=
 L = L1 ++ L2 ∧ R = R1 ++ R2 ∧ a + L1.length = t ∧ t + L2.length = m ∧ m + R1.length = en ∧ en + R2.length = b ∧ t + R1.length = md ∧ md + L2.length = en ∧ (∀ x, x ∈ L1 ++ R1 → ∀ y, y ∈ L2 ++ R2 → ¬ cf y x < 0)
theorem Lo.parted {cf : E2 → E2 → Int} (hcf : Cmps cf) {P L R S d : List E2} {a m b md pp lo hi t : Nat} (hd : d = P ++ (L ++ (R ++ S))) (ha : P.length = a) (hm : a + L.length = m) (hb : m + R.length = b) (hL : SortedE cf L) (hR : SortedE cf R) (hpp : pp + 1 = md + m) (hmb : md ≤ b) (hlo : Lo a m b md lo hi)
 (hB : Bs (fun k => 0 ≤ cf d[pp - k]! d[k]!) lo hi t t) : ∃ L1 L2 R1 R2, Parted cf L R a m b md t (md + m - t) L1 L2 R1 R2 := by
 obtain ⟨q1, q2, q3, q4, q5, q6, q7⟩ := hlo
 have hl : ∀ k, a ≤ k → k < m → d[k]! = L[k - a]! := fun k h1 h2 => by
  rw [hd, List.getElem!_eq_getElem?_getD, List.getElem!_eq_getElem?_getD, List.getElem?_append_right (by omega), List.getElem?_append_left (by omega), ha]
 have hr : ∀ k, m ≤ k → k < b → d[k]! = R[k - m]! := fun k h1 h2 => by
  rw [hd, List.getElem!_eq_getElem?_getD, List.getElem!_eq_getElem?_getD, List.getElem?_append_right (by omega), List.getElem?_append_right (by omega), List.getElem?_append_left (by omega), show k - P.length - L.length = k - m by omega]
 obtain ⟨z1, _, z2, z3, z4⟩ := hB
 refine ⟨L.take (t - a), L.drop (t - a), R.take (md - t), R.drop (md - t), (List.take_append_drop _ _).symm, (List.take_append_drop _ _).symm, by rw [List.length_take]; omega, by rw [List.length_drop]; omega, by rw [List.length_take]; omega, by rw [List.length_drop]; omega, by rw [List.length_take]; omega, by rw [List.length_drop]; omega, ?_⟩
 refine sym_split hcf hL hR (by omega) (by omega) ?_ ?_
 ·by_cases e : t = lo
  ·rcases q6 with q6 | q6
   ·exact Or.inl (by omega)
   ·exact Or.inr (Or.inl (by omega))
  ·have h := z3 (t - 1) (by omega) (by omega)
   simp only at h
   rw [hr _ (by omega) (by omega), hl _ (by omega) (by omega), show pp - (t - 1) - m = md - t by omega, show t - 1 - a = t - a - 1 by omega] at h
   exact Or.inr (Or.inr (Int.not_lt.2 h))
 ·by_cases e : t = hi
  ·rcases q7 with q7 | q7
   ·exact Or.inr (Or.inl (by omega))
   ·exact Or.inl (by omega)
  ·have h := z4 t (by omega) (by omega)
   simp only at h
   rw [hr _ (by omega) (by omega), hl _ (by omega) (by omega), show pp - t - m = md - t - 1 by omega] at h
   exact Or.inr (Or.inr (Int.not_le.1 h))
set_option maxHeartbeats 8000000 in
theorem symM_step (blk tag sz cap len : Nat) (cf : E2 → E2 → Int) (OK : E2 → Prop) (hcf : Cmps cf) (w0 : World) (hC : CmpAns w0 blk cf OK) (hlen0 : len < 1099511627776) (n : Nat) (IH : SymAt w0 blk tag sz cap len cf OK n)
 (P L R S : List E2) (w : World) (a m b : Nat) (hOK : ∀ x, x ∈ P ++ (L ++ (R ++ S)) → OK x) (hL : SortedE cf L) (hR : SortedE cf R) (h0 : 1 < L.length) (h1 : 1 < R.length) (hS : SortW w0 blk tag sz (P ++ (L ++ (R ++ S))) w) (hlen : (P ++ (L ++ (R ++ S))).length = len) (ha : P.length = a) (hm : a + L.length = m) (hb : m + R.length = b) (hn : b - a ≤ n + 1) :
 Calls Tryz.prog 100 #[.slice (some ⟨blk, 0, none⟩) len cap, .int .i64 a, .int .i64 m, .int .i64 b, byF] w fun e w' => e = .returned (.tuple #[]) ∧ ∃ X', X'.Perm (L ++ R) ∧ SortedE cf X' ∧ SortW w0 blk tag sz (P ++ (X' ++ S)) w' := by
 obtain ⟨d, hd⟩ : ∃ d, d = P ++ (L ++ (R ++ S)) := ⟨_, rfl⟩
 have HOKD := hdq hOK
 rw [← hd] at hS hOK
 have hlp : P.length + (L.length + (R.length + S.length)) = len := by rw [← hlen]; simp only [List.length_append]
 have hdl : d.length = len := by rw [hd]; exact hlen
 have hle : b ≤ len := by omega
 obtain ⟨c, hc⟩ : ∃ c, c + a = m := ⟨L.length, by omega⟩
 obtain ⟨c2, hc2⟩ : ∃ c2, c2 + m = b := ⟨R.length, by omega⟩
 obtain ⟨ab, hab⟩ : ∃ ab, ab = a + b := ⟨_, rfl⟩
 obtain ⟨md, hmd⟩ : ∃ md, md = ab / 2 := ⟨_, rfl⟩
 obtain ⟨nn, hnn⟩ : ∃ nn, nn = md + m := ⟨_, rfl⟩
 obtain ⟨pp, hpp⟩ : ∃ pp, pp + 1 = nn := ⟨nn - 1, by omega⟩
 have HLE : Hid (b ≤ len ∧ len < 1099511627776 ∧ c + a = m ∧ c2 + m = b ∧ 1 < c ∧ 1 < c2 ∧ ab = a + b ∧ md = ab / 2 ∧ nn = md + m ∧ pp + 1 = nn ∧ b - a ≤ n + 1 ∧ P.length = a ∧ a + L.length = m ∧ m + R.length = b ∧ b + S.length = len) := ⟨hle, hlen0, hc, hc2, by omega, by omega, hab, hmd, hnn, hpp, hn, ha, hm, hb, by omega⟩
 have MONO : Hid (∀ lo hi, Lo a m b md lo hi → ∀ u v, lo ≤ u → u ≤ v → v < hi → 0 ≤ cf d[pp - v]! d[v]! → 0 ≤ cf d[pp - u]! d[u]!) := hdq (fun lo hi h => h.mono hcf hd ha hm hb hL hR (by omega))
 have PART : Hid (∀ lo hi t, Lo a m b md lo hi → Bs (fun k => 0 ≤ cf d[pp - k]! d[k]!) lo hi t t → ∃ L1 L2 R1 R2, Parted cf L R a m b md t (nn - t) L1 L2 R1 R2) := hdq (fun lo hi t h hB => hnn ▸ h.parted hcf hd ha hm hb hL hR (by omega) (by omega) hB)
 have HCF := hdq hcf
 have HC := hdq hC
 have HOK := hdq hOK
 have HDL := hdq hdl
 have DD := hdq hd
 have HSL := hdq (And.intro hL hR)
 have HIH := hdq IH
 have ST := hdq hS
 have HD2 : Hid ((ab : Int) / 2 = (md : Int)) := hdq (by omega)
 clear IH hcf hC hOK hL hR h0 h1 hS hlen ha hm hb hn hlp hdl hle hc hc2 hab hmd hnn hpp hd hlen0
 have nc : ¬ (c : Int) = 1 := by have := HLE.out; omega
 have nb : ((c : Int) == 1) = false := by simp [nc]
 have nc2 : ¬ (c2 : Int) = 1 := by have := HLE.out; omega
 have nb2 : ((c2 : Int) == 1) = false := by simp [nc2]
 have r0 := wrI_sub (a := m) (b := a) (c := c) (by have := HLE.out; omega) (by have := HLE.out; omega)
 have s0 := wr_sub (a := m) (b := a) (c := c) (by have := HLE.out; clear r0; omega) (by have := HLE.out; clear r0; omega)
 have r1 := wrI_sub (a := b) (b := m) (c := c2) (by have := HLE.out; clear r0 s0; omega) (by have := HLE.out; clear r0 s0; omega)
 have s1 := wr_sub (a := b) (b := m) (c := c2) (by have := HLE.out; clear r0 s0 r1; omega) (by have := HLE.out; clear r0 s0 r1; omega)
 have r2 := wrI_add (a := a) (b := b) (c := ab) (by have := HLE.out; clear r0 s0 r1 s1; omega) (by have := HLE.out; clear r0 s0 r1 s1; omega)
 have s2 := wr_add (a := a) (b := b) (c := ab) (by have := HLE.out; clear r0 s0 r1 s1 r2; omega) (by have := HLE.out; clear r0 s0 r1 s1 r2; omega)
 have q1 := wrU_nat (c := ab) (by have := HLE.out; clear r0 s0 r1 s1 r2 s2; omega)
 have q2 := wrI_nat (c := md) (by have := HLE.out; clear r0 s0 r1 s1 r2 s2 q1; omega)
 have r3 := wrI_add (a := md) (b := m) (c := nn) (by have := HLE.out; clear r0 s0 r1 s1 r2 s2 q1 q2; omega) (by have := HLE.out; clear r0 s0 r1 s1 r2 s2 q1 q2; omega)
 have s3 := wr_add (a := md) (b := m) (c := nn) (by have := HLE.out; clear r0 s0 r1 s1 r2 s2 q1 q2 r3; omega) (by have := HLE.out; clear r0 s0 r1 s1 r2 s2 q1 q2 r3; omega)
 have hd2 := HD2.out
 go_enter Tryz.func100, Tryz.ntmps100
 go_upto_if 140 with fail
 clear r0 s0 r1 s1 r2 s2 r3 s3 q1 q2 hd2 nc nb nc2 nb2
 go_cut [20, 21] from 140 to 146 (fun s r W => ∃ lo hi : Nat, s = .int .i64 lo ∧ r = .int .i64 hi ∧ Hid (Lo a m b md lo hi) ∧ Hid (SortW w0 blk tag sz d W))
 case first =>
  have hle := HLE.out
  by_cases hg : md < m
  ·obtain ⟨lo, hlo⟩ : ∃ lo, lo + b = nn := ⟨nn - b, by omega⟩
   have LO : Hid (Lo a m b md lo md) := hdq ⟨by omega, by omega, by omega, by omega, by omega, Or.inr (by omega), Or.inr rfl⟩
   have n1 : nn < 2199023255552 := by omega
   have g1 : (md : Int) < (m : Int) := by omega
   clear hle
   have r1 := wrI_sub hlo n1
   have s1 := wr_sub hlo n1
   clear n1 hlo
   go_wp2
   go_meet
   exact ⟨lo, md, rfl, rfl, LO, ST⟩
  ·have LO : Hid (Lo a m b md a m) := hdq ⟨by omega, by omega, by omega, by omega, by omega, Or.inl rfl, Or.inl rfl⟩
   have g1 : ¬ (md : Int) < (m : Int) := by omega
   have g2 : m ≤ md := by omega
   clear hle
   go_wp2
   go_meet
   exact ⟨a, m, rfl, rfl, LO, ST⟩
 case rest =>
  obtain ⟨lo, hi, rfl, rfl, HLO, HW0⟩ := hcut
  clear ST
  have B0 : Hid (Bs (fun k => 0 ≤ cf d[pp - k]! d[k]!) lo hi lo hi) := ⟨Nat.le_refl _, HLO.out.2.1, Nat.le_refl _, fun k h1 h2 => by omega, fun k h1 h2 => by omega⟩
  have n1 : nn < 2199023255552 := by have := HLE.out; omega
  have r1 := wrI_sub (a := nn) (b := 1) HLE.out.2.2.2.2.2.2.2.2.2.1 n1
  have s1 := wr_sub (a := nn) (b := 1) HLE.out.2.2.2.2.2.2.2.2.2.1 n1
  simp only [Int.natCast_one] at r1 s1
  clear n1
  go_wp2
  go_loopw [20, 21] (fun vi vj wr => ∃ i j : Nat, vi = .int .i64 i ∧ vj = .int .i64 j ∧ Hid (Bs (fun k => 0 ≤ cf d[pp - k]! d[k]!) lo hi i j) ∧ Hid (SortW w0 blk tag sz d wr)) (fun vi vj _ => (intOf vj).toNat - (intOf vi).toNat)
  case atStart => exact ⟨lo, hi, rfl, rfl, B0, HW0⟩
  case round =>
   obtain ⟨i, j, rfl, rfl, HB, HW⟩ := hrel
   clear HW0 B0 r1 s1
   by_cases hlt : i < j
   ·obtain ⟨z1, z2, z3, _, _⟩ := HB.out
    obtain ⟨v1, v2, v3, v4, v5, _, _⟩ := HLO.out
    have hle := HLE.out
    obtain ⟨ij, hij⟩ : ∃ ij, ij = i + j := ⟨_, rfl⟩
    obtain ⟨h, hh⟩ : ∃ h, h = ij / 2 := ⟨_, rfl⟩
    obtain ⟨g, hg⟩ : ∃ g, g + h = pp := ⟨pp - h, by omega⟩
    have HD2 : Hid ((ij : Int) / 2 = (h : Int)) := hdq (by omega)
    have n1 : ij < 2199023255552 := by omega
    have n2 : h < 2199023255552 := by omega
    have n4 : pp < 2199023255552 := by omega
    have HH : Hid (h = (i + j) / 2 ∧ lo ≤ i ∧ i ≤ h ∧ h < j ∧ j ≤ hi ∧ h < len ∧ g < len ∧ g = pp - h) := ⟨by rw [hh, hij], z1, by omega, by omega, z3, by omega, by omega, by omega⟩
    obtain ⟨u, hu⟩ : ∃ u, u = d[h]! := ⟨_, rfl⟩
    obtain ⟨x, hx⟩ : ∃ x, x = d[g]! := ⟨_, rfl⟩
    have gu := E2.get! (dk := d) (i := h) (by have := HH.out; have := HDL.out; omega)
    have gx := E2.get! (dk := d) (i := g) (by have := HH.out; have := HDL.out; omega)
    rw [← hu] at gu
    rw [← hx] at gx
    have oku := HOK.out u (List.mem_of_getElem? gu)
    have okx := HOK.out x (List.mem_of_getElem? gx)
    obtain ⟨c3, c4, _, _⟩ := HW.out.cells gu
    obtain ⟨c1, c2', _, _⟩ := HW.out.cells gx
    have c2 := c2'
    clear c2'
    have GU := hdq gu
    have GX := hdq gx
    obtain ⟨p, hp⟩ : ∃ p, p = cf x u := ⟨_, rfl⟩
    have HP := hdq (show p = cf d[pp - h]! d[h]! by rw [hp, hu, hx, HH.out.2.2.2.2.2.2.2])
    obtain ⟨y0, y1⟩ := u
    obtain ⟨x0, x1⟩ := x
    simp only at c1 c2 c3 c4
    have HCC : Hid (∀ W : World, (W.cell? ⟨blk, g * 2, none⟩ = some x0 ∧ W.cell? ⟨blk, g * 2 + 1, none⟩ = some x1 ∧ W.cell? ⟨blk, h * 2, none⟩ = some y0 ∧ W.cell? ⟨blk, h * 2 + 1, none⟩ = some y1 ∧ Hid (SortW w0 blk tag sz d W)) → Calls Tryz.prog 44 #[.agg #[x0, x1], .agg #[y0, y1]] W fun e w' => e = .returned (.int .i64 p) ∧ (w'.cell? ⟨blk, g * 2, none⟩ = some x0 ∧ w'.cell? ⟨blk, g * 2 + 1, none⟩ = some x1 ∧ w'.cell? ⟨blk, h * 2, none⟩ = some y0 ∧ w'.cell? ⟨blk, h * 2 + 1, none⟩ = some y1 ∧ Hid (SortW w0 blk tag sz d w'))) := hdq (fun W hS => (HC.out (x0, x1) (y0, y1) W okx oku hS.2.2.2.2.out.2.1).mono (fun e w' h => by
     have h2 := hS.2.2.2.2.out.below h.2
     obtain ⟨q1, q2, _, _⟩ := h2.cells GX.out
     obtain ⟨q3, q4, _, _⟩ := h2.cells GU.out
     exact ⟨by rw [h.1, hp], q1, q2, q3, q4, hdq h2⟩))
    have ph : (0 : Int) ≤ (h : Int) := by omega
    have bh : (h : Int) < (len : Int) := by have := HH.out; omega
    have nh : h < len := HH.out.2.2.2.2.2.1
    have pg : (0 : Int) ≤ (g : Int) := by omega
    have bg : (g : Int) < (len : Int) := by have := HH.out; omega
    have ng : g < len := HH.out.2.2.2.2.2.2.1
    clear hu gu hx gx oku okx hp
    by_cases hp0 : p < 0
    ·have NB : Hid (Bs (fun k => 0 ≤ cf d[pp - k]! d[k]!) lo hi i h) := hdq (HB.out.left (MONO.out lo hi HLO.out) HH.out.1 hlt (by show ¬ 0 ≤ cf d[pp - h]! d[h]!; rw [← HP.out]; exact Int.not_le.2 hp0))
     have MS : Hid (h - i < j - i) := hdq (by have := HH.out; omega)
     clear v1 v2 v3 v4 v5
     have q1 := wrU_nat n1
     have q2 := wrI_nat n2
     have r1 := wrI_add hij.symm n1
     have s1 := wr_add hij.symm n1
     have r2 := wrI_sub hg n4
     have s2 := wr_sub hg n4
     clear hij hh n1 n2 z1 z2 z3 hle hg n4
     have hd2 : (ij : Int) / 2 = (h : Int) := HD2.out
     go_wp2
     go_region_held3 (fun W : World => W.cell? ⟨blk, g * 2, none⟩ = some x0 ∧ W.cell? ⟨blk, g * 2 + 1, none⟩ = some x1 ∧ W.cell? ⟨blk, h * 2, none⟩ = some y0 ∧ W.cell? ⟨blk, h * 2 + 1, none⟩ = some y1 ∧ Hid (SortW w0 blk tag sz d W)) (first | (exact ⟨by simpa using c1, by simpa using c2, by simpa using c3, by simpa using c4, hdq HW.out.drew⟩) | assumption) (first | (go_at_call 44; refine (HCC.out _ (by assumption)).mono ?_; rintro e wx ⟨rfl, hSx⟩))
     have HFIN := hdq hSx.2.2.2.2.out
     clear hSx c1 c2 c3 c4
     go_wp2
     go_roundw
     case rel => exact ⟨i, h, rfl, rfl, NB, HFIN⟩
     case measure => simpa [intOf] using MS.out
    ·obtain ⟨h1, hh1⟩ : ∃ h1, h1 = h + 1 := ⟨_, rfl⟩
     have NB : Hid (Bs (fun k => 0 ≤ cf d[pp - k]! d[k]!) lo hi h1 j) := hdq (hh1 ▸ HB.out.right (MONO.out lo hi HLO.out) HH.out.1 hlt (by show 0 ≤ cf d[pp - h]! d[h]!; rw [← HP.out]; exact Int.not_lt.1 hp0))
     have MS : Hid (j - h1 < j - i) := hdq (by have := HH.out; omega)
     have HP1 := hdq hp0
     have n3 : h1 < 2199023255552 := by omega
     have r5 := wrI_add (a := h) (b := 1) hh1.symm n3
     have s5 := wr_add (a := h) (b := 1) hh1.symm n3
     simp only [Int.natCast_one] at r5 s5
     clear hh1 n3 hp0 v1 v2 v3 v4 v5
     have q1 := wrU_nat n1
     have q2 := wrI_nat n2
     have r1 := wrI_add hij.symm n1
     have s1 := wr_add hij.symm n1
     have r2 := wrI_sub hg n4
     have s2 := wr_sub hg n4
     clear hij hh n1 n2 z1 z2 z3 hle hg n4
     have hd2 : (ij : Int) / 2 = (h : Int) := HD2.out
     go_wp2
     go_region_held3 (fun W : World => W.cell? ⟨blk, g * 2, none⟩ = some x0 ∧ W.cell? ⟨blk, g * 2 + 1, none⟩ = some x1 ∧ W.cell? ⟨blk, h * 2, none⟩ = some y0 ∧ W.cell? ⟨blk, h * 2 + 1, none⟩ = some y1 ∧ Hid (SortW w0 blk tag sz d W)) (first | (exact ⟨by simpa using c1, by simpa using c2, by simpa using c3, by simpa using c4, hdq HW.out.drew⟩) | assumption) (first | (go_at_call 44; refine (HCC.out _ (by assumption)).mono ?_; rintro e wx ⟨rfl, hSx⟩))
     have HFIN := hdq hSx.2.2.2.2.out
     clear hSx c1 c2 c3 c4
     have hd0 : decide (p < 0) = false := decide_eq_false (Int.not_lt.2 HP1.out)
     rw [hd0]
     clear hd0
     go_wp2
     go_roundw
     case rel => exact ⟨h1, j, rfl, rfl, NB, HFIN⟩
     case measure => simpa [intOf] using MS.out
   ·obtain rfl : i = j := by obtain ⟨_, h1, _⟩ := HB.out; omega
    obtain ⟨v1, v2, v3, v4, v5, _, _⟩ := HLO.out
    have hle := HLE.out
    have hih := HB.out.2.2.1
    obtain ⟨en, hen⟩ : ∃ en, en + i = nn := ⟨nn - i, by omega⟩
    obtain ⟨L1, L2, R1, R2, hpar⟩ := PART.out lo hi i HLO.out HB.out
    rw [show nn - i = en by omega] at hpar
    obtain ⟨eL, eR, p1, p2, p3, p4, p5, p6, hx⟩ := hpar
    have HWA := HW.out
    rw [DD.out, eL, eR] at HWA
    simp only [List.append_assoc] at HWA
    have HWA := hdq HWA
    have PP : Hid (a + L1.length = i ∧ i + L2.length = m ∧ m + R1.length = en ∧ en + R2.length = b ∧ i + R1.length = md ∧ md + L2.length = en ∧ en + i = nn) := ⟨p1, p2, p3, p4, p5, p6, hen⟩
    have EE := hdq (And.intro eL eR)
    have HSP := hdq hx
    have SO : Hid (SortedE cf L1 ∧ SortedE cf L2 ∧ SortedE cf R1 ∧ SortedE cf R2) := hdq (by
     obtain ⟨h1, h2⟩ := HSL.out
     rw [eL] at h1
     rw [eR] at h2
     exact ⟨(List.pairwise_append.1 h1).1, (List.pairwise_append.1 h1).2.1, (List.pairwise_append.1 h2).1, (List.pairwise_append.1 h2).2.1⟩)
    have OKA : Hid (∀ d' : List E2, d'.Perm (P ++ (L1 ++ (L2 ++ (R1 ++ (R2 ++ S))))) → ∀ x, x ∈ d' → OK x) := hdq (fun d' hp x hx => HOKD.out x (by
     rw [eL, eR]; simp only [List.append_assoc]; exact hp.mem_iff.1 hx))
    have LEN : Hid (P.length + (L1.length + (L2.length + (R1.length + (R2.length + S.length)))) = len) := hdq (by omega)
    have n1 : nn < 2199023255552 := by omega
    clear v1 v2 v3 v4 v5 hih hle eL eR p1 p2 p3 p4 p5 p6 hx PART MONO HB HW HOK HDL DD HC HSL HOKD HLO
    have r1 := wrI_sub hen n1
    have s1 := wr_sub hen n1
    clear hen n1 hlt
    go_upto_region 39 with fail
    clear r1 s1
    go_cut [185] from 178 to 184 (fun v W => v = .bool (decide (i < m ∧ m < en)) ∧ Hid (SortW w0 blk tag sz (P ++ (L1 ++ (L2 ++ (R1 ++ (R2 ++ S))))) W))
    case first =>
     by_cases k1 : i < m
     ·have k1' : (i : Int) < (m : Int) := by omega
      by_cases k2 : m < en
      ·have k2' : (m : Int) < (en : Int) := by omega
       go_wp2
       go_meet
       exact ⟨by simp [k1, k2], HWA⟩
      ·have k2' : ¬ (m : Int) < (en : Int) := by omega
       have k2'' : en ≤ m := by omega
       have HK := hdq k2
       clear k2
       go_wp2
       go_meet
       exact ⟨by rw [decide_eq_false (fun h => HK.out h.2)], HWA⟩
     ·have k1' : ¬ (i : Int) < (m : Int) := by omega
      have k1'' : m ≤ i := by omega
      have HK := hdq k1
      clear k1
      go_wp2
      go_meet
      exact ⟨by rw [decide_eq_false (fun h => HK.out h.1)], HWA⟩
    case rest =>
     obtain ⟨rfl, HWB⟩ := hcut
     clear HWA
     go_upto_if 185 with fail
     go_cut [24] from 185 to 191 (fun v W => v = .int .i64 en ∧ Hid (SortW w0 blk tag sz (P ++ (L1 ++ (R1 ++ (L2 ++ (R2 ++ S))))) W))
     case first =>
      by_cases hk : i < m ∧ m < en
      ·have hd1 : decide (i < m ∧ m < en) = true := decide_eq_true hk
       rw [hd1]
       have C := hdq (rotate_any byF blk tag sz cap (P ++ L1) L2 R1 (R2 ++ S) w0 _ (by rw [List.append_assoc]; exact HWB.out) (by have := PP.out; omega) (by have := PP.out; omega) len i m en (by have := LEN.out; simp only [List.length_append]; omega) (by have := PP.out; have := HLE.out; rw [List.length_append]; omega) PP.out.2.1 PP.out.2.2.1 HLE.out.2.1)
       clear hd1 hk
       go_wp2_with (go_at_call 125; refine C.out.mono ?_; rintro e w2 ⟨rfl, h2⟩; rw [List.append_assoc] at h2; have H2 := hdq h2; clear h2)
       go_meet
       exact ⟨rfl, H2⟩
      ·have hd1 : decide (i < m ∧ m < en) = false := decide_eq_false hk
       rw [hd1]
       have HWC : Hid (P ++ (L1 ++ (L2 ++ (R1 ++ (R2 ++ S)))) = P ++ (L1 ++ (R1 ++ (L2 ++ (R2 ++ S))))) := hdq (by
        rcases Nat.lt_or_ge i m with h | h
        ·obtain rfl : R1 = [] := List.eq_nil_of_length_eq_zero (by have := PP.out; omega)
         rfl
        ·obtain rfl : L2 = [] := List.eq_nil_of_length_eq_zero (by have := PP.out; omega)
         rfl)
       clear hd1 hk
       go_wp2
       go_meet
       exact ⟨rfl, HWC.out ▸ HWB⟩
     case rest =>
      obtain ⟨rfl, HWC⟩ := hcut
      clear HWB
      go_upto_region 41 with fail
      go_cut [199] from 192 to 198 (fun v W => v = .bool (decide (a < i ∧ i < md)) ∧ Hid (SortW w0 blk tag sz (P ++ (L1 ++ (R1 ++ (L2 ++ (R2 ++ S))))) W))
      case first =>
       by_cases k1 : a < i
       ·have k1' : (a : Int) < (i : Int) := by omega
        by_cases k2 : i < md
        ·have k2' : (i : Int) < (md : Int) := by omega
         go_wp2
         go_meet
         exact ⟨by simp [k1, k2], HWC⟩
        ·have k2' : ¬ (i : Int) < (md : Int) := by omega
         have k2'' : md ≤ i := by omega
         have HK := hdq k2
         clear k2
         go_wp2
         go_meet
         exact ⟨by rw [decide_eq_false (fun h => HK.out h.2)], HWC⟩
       ·have k1' : ¬ (a : Int) < (i : Int) := by omega
        have k1'' : i ≤ a := by omega
        have HK := hdq k1
        clear k1
        go_wp2
        go_meet
        exact ⟨by rw [decide_eq_false (fun h => HK.out h.1)], HWC⟩
      case rest =>
       obtain ⟨rfl, HWD⟩ := hcut
       clear HWC
       go_upto_if 199 with fail
       go_cut [24] from 199 to 205 (fun v W => v = .int .i64 en ∧ ∃ X1 : List E2, Hid (X1.Perm (L1 ++ R1) ∧ SortedE cf X1) ∧ Hid (SortW w0 blk tag sz (P ++ (X1 ++ (L2 ++ (R2 ++ S)))) W))
       case first =>
        by_cases hk : a < i ∧ i < md
        ·have hd1 : decide (a < i ∧ i < md) = true := decide_eq_true hk
         rw [hd1]
         have C := hdq (HIH.out P L1 R1 (L2 ++ (R2 ++ S)) _ a i md (OKA.out _ (List.Perm.append_left P (List.Perm.append_left L1 (by rw [← List.append_assoc R1, ← List.append_assoc L2]; exact List.Perm.append_right _ List.perm_append_comm)))) SO.out.1 SO.out.2.2.1 (by have := PP.out; omega) (by have := PP.out; omega) HWD.out (by have := LEN.out; simp only [List.length_append]; omega) HLE.out.2.2.2.2.2.2.2.2.2.2.2.1 PP.out.1 PP.out.2.2.2.2.1 (by have := HLE.out; omega))
         clear hd1 hk
         go_wp2_with (go_at_call 100; refine C.out.mono ?_; rintro e w2 ⟨rfl, X1, h1, h2, h3⟩; have H2 := hdq h3; have H1 := hdq (And.intro h1 h2); clear h1 h2 h3)
         go_meet
         exact ⟨rfl, X1, H1, H2⟩
        ·have hd1 : decide (a < i ∧ i < md) = false := decide_eq_false hk
         rw [hd1]
         have HX1 : Hid (SortedE cf (L1 ++ R1)) := hdq (by
          rcases Nat.lt_or_ge a i with h | h
          ·obtain rfl : R1 = [] := List.eq_nil_of_length_eq_zero (by have := PP.out; omega)
           rw [List.append_nil]; exact SO.out.1
          ·obtain rfl : L1 = [] := List.eq_nil_of_length_eq_zero (by have := PP.out; omega)
           exact SO.out.2.2.1)
         have HWD2 := HWD.out
         rw [← List.append_assoc L1] at HWD2
         have HWD2 := hdq HWD2
         clear hd1 hk
         go_wp2
         go_meet
         exact ⟨rfl, L1 ++ R1, hdq ⟨.refl _, HX1.out⟩, HWD2⟩
       case rest =>
        obtain ⟨rfl, X1, HP1, HWE⟩ := hcut
        clear HWD
        go_upto_region 43 with fail
        go_cut [213] from 206 to 212 (fun v W => v = .bool (decide (md < en ∧ en < b)) ∧ Hid (SortW w0 blk tag sz (P ++ (X1 ++ (L2 ++ (R2 ++ S)))) W))
        case first =>
         by_cases k1 : md < en
         ·have k1' : (md : Int) < (en : Int) := by omega
          by_cases k2 : en < b
          ·have k2' : (en : Int) < (b : Int) := by omega
           go_wp2
           go_meet
           exact ⟨by simp [k1, k2], HWE⟩
          ·have k2' : ¬ (en : Int) < (b : Int) := by omega
           have k2'' : b ≤ en := by omega
           have HK := hdq k2
           clear k2
           go_wp2
           go_meet
           exact ⟨by rw [decide_eq_false (fun h => HK.out h.2)], HWE⟩
         ·have k1' : ¬ (md : Int) < (en : Int) := by omega
          have k1'' : en ≤ md := by omega
          have HK := hdq k1
          clear k1
          go_wp2
          go_meet
          exact ⟨by rw [decide_eq_false (fun h => HK.out h.1)], HWE⟩
        case rest =>
         obtain ⟨rfl, HWF⟩ := hcut
         clear HWE
         go_upto_if 213 with fail
         have FNL : Hid (∀ (X2 : List E2) (W : World), X2.Perm (L2 ++ R2) ∧ SortedE cf X2 → SortW w0 blk tag sz (P ++ (X1 ++ (X2 ++ S))) W → ∃ X', X'.Perm (L ++ R) ∧ SortedE cf X' ∧ SortW w0 blk tag sz (P ++ (X' ++ S)) W) := hdq (fun X2 W h1 h2 => by
          refine ⟨X1 ++ X2, ?_, ?_, by rw [List.append_assoc]; exact h2⟩
          ·rw [EE.out.1, EE.out.2]
           refine (HP1.out.1.append h1.1).trans ?_
           simp only [List.append_assoc]
           refine List.Perm.append_left L1 ?_
           rw [← List.append_assoc R1, ← List.append_assoc L2]
           exact List.Perm.append_right _ List.perm_append_comm
          ·exact List.pairwise_append.2 ⟨HP1.out.2, h1.2, fun x hx y hy => HSP.out x (HP1.out.1.mem_iff.1 hx) y (h1.1.mem_iff.1 hy)⟩)
         by_cases hk : md < en ∧ en < b
         ·have hd1 : decide (md < en ∧ en < b) = true := decide_eq_true hk
          rw [hd1]
          have LX : Hid (X1.length = L1.length + R1.length) := hdq (by rw [HP1.out.1.length_eq, List.length_append])
          have C := hdq (HIH.out (P ++ X1) L2 R2 S _ md en b (OKA.out _ (by
           rw [List.append_assoc]
           refine List.Perm.append_left P ?_
           have e : L1 ++ (L2 ++ (R1 ++ (R2 ++ S))) = L1 ++ ((L2 ++ R1) ++ (R2 ++ S)) := by rw [List.append_assoc]
           have e2 : L1 ++ ((R1 ++ L2) ++ (R2 ++ S)) = (L1 ++ R1) ++ (L2 ++ (R2 ++ S)) := by simp only [List.append_assoc]
           rw [e]
           refine List.Perm.trans ?_ (List.Perm.append_left L1 (List.Perm.append_right _ List.perm_append_comm))
           rw [e2]
           exact List.Perm.append_right _ HP1.out.1)) SO.out.2.1 SO.out.2.2.2 (by have := PP.out; omega) (by have := PP.out; omega) (by rw [List.append_assoc]; exact HWF.out) (by have := LEN.out; have := LX.out; simp only [List.length_append]; omega) (by have := LX.out; have := PP.out; have := HLE.out; rw [List.length_append]; omega) PP.out.2.2.2.2.2.1 PP.out.2.2.2.1 (by have := HLE.out; omega))
          clear hd1 hk
          go_wp2_with (go_at_call 100; refine C.out.mono ?_; rintro e w2 ⟨rfl, X2, h1, h2, h3⟩; rw [List.append_assoc] at h3; have H2 := hdq h3; have H1 := hdq (And.intro h1 h2); clear h1 h2 h3)
          go_end0
          exact ⟨rfl, FNL.out _ _ H1.out H2.out⟩
         ·have hd1 : decide (md < en ∧ en < b) = false := decide_eq_false hk
          rw [hd1]
          have HX2 : Hid (SortedE cf (L2 ++ R2)) := hdq (by
           rcases Nat.lt_or_ge md en with h | h
           ·obtain rfl : R2 = [] := List.eq_nil_of_length_eq_zero (by have := PP.out; omega)
            rw [List.append_nil]; exact SO.out.2.1
           ·obtain rfl : L2 = [] := List.eq_nil_of_length_eq_zero (by have := PP.out; omega)
            exact SO.out.2.2.2)
          have HWF2 := HWF.out
          rw [← List.append_assoc L2] at HWF2
          have HWF2 := hdq HWF2
          clear hd1 hk
          go_wp2
          go_end0
          exact ⟨rfl, FNL.out _ _ ⟨.refl _, HX2.out⟩ HWF2.out⟩
theorem symM_any (blk tag sz cap len : Nat) (cf : E2 → E2 → Int) (OK : E2 → Prop) (hcf : Cmps cf) (w0 : World) (hC : CmpAns w0 blk cf OK) (hlen0 : len < 1099511627776) : ∀ n, SymAt w0 blk tag sz cap len cf OK n
 | 0 => fun P L R S w a m b _ _ _ h0 _ _ _ _ _ _ _ => by omega
 | n + 1 => fun P L R S w a m b hOK hL hR h0 h1 hS hlen ha hm hb hn => by
  by_cases e : L.length = 1
  ·obtain ⟨x, rfl⟩ := List.length_eq_one_iff.1 e
   exact symL_any blk tag sz cap cf OK hcf P R S x w0 w hC hOK hR h1 hS len a m b hlen ha (by simpa using hm) hb hlen0
  ·by_cases e2 : R.length = 1
   ·obtain ⟨x, rfl⟩ := List.length_eq_one_iff.1 e2
    exact symR_any blk tag sz cap cf OK hcf P L S x w0 w hC hOK hL (by omega) hS len a m b hlen ha hm (by simpa using hb) hlen0
   ·exact symM_step blk tag sz cap len cf OK hcf w0 hC hlen0 n (symM_any blk tag sz cap len cf OK hcf w0 hC hlen0 n) P L R S w a m b hOK hL hR (by omega) (by omega) hS hlen ha hm hb hn
inductive Runs (cf : E2 → E2 → Int) (bs : Nat) : List E2 → Prop
 | last (l : List E2) : SortedE cf l → l.length ≤ bs → Runs cf bs l
 | more (l r : List E2) : SortedE cf l → l.length = bs → Runs cf bs r → Runs cf bs (l ++ r)
inductive Full (cf : E2 → E2 → Int) (bs : Nat) : List E2 → Prop
 | nil : Full cf bs []
 | snoc (p l : List E2) : Full cf bs p → SortedE cf l → l.length = bs → Full cf bs (p ++ l)
theorem Full.runs {cf : E2 → E2 → Int} {bs : Nat} {p : List E2} (h : Full cf bs p) : ∀ {y : List E2}, Runs cf bs y → Runs cf bs (p ++ y) := by
 induction h with
 | nil => intro y hy; exact hy
 | snoc p l _ hl he ih => intro y hy; rw [List.append_assoc]; exact ih (.more l y hl he hy)
theorem Runs.split {cf : E2 → E2 → Int} {bs : Nat} {y : List E2} (h : Runs cf bs y) (hy : bs ≤ y.length) : ∃ l r, y = l ++ r ∧ SortedE cf l ∧ l.length = bs ∧ Runs cf bs r := by
 cases h with
 | last _ h1 h2 => exact ⟨y, [], (List.append_nil _).symm, h1, by omega, .last [] .nil (Nat.zero_le _)⟩
 | more l r h1 h2 h3 => exact ⟨l, r, rfl, h1, h2, h3⟩
theorem Runs.short {cf : E2 → E2 → Int} {bs : Nat} {y : List E2} (h : Runs cf bs y) (hy : y.length ≤ bs) : SortedE cf y := by
 cases h with
 | last _ h1 h2 => exact h1
 | more l r h1 h2 h3 =>
  obtain rfl : r = [] := List.eq_nil_of_length_eq_zero (by rw [List.length_append] at hy; omega)
  rw [List.append_nil]; exact h1
def St1 (cf : E2 → E2 → Int) (w0 : World) (blk tag sz : Nat) (X : List E2) (a : Nat) (W : World) : Prop :=
 ∃ P Y, P.length = a ∧ Full cf 20 P ∧ (P ++ Y).Perm X ∧ SortW w0 blk tag sz (P ++ Y) W
def St2 (cf : E2 → E2 → Int) (w0 : World) (blk tag sz : Nat) (X : List E2) (bs : Nat) (W : World) : Prop :=
 ∃ d, Runs cf bs d ∧ d.Perm X ∧ SortW w0 blk tag sz d W
def St3 (cf : E2 → E2 → Int) (w0 : World) (blk tag sz : Nat) (X : List E2) (bs bs2 a : Nat) (W : World) : Prop :=
 ∃ P Y, P.length = a ∧ Full cf bs2 P ∧ Runs cf bs Y ∧ (P ++ Y).Perm X ∧ SortW w0 blk tag sz (P ++ Y) W
set_option maxHeartbeats 8000000 in
theorem stable_any (blk tag sz cap : Nat) (cf : E2 → E2 → Int) (OK : E2 → Prop) (hcf : Cmps cf) (X : List E2) (w0 w : World) (hC : CmpAns w0 blk cf OK) (hOK : ∀ x, x ∈ X → OK x) (hS : SortW w0 blk tag sz X w) (len : Nat) (hlen : X.length = len) (hl : len < 549755813888) :
 Calls Tryz.prog 73 #[.slice (some ⟨blk, 0, none⟩) len cap, .int .i64 len, byF] w fun e w' => e = .returned (.tuple #[]) ∧ ∃ X', X'.Perm X ∧ SortedE cf X' ∧ SortW w0 blk tag sz X' w' := by
 have HLE := hdq hl
 have HLN := hdq hlen
 have INS : Hid (∀ (P Y S : List E2) (W : World) (a b : Nat), (P ++ (Y ++ S)).Perm X → SortW w0 blk tag sz (P ++ (Y ++ S)) W → P.length = a → a + Y.length = b → Calls Tryz.prog 99 #[.slice (some ⟨blk, 0, none⟩) len cap, .int .i64 a, .int .i64 b, byF] W fun e w' => e = .returned (.tuple #[]) ∧ ∃ X', X'.Perm Y ∧ SortedE cf X' ∧ SortW w0 blk tag sz (P ++ (X' ++ S)) w') :=
  hdq (fun P Y S W a b h1 h2 h3 h4 => insertion_any blk tag sz cap cf OK hcf P Y S w0 W hC (fun x hx => hOK x (h1.mem_iff.1 hx)) h2 len a b (by rw [h1.length_eq, hlen]) h3 h4 (by omega))
 have SYM : Hid (∀ (P L R S : List E2) (W : World) (a m b : Nat), (P ++ (L ++ (R ++ S))).Perm X → SortedE cf L → SortedE cf R → 0 < L.length → 0 < R.length → SortW w0 blk tag sz (P ++ (L ++ (R ++ S))) W → P.length = a → a + L.length = m → m + R.length = b → Calls Tryz.prog 100 #[.slice (some ⟨blk, 0, none⟩) len cap, .int .i64 a, .int .i64 m, .int .i64 b, byF] W fun e w' => e = .returned (.tuple #[]) ∧ ∃ X', X'.Perm (L ++ R) ∧ SortedE cf X' ∧ SortW w0 blk tag sz (P ++ (X' ++ S)) w') :=
  hdq (fun P L R S W a m b h1 h2 h3 h4 h5 h6 h7 h8 h9 => symM_any blk tag sz cap len cf OK hcf w0 hC (by omega) (b - a) P L R S W a m b (fun x hx => hOK x (h1.mem_iff.1 hx)) h2 h3 h4 h5 h6 (by rw [h1.length_eq, hlen]) h7 h8 h9 (Nat.le_refl _))
 have ST : Hid (St1 cf w0 blk tag sz X 0 w) := hdq ⟨[], X, rfl, .nil, .refl _, hS⟩
 clear hcf hC hOK hS hlen hl
 go_enter Tryz.func73, Tryz.ntmps73
 go_wp2
 go_loopw [7, 8] (fun va vb wr => ∃ a b : Nat, va = .int .i64 a ∧ vb = .int .i64 b ∧ Hid (b = a + 20 ∧ a ≤ len) ∧ Hid (St1 cf w0 blk tag sz X a wr)) (fun _ vb _ => len + 20 - (intOf vb).toNat)
 case atStart => exact ⟨0, 20, rfl, rfl, hdq ⟨rfl, Nat.zero_le _⟩, ST⟩
 case round =>
  obtain ⟨a, b, rfl, rfl, HAB, HW⟩ := hrel
  clear ST
  by_cases hlt : b ≤ len
  ·obtain ⟨b2, hb2⟩ : ∃ b2, b2 = b + 20 := ⟨_, rfl⟩
   have n1 : b2 < 2199023255552 := by have := HLE.out; omega
   have C : Hid (Calls Tryz.prog 99 #[.slice (some ⟨blk, 0, none⟩) len cap, .int .i64 a, .int .i64 b, byF] wr fun e w' => e = .returned (.tuple #[]) ∧ St1 cf w0 blk tag sz X b w') := hdq (by
    obtain ⟨P, Y, h1, h2, h3, h4⟩ := HW.out
    have hab := HAB.out
    have hpy : P.length + Y.length = len := by rw [← List.length_append, h3.length_eq, HLN.out]
    rw [← List.take_append_drop 20 Y] at h3 h4
    have hY : (Y.take 20).length = 20 := by rw [List.length_take]; omega
    refine (INS.out P (Y.take 20) (Y.drop 20) wr a b h3 h4 h1 (by omega)).mono ?_
    rintro e w2 ⟨rfl, X', q1, q2, q3⟩
    refine ⟨rfl, P ++ X', Y.drop 20, by rw [List.length_append, q1.length_eq]; omega, .snoc _ _ h2 q2 (by rw [q1.length_eq]; exact hY), ?_, by rw [List.append_assoc]; exact q3⟩
    rw [List.append_assoc]
    exact (List.Perm.append_left P (List.Perm.append_right _ q1)).trans h3)
   have MS : Hid ((b2 = b + 20 ∧ b ≤ len) ∧ len + 20 - b2 < len + 20 - b) := hdq (by omega)
   have hi : (b : Int) ≤ (len : Int) := by omega
   have r1 := wrI_add (a := b) (b := 20) hb2.symm n1
   have s1 := wr_add (a := b) (b := 20) hb2.symm n1
   have e20 : ((20 : Nat) : Int) = 20 := rfl
   rw [e20] at r1 s1
   clear hb2 n1 HW e20
   go_wp2_with (go_at_call 99; refine C.out.mono ?_; rintro e w2 ⟨rfl, h1⟩; have H1 := hdq h1; clear h1)
   go_roundw
   case rel => exact ⟨b, b2, rfl, rfl, hdq MS.out.1, H1⟩
   case measure => simpa [intOf] using MS.out.2
  ·have C : Hid (Calls Tryz.prog 99 #[.slice (some ⟨blk, 0, none⟩) len cap, .int .i64 a, .int .i64 len, byF] wr fun e w' => e = .returned (.tuple #[]) ∧ St2 cf w0 blk tag sz X 20 w') := hdq (by
    obtain ⟨P, Y, h1, h2, h3, h4⟩ := HW.out
    have hab := HAB.out
    have hpy : P.length + Y.length = len := by rw [← List.length_append, h3.length_eq, HLN.out]
    rw [← List.append_nil Y] at h3 h4
    refine (INS.out P Y [] wr a len h3 h4 h1 (by omega)).mono ?_
    rintro e w2 ⟨rfl, X', q1, q2, q3⟩
    rw [List.append_nil] at q3 h3
    exact ⟨rfl, P ++ X', h2.runs (.last _ q2 (by rw [q1.length_eq]; omega)), (List.Perm.append_left P q1).trans h3, q3⟩)
   have hi : ¬ (b : Int) ≤ (len : Int) := by omega
   have hi2 : len < b := by omega
   clear HW hlt
   go_wp2_with (go_at_call 99; refine C.out.mono ?_; rintro e w2 ⟨rfl, h1⟩; have H1 := hdq h1; clear h1)
   have B0 : Hid (20 ≤ 20 ∧ 20 < 2199023255552 ∧ True) := hdq ⟨Nat.le_refl _, by omega, trivial⟩
   clear hi hi2 C HAB
   go_loopw [6, 7, 8, 9] (fun v6 _ _ _ wr2 => ∃ bs : Nat, v6 = .int .i64 bs ∧ Hid (20 ≤ bs ∧ bs < 2199023255552) ∧ Hid (St2 cf w0 blk tag sz X bs wr2)) (fun v6 _ _ _ _ => len - (intOf v6).toNat)
   case atStart => exact ⟨20, rfl, hdq ⟨Nat.le_refl _, by omega⟩, H1⟩
   case round =>
    obtain ⟨bs, rfl, HBS, HW⟩ := hrel
    clear H1 B0
    by_cases hlt : bs < len
    ·obtain ⟨bs2, hbs2⟩ : ∃ bs2, bs2 = bs * 2 := ⟨_, rfl⟩
     have HB2 : Hid (20 ≤ bs ∧ bs < len ∧ bs2 = bs * 2 ∧ bs2 < 2199023255552) := ⟨HBS.out.1, hlt, hbs2, by have := HLE.out; omega⟩
     have ST3 : Hid (St3 cf w0 blk tag sz X bs bs2 0 _) := hdq (by
      obtain ⟨d, h1, h2, h3⟩ := HW.out
      exact ⟨[], d, rfl, .nil, h1, h2, h3⟩)
     have hi : (bs : Int) < (len : Int) := by omega
     have r1 : IntKind.i64.wrap (2 * (bs : Int)) = (bs2 : Int) := by have := HB2.out; rw [IntKind.wrap_i64]; omega
     have s1 : wrap64 (2 * (bs : Int)) = (bs2 : Int) := by clear r1; have := HB2.out; exact wr_i64 _ (by omega) (by omega) (by omega)
     clear hbs2 HW
     go_wp2
     go_loopw [7, 8] (fun va vb wr3 => ∃ a b : Nat, va = .int .i64 a ∧ vb = .int .i64 b ∧ Hid (b = a + bs2 ∧ a ≤ len) ∧ Hid (St3 cf w0 blk tag sz X bs bs2 a wr3)) (fun _ vb _ => len + bs2 - (intOf vb).toNat)
     case atStart => exact ⟨0, bs2, rfl, rfl, hdq ⟨(Nat.zero_add _).symm, Nat.zero_le _⟩, ST3⟩
     case round =>
      obtain ⟨a, b, rfl, rfl, HAB, HW3⟩ := hrel
      clear ST3
      obtain ⟨m, hm⟩ : ∃ m, m = a + bs := ⟨_, rfl⟩
      have n2 : m < 2199023255552 := by have := HLE.out; have := HAB.out; have := HB2.out; omega
      by_cases hle : b ≤ len
      ·obtain ⟨b2, hb2⟩ : ∃ b2, b2 = b + bs2 := ⟨_, rfl⟩
       have n1 : b2 < 2199023255552 := by have := HLE.out; have := HB2.out; omega
       have C : Hid (Calls Tryz.prog 100 #[.slice (some ⟨blk, 0, none⟩) len cap, .int .i64 a, .int .i64 m, .int .i64 b, byF] wr fun e w' => e = .returned (.tuple #[]) ∧ St3 cf w0 blk tag sz X bs bs2 b w') := hdq (by
        obtain ⟨P, Y, h1, h2, h3, h4, h5⟩ := HW3.out
        have hab := HAB.out
        have hb2 := HB2.out
        have hpy : P.length + Y.length = len := by rw [← List.length_append, h4.length_eq, HLN.out]
        obtain ⟨l, r, rfl, p1, p2, p3⟩ := h3.split (by omega)
        rw [List.length_append] at hpy
        obtain ⟨l2, r2, rfl, p4, p5, p6⟩ := p3.split (by omega)
        refine (SYM.out P l l2 r2 wr a m b h4 p1 p4 (by omega) (by omega) h5 h1 (by omega) (by omega)).mono ?_
        rintro e w2 ⟨rfl, X', q1, q2, q3⟩
        have hx : X'.length = bs2 := by rw [q1.length_eq, List.length_append]; omega
        refine ⟨rfl, P ++ X', r2, by rw [List.length_append, hx]; omega, .snoc _ _ h2 q2 hx, p6, ?_, by rw [List.append_assoc]; exact q3⟩
        rw [List.append_assoc]
        refine (List.Perm.append_left P ?_).trans h4
        rw [← List.append_assoc l]
        exact List.Perm.append_right _ q1)
       have MS : Hid ((b2 = b + bs2 ∧ b ≤ len) ∧ len + bs2 - b2 < len + bs2 - b) := hdq (by have := HB2.out; omega)
       have hi : (b : Int) ≤ (len : Int) := by omega
       clear r1 s1
       have r2 := wrI_add (a := a) (b := bs) hm.symm n2
       have s2 := wr_add (a := a) (b := bs) hm.symm n2
       have r3 := wrI_add (a := b) (b := bs2) hb2.symm n1
       have s3 := wr_add (a := b) (b := bs2) hb2.symm n1
       have r1 : IntKind.i64.wrap (2 * (bs : Int)) = (bs2 : Int) := by clear r2 s2 r3 s3; have := HB2.out; rw [IntKind.wrap_i64]; omega
       have s1 : wrap64 (2 * (bs : Int)) = (bs2 : Int) := by clear r1 r2 s2 r3 s3; have := HB2.out; exact wr_i64 _ (by omega) (by omega) (by omega)
       clear hb2 n1 n2 hm HW3
       go_wp2_with (go_at_call 100; refine C.out.mono ?_; rintro e w2 ⟨rfl, h1⟩; have H1 := hdq h1; clear h1)
       go_roundw
       case rel => exact ⟨b, b2, rfl, rfl, hdq MS.out.1, H1⟩
       case measure => simpa [intOf] using MS.out.2
      ·have hi : ¬ (b : Int) ≤ (len : Int) := by omega
       have hi2 : len < b := by omega
       have MS : Hid ((20 ≤ bs2 ∧ bs2 < 2199023255552) ∧ len - bs2 < len - bs) := hdq (by have := HB2.out; omega)
       clear r1 s1
       by_cases hml : m < len
       ·have C : Hid (Calls Tryz.prog 100 #[.slice (some ⟨blk, 0, none⟩) len cap, .int .i64 a, .int .i64 m, .int .i64 len, byF] wr fun e w' => e = .returned (.tuple #[]) ∧ St2 cf w0 blk tag sz X bs2 w') := hdq (by
         obtain ⟨P, Y, h1, h2, h3, h4, h5⟩ := HW3.out
         have hab := HAB.out
         have hb2 := HB2.out
         have hpy : P.length + Y.length = len := by rw [← List.length_append, h4.length_eq, HLN.out]
         obtain ⟨l, r, rfl, p1, p2, p3⟩ := h3.split (by omega)
         rw [List.length_append] at hpy
         rw [← List.append_nil r] at h4 h5
         refine (SYM.out P l r [] wr a m len h4 p1 (p3.short (by omega)) (by omega) (by omega) h5 h1 (by omega) (by omega)).mono ?_
         rintro e w2 ⟨rfl, X', q1, q2, q3⟩
         rw [List.append_nil] at q3 h4
         exact ⟨rfl, P ++ X', h2.runs (.last _ q2 (by rw [q1.length_eq, List.length_append]; omega)), (List.Perm.append_left P q1).trans h4, q3⟩)
        have hk : (m : Int) < (len : Int) := by omega
        have r2 := wrI_add (a := a) (b := bs) hm.symm n2
        have s2 := wr_add (a := a) (b := bs) hm.symm n2
        have r1 : IntKind.i64.wrap ((bs : Int) * 2) = (bs2 : Int) := by clear r2 s2; have := HB2.out; rw [IntKind.wrap_i64]; omega
        have s1 : wrap64 ((bs : Int) * 2) = (bs2 : Int) := by clear r1 r2 s2; have := HB2.out; exact wr_i64 _ (by omega) (by omega) (by omega)
        clear n2 hm HW3 hle hi2
        go_wp2_with (go_at_call 100; refine C.out.mono ?_; rintro e w2 ⟨rfl, h1⟩; have H1 := hdq h1; clear h1)
        go_roundw
        case rel => exact ⟨bs2, rfl, hdq MS.out.1, H1⟩
        case measure => simpa [intOf] using MS.out.2
       ·have H1 : Hid (St2 cf w0 blk tag sz X bs2 wr) := hdq (by
         obtain ⟨P, Y, h1, h2, h3, h4, h5⟩ := HW3.out
         have hab := HAB.out
         have hb2 := HB2.out
         have hpy : P.length + Y.length = len := by rw [← List.length_append, h4.length_eq, HLN.out]
         exact ⟨P ++ Y, h2.runs (.last _ (h3.short (by omega)) (by omega)), h4, h5⟩)
        have hk : ¬ (m : Int) < (len : Int) := by omega
        have hk2 : len ≤ m := by omega
        have r2 := wrI_add (a := a) (b := bs) hm.symm n2
        have s2 := wr_add (a := a) (b := bs) hm.symm n2
        have r1 : IntKind.i64.wrap ((bs : Int) * 2) = (bs2 : Int) := by clear r2 s2; have := HB2.out; rw [IntKind.wrap_i64]; omega
        have s1 : wrap64 ((bs : Int) * 2) = (bs2 : Int) := by clear r1 r2 s2; have := HB2.out; exact wr_i64 _ (by omega) (by omega) (by omega)
        clear n2 hm HW3 hle hi2 hml
        go_wp2
        go_roundw
        case rel => exact ⟨bs2, rfl, hdq MS.out.1, H1⟩
        case measure => simpa [intOf] using MS.out.2
    ·have FN : Hid (∃ X', X'.Perm X ∧ SortedE cf X' ∧ SortW w0 blk tag sz X' wr) := hdq (by
      obtain ⟨d, h1, h2, h3⟩ := HW.out
      exact ⟨d, h2, h1.short (by rw [h2.length_eq, HLN.out]; omega), h3⟩)
     have hi : ¬ (bs : Int) < (len : Int) := by omega
     have hi2 : len ≤ bs := by omega
     clear HW hlt
     go_wp2
     go_end0
     exact ⟨rfl, FN.out⟩
theorem sortStable_any (blk tag sz cap : Nat) (cf : E2 → E2 → Int) (OK : E2 → Prop) (hcf : Cmps cf) (X : List E2) (w0 w : World) (hC : CmpAns w0 blk cf OK) (hOK : ∀ x, x ∈ X → OK x) (hS : SortW w0 blk tag sz X w) (len : Nat) (hlen : X.length = len) (hl : len < 549755813888) :
 Calls Tryz.prog 46 #[.slice (some ⟨blk, 0, none⟩) len cap, byF] w fun e w' => e = .returned (.tuple #[]) ∧ ∃ X', X'.Perm X ∧ SortedE cf X' ∧ SortW w0 blk tag sz X' w' := by
 have C := hdq (stable_any blk tag sz cap cf OK hcf X w0 w hC hOK hS len hlen hl)
 clear hcf hC hOK hS hlen hl
 go_enter Tryz.func46, Tryz.ntmps46
 go_wp2_with (go_at_call 73; refine C.out.mono ?_; rintro e w2 ⟨rfl, h1⟩; have H1 := hdq h1; clear h1)
 go_end0
 exact ⟨rfl, H1.out⟩
end Go.Proofs.YtgmolmpfihkolaaGreat
