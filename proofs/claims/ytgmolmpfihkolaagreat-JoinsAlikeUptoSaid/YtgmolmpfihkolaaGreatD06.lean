/- Part of the proof. -/
import Derived.Test.YtgmolmpfihkolaaGreatD05
namespace Go.Proofs.YtgmolmpfihkolaaGreat
open Go.RowKit
open Go.Deep
set_option linter.unusedVariables false
set_option maxRecDepth 100000
attribute [local go_sem] run_store_float
theorem ExAt.cells {W : World} {d : Nat} {cs : List Value} {t : Tx} (h : ExAt W d cs t) : ∃ k0 k1 k2 k3 k4 k5 k6 a len cap, cs = [.int .i64 k0, .int .i64 k1, .int .i64 k2, .int .i64 k3, .int .i64 k4, .float .f64 k5, .string k6, .slice a len cap] := by
 cases d with
 | zero => exact h.elim
 | succ d =>
  obtain ⟨⟩ := t
  obtain ⟨a, len, cap, rfl, _⟩ := h
  exact ⟨_, _, _, _, _, _, _, _, _, _, rfl⟩
def BoxE (w : World) (k r c ck ci : Int) (cf : Nat) (ct : ByteArray) (a : Option Addr) (len cap : Nat) (W : World) : Prop :=
 W.cell? ⟨w.heap.size, 0, none⟩ = some (.int .i64 k) ∧ W.cell? ⟨w.heap.size, 1, none⟩ = some (.int .i64 r) ∧ W.cell? ⟨w.heap.size, 2, none⟩ = some (.int .i64 c) ∧ W.cell? ⟨w.heap.size, 3, none⟩ = some (.int .i64 ck) ∧ W.cell? ⟨w.heap.size, 4, none⟩ = some (.int .i64 ci) ∧ W.cell? ⟨w.heap.size, 5, none⟩ = some (.float .f64 cf) ∧ W.cell? ⟨w.heap.size, 6, none⟩ = some (.string ct) ∧ W.cell? ⟨w.heap.size, 7, none⟩ = some (.slice a len cap) ∧ Hid (Below w.heap.size w W ∧ w.heap.size < W.heap.size)
theorem BoxE.next {w W W' : World} {k r c ck ci : Int} {cf : Nat} {ct : ByteArray} {a : Option Addr} {len cap : Nat} (h : BoxE w k r c ck ci cf ct a len cap W) (hb : Below W.heap.size W W') : BoxE w k r c ck ci cf ct a len cap W' := by
 obtain ⟨h0, h1, h2, h3, h4, h5, h6, h7, H⟩ := h
 have hl := H.out.2
 exact ⟨(hb.cell hl).trans h0, (hb.cell hl).trans h1, (hb.cell hl).trans h2, (hb.cell hl).trans h3, (hb.cell hl).trans h4, (hb.cell hl).trans h5, (hb.cell hl).trans h6, (hb.cell hl).trans h7, hdq ⟨H.out.1.trans (hb.mono H.out.1.size), Nat.lt_of_lt_of_le hl hb.size⟩⟩
theorem BoxE.start (w : World) (k r c ck ci : Int) (cf : Nat) (ct : ByteArray) (a : Option Addr) (len cap : Nat) (t : TypeId) : BoxE w k r c ck ci cf ct a len cap (w.alloc (.cells #[.int .i64 k, .int .i64 r, .int .i64 c, .int .i64 ck, .int .i64 ci, .float .f64 cf, .string ct, .slice a len cap] t)) := by
 have h := fun j u hj => new_at w [.int .i64 k, .int .i64 r, .int .i64 c, .int .i64 ck, .int .i64 ci, .float .f64 cf, .string ct, .slice a len cap] t j u hj
 exact ⟨h 0 _ rfl, h 1 _ rfl, h 2 _ rfl, h 3 _ rfl, h 4 _ rfl, h 5 _ rfl, h 6 _ rfl, h 7 _ rfl, hdq ⟨(Below.refl _ w).alloc (Nat.le_refl _) _, by simp⟩⟩
theorem BoxE.below {w W : World} {k r c ck ci : Int} {cf : Nat} {ct : ByteArray} {a : Option Addr} {len cap : Nat} (h : BoxE w k r c ck ci cf ct a len cap W) : Below w.heap.size w W := h.2.2.2.2.2.2.2.2.out.1
structure CountSt (W : World) (d : Nat) (left : Int) (kids : List Tx) (k : Nat) (o : Int) (wr : World) : Prop where
 ok : okTs (d + 1) (kids.take k) = true
 le : (1 : Int) + szTs (kids.take k) ≤ left
 eq : o = left - (1 + szTs (kids.take k))
 below : Below W.heap.size W wr
theorem leftT_no (d : Nat) (left : Int) (kind rel col : Int) (con : Val) (kids : List Tx) (h : 24 < d ∨ left < 1 ∨ kidsK kind ≠ (kids.length : Int) ∨ fieldsK kind rel col con = false) : leftT d left (.mk kind rel col con kids) = -1 := by
 unfold leftT
 rw [if_neg]
 rintro ⟨h1, h2⟩
 simp only [okT, szT, Bool.and_eq_true, decide_eq_true_eq] at h1 h2
 rcases h with h | h | h | h
 ·omega
 ·omega
 ·exact h h1.1.1.2
 ·rw [h1.1.2] at h; cases h
theorem leftT_yes (d : Nat) (left : Int) (kind rel col : Int) (con : Val) (kids : List Tx) (h1 : d ≤ 24) (h3 : kidsK kind = (kids.length : Int)) (h4 : fieldsK kind rel col con = true) :
 leftT d left (.mk kind rel col con kids) = if okTs (d + 1) kids = true ∧ (1 : Int) + szTs kids ≤ left then left - (1 + szTs kids) else -1 := by
 unfold leftT
 simp only [okT, szT, h3, h4, h1, decide_true, Bool.true_and, Bool.and_true, Int.natCast_add, Int.natCast_one]
set_option maxHeartbeats 4000000 in
theorem count_any : ∀ (D : Nat) (cs : List Value) (t : Tx) (d : Nat) (left : Int) (w : World), ExAt w D cs t → d ≤ 25 → 0 ≤ left → left ≤ 400 →
 Calls Tryz.prog 78 #[.agg cs.toArray, .int .i64 (d : Int), .int .i64 left] w fun e w' => e = .returned (.int .i64 (leftT d left t)) ∧ Below w.heap.size w w'
 | 0, _, _, _, _, _, h, _, _, _ => h.elim
 | D + 1, cs, .mk kind rel col con kids, d, left, w, h, hd, hl0, hl4 => by
  obtain ⟨a, len, cap, rfl, ⟨_, _, _, hcw⟩, hr⟩ := h
  have ih := hdq (count_any D)
  obtain ⟨ck, ci, cf, ct⟩ := con
  have HB0 := hdq ((Below.refl _ w).alloc (Nat.le_refl _) (.cells #[.int .i64 kind, .int .i64 rel, .int .i64 col, .int .i64 ck, .int .i64 ci, .float .f64 cf, .string ct, .slice a len cap] 53))
  have HF := hdq (fun W => fields_any kind rel col ck ci cf ct hcw a len cap W)
  obtain ⟨res, hres⟩ : ∃ r, r = leftT d left (.mk kind rel col ⟨ck, ci, cf, ct⟩ kids) := ⟨_, rfl⟩
  have hno := hdq (leftT_no d left kind rel col ⟨ck, ci, cf, ct⟩ kids)
  have hyes := hdq (leftT_yes d left kind rel col ⟨ck, ci, cf, ct⟩ kids)
  rw [← hres] at hno hyes ⊢
  clear hres
  have hlen : kids.length = len := hr.1
  have h63 : len < 2 ^ 63 := by have := hr.2.1; have := hr.2.2.1; unfold maxLen at this; omega
  rw [hlen] at hno hyes
  have HR := hdq hr
  clear hr hcw hlen
  obtain ⟨q, hq⟩ : ∃ q, q = fieldsK kind rel col ⟨ck, ci, cf, ct⟩ := ⟨_, rfl⟩
  rw [← hq] at HF hno hyes
  clear hq
  obtain ⟨kk, hkk⟩ : ∃ q, q = kidsK kind := ⟨_, rfl⟩
  have HK := hdq (fun W => hkk ▸ kids_any kind W)
  rw [← hkk] at hno hyes
  clear hkk
  simp only at *
  have HX := hdq (BoxE.start w kind rel col ck ci cf ct a len cap 53)
  have HFS := hdq (fun (W : World) (hS : W.cell? ⟨w.heap.size, 0, none⟩ = some (.int .i64 kind) ∧ W.cell? ⟨w.heap.size, 1, none⟩ = some (.int .i64 rel) ∧ W.cell? ⟨w.heap.size, 2, none⟩ = some (.int .i64 col) ∧ W.cell? ⟨w.heap.size, 3, none⟩ = some (.int .i64 ck) ∧ W.cell? ⟨w.heap.size, 4, none⟩ = some (.int .i64 ci) ∧ W.cell? ⟨w.heap.size, 5, none⟩ = some (.float .f64 cf) ∧ W.cell? ⟨w.heap.size, 6, none⟩ = some (.string ct) ∧ W.cell? ⟨w.heap.size, 7, none⟩ = some (.slice a len cap) ∧ Hid (Below w.heap.size w W ∧ w.heap.size < W.heap.size)) => (HF.out W).mono (R' := fun e w' => e = .returned (.bool q) ∧ (w'.cell? ⟨w.heap.size, 0, none⟩ = some (.int .i64 kind) ∧ w'.cell? ⟨w.heap.size, 1, none⟩ = some (.int .i64 rel) ∧ w'.cell? ⟨w.heap.size, 2, none⟩ = some (.int .i64 col) ∧ w'.cell? ⟨w.heap.size, 3, none⟩ = some (.int .i64 ck) ∧ w'.cell? ⟨w.heap.size, 4, none⟩ = some (.int .i64 ci) ∧ w'.cell? ⟨w.heap.size, 5, none⟩ = some (.float .f64 cf) ∧ w'.cell? ⟨w.heap.size, 6, none⟩ = some (.string ct) ∧ w'.cell? ⟨w.heap.size, 7, none⟩ = some (.slice a len cap) ∧ Hid (Below w.heap.size w w' ∧ w.heap.size < w'.heap.size))) (fun e w' h => ⟨h.1, BoxE.next (k := kind) (r := rel) (c := col) hS h.2⟩))
  obtain ⟨x0, x1, x2, x3, x4, x5, x6, x7, _⟩ := HX.out
  obtain ⟨t, ht⟩ : ∃ t : Bool, t = (decide (24 < d) || decide (left < 1) || !decide (kk = (len : Int)) || !q) := ⟨_, rfl⟩
  go_enter Tryz.func78, Tryz.ntmps78
  go_upto_region 1 with fail
  go_cut [28] from 9 to 27 (fun t' W => t' = .bool t ∧ BoxE w kind rel col ck ci cf ct a len cap W)
  case first =>
   clear hno hyes ih HR
   by_cases hA : 24 < d
   ·have hA' : (24 : Int) < (d : Int) := by omega
    obtain rfl : t = true := by rw [ht]; simp [hA]
    clear hA ht
    go_quiet (fail)
    go_wp2_with fail
    go_meet
    exact ⟨rfl, HX.out.next ⟨rfl, rfl, rfl, Nat.le_refl _, fun _ _ => rfl⟩⟩
   ·have hA' : ¬ (24 : Int) < (d : Int) := by omega
    by_cases hB : left < 1
    ·obtain rfl : t = true := by rw [ht]; simp [hB]
     clear hA ht
     go_quiet (fail)
     go_wp2_with fail
     go_meet
     exact ⟨rfl, HX.out.next ⟨rfl, rfl, rfl, Nat.le_refl _, fun _ _ => rfl⟩⟩
    ·by_cases hC : kk = (len : Int)
     ·obtain rfl : t = !q := by rw [ht]; simp [hA, hB, hC]
      subst hC
      clear hA ht
      go_region_held3 (fun W : World => W.cell? ⟨w.heap.size, 0, none⟩ = some (.int .i64 kind) ∧ W.cell? ⟨w.heap.size, 1, none⟩ = some (.int .i64 rel) ∧ W.cell? ⟨w.heap.size, 2, none⟩ = some (.int .i64 col) ∧ W.cell? ⟨w.heap.size, 3, none⟩ = some (.int .i64 ck) ∧ W.cell? ⟨w.heap.size, 4, none⟩ = some (.int .i64 ci) ∧ W.cell? ⟨w.heap.size, 5, none⟩ = some (.float .f64 cf) ∧ W.cell? ⟨w.heap.size, 6, none⟩ = some (.string ct) ∧ W.cell? ⟨w.heap.size, 7, none⟩ = some (.slice a len cap) ∧ Hid (Below w.heap.size w W ∧ w.heap.size < W.heap.size)) (first | exact HX.out.next (Below.refl _ _).drew | assumption) (first | (go_at_call 111; refine (HK.out _).mono ?_; rintro e w' ⟨rfl, rfl⟩) | (go_at_call 112; refine (HFS.out _ (by assumption)).mono ?_; rintro e wx ⟨rfl, hSx⟩))
      all_goals go_wp2_with fail
      all_goals go_meet
      all_goals exact ⟨rfl, by assumption⟩
     ·obtain rfl : t = true := by rw [ht]; simp [hC]
      have hC' : (kk == (len : Int)) = false := by simp; exact hC
      have hC1 : (kk != (len : Int)) = true := by simp; exact hC
      have hC2 : decide (kk = (len : Int)) = false := by simp; exact hC
      clear hA ht
      go_quiet (first | (go_at_call 111; exact Calls.quiet_of_same ((HK.out _).mono fun e w' h => ⟨h.1, h.2.symm⟩)))
      go_wp2_with fail
      go_meet
      exact ⟨rfl, HX.out.next ⟨rfl, rfl, rfl, Nat.le_refl _, fun _ _ => rfl⟩⟩
  case rest =>
   obtain ⟨rfl, hbx⟩ := hcut
   have HBX := hdq hbx
   clear x0 x1 x2 x3 x4 x5 x6 x7 HX HFS HF HB0
   cases t with
   | true =>
    have HE : Hid (res = -1) := hdq <| by
     apply hno.out
     have h := ht.symm
     simp only [Bool.or_eq_true, decide_eq_true_eq, Bool.not_eq_true', decide_eq_false_iff_not] at h
     rcases h with ((h | h) | h) | h
     ·exact .inl h
     ·exact .inr (.inl h)
     ·exact .inr (.inr (.inl h))
     ·exact .inr (.inr (.inr h))
    clear hbx ht hno hyes
    go_wp2
    go_ret
    exact ⟨by rw [HE.out]; rfl, HBX.out.below⟩
   | false =>
    have h := ht.symm
    simp only [Bool.or_eq_false_iff, decide_eq_false_iff_not, Bool.not_eq_false', decide_eq_true_eq] at h
    obtain ⟨⟨⟨g1, g2⟩, g3⟩, g4⟩ := h
    have HE := hdq (hyes.out (by omega) g3 g4)
    obtain ⟨x0, x1, x2, x3, x4, x5, x6, x7, _⟩ := hbx
    have hd24 : (d : Int) ≤ 24 := by omega
    have hl1 : 1 ≤ left := by omega
    clear ht g1 g2 g3 g4 hyes hno HK
    go_wp2
    go_loopw [2, 34] (fun o i wr => ∃ (k : Nat) (z : Int), i = .int .i64 k ∧ k ≤ len ∧ o = .int .i64 z ∧ CountSt wc d left kids k z wr) (fun _ i _ => len - (intOf i).toNat)
    case atStart => exact ⟨0, left - 1, rfl, Nat.zero_le _, by first | rfl | (congr 1; omega), by simp [okTs], by simp [szTs]; omega, by simp [szTs], Below.refl _ _⟩
    case round =>
     obtain ⟨k, z, rfl, hk, rfl, hst⟩ := hrel
     by_cases hlt : k < len
     ·obtain ⟨h1, _, _, h4⟩ := HR.out
      obtain ⟨b, off, rfl, hbl, hc⟩ := h4.resolve_left (by omega)
      have hk' : k < kids.length := by omega
      obtain ⟨t, ht⟩ : ∃ t, kids[k]? = some t := ⟨_, List.getElem?_eq_getElem hk'⟩
      obtain ⟨cs, hR, hcs⟩ := hc k t ht
      obtain ⟨k0, k1, k2, k3, k4, k5, k6, ka, kl, kc, rfl⟩ := hR.cells
      have hbb : Below w.heap.size w wr := HBX.out.below.trans (hst.below.mono HBX.out.below.size)
      have d0 := (hbb.cell (p := ⟨b, off + k * 8 + 0, none⟩) hbl).trans (hcs 0 _ rfl)
      have d1 := (hbb.cell (p := ⟨b, off + k * 8 + 1, none⟩) hbl).trans (hcs 1 _ rfl)
      have d2 := (hbb.cell (p := ⟨b, off + k * 8 + 2, none⟩) hbl).trans (hcs 2 _ rfl)
      have d3 := (hbb.cell (p := ⟨b, off + k * 8 + 3, none⟩) hbl).trans (hcs 3 _ rfl)
      have d4 := (hbb.cell (p := ⟨b, off + k * 8 + 4, none⟩) hbl).trans (hcs 4 _ rfl)
      have d5 := (hbb.cell (p := ⟨b, off + k * 8 + 5, none⟩) hbl).trans (hcs 5 _ rfl)
      have d6 := (hbb.cell (p := ⟨b, off + k * 8 + 6, none⟩) hbl).trans (hcs 6 _ rfl)
      have d7 := (hbb.cell (p := ⟨b, off + k * 8 + 7, none⟩) hbl).trans (hcs 7 _ rfl)
      rw [Nat.add_zero] at d0
      have hz0 : 0 ≤ z := by have := hst.eq; have := hst.le; omega
      have hz4 : z ≤ 400 := by have := hst.eq; omega
      have IH := hdq (fun W hb => by
       have := ih.out _ t (d + 1) z W (hR.later hb) (by omega) hz0 hz4
       rw [Int.natCast_add, Int.natCast_one] at this
       exact this)
      have HST := hdq hst
      have HT := hdq ht
      have HBB := hdq hbb
      have hsz := hbb.size
      clear hcs hR ht hbb hst hc h4 h1 hk'
      by_cases hnx : okT (d + 1) t = true ∧ (szT t : Int) ≤ z
      ·have hv : leftT (d + 1) z t = z - szT t := by unfold leftT; rw [if_pos hnx]
       rw [hv] at IH
       obtain ⟨z2, hz2⟩ : ∃ y, y = z - (szT t : Int) := ⟨_, rfl⟩
       rw [← hz2] at IH
       have hz20 : ¬ z2 < 0 := by omega
       have HST2 := hdq (fun wy (hb : Below wc.heap.size wc wy) => CountSt.mk (W := wc) (d := d) (left := left) (kids := kids) (k := k + 1) (o := z2) (wr := wy) (by rw [okTs_take _ _ _ _ HT.out, HST.out.ok, hnx.1]; rfl) (by have := HST.out.eq; rw [szTs_take _ _ _ HT.out]; omega) (by have := HST.out.eq; rw [szTs_take _ _ _ HT.out]; omega) hb)
       clear hv hnx hz2
       go_wp2_with (go_at_call 78; refine (IH.out _ (HBB.out.alloc hsz _)).mono ?_; rintro e w5 ⟨rfl, hb5⟩; have HB5 := hdq hb5; clear hb5)
       go_roundw
       case rel => exact ⟨k + 1, z2, by go_num, by omega, rfl, HST2.out _ ((HST.out.below.alloc HST.out.below.size _).trans (HB5.out.mono (HST.out.below.alloc HST.out.below.size _).size))⟩
       case measure => simp [intOf]; omega
      ·have hv : leftT (d + 1) z t = -1 := by unfold leftT; rw [if_neg hnx]
       rw [hv] at IH
       have HE2 : Hid (res = -1) := hdq <| by
        rw [HE.out, if_neg]
        rintro ⟨f1, f2⟩
        apply hnx
        have f3 := okTs_le (d + 1) kids (k + 1) f1
        rw [okTs_take _ _ _ _ HT.out, Bool.and_eq_true] at f3
        have f4 := szTs_le kids (k + 1)
        rw [szTs_take _ _ _ HT.out] at f4
        have := HST.out.eq
        exact ⟨f3.2, by omega⟩
       clear hv hnx
       go_wp2_with (go_at_call 78; refine (IH.out _ (HBB.out.alloc hsz _)).mono ?_; rintro e w5 ⟨rfl, hb5⟩; have HB5 := hdq ((HBB.out.alloc hsz _).trans (hb5.mono (HBB.out.alloc hsz _).size)); clear hb5)
       go_ret
       exact ⟨by rw [HE2.out]; rfl, HB5.out⟩
     ·obtain rfl : k = len := by omega
      have HE2 : Hid (res = z) := hdq <| by
       have e : kids.take k = kids := List.take_of_length_le (by rw [HR.out.1]; exact Nat.le_refl _)
       have f1 := hst.ok
       have f2 := hst.le
       have f3 := hst.eq
       rw [e] at f1 f2 f3
       rw [HE.out, if_pos ⟨f1, f2⟩, f3]
      have HB := hdq (HBX.out.below.trans (hst.below.mono HBX.out.below.size))
      clear hst
      go_wp2
      go_ret
      exact ⟨by rw [HE2.out]; rfl, HB.out⟩
theorem Formed_any (D : Nat) (cs : List Value) (t : Tx) (w : World) (h : ExAt w D cs t) : Calls Tryz.prog 51 #[.agg cs.toArray] w fun e w' => e = .returned (.bool (formedT t)) ∧ Below w.heap.size w w' := by
 have HC := hdq (fun W hb => count_any D cs t 1 400 W (h.later hb) (by omega) (by omega) (by omega))
 have hf := left_formed t
 obtain ⟨k0, k1, k2, k3, k4, k5, k6, a, len, cap, rfl⟩ := h.cells
 obtain ⟨z, hz⟩ : ∃ z, z = leftT 1 400 t := ⟨_, rfl⟩
 rw [← hz] at HC hf
 have HF := hdq hf
 have HB0 := hdq ((Below.refl _ w).alloc (Nat.le_refl _) (.cells #[.int .i64 k0, .int .i64 k1, .int .i64 k2, .int .i64 k3, .int .i64 k4, .float .f64 k5, .string k6, .slice a len cap] 53))
 clear h hz hf
 go_enter Tryz.func51, Tryz.ntmps51
 go_wp2_with (go_at_call 78; refine (HC.out _ HB0.out).mono ?_; rintro e w1 ⟨rfl, hb1⟩; have HB1 := hdq (HB0.out.trans (hb1.mono HB0.out.size)); clear hb1)
 go_ret
 exact ⟨by rw [← HF.out]; rfl, HB1.out⟩
def colV (rows : List (List Val)) (r c : Int) : Val :=
 match rows[r.toNat]? with
 | some row => (match row[c.toNat]? with | some v => if rightV v then v else Val.null | none => Val.null)
 | none => Val.null
def opV (rows : List (List Val)) (k r c : Int) (con a b : Val) : Val × Int :=
 if k = 1 then (colV rows r c, 0) else if k = 2 then (con, 0) else if 3 ≤ k ∧ k ≤ 6 then calcV k a b else if 7 ≤ k ∧ k ≤ 9 then testV k a b else if 10 ≤ k ∧ k ≤ 12 then bothV k a b else (truthV (decide (a.kind = 0)), 0)
def combV (rows : List (List Val)) (k r c : Int) (con : Val) (l : List (Val × Int)) : Val × Int :=
 if (l.headD (Val.null, 0)).2 ≠ 0 then (Val.null, (l.headD (Val.null, 0)).2)
 else if (l.tail.headD (Val.null, 0)).2 ≠ 0 then (Val.null, (l.tail.headD (Val.null, 0)).2)
 else opV rows k r c con (l.headD (Val.null, 0)).1 (l.tail.headD (Val.null, 0)).1
mutual
def evalV (rows : List (List Val)) : Tx → Val × Int
 | .mk k r c con ks => combV rows k r c con (evalVs rows ks)
def evalVs (rows : List (List Val)) : List Tx → List (Val × Int)
 | [] => []
 | t :: ts => evalV rows t :: evalVs rows ts
end
def tellV (rows : List (List Val)) (t : Tx) : Val × Int := if formedT t then evalV rows t else (Val.null, 2)
def rowsWf (rows : List (List Val)) : Prop := ∀ l ∈ rows, ∀ v ∈ l, v.wf
theorem colV_wf {rows : List (List Val)} (h : rowsWf rows) (r c : Int) : (colV rows r c).wf := by
 unfold colV
 split
 ·rename_i row hrow
  split
  ·rename_i v hv
   split
   ·exact h row (List.mem_of_getElem? hrow) v (List.mem_of_getElem? hv)
   ·exact null_wf
  ·exact null_wf
 ·exact null_wf
theorem opV_wf {rows : List (List Val)} (h : rowsWf rows) (k r c : Int) (con a b : Val) (hc : con.wf) (ha : a.wf) : (opV rows k r c con a b).1.wf := by
 unfold opV
 split
 ·exact colV_wf h r c
 ·split
  ·exact hc
  ·split
   ·exact calcV_wf _ _ _ ha
   ·split
    ·exact testV_wf _ _ _
    ·split
     ·exact bothV_wf _ _ _
     ·exact truthV_wf _
theorem evalV_wf {rows : List (List Val)} (h : rowsWf rows) {W : World} : ∀ (D : Nat) (cs : List Value) (t : Tx), ExAt W D cs t → (evalV rows t).1.wf
 | 0, _, _, hx => hx.elim
 | D + 1, cs, .mk k r c con ks, hx => by
  obtain ⟨a, len, cap, e, ⟨_, _, _, hw⟩, h1, _, _, h4⟩ := hx
  have key : ∀ (i : Nat) (t : Tx), ks[i]? = some t → (evalV rows t).1.wf := by
   intro i t ht
   rcases h4 with h4 | ⟨b, off, _, _, hc⟩
   ·rw [List.getElem?_eq_none (by omega)] at ht; cases ht
   ·obtain ⟨cs', hR, _⟩ := hc i t ht
    exact evalV_wf h D cs' t hR
  simp only [evalV]
  unfold combV
  split
  ·exact null_wf
  ·split
   ·exact null_wf
   ·refine opV_wf h _ _ _ _ _ _ hw ?_
    cases ks with
    | nil => exact null_wf
    | cons t ts => exact key 0 t rfl
def endE (x : Val × Int) : Ending := if x.2 = 0 then .returned x.1.agg else .panicked [{ v := .iface 30 (.int .i64 x.2), recovered := false }]
theorem must_ok (v : Val) (w : World) : Calls Tryz.prog 80 #[v.agg, .int .i64 0] w fun e w' => e = .returned v.agg ∧ Below w.heap.size w w' := by
 have HT := hdq (Two.start w v Val.null 39 39)
 have HT2 := hdq (Two.start w v v 39 39)
 obtain ⟨k, n, f, s⟩ := v
 unfold Val.agg Val.null at *
 simp only at *
 go_enter Tryz.func80, Tryz.ntmps80
 go_wp2
 exact ret_val Tryz.results80 rfl rfl HT2.out.2.1 ⟨rfl, HT2.out.2.2.1⟩
theorem must_bad (v : Val) (n : Int) (hn : ¬ n = 0) (w : World) : Calls Tryz.prog 80 #[v.agg, .int .i64 n] w fun e w' => e = .panicked [{ v := .iface 30 (.int .i64 n), recovered := false }] ∧ Below w.heap.size w w' := by
 have HT := hdq (Two.start w v Val.null 39 39)
 obtain ⟨k, m, f, s⟩ := v
 unfold Val.agg Val.null at *
 simp only at *
 have hn' : (n == 0) = false := by simp; exact hn
 go_enter Tryz.func80, Tryz.ntmps80
 go_wp2
 exact ⟨rfl, rfl, HT.out.2.2.1⟩
theorem BoxE.other {w W : World} {k r c ck ci : Int} {cf : Nat} {ct : ByteArray} {a : Option Addr} {len cap : Nat} (h : BoxE w k r c ck ci cf ct a len cap W) {b : Nat} (hb : w.heap.size < b) (x0 x1 x2 x3 : Value) :
 BoxE w k r c ck ci cf ct a len cap ((((W.setCell ⟨b, 0, none⟩ x0).setCell ⟨b, 1, none⟩ x1).setCell ⟨b, 2, none⟩ x2).setCell ⟨b, 3, none⟩ x3) := by
 obtain ⟨h0, h1, h2, h3, h4, h5, h6, h7, H⟩ := h
 have hne : ∀ i j : Nat, (⟨b, i, none⟩ : Addr) ≠ ⟨w.heap.size, j, none⟩ := fun i j e => by
  have := congrArg Addr.block e
  simp only at this
  omega
 have kp : ∀ (j : Nat) (v : Value), W.cell? ⟨w.heap.size, j, none⟩ = some v → ((((W.setCell ⟨b, 0, none⟩ x0).setCell ⟨b, 1, none⟩ x1).setCell ⟨b, 2, none⟩ x2).setCell ⟨b, 3, none⟩ x3).cell? ⟨w.heap.size, j, none⟩ = some v := fun j v hv =>
  setCell_keep (setCell_keep (setCell_keep (setCell_keep hv (hne 0 j)) (hne 1 j)) (hne 2 j)) (hne 3 j)
 exact ⟨kp 0 _ h0, kp 1 _ h1, kp 2 _ h2, kp 3 _ h3, kp 4 _ h4, kp 5 _ h5, kp 6 _ h6, kp 7 _ h7, hdq ⟨below_val H.out.1 (by omega) _ _ _ _, by simpa using H.out.2⟩⟩
structure EvSt (w : World) (k r c ck ci : Int) (cf : Nat) (ct : ByteArray) (a : Option Addr) (len cap : Nat) (x y : Val) (W : World) : Prop where
 box : BoxE w k r c ck ci cf ct a len cap W
 lr : LiesV W (w.heap.size + 1) 0 Val.null
 la : LiesV W (w.heap.size + 2) 0 x
 lb : LiesV W (w.heap.size + 3) 0 y
 hl : w.heap.size + 3 < W.heap.size
theorem EvSt.next {w W W' : World} {k r c ck ci : Int} {cf : Nat} {ct : ByteArray} {a : Option Addr} {len cap : Nat} {x y : Val} (h : EvSt w k r c ck ci cf ct a len cap x y W) (hb : Below W.heap.size W W') : EvSt w k r c ck ci cf ct a len cap x y W' := by
 have := h.hl
 exact ⟨h.box.next hb, h.lr.below hb (by omega), h.la.below hb (by omega), h.lb.below hb h.hl, Nat.lt_of_lt_of_le h.hl hb.size⟩
theorem EvSt.seta {w W : World} {k r c ck ci : Int} {cf : Nat} {ct : ByteArray} {a : Option Addr} {len cap : Nat} {x y : Val} (h : EvSt w k r c ck ci cf ct a len cap x y W) (v : Val) :
 EvSt w k r c ck ci cf ct a len cap v y ((((W.setCell ⟨w.heap.size + 2, 0, none⟩ (.int .i64 v.kind)).setCell ⟨w.heap.size + 2, 1, none⟩ (.int .i64 v.int)).setCell ⟨w.heap.size + 2, 2, none⟩ (.float .f64 v.flt)).setCell ⟨w.heap.size + 2, 3, none⟩ (.string v.text)) := by
 have n1 : ∀ i : Nat, (⟨w.heap.size + 2, i, none⟩ : Addr).block ≠ w.heap.size + 1 := fun i => by simp
 have n3 : ∀ i : Nat, (⟨w.heap.size + 2, i, none⟩ : Addr).block ≠ w.heap.size + 3 := fun i => by simp
 exact ⟨h.box.other (by omega) _ _ _ _, (((h.lr.other (n1 0)).other (n1 1)).other (n1 2)).other (n1 3), h.la.stored v, (((h.lb.other (n3 0)).other (n3 1)).other (n3 2)).other (n3 3), by simpa using h.hl⟩
theorem EvSt.setb {w W : World} {k r c ck ci : Int} {cf : Nat} {ct : ByteArray} {a : Option Addr} {len cap : Nat} {x y : Val} (h : EvSt w k r c ck ci cf ct a len cap x y W) (v : Val) :
 EvSt w k r c ck ci cf ct a len cap x v ((((W.setCell ⟨w.heap.size + 3, 0, none⟩ (.int .i64 v.kind)).setCell ⟨w.heap.size + 3, 1, none⟩ (.int .i64 v.int)).setCell ⟨w.heap.size + 3, 2, none⟩ (.float .f64 v.flt)).setCell ⟨w.heap.size + 3, 3, none⟩ (.string v.text)) := by
 have n1 : ∀ i : Nat, (⟨w.heap.size + 3, i, none⟩ : Addr).block ≠ w.heap.size + 1 := fun i => by simp
 have n2 : ∀ i : Nat, (⟨w.heap.size + 3, i, none⟩ : Addr).block ≠ w.heap.size + 2 := fun i => by simp
 exact ⟨h.box.other (by omega) _ _ _ _, (((h.lr.other (n1 0)).other (n1 1)).other (n1 2)).other (n1 3), (((h.la.other (n2 0)).other (n2 1)).other (n2 2)).other (n2 3), h.lb.stored v, by simpa using h.hl⟩
theorem EvSt.start (w : World) (k r c ck ci : Int) (cf : Nat) (ct : ByteArray) (a : Option Addr) (len cap : Nat) (t u : TypeId) : EvSt w k r c ck ci cf ct a len cap Val.null Val.null
 ((((w.alloc (.cells #[.int .i64 k, .int .i64 r, .int .i64 c, .int .i64 ck, .int .i64 ci, .float .f64 cf, .string ct, .slice a len cap] t)).alloc (.cells #[.int .i64 0, .int .i64 0, .float .f64 0, .string ⟨#[]⟩] u)).alloc (.cells #[.int .i64 0, .int .i64 0, .float .f64 0, .string ⟨#[]⟩] u)).alloc (.cells #[.int .i64 0, .int .i64 0, .float .f64 0, .string ⟨#[]⟩] u)) := by
 have hb := BoxE.start w k r c ck ci cf ct a len cap t
 have h3 := Three.start (w.alloc (.cells #[.int .i64 k, .int .i64 r, .int .i64 c, .int .i64 ck, .int .i64 ci, .float .f64 cf, .string ct, .slice a len cap] t)) Val.null Val.null Val.null u u u
 have hs : (w.alloc (.cells #[.int .i64 k, .int .i64 r, .int .i64 c, .int .i64 ck, .int .i64 ci, .float .f64 cf, .string ct, .slice a len cap] t)).heap.size = w.heap.size + 1 := by simp
 have hbe := h3.below
 obtain ⟨⟨l1, l2, _, _⟩, l3, _⟩ := h3
 rw [hs] at l1 l2 l3
 exact ⟨hb.next hbe, l1, l2, l3, by simp⟩
theorem EvSt.below {w W : World} {k r c ck ci : Int} {cf : Nat} {ct : ByteArray} {a : Option Addr} {len cap : Nat} {x y : Val} (h : EvSt w k r c ck ci cf ct a len cap x y W) : Below w.heap.size w W := h.box.below
theorem EvSt.setr {w W : World} {k r c ck ci : Int} {cf : Nat} {ct : ByteArray} {a : Option Addr} {len cap : Nat} {x y : Val} (h : EvSt w k r c ck ci cf ct a len cap x y W) (v : Val) :
 LiesV ((((W.setCell ⟨w.heap.size + 1, 0, none⟩ (.int .i64 v.kind)).setCell ⟨w.heap.size + 1, 1, none⟩ (.int .i64 v.int)).setCell ⟨w.heap.size + 1, 2, none⟩ (.float .f64 v.flt)).setCell ⟨w.heap.size + 1, 3, none⟩ (.string v.text)) (w.heap.size + 1) 0 v ∧
 Below w.heap.size w ((((W.setCell ⟨w.heap.size + 1, 0, none⟩ (.int .i64 v.kind)).setCell ⟨w.heap.size + 1, 1, none⟩ (.int .i64 v.int)).setCell ⟨w.heap.size + 1, 2, none⟩ (.float .f64 v.flt)).setCell ⟨w.heap.size + 1, 3, none⟩ (.string v.text)) :=
 ⟨h.lr.stored v, below_val h.below (by omega) _ _ _ _⟩
theorem endE_ok (v : Val) : endE (v, 0) = .returned v.agg := rfl
theorem endE_bad (v : Val) (n : Int) (h : ¬ n = 0) : endE (v, n) = .panicked [{ v := .iface 30 (.int .i64 n), recovered := false }] := by unfold endE; rw [if_neg h]
theorem RowsV.rowsWf {w : World} {a : Option Addr} {len cap : Nat} {R : List Slc} (h : RowsV w a len cap R) : rowsWf (R.map (·.l)) := by
 obtain ⟨h1, _, _, h4⟩ := h
 intro l hl v hv
 obtain ⟨s, hs, rfl⟩ := List.mem_map.1 hl
 obtain ⟨i, hi⟩ := List.getElem?_of_mem hs
 rcases h4 with h4 | ⟨b, off, _, _, hc⟩
 ·have := (List.getElem?_eq_some_iff.1 hi).1; omega
 ·exact (hc i s hi).2.2.2.2.1 v hv
theorem must_ok_exp (k n : Int) (f : Nat) (s : ByteArray) (w : World) : Calls Tryz.prog 80 #[.agg #[.int .i64 k, .int .i64 n, .float .f64 f, .string s], .int .i64 0] w fun e w' => e = .returned (.agg #[.int .i64 k, .int .i64 n, .float .f64 f, .string s]) ∧ Below w.heap.size w w' := must_ok ⟨k, n, f, s⟩ w
theorem must_bad_exp (k n : Int) (f : Nat) (s : ByteArray) (m : Int) (hm : ¬ m = 0) (w : World) : Calls Tryz.prog 80 #[.agg #[.int .i64 k, .int .i64 n, .float .f64 f, .string s], .int .i64 m] w fun e w' => e = .panicked [{ v := .iface 30 (.int .i64 m), recovered := false }] ∧ Below w.heap.size w w' := must_bad ⟨k, n, f, s⟩ m hm w
theorem Calc_exp (op k n : Int) (f : Nat) (s : ByteArray) (k' n' : Int) (f' : Nat) (s' : ByteArray) (ha : Val.wf ⟨k, n, f, s⟩) (hb : Val.wf ⟨k', n', f', s'⟩) (w : World) : Calls Tryz.prog 81 #[.int .i64 op, .agg #[.int .i64 k, .int .i64 n, .float .f64 f, .string s], .agg #[.int .i64 k', .int .i64 n', .float .f64 f', .string s']] w
 fun e w' => e = .returned (.tuple #[.agg #[.int .i64 (calcV op ⟨k, n, f, s⟩ ⟨k', n', f', s'⟩).1.kind, .int .i64 (calcV op ⟨k, n, f, s⟩ ⟨k', n', f', s'⟩).1.int, .float .f64 (calcV op ⟨k, n, f, s⟩ ⟨k', n', f', s'⟩).1.flt, .string (calcV op ⟨k, n, f, s⟩ ⟨k', n', f', s'⟩).1.text], .int .i64 (calcV op ⟨k, n, f, s⟩ ⟨k', n', f', s'⟩).2]) ∧ Below w.heap.size w w' := Calc_any op _ _ ha hb w
theorem Test_exp (op k n : Int) (f : Nat) (s : ByteArray) (k' n' : Int) (f' : Nat) (s' : ByteArray) (ha : Val.wf ⟨k, n, f, s⟩) (hb : Val.wf ⟨k', n', f', s'⟩) (w : World) : Calls Tryz.prog 82 #[.int .i64 op, .agg #[.int .i64 k, .int .i64 n, .float .f64 f, .string s], .agg #[.int .i64 k', .int .i64 n', .float .f64 f', .string s']] w
 fun e w' => e = .returned (.tuple #[.agg #[.int .i64 (testV op ⟨k, n, f, s⟩ ⟨k', n', f', s'⟩).1.kind, .int .i64 (testV op ⟨k, n, f, s⟩ ⟨k', n', f', s'⟩).1.int, .float .f64 (testV op ⟨k, n, f, s⟩ ⟨k', n', f', s'⟩).1.flt, .string (testV op ⟨k, n, f, s⟩ ⟨k', n', f', s'⟩).1.text], .int .i64 (testV op ⟨k, n, f, s⟩ ⟨k', n', f', s'⟩).2]) ∧ Below w.heap.size w w' := Test_any op _ _ ha hb w
theorem Both_exp (op k n : Int) (f : Nat) (s : ByteArray) (k' n' : Int) (f' : Nat) (s' : ByteArray) (ha : Val.wf ⟨k, n, f, s⟩) (hb : Val.wf ⟨k', n', f', s'⟩) (w : World) : Calls Tryz.prog 83 #[.int .i64 op, .agg #[.int .i64 k, .int .i64 n, .float .f64 f, .string s], .agg #[.int .i64 k', .int .i64 n', .float .f64 f', .string s']] w
 fun e w' => e = .returned (.tuple #[.agg #[.int .i64 (bothV op ⟨k, n, f, s⟩ ⟨k', n', f', s'⟩).1.kind, .int .i64 (bothV op ⟨k, n, f, s⟩ ⟨k', n', f', s'⟩).1.int, .float .f64 (bothV op ⟨k, n, f, s⟩ ⟨k', n', f', s'⟩).1.flt, .string (bothV op ⟨k, n, f, s⟩ ⟨k', n', f', s'⟩).1.text], .int .i64 (bothV op ⟨k, n, f, s⟩ ⟨k', n', f', s'⟩).2]) ∧ Below w.heap.size w w' := Both_any op _ _ ha hb w
theorem below_drewN (W : World) (n : Nat) : Below W.heap.size W (W.drewN n) := ⟨rfl, rfl, rfl, Nat.le_refl _, fun _ _ => rfl⟩
set_option maxHeartbeats 4000000 in
theorem eval_col (D : Nat) (cs : List Value) (rel col : Int) (con : Val) (kids : List Tx) (d : Nat) (ra : Option Addr) (rl rc : Nat) (R : List Slc) (w : World) (h : ExAt w (D + 1) cs (.mk 1 rel col con kids)) (hR : RowsV w ra rl rc R) (hok : okT d (.mk 1 rel col con kids) = true) :
 Calls Tryz.prog 54 #[.agg cs.toArray, .slice ra rl rc] w fun e w' => e = endE (evalV (R.map (·.l)) (.mk 1 rel col con kids)) ∧ Below w.heap.size w w' := by
 obtain ⟨a, len, cap, rfl, ⟨_, _, _, hcw⟩, hr⟩ := h
 obtain ⟨ck, ci, cf, ct⟩ := con
 simp only [okT, Bool.and_eq_true, decide_eq_true_eq] at hok
 obtain ⟨⟨⟨_, hkk⟩, hff⟩, _⟩ := hok
 have hlen := hr.1
 obtain rfl : len = 0 := by unfold kidsK at hkk; simp at hkk; omega
 obtain rfl : kids = [] := List.length_eq_zero_iff.1 hlen
 have HZ := hdq (EvSt.start w 1 rel col ck ci cf ct a 0 cap 53 39)
 have HRW := hdq hR
 clear hr hR hlen hkk
 simp only [evalV, evalVs, combV, List.headD_nil, List.tail_nil, opV, ne_eq, not_true_eq_false, if_false, if_true]
 obtain ⟨r, rfl⟩ := Int.eq_ofNat_of_zero_le (show 0 ≤ rel by unfold fieldsK at hff; simp only [Bool.and_eq_true, decide_eq_true_eq] at hff; exact hff.1.1.1.2.1)
 obtain ⟨c, rfl⟩ := Int.eq_ofNat_of_zero_le (show 0 ≤ col by unfold fieldsK at hff; simp only [Bool.and_eq_true, decide_eq_true_eq] at hff; exact hff.1.1.2.1)
 clear hff
 obtain ⟨p, hp⟩ : ∃ p, p = colV (R.map (·.l)) r c := ⟨_, rfl⟩
 rw [← hp]
 unfold colV at hp
 simp only [Int.toNat_natCast, List.getElem?_map] at hp
 have HZN := hdq (fun n => HZ.out.next (below_drewN _ n))
 obtain ⟨x0, x1, x2, x3, x4, x5, x6, x7, _⟩ := HZ.out.box
 obtain ⟨R1, R2, R3, R4⟩ := HRW.out
 by_cases hr1 : r < rl
 ·obtain ⟨rb, ro, rfl, hrb, hrc⟩ := R4.resolve_left (by omega)
  have hr' : r < R.length := by omega
  obtain ⟨⟨sa, sl, sc, sv⟩, hs⟩ : ∃ s, R[r]? = some s := ⟨_, List.getElem?_eq_getElem hr'⟩
  obtain ⟨hsc, hsr⟩ := hrc r _ hs
  rw [hs] at hp
  simp only [Option.map_some] at hp
  simp only at hsc hsr
  have hsc' := (HZ.out.below.cell hrb).trans hsc
  have i1 : (r : Int) < (rl : Int) := by omega
  by_cases hc1 : c < sl
  ·obtain ⟨vb, vo, rfl, hvb, v, hv, hvw, HV⟩ := hsr.get hc1
   rw [hv] at hp
   simp only at hp
   obtain ⟨vk, vn, vf, vs⟩ := v
   obtain ⟨v0, v1, v2, v3⟩ := HV
   have i2 : (c : Int) < (sl : Int) := by omega
   have HSW : Hid (∀ W, EvSt w 1 (r : Int) (c : Int) ck ci cf ct a 0 cap Val.null Val.null W → (W.cell? ⟨w.heap.size, 1, none⟩ = some (.int .i64 (r : Int)) ∧ W.cell? ⟨w.heap.size, 2, none⟩ = some (.int .i64 (c : Int)) ∧ W.cell? ⟨rb, ro + r, none⟩ = some (.slice (some ⟨vb, vo, none⟩) sl sc) ∧ W.cell? ⟨vb, vo + c * 4, none⟩ = some (.int .i64 vk) ∧ W.cell? ⟨vb, vo + c * 4 + 1, none⟩ = some (.int .i64 vn) ∧ W.cell? ⟨vb, vo + c * 4 + 2, none⟩ = some (.float .f64 vf) ∧ W.cell? ⟨vb, vo + c * 4 + 3, none⟩ = some (.string vs) ∧ Hid (EvSt w 1 (r : Int) (c : Int) ck ci cf ct a 0 cap Val.null Val.null W))) := hdq (fun W h => by
    have hb := h.below
    have hbx := h.box
    exact ⟨hbx.2.1, hbx.2.2.1, (hb.cell hrb).trans hsc, (hb.cell hvb).trans v0, (hb.cell hvb).trans v1, (hb.cell hvb).trans v2, (hb.cell hvb).trans v3, hdq h⟩)
   obtain ⟨q, hq⟩ : ∃ q, q = rightV ⟨vk, vn, vf, vs⟩ := ⟨_, rfl⟩
   have HRI := hdq (fun (W : World) (hS : W.cell? ⟨w.heap.size, 1, none⟩ = some (.int .i64 (r : Int)) ∧ W.cell? ⟨w.heap.size, 2, none⟩ = some (.int .i64 (c : Int)) ∧ W.cell? ⟨rb, ro + r, none⟩ = some (.slice (some ⟨vb, vo, none⟩) sl sc) ∧ W.cell? ⟨vb, vo + c * 4, none⟩ = some (.int .i64 vk) ∧ W.cell? ⟨vb, vo + c * 4 + 1, none⟩ = some (.int .i64 vn) ∧ W.cell? ⟨vb, vo + c * 4 + 2, none⟩ = some (.float .f64 vf) ∧ W.cell? ⟨vb, vo + c * 4 + 3, none⟩ = some (.string vs) ∧ Hid (EvSt w 1 (r : Int) (c : Int) ck ci cf ct a 0 cap Val.null Val.null W)) => (Right_exp vk vn vf vs hvw W).mono (R' := fun e w' => e = .returned (.bool q) ∧ (w'.cell? ⟨w.heap.size, 1, none⟩ = some (.int .i64 (r : Int)) ∧ w'.cell? ⟨w.heap.size, 2, none⟩ = some (.int .i64 (c : Int)) ∧ w'.cell? ⟨rb, ro + r, none⟩ = some (.slice (some ⟨vb, vo, none⟩) sl sc) ∧ w'.cell? ⟨vb, vo + c * 4, none⟩ = some (.int .i64 vk) ∧ w'.cell? ⟨vb, vo + c * 4 + 1, none⟩ = some (.int .i64 vn) ∧ w'.cell? ⟨vb, vo + c * 4 + 2, none⟩ = some (.float .f64 vf) ∧ w'.cell? ⟨vb, vo + c * 4 + 3, none⟩ = some (.string vs) ∧ Hid (EvSt w 1 (r : Int) (c : Int) ck ci cf ct a 0 cap Val.null Val.null w'))) (fun e w' h => ⟨by rw [h.1, hq], HSW.out _ (hS.2.2.2.2.2.2.2.out.next h.2)⟩))
   rw [← hq] at hp
   have HP := hdq hp
   have HZS := hdq (HSW.out _ HZ.out)
   have HZD := hdq (HSW.out _ (HZ.out.next (Below.refl _ _).drew))
   clear hq hp hs hsr hrc R4 hsc v0 v1 v2 v3 hv HRW R1 R2 R3
   obtain ⟨_, _, y2, y3, y4, y5, y6, _⟩ := HZS.out
   go_enter Tryz.func54, Tryz.ntmps54
   go_upto_region 8 with fail
   go_cut [58] from 7 to 57 (fun t W => t = .bool q ∧ W.cell? ⟨w.heap.size, 1, none⟩ = some (.int .i64 (r : Int)) ∧ W.cell? ⟨w.heap.size, 2, none⟩ = some (.int .i64 (c : Int)) ∧ W.cell? ⟨rb, ro + r, none⟩ = some (.slice (some ⟨vb, vo, none⟩) sl sc) ∧ W.cell? ⟨vb, vo + c * 4, none⟩ = some (.int .i64 vk) ∧ W.cell? ⟨vb, vo + c * 4 + 1, none⟩ = some (.int .i64 vn) ∧ W.cell? ⟨vb, vo + c * 4 + 2, none⟩ = some (.float .f64 vf) ∧ W.cell? ⟨vb, vo + c * 4 + 3, none⟩ = some (.string vs) ∧ Hid (EvSt w 1 (r : Int) (c : Int) ck ci cf ct a 0 cap Val.null Val.null W))
   case first =>
    clear x0 x1 x2 x3 x4 x5 x6 x7 hsc' y2 y3 y4 y5 y6
    go_region_held3 (fun W : World => W.cell? ⟨w.heap.size, 1, none⟩ = some (.int .i64 (r : Int)) ∧ W.cell? ⟨w.heap.size, 2, none⟩ = some (.int .i64 (c : Int)) ∧ W.cell? ⟨rb, ro + r, none⟩ = some (.slice (some ⟨vb, vo, none⟩) sl sc) ∧ W.cell? ⟨vb, vo + c * 4, none⟩ = some (.int .i64 vk) ∧ W.cell? ⟨vb, vo + c * 4 + 1, none⟩ = some (.int .i64 vn) ∧ W.cell? ⟨vb, vo + c * 4 + 2, none⟩ = some (.float .f64 vf) ∧ W.cell? ⟨vb, vo + c * 4 + 3, none⟩ = some (.string vs) ∧ Hid (EvSt w 1 (r : Int) (c : Int) ck ci cf ct a 0 cap Val.null Val.null W)) (first | exact HZD.out | assumption) (first | (go_at_call 60; refine (HRI.out _ (by assumption)).mono ?_; rintro e wx ⟨rfl, hSx⟩))
    all_goals go_wp2_with fail
    all_goals go_meet
    all_goals exact ⟨rfl, by assumption⟩
   case rest =>
    obtain ⟨rfl, z1, z2, z3, z4, z5, z6, z7, hev⟩ := hcut
    have HE := hev
    obtain ⟨⟨q1, q2, q3, q4⟩, f1, f2, f3, f4⟩ := hev.out.lr
    simp only [Nat.zero_add] at q1 q2 q3 q4 f1 f2 f3 f4
    clear x0 x1 x2 x3 x4 x5 x6 x7 hsc' y2 y3 y4 y5 y6 HZS HZD hev HSW HRI
    cases q with
    | true =>
     have hp := HP.out
     rw [if_pos rfl] at hp
     subst hp
     go_upto_region 9 with fail
     go_region
     all_goals go_wp2
     all_goals exact ret_val Tryz.results54 rfl rfl ((HE.out.next (Below.refl _ wc).drew).setr ⟨vk, vn, vf, vs⟩).1 ⟨(endE_ok _).symm, ((HE.out.next (Below.refl _ wc).drew).setr ⟨vk, vn, vf, vs⟩).2⟩
    | false =>
     have hp := HP.out
     rw [if_neg (by simp)] at hp
     subst hp
     go_wp2
     exact ret_val Tryz.results54 rfl rfl (HE.out.setr Val.null).1 ⟨(endE_ok _).symm, (HE.out.setr Val.null).2⟩
  ·have hp' : p = Val.null := by
    have : sv[c]? = none := List.getElem?_eq_none (by have := hsr.1; omega)
    rw [this] at hp
    exact hp
   subst hp'
   have i2 : ¬ (c : Int) < (sl : Int) := by omega
   clear hp hs hsr hrc R4 hsc HRW R1 R2 R3
   obtain ⟨⟨q1, q2, q3, q4⟩, f1, f2, f3, f4⟩ := HZ.out.lr
   simp only [Nat.zero_add] at q1 q2 q3 q4 f1 f2 f3 f4
   go_enter Tryz.func54, Tryz.ntmps54
   go_upto_region 8 with fail
   go_quiet (fail)
   go_wp2
   exact ret_val Tryz.results54 rfl rfl ((HZN.out _).setr Val.null).1 ⟨(endE_ok _).symm, ((HZN.out _).setr Val.null).2⟩
 ·have hp' : p = Val.null := by
   have : R[r]? = none := List.getElem?_eq_none (by omega)
   rw [this] at hp
   exact hp
  subst hp'
  have i1 : ¬ (r : Int) < (rl : Int) := by omega
  clear hp R4 HRW R1 R2 R3
  go_enter Tryz.func54, Tryz.ntmps54
  go_upto_region 8 with fail
  go_quiet (fail)
  go_wp2
  exact ret_val Tryz.results54 rfl rfl ((HZN.out _).setr Val.null).1 ⟨(endE_ok _).symm, ((HZN.out _).setr Val.null).2⟩
end Go.Proofs.YtgmolmpfihkolaaGreat
