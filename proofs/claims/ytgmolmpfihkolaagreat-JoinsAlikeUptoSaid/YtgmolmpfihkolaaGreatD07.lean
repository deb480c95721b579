/- Part of the proof. -/
import Derived.Test.YtgmolmpfihkolaaGreatD06
namespace Go.Proofs.YtgmolmpfihkolaaGreat
open Go.RowKit
open Go.Deep
set_option linter.unusedVariables false
set_option maxRecDepth 100000
attribute [local go_sem] run_store_float
set_option maxHeartbeats 4000000 in
theorem eval_any : ∀ (D : Nat) (cs : List Value) (t : Tx) (d : Nat) (ra : Option Addr) (rl rc : Nat) (R : List Slc) (w : World), ExAt w D cs t → RowsV w ra rl rc R → okT d t = true →
 Calls Tryz.prog 54 #[.agg cs.toArray, .slice ra rl rc] w fun e w' => e = endE (evalV (R.map (·.l)) t) ∧ Below w.heap.size w w'
 | 0, _, _, _, _, _, _, _, _, h, _, _ => h.elim
 | D + 1, cs, .mk kind rel col con kids, d, ra, rl, rc, R, w, h, hR, hok => by
  by_cases hk1 : kind = 1
  ·subst hk1
   exact eval_col D cs rel col con kids d ra rl rc R w h hR hok
  obtain ⟨a, len, cap, rfl, ⟨_, _, _, hcw⟩, hr⟩ := h
  have ih := hdq (eval_any D)
  obtain ⟨ck, ci, cf, ct⟩ := con
  have HX := hdq (EvSt.start w kind rel col ck ci cf ct a len cap 53 39)
  have HRW := hdq hR
  have HR := hdq hr
  have HOK := hdq hok
  have h63 : len < 2 ^ 63 := by have := hr.2.1; have := hr.2.2.1; unfold maxLen at this; omega
  clear hr hok hR
  obtain ⟨xa, hxa⟩ : ∃ x, x = (evalVs (R.map (·.l)) kids).headD (Val.null, 0) := ⟨_, rfl⟩
  obtain ⟨xb, hxb⟩ : ∃ x, x = (evalVs (R.map (·.l)) kids).tail.headD (Val.null, 0) := ⟨_, rfl⟩
  obtain ⟨res, hres⟩ : ∃ x, x = evalV (R.map (·.l)) (.mk kind rel col ⟨ck, ci, cf, ct⟩ kids) := ⟨_, rfl⟩
  rw [← hres]
  simp only [evalV] at hres
  unfold combV at hres
  rw [← hxa, ← hxb] at hres
  have kid : ∀ (i : Nat) (t : Tx), kids[i]? = some t → ∃ b off, a = some ⟨b, off, none⟩ ∧ ∃ k0 k1 k2 k3 k4 k5 k6 ka kl kc, (∀ W, Below w.heap.size w W → W.cell? ⟨b, off + i * 8, none⟩ = some (.int .i64 k0) ∧ W.cell? ⟨b, off + i * 8 + 1, none⟩ = some (.int .i64 k1) ∧ W.cell? ⟨b, off + i * 8 + 2, none⟩ = some (.int .i64 k2) ∧ W.cell? ⟨b, off + i * 8 + 3, none⟩ = some (.int .i64 k3) ∧ W.cell? ⟨b, off + i * 8 + 4, none⟩ = some (.int .i64 k4) ∧ W.cell? ⟨b, off + i * 8 + 5, none⟩ = some (.float .f64 k5) ∧ W.cell? ⟨b, off + i * 8 + 6, none⟩ = some (.string k6) ∧ W.cell? ⟨b, off + i * 8 + 7, none⟩ = some (.slice ka kl kc)) ∧
   ∀ W, Below w.heap.size w W → Calls Tryz.prog 54 #[.agg #[.int .i64 k0, .int .i64 k1, .int .i64 k2, .int .i64 k3, .int .i64 k4, .float .f64 k5, .string k6, .slice ka kl kc], .slice ra rl rc] W fun e w' => e = endE (evalV (R.map (·.l)) t) ∧ Below W.heap.size W w' := by
   intro i t ht
   obtain ⟨h1, _, _, h4⟩ := HR.out
   have hi := (List.getElem?_eq_some_iff.1 ht).1
   obtain ⟨b, off, rfl, hbl, hc⟩ := h4.resolve_left (by omega)
   obtain ⟨cs, hRR, hcs⟩ := hc i t ht
   obtain ⟨k0, k1, k2, k3, k4, k5, k6, ka, kl, kc, rfl⟩ := hRR.cells
   refine ⟨b, off, rfl, k0, k1, k2, k3, k4, k5, k6, ka, kl, kc, fun W hb => ?_, fun W hb => ?_⟩
   ·exact ⟨(hb.cell hbl).trans (hcs 0 _ rfl), (hb.cell hbl).trans (hcs 1 _ rfl), (hb.cell hbl).trans (hcs 2 _ rfl), (hb.cell hbl).trans (hcs 3 _ rfl), (hb.cell hbl).trans (hcs 4 _ rfl), (hb.cell hbl).trans (hcs 5 _ rfl), (hb.cell hbl).trans (hcs 6 _ rfl), (hb.cell hbl).trans (hcs 7 _ rfl)⟩
   ·refine ih.out _ t (d + 1) ra rl rc R W (hRR.later hb) (HRW.out.later hb) ?_
    have := HOK.out
    simp only [okT, Bool.and_eq_true] at this
    have h2 := okTs_le (d + 1) kids (i + 1) this.2
    rw [okTs_take _ _ _ _ ht, Bool.and_eq_true] at h2
    exact h2.2
  have kidx : ∀ (i : Nat) (t : Tx), kids[i]? = some t → ∃ cs, ExAt w D cs t := by
   intro i t ht
   obtain ⟨h1, _, _, h4⟩ := HR.out
   have hi := (List.getElem?_eq_some_iff.1 ht).1
   obtain ⟨b, off, _, hbl, hc⟩ := h4.resolve_left (by omega)
   obtain ⟨cs, hRR, _⟩ := hc i t ht
   exact ⟨cs, hRR⟩
  have hkid0 : 0 < len → ∃ t, kids[0]? = some t ∧ evalV (R.map (·.l)) t = xa := by
   intro h
   have := HR.out.1
   cases kids with
   | nil => simp at this; omega
   | cons t ts => exact ⟨t, rfl, by rw [hxa]; rfl⟩
  have hkid1 : 1 < len → ∃ t, kids[1]? = some t ∧ evalV (R.map (·.l)) t = xb := by
   intro h
   have := HR.out.1
   cases kids with
   | nil => simp at this; omega
   | cons t ts => cases ts with
    | nil => simp at this; omega
    | cons t2 ts => exact ⟨t2, rfl, by rw [hxb]; rfl⟩
  have hno0 : len = 0 → xa = (Val.null, 0) := by
   intro h
   have := HR.out.1
   cases kids with
   | nil => rw [hxa]; rfl
   | cons t ts => simp at this; omega
  have hno1 : len ≤ 1 → xb = (Val.null, 0) := by
   intro h
   have := HR.out.1
   cases kids with
   | nil => rw [hxb]; rfl
   | cons t ts => cases ts with
    | nil => rw [hxb]; rfl
    | cons t2 ts => simp at this; omega
  have hrw : rowsWf (R.map (·.l)) := HRW.out.rowsWf
  have hxw : xa.1.wf := by
   by_cases h : 0 < len
   ·obtain ⟨t, ht, e⟩ := hkid0 h
    obtain ⟨cs, hx⟩ := kidx 0 t ht
    rw [← e]; exact evalV_wf hrw D cs t hx
   ·rw [hno0 (by omega)]; exact null_wf
  have hyw : xb.1.wf := by
   by_cases h : 1 < len
   ·obtain ⟨t, ht, e⟩ := hkid1 h
    obtain ⟨cs, hx⟩ := kidx 1 t ht
    rw [← e]; exact evalV_wf hrw D cs t hx
   ·rw [hno1 (by omega)]; exact null_wf
  have HXW := hdq hxw
  have HYW := hdq hyw
  clear hxa hxb hrw hxw hyw kidx
  obtain ⟨⟨xk, xn, xf, xs⟩, xe⟩ := xa
  obtain ⟨⟨yk, yn, yf, ys⟩, ye⟩ := xb
  have HRES := hdq hres
  have HK0 := hdq hkid0
  have HK1 := hdq hkid1
  have HN0 := hdq hno0
  have HN1 := hdq hno1
  have KID := hdq kid
  clear hres hkid0 hkid1 hno0 hno1 kid
  simp only
  go_enter Tryz.func54, Tryz.ntmps54
  go_upto_if 10 with fail
  go_cut [] from 7 to 16 (fun W => xe = 0 ∧ EvSt w kind rel col ck ci cf ct a len cap ⟨xk, xn, xf, xs⟩ Val.null W)
  case first =>
   by_cases h0 : 0 < len
   ·obtain ⟨t, ht, he⟩ := HK0.out h0
    obtain ⟨b, off, rfl, k0, k1, k2, k3, k4, k5, k6, ka, kl, kc, hcells, hcall⟩ := KID.out 0 t ht
    rw [he] at hcall
    obtain ⟨d0, d1, d2, d3, d4, d5, d6, d7⟩ := hcells _ HX.out.below
    simp only [Nat.zero_mul, Nat.add_zero] at d0 d1 d2 d3 d4 d5 d6 d7
    have h0' : (0 : Int) < (len : Int) := by omega
    have HCALL := hdq hcall
    clear hcells hcall he ht
    by_cases hxe : xe = 0
    ·subst hxe
     go_wp2_with (go_at_call 54; refine (HCALL.out _ HX.out.below).mono ?_; rw [endE_ok]; unfold Val.agg; rintro e w1 ⟨rfl, hb1⟩; have HX1 := hdq (HX.out.next hb1); obtain ⟨⟨q1, q2, q3, q4⟩, f1, f2, f3, f4⟩ := HX1.out.la; simp only [Nat.zero_add] at q1 q2 q3 q4 f1 f2 f3 f4; clear hb1)
     go_meet
     exact ⟨trivial, HX1.out.seta ⟨xk, xn, xf, xs⟩⟩
    ·go_wp2_with (go_at_call 54; refine (HCALL.out _ HX.out.below).mono ?_; rw [endE_bad _ _ hxe]; rintro e w1 ⟨rfl, hb1⟩; have HX1 := hdq (HX.out.next hb1); clear hb1)
     exact ⟨rfl, by rw [HRES.out, if_pos hxe, endE_bad _ _ hxe], HX1.out.below⟩
   ·obtain rfl : len = 0 := by omega
    have := HN0.out rfl
    cases this
    go_wp2
    go_meet
    exact ⟨trivial, HX.out⟩
  case rest =>
   obtain ⟨rfl, hcut⟩ := hcut
   have HY := hdq hcut
   obtain ⟨x0, x1, x2, x3, x4, x5, x6, x7, _⟩ := hcut.box
   clear HX hcut
   go_upto_if 20 with fail
   go_cut [] from 7 to 26 (fun W => ye = 0 ∧ EvSt w kind rel col ck ci cf ct a len cap ⟨xk, xn, xf, xs⟩ ⟨yk, yn, yf, ys⟩ W)
   case first =>
    by_cases h0 : 1 < len
    ·obtain ⟨t, ht, he⟩ := HK1.out h0
     obtain ⟨b, off, rfl, k0, k1, k2, k3, k4, k5, k6, ka, kl, kc, hcells, hcall⟩ := KID.out 1 t ht
     rw [he] at hcall
     obtain ⟨d0, d1, d2, d3, d4, d5, d6, d7⟩ := hcells _ HY.out.below
     simp only [Nat.one_mul, Nat.add_assoc, Nat.reduceAdd] at d0 d1 d2 d3 d4 d5 d6 d7
     have h0' : (1 : Int) < (len : Int) := by omega
     have HCALL := hdq hcall
     clear hcells hcall he ht
     by_cases hye : ye = 0
     ·subst hye
      go_wp2_with (go_at_call 54; refine (HCALL.out _ HY.out.below).mono ?_; rw [endE_ok]; unfold Val.agg; rintro e w1 ⟨rfl, hb1⟩; have HX1 := hdq (HY.out.next hb1); obtain ⟨⟨q1, q2, q3, q4⟩, f1, f2, f3, f4⟩ := HX1.out.lb; simp only [Nat.zero_add] at q1 q2 q3 q4 f1 f2 f3 f4; clear hb1)
      go_meet
      exact ⟨trivial, HX1.out.setb ⟨yk, yn, yf, ys⟩⟩
     ·go_wp2_with (go_at_call 54; refine (HCALL.out _ HY.out.below).mono ?_; rw [endE_bad _ _ hye]; rintro e w1 ⟨rfl, hb1⟩; have HX1 := hdq (HY.out.next hb1); clear hb1)
      exact ⟨rfl, by rw [HRES.out, if_neg (by simp), if_pos hye, endE_bad _ _ hye], HX1.out.below⟩
    ·have := HN1.out (by omega)
     cases this
     have h0' : ¬ (1 : Int) < (len : Int) := by omega
     go_wp2
     go_meet
     exact ⟨trivial, HY.out⟩
   case rest =>
    obtain ⟨rfl, hcut⟩ := hcut
    have HZ := hdq hcut
    clear HY x0 x1 x2 x3 x4 x5 x6 x7
    obtain ⟨x0, x1, x2, x3, x4, x5, x6, x7, _⟩ := hcut.box
    obtain ⟨⟨a0, a1, a2, a3⟩, _⟩ := hcut.la
    obtain ⟨⟨b0, b1, b2, b3⟩, _⟩ := hcut.lb
    obtain ⟨⟨r0, r1, r2, r3⟩, s0, s1, s2, s3⟩ := hcut.lr
    simp only [Nat.zero_add] at a0 a1 a2 a3 b0 b1 b2 b3 r0 r1 r2 r3 s0 s1 s2 s3
    clear hcut KID HK0 HK1 HN0 HN1 ih
    have hres := HRES.out
    rw [if_neg (by simp), if_neg (by simp)] at hres
    have hok := HOK.out
    simp only [okT, Bool.and_eq_true, decide_eq_true_eq] at hok
    obtain ⟨⟨⟨_, hkk⟩, hff⟩, _⟩ := hok
    have hrange : 1 ≤ kind ∧ kind ≤ 13 := by
     unfold kidsK at hkk
     by_cases h : 1 ≤ kind ∧ kind ≤ 13
     ·exact h
     ·rw [if_neg (by omega), if_neg (by omega), if_neg (by omega)] at hkk; omega
    have HFF := hdq hff
    clear hkk hff HRES
    obtain ⟨⟨p, pe⟩, hp⟩ : ∃ x, x = opV (R.map (·.l)) kind rel col ⟨ck, ci, cf, ct⟩ ⟨xk, xn, xf, xs⟩ ⟨yk, yn, yf, ys⟩ := ⟨_, rfl⟩
    obtain ⟨pk, pn, pf, ps⟩ := p
    simp only at hres
    rw [← hp] at hres
    have HRES := hdq hres
    clear hres
    unfold opV at hp
    rcases (show kind = 1 ∨ kind = 2 ∨ (3 ≤ kind ∧ kind ≤ 6) ∨ (7 ≤ kind ∧ kind ≤ 9) ∨ (10 ≤ kind ∧ kind ≤ 12) ∨ kind = 13 by omega) with rfl | rfl | hk | hk | hk | rfl
    ·exact absurd rfl hk1
    ·rw [if_neg (by omega), if_pos rfl] at hp
     cases hp
     clear hrange
     go_wp2
     exact ret_val Tryz.results54 rfl rfl (HZ.out.setr ⟨ck, ci, cf, ct⟩).1 ⟨by rw [HRES.out]; exact (endE_ok _).symm, (HZ.out.setr ⟨ck, ci, cf, ct⟩).2⟩
    ·rw [if_neg (by omega), if_neg (by omega), if_pos hk] at hp
     have HOP := hdq hp.symm
     clear hp hrange
     rcases (show kind = 3 ∨ kind = 4 ∨ kind = 5 ∨ kind = 6 by omega) with rfl | rfl | rfl | rfl
     all_goals
      clear hk
      go_upto_region 17 with fail
      by_cases hpe : pe = 0
      ·subst hpe
       go_wp2_with (first | (go_at_call 81; refine (Calc_exp _ _ _ _ _ _ _ _ _ HXW.out HYW.out _).mono ?_; rw [HOP.out]; rintro e w1 ⟨rfl, hb1⟩; have HZ1 := hdq (HZ.out.next hb1); clear hb1) | (go_at_call 80; first | (refine (must_bad_exp _ _ _ _ _ hpe _).mono ?_; rintro e w2 ⟨rfl, hb2⟩; have HZ2 := hdq (HZ1.out.next hb2); clear hb2) | (refine (must_ok_exp _ _ _ _ _).mono ?_; rintro e w2 ⟨rfl, hb2⟩; have HZ2 := hdq (HZ1.out.next hb2); obtain ⟨⟨q1, q2, q3, q4⟩, f1, f2, f3, f4⟩ := HZ2.out.lr; simp only [Nat.zero_add] at q1 q2 q3 q4 f1 f2 f3 f4; clear hb2)))
       exact ret_val Tryz.results54 rfl rfl (HZ2.out.setr ⟨pk, pn, pf, ps⟩).1 ⟨by rw [HRES.out]; exact (endE_ok _).symm, (HZ2.out.setr ⟨pk, pn, pf, ps⟩).2⟩
      ·go_wp2_with (first | (go_at_call 81; refine (Calc_exp _ _ _ _ _ _ _ _ _ HXW.out HYW.out _).mono ?_; rw [HOP.out]; rintro e w1 ⟨rfl, hb1⟩; have HZ1 := hdq (HZ.out.next hb1); clear hb1) | (go_at_call 80; first | (refine (must_bad_exp _ _ _ _ _ hpe _).mono ?_; rintro e w2 ⟨rfl, hb2⟩; have HZ2 := hdq (HZ1.out.next hb2); clear hb2) | (refine (must_ok_exp _ _ _ _ _).mono ?_; rintro e w2 ⟨rfl, hb2⟩; have HZ2 := hdq (HZ1.out.next hb2); obtain ⟨⟨q1, q2, q3, q4⟩, f1, f2, f3, f4⟩ := HZ2.out.lr; simp only [Nat.zero_add] at q1 q2 q3 q4 f1 f2 f3 f4; clear hb2)))
       exact ⟨rfl, by rw [HRES.out, endE_bad _ _ hpe], HZ2.out.below⟩
    ·rw [if_neg (by omega), if_neg (by omega), if_neg (by omega), if_pos hk] at hp
     have HOP := hdq hp.symm
     clear hp hrange
     rcases (show kind = 7 ∨ kind = 8 ∨ kind = 9 by omega) with rfl | rfl | rfl
     all_goals
      clear hk
      go_upto_region 21 with fail
      by_cases hpe : pe = 0
      ·subst hpe
       go_wp2_with (first | (go_at_call 82; refine (Test_exp _ _ _ _ _ _ _ _ _ HXW.out HYW.out _).mono ?_; rw [HOP.out]; rintro e w1 ⟨rfl, hb1⟩; have HZ1 := hdq (HZ.out.next hb1); clear hb1) | (go_at_call 80; first | (refine (must_bad_exp _ _ _ _ _ hpe _).mono ?_; rintro e w2 ⟨rfl, hb2⟩; have HZ2 := hdq (HZ1.out.next hb2); clear hb2) | (refine (must_ok_exp _ _ _ _ _).mono ?_; rintro e w2 ⟨rfl, hb2⟩; have HZ2 := hdq (HZ1.out.next hb2); obtain ⟨⟨q1, q2, q3, q4⟩, f1, f2, f3, f4⟩ := HZ2.out.lr; simp only [Nat.zero_add] at q1 q2 q3 q4 f1 f2 f3 f4; clear hb2)))
       exact ret_val Tryz.results54 rfl rfl (HZ2.out.setr ⟨pk, pn, pf, ps⟩).1 ⟨by rw [HRES.out]; exact (endE_ok _).symm, (HZ2.out.setr ⟨pk, pn, pf, ps⟩).2⟩
      ·go_wp2_with (first | (go_at_call 82; refine (Test_exp _ _ _ _ _ _ _ _ _ HXW.out HYW.out _).mono ?_; rw [HOP.out]; rintro e w1 ⟨rfl, hb1⟩; have HZ1 := hdq (HZ.out.next hb1); clear hb1) | (go_at_call 80; first | (refine (must_bad_exp _ _ _ _ _ hpe _).mono ?_; rintro e w2 ⟨rfl, hb2⟩; have HZ2 := hdq (HZ1.out.next hb2); clear hb2) | (refine (must_ok_exp _ _ _ _ _).mono ?_; rintro e w2 ⟨rfl, hb2⟩; have HZ2 := hdq (HZ1.out.next hb2); obtain ⟨⟨q1, q2, q3, q4⟩, f1, f2, f3, f4⟩ := HZ2.out.lr; simp only [Nat.zero_add] at q1 q2 q3 q4 f1 f2 f3 f4; clear hb2)))
       exact ⟨rfl, by rw [HRES.out, endE_bad _ _ hpe], HZ2.out.below⟩
    ·rw [if_neg (by omega), if_neg (by omega), if_neg (by omega), if_neg (by omega), if_pos hk] at hp
     have HOP := hdq hp.symm
     clear hp hrange
     rcases (show kind = 10 ∨ kind = 11 ∨ kind = 12 by omega) with rfl | rfl | rfl
     all_goals
      clear hk
      go_upto_region 25 with fail
      by_cases hpe : pe = 0
      ·subst hpe
       go_wp2_with (first | (go_at_call 83; refine (Both_exp _ _ _ _ _ _ _ _ _ HXW.out HYW.out _).mono ?_; rw [HOP.out]; rintro e w1 ⟨rfl, hb1⟩; have HZ1 := hdq (HZ.out.next hb1); clear hb1) | (go_at_call 80; first | (refine (must_bad_exp _ _ _ _ _ hpe _).mono ?_; rintro e w2 ⟨rfl, hb2⟩; have HZ2 := hdq (HZ1.out.next hb2); clear hb2) | (refine (must_ok_exp _ _ _ _ _).mono ?_; rintro e w2 ⟨rfl, hb2⟩; have HZ2 := hdq (HZ1.out.next hb2); obtain ⟨⟨q1, q2, q3, q4⟩, f1, f2, f3, f4⟩ := HZ2.out.lr; simp only [Nat.zero_add] at q1 q2 q3 q4 f1 f2 f3 f4; clear hb2)))
       exact ret_val Tryz.results54 rfl rfl (HZ2.out.setr ⟨pk, pn, pf, ps⟩).1 ⟨by rw [HRES.out]; exact (endE_ok _).symm, (HZ2.out.setr ⟨pk, pn, pf, ps⟩).2⟩
      ·go_wp2_with (first | (go_at_call 83; refine (Both_exp _ _ _ _ _ _ _ _ _ HXW.out HYW.out _).mono ?_; rw [HOP.out]; rintro e w1 ⟨rfl, hb1⟩; have HZ1 := hdq (HZ.out.next hb1); clear hb1) | (go_at_call 80; first | (refine (must_bad_exp _ _ _ _ _ hpe _).mono ?_; rintro e w2 ⟨rfl, hb2⟩; have HZ2 := hdq (HZ1.out.next hb2); clear hb2) | (refine (must_ok_exp _ _ _ _ _).mono ?_; rintro e w2 ⟨rfl, hb2⟩; have HZ2 := hdq (HZ1.out.next hb2); obtain ⟨⟨q1, q2, q3, q4⟩, f1, f2, f3, f4⟩ := HZ2.out.lr; simp only [Nat.zero_add] at q1 q2 q3 q4 f1 f2 f3 f4; clear hb2)))
       exact ⟨rfl, by rw [HRES.out, endE_bad _ _ hpe], HZ2.out.below⟩
    ·rw [if_neg (by omega), if_neg (by omega), if_neg (by omega), if_neg (by omega), if_neg (by omega)] at hp
     unfold truthV at hp
     cases hp
     clear hrange
     go_wp2_with (go_at_call 84; refine (Truth_exp _ _).mono ?_; rintro e w1 ⟨rfl, hb1⟩; have HZ1 := hdq (HZ.out.next hb1); obtain ⟨⟨q1, q2, q3, q4⟩, f1, f2, f3, f4⟩ := HZ1.out.lr; simp only [Nat.zero_add] at q1 q2 q3 q4 f1 f2 f3 f4; clear hb1)
     exact ret_val Tryz.results54 rfl rfl (HZ1.out.setr ⟨1, tI (decide (xk = 0)), 0, ⟨#[]⟩⟩).1 ⟨by rw [HRES.out]; exact (endE_ok _).symm, (HZ1.out.setr ⟨1, tI (decide (xk = 0)), 0, ⟨#[]⟩⟩).2⟩
end Go.Proofs.YtgmolmpfihkolaaGreat
