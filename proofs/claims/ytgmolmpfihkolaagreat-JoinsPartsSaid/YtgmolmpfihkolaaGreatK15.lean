/- Part of the proof. -/
import Derived.Test.YtgmolmpfihkolaaGreatK14
namespace Go.Proofs.YtgmolmpfihkolaaGreat
open Go.RowKit
open Go.Deep
set_option linter.unusedVariables false
set_option maxRecDepth 100000
attribute [local go_sem] run_store_float
set_option maxHeartbeats 4000000 in
theorem reval_any : ∀ (D : Nat) (cs : List Value) (t : Tx) (d : Nat) (ra : Option Addr) (rl rc : Nat) (R : List Slc) (w : World), ExAt w D cs t → RowsV w ra rl rc R → okT d t = true →
 Calls Tryz.prog 63 #[.agg cs.toArray, .slice ra rl rc] w fun e w' => (∃ v, e = .returned (.tuple #[v.agg, .int .i64 (evalV (R.map (·.l)) t).2]) ∧ Alike (evalV (R.map (·.l)) t).1 v ∧ v.wf) ∧ Below w.heap.size w w'
 | 0, _, _, _, _, _, _, _, _, h, _, _ => h.elim
 | D + 1, cs, .mk kind rel col con kids, d, ra, rl, rc, R, w, h, hR, hok => by
  by_cases hk1 : kind = 1
  ·subst hk1
   exact reval_col D cs rel col con kids d ra rl rc R w h hR hok
  obtain ⟨a, len, cap, rfl, ⟨_, _, _, hcw⟩, hr⟩ := h
  have ih := hdq (reval_any D)
  obtain ⟨ck, ci, cf, ct⟩ := con
  have HX := hdq (RSt.start w kind rel col ck ci cf ct a len cap 53 39)
  have HRW := hdq hR
  have HR := hdq hr
  have HOK := hdq hok
  have h63 : len < 2 ^ 63 := by have := hr.2.1; have := hr.2.2.1; unfold maxLen at this; omega
  clear hr hok hR
  obtain ⟨xa, hxa⟩ : ∃ x, x = (evalVs (R.map (·.l)) kids).headD (Val.null, 0) := ⟨_, rfl⟩
  obtain ⟨xb, hxb⟩ : ∃ x, x = (evalVs (R.map (·.l)) kids).tail.headD (Val.null, 0) := ⟨_, rfl⟩
  obtain ⟨res, hres⟩ : ∃ x, x = evalV (R.map (·.l)) (.mk kind rel col ⟨ck, ci, cf, ct⟩ kids) := ⟨_, rfl⟩
  rw [← hres]
  simp only [evalV] at hres
  unfold combV at hres
  rw [← hxa, ← hxb] at hres
  have kid : ∀ (i : Nat) (t : Tx), kids[i]? = some t → ∃ b off, a = some ⟨b, off, none⟩ ∧ ∃ k0 k1 k2 k3 k4 k5 k6 ka kl kc, (∀ W, Below w.heap.size w W → W.cell? ⟨b, off + i * 8, none⟩ = some (.int .i64 k0) ∧ W.cell? ⟨b, off + i * 8 + 1, none⟩ = some (.int .i64 k1) ∧ W.cell? ⟨b, off + i * 8 + 2, none⟩ = some (.int .i64 k2) ∧ W.cell? ⟨b, off + i * 8 + 3, none⟩ = some (.int .i64 k3) ∧ W.cell? ⟨b, off + i * 8 + 4, none⟩ = some (.int .i64 k4) ∧ W.cell? ⟨b, off + i * 8 + 5, none⟩ = some (.float .f64 k5) ∧ W.cell? ⟨b, off + i * 8 + 6, none⟩ = some (.string k6) ∧ W.cell? ⟨b, off + i * 8 + 7, none⟩ = some (.slice ka kl kc)) ∧
   ∀ W, Below w.heap.size w W → Calls Tryz.prog 63 #[.agg #[.int .i64 k0, .int .i64 k1, .int .i64 k2, .int .i64 k3, .int .i64 k4, .float .f64 k5, .string k6, .slice ka kl kc], .slice ra rl rc] W fun e w' => (∃ v, e = .returned (.tuple #[v.agg, .int .i64 (evalV (R.map (·.l)) t).2]) ∧ Alike (evalV (R.map (·.l)) t).1 v ∧ v.wf) ∧ Below W.heap.size W w' := by
   intro i t ht
   obtain ⟨h1, _, _, h4⟩ := HR.out
   have hi := (List.getElem?_eq_some_iff.1 ht).1
   obtain ⟨b, off, rfl, hbl, hc⟩ := h4.resolve_left (by omega)
   obtain ⟨cs, hRR, hcs⟩ := hc i t ht
   obtain ⟨k0, k1, k2, k3, k4, k5, k6, ka, kl, kc, rfl⟩ := hRR.cells
   refine ⟨b, off, rfl, k0, k1, k2, k3, k4, k5, k6, ka, kl, kc, fun W hb => ?_, fun W hb => ?_⟩
   ·exact ⟨(hb.cell hbl).trans (hcs 0 _ rfl), (hb.cell hbl).trans (hcs 1 _ rfl), (hb.cell hbl).trans (hcs 2 _ rfl), (hb.cell hbl).trans (hcs 3 _ rfl), (hb.cell hbl).trans (hcs 4 _ rfl), (hb.cell hbl).trans (hcs 5 _ rfl), (hb.cell hbl).trans (hcs 6 _ rfl), (hb.cell hbl).trans (hcs 7 _ rfl)⟩
   ·refine ih.out _ t (d + 1) ra rl rc R W (hRR.later hb) (HRW.out.later hb) ?_
    have := HOK.out
    simp only [okT, Bool.and_eq_true] at this
    have h2 := okTs_le (d + 1) kids (i + 1) this.2
    rw [okTs_take _ _ _ _ ht, Bool.and_eq_true] at h2
    exact h2.2
  have kidx : ∀ (i : Nat) (t : Tx), kids[i]? = some t → ∃ cs, ExAt w D cs t := by
   intro i t ht
   obtain ⟨h1, _, _, h4⟩ := HR.out
   have hi := (List.getElem?_eq_some_iff.1 ht).1
   obtain ⟨b, off, _, hbl, hc⟩ := h4.resolve_left (by omega)
   obtain ⟨cs, hRR, _⟩ := hc i t ht
   exact ⟨cs, hRR⟩
  have hkid0 : 0 < len → ∃ t, kids[0]? = some t ∧ evalV (R.map (·.l)) t = xa := by
   intro h
   have := HR.out.1
   cases kids with
   | nil => simp at this; omega
   | cons t ts => exact ⟨t, rfl, by rw [hxa]; rfl⟩
  have hkid1 : 1 < len → ∃ t, kids[1]? = some t ∧ evalV (R.map (·.l)) t = xb := by
   intro h
   have := HR.out.1
   cases kids with
   | nil => simp at this; omega
   | cons t ts => cases ts with
    | nil => simp at this; omega
    | cons t2 ts => exact ⟨t2, rfl, by rw [hxb]; rfl⟩
  have hno0 : len = 0 → xa = (Val.null, 0) := by
   intro h
   have := HR.out.1
   cases kids with
   | nil => rw [hxa]; rfl
   | cons t ts => simp at this; omega
  have hno1 : len ≤ 1 → xb = (Val.null, 0) := by
   intro h
   have := HR.out.1
   cases kids with
   | nil => rw [hxb]; rfl
   | cons t ts => cases ts with
    | nil => rw [hxb]; rfl
    | cons t2 ts => simp at this; omega
  have hrw : rowsWf (R.map (·.l)) := HRW.out.rowsWf
  have hxw : xa.1.wf := by
   by_cases h : 0 < len
   ·obtain ⟨t, ht, e⟩ := hkid0 h
    obtain ⟨cs, hx⟩ := kidx 0 t ht
    rw [← e]; exact evalV_wf hrw D cs t hx
   ·rw [hno0 (by omega)]; exact null_wf
  have hyw : xb.1.wf := by
   by_cases h : 1 < len
   ·obtain ⟨t, ht, e⟩ := hkid1 h
    obtain ⟨cs, hx⟩ := kidx 1 t ht
    rw [← e]; exact evalV_wf hrw D cs t hx
   ·rw [hno1 (by omega)]; exact null_wf
  have HXW := hdq hxw
  have HYW := hdq hyw
  clear hxa hxb hrw hxw hyw kidx
  obtain ⟨⟨xk, xn, xf, xs⟩, xe⟩ := xa
  obtain ⟨⟨yk, yn, yf, ys⟩, ye⟩ := xb
  have HRES := hdq hres
  have HK0 := hdq hkid0
  have HK1 := hdq hkid1
  have HN0 := hdq hno0
  have HN1 := hdq hno1
  have KID := hdq kid
  clear hres hkid0 hkid1 hno0 hno1 kid
  simp only
  go_enter Tryz.func63, Tryz.ntmps63
  go_upto_if 16 with fail
  go_cut [9] from 13 to 27 (fun s W => s = .int .i64 0 ∧ xe = 0 ∧ ∃ x' : Val, Alike ⟨xk, xn, xf, xs⟩ x' ∧ x'.wf ∧ RSt w kind rel col ck ci cf ct a len cap x' Val.null W)
  case first =>
   by_cases h0 : 0 < len
   ·obtain ⟨t, ht, he⟩ := HK0.out h0
    obtain ⟨b, off, rfl, k0, k1, k2, k3, k4, k5, k6, ka, kl, kc, hcells, hcall⟩ := KID.out 0 t ht
    rw [he] at hcall
    obtain ⟨d0, d1, d2, d3, d4, d5, d6, d7⟩ := hcells _ HX.out.below
    simp only [Nat.zero_mul, Nat.add_zero] at d0 d1 d2 d3 d4 d5 d6 d7
    have h0' : (0 : Int) < (len : Int) := by omega
    have HCALL := hdq hcall
    clear hcells hcall he ht
    by_cases hxe : xe = 0
    ·subst hxe
     go_wp2_with (go_at_call 63; refine (HCALL.out _ HX.out.below).mono ?_; unfold Val.agg; rintro e w1 ⟨⟨v, rfl, hal, hvw⟩, hb1⟩; have HAL := hdq (And.intro hal hvw); have HX1 := hdq (HX.out.next hb1); obtain ⟨⟨q1, q2, q3, q4⟩, f1, f2, f3, f4⟩ := HX1.out.la; simp only [Nat.zero_add] at q1 q2 q3 q4 f1 f2 f3 f4; clear hb1 hal hvw)
     go_meet
     exact ⟨rfl, trivial, _, HAL.out.1, HAL.out.2, HX1.out.seta _⟩
    ·have hxe' : (xe == 0) = false := by simp; exact hxe
     go_wp2_with (go_at_call 63; refine (HCALL.out _ HX.out.below).mono ?_; unfold Val.agg; rintro e w1 ⟨⟨v, rfl, hal, hvw⟩, hb1⟩; have HX1 := hdq (HX.out.next hb1); have HX2 := hdq (HX1.out.seta v); obtain ⟨⟨q1, q2, q3, q4⟩, f1, f2, f3, f4⟩ := HX1.out.la; obtain ⟨⟨r1, r2, r3, r4⟩, g1, g2, g3, g4⟩ := HX1.out.lr; obtain ⟨⟨o1, o2, o3, o4⟩, _⟩ := HX1.out.ln; simp only [Nat.zero_add] at q1 q2 q3 q4 f1 f2 f3 f4 r1 r2 r3 r4 g1 g2 g3 g4 o1 o2 o3 o4; clear hb1 hal hvw)
     exact ret_val2 Tryz.results63 rfl rfl rfl (HX2.out.setr Val.null).1 ⟨⟨Val.null, by rw [HRES.out, if_pos hxe]; rfl, by rw [HRES.out, if_pos hxe]; exact Alike.refl _, null_wf⟩, (HX2.out.setr Val.null).2⟩
   ·obtain rfl : len = 0 := by omega
    have := HN0.out rfl
    cases this
    go_wp2
    go_meet
    exact ⟨rfl, trivial, _, Alike.refl _, null_wf, HX.out⟩
  case rest =>
   obtain ⟨rfl, rfl, x', hal, hxw', hcut⟩ := hcut
   obtain ⟨xk', xn', xf', xs'⟩ := x'
   have HALX := hdq (And.intro hal hxw')
   have HY := hdq hcut
   obtain ⟨x0, x1, x2, x3, x4, x5, x6, x7, _⟩ := hcut.box
   clear HX hcut hal hxw'
   go_upto_if 33 with fail
   go_cut [9] from 30 to 44 (fun s W => s = .int .i64 0 ∧ ye = 0 ∧ ∃ y' : Val, Alike ⟨yk, yn, yf, ys⟩ y' ∧ y'.wf ∧ RSt w kind rel col ck ci cf ct a len cap ⟨xk', xn', xf', xs'⟩ y' W)
   case first =>
    by_cases h0 : 1 < len
    ·obtain ⟨t, ht, he⟩ := HK1.out h0
     obtain ⟨b, off, rfl, k0, k1, k2, k3, k4, k5, k6, ka, kl, kc, hcells, hcall⟩ := KID.out 1 t ht
     rw [he] at hcall
     obtain ⟨d0, d1, d2, d3, d4, d5, d6, d7⟩ := hcells _ HY.out.below
     simp only [Nat.one_mul, Nat.add_assoc, Nat.reduceAdd] at d0 d1 d2 d3 d4 d5 d6 d7
     have h0' : (1 : Int) < (len : Int) := by omega
     have HCALL := hdq hcall
     clear hcells hcall he ht
     by_cases hye : ye = 0
     ·subst hye
      go_wp2_with (go_at_call 63; refine (HCALL.out _ HY.out.below).mono ?_; unfold Val.agg; rintro e w1 ⟨⟨v, rfl, hal, hvw⟩, hb1⟩; have HAL := hdq (And.intro hal hvw); have HX1 := hdq (HY.out.next hb1); obtain ⟨⟨q1, q2, q3, q4⟩, f1, f2, f3, f4⟩ := HX1.out.lb; simp only [Nat.zero_add] at q1 q2 q3 q4 f1 f2 f3 f4; clear hb1 hal hvw)
      go_meet
      exact ⟨rfl, trivial, _, HAL.out.1, HAL.out.2, HX1.out.setb _⟩
     ·have hye' : (ye == 0) = false := by simp; exact hye
      go_wp2_with (go_at_call 63; refine (HCALL.out _ HY.out.below).mono ?_; unfold Val.agg; rintro e w1 ⟨⟨v, rfl, hal, hvw⟩, hb1⟩; have HX1 := hdq (HY.out.next hb1); have HX2 := hdq (HX1.out.setb v); obtain ⟨⟨q1, q2, q3, q4⟩, f1, f2, f3, f4⟩ := HX1.out.lb; obtain ⟨⟨r1, r2, r3, r4⟩, g1, g2, g3, g4⟩ := HX1.out.lr; obtain ⟨⟨o1, o2, o3, o4⟩, _⟩ := HX1.out.ln; simp only [Nat.zero_add] at q1 q2 q3 q4 f1 f2 f3 f4 r1 r2 r3 r4 g1 g2 g3 g4 o1 o2 o3 o4; clear hb1 hal hvw)
      exact ret_val2 Tryz.results63 rfl rfl rfl (HX2.out.setr Val.null).1 ⟨⟨Val.null, by rw [HRES.out, if_neg (by simp), if_pos hye]; rfl, by rw [HRES.out, if_neg (by simp), if_pos hye]; exact Alike.refl _, null_wf⟩, (HX2.out.setr Val.null).2⟩
    ·have := HN1.out (by omega)
     cases this
     have h0' : ¬ (1 : Int) < (len : Int) := by omega
     go_wp2
     go_meet
     exact ⟨rfl, trivial, _, Alike.refl _, null_wf, HY.out⟩
   case rest =>
    obtain ⟨rfl, rfl, y', hal, hyw', hcut⟩ := hcut
    obtain ⟨yk', yn', yf', ys'⟩ := y'
    have HALY := hdq (And.intro hal hyw')
    have HZ := hdq hcut
    clear HY x0 x1 x2 x3 x4 x5 x6 x7 hal hyw'
    obtain ⟨x0, x1, x2, x3, x4, x5, x6, x7, _⟩ := hcut.box
    obtain ⟨⟨a0, a1, a2, a3⟩, _⟩ := hcut.la
    obtain ⟨⟨b0, b1, b2, b3⟩, _⟩ := hcut.lb
    obtain ⟨⟨r0, r1, r2, r3⟩, s0, s1, s2, s3⟩ := hcut.lr
    simp only [Nat.zero_add] at a0 a1 a2 a3 b0 b1 b2 b3 r0 r1 r2 r3 s0 s1 s2 s3
    clear hcut KID HK0 HK1 HN0 HN1 ih
    have hres := HRES.out
    rw [if_neg (by simp), if_neg (by simp)] at hres
    have hok := HOK.out
    simp only [okT, Bool.and_eq_true, decide_eq_true_eq] at hok
    obtain ⟨⟨⟨_, hkk⟩, hff⟩, _⟩ := hok
    have hrange : 1 ≤ kind ∧ kind ≤ 13 := by
     unfold kidsK at hkk
     by_cases h : 1 ≤ kind ∧ kind ≤ 13
     ·exact h
     ·rw [if_neg (by omega), if_neg (by omega), if_neg (by omega)] at hkk; omega
    clear hkk hff HRES
    have HEX : Hid (∀ op, calcV op ⟨xk, xn, xf, xs⟩ ⟨yk, yn, yf, ys⟩ = calcV op ⟨xk', xn', xf', xs'⟩ ⟨yk', yn', yf', ys'⟩) := hdq (fun op => calc_alike op HXW.out HYW.out HALX.out.2 HALY.out.2 HALX.out.1 HALY.out.1)
    have HET : Hid (∀ op, testV op ⟨xk, xn, xf, xs⟩ ⟨yk, yn, yf, ys⟩ = testV op ⟨xk', xn', xf', xs'⟩ ⟨yk', yn', yf', ys'⟩) := hdq (fun op => test_alike op HXW.out HYW.out HALX.out.2 HALY.out.2 HALX.out.1 HALY.out.1)
    have HEB : Hid (∀ op, bothV op ⟨xk, xn, xf, xs⟩ ⟨yk, yn, yf, ys⟩ = bothV op ⟨xk', xn', xf', xs'⟩ ⟨yk', yn', yf', ys'⟩) := hdq (fun op => both_alike op HALX.out.1 HALY.out.1)
    obtain ⟨p, hp⟩ : ∃ x, x = opV (R.map (·.l)) kind rel col ⟨ck, ci, cf, ct⟩ ⟨xk, xn, xf, xs⟩ ⟨yk, yn, yf, ys⟩ := ⟨_, rfl⟩
    simp only at hres
    rw [← hp] at hres
    have HRES := hdq hres
    clear hres
    unfold opV at hp
    have HCW := hdq hcw
    rcases (show kind = 1 ∨ kind = 2 ∨ (3 ≤ kind ∧ kind ≤ 6) ∨ (7 ≤ kind ∧ kind ≤ 9) ∨ (10 ≤ kind ∧ kind ≤ 12) ∨ kind = 13 by omega) with rfl | rfl | hk | hk | hk | rfl
    ·exact absurd rfl hk1
    ·rw [if_neg (by omega), if_pos rfl] at hp
     subst hp
     clear hrange
     go_wp2
     exact ret_val2 Tryz.results63 rfl rfl rfl (HZ.out.setr ⟨ck, ci, cf, ct⟩).1 ⟨⟨_, by rw [HRES.out]; rfl, by rw [HRES.out]; exact Alike.refl _, HCW.out⟩, (HZ.out.setr ⟨ck, ci, cf, ct⟩).2⟩
    ·rw [if_neg (by omega), if_neg (by omega), if_pos hk] at hp
     rw [HEX.out] at hp
     have HP := hdq hp
     clear hp hrange
     rcases (show kind = 3 ∨ kind = 4 ∨ kind = 5 ∨ kind = 6 by omega) with rfl | rfl | rfl | rfl
     all_goals
      clear hk
      go_wp2_with (go_at_call 92; refine (RCalc_any _ ⟨xk', xn', xf', xs'⟩ ⟨yk', yn', yf', ys'⟩ HALX.out.2 HALY.out.2 _).mono ?_; rw [← HP.out]; unfold Val.agg; rintro e w1 ⟨⟨v, rfl, hal, hvw⟩, hb1⟩; have HAL := hdq (And.intro hal hvw); have HZ1 := hdq (HZ.out.next hb1); obtain ⟨⟨q1, q2, q3, q4⟩, f1, f2, f3, f4⟩ := HZ1.out.lr; simp only [Nat.zero_add] at q1 q2 q3 q4 f1 f2 f3 f4; clear hb1 hal hvw)
      exact ret_val2 Tryz.results63 rfl rfl rfl (HZ1.out.setr _).1 ⟨⟨_, by rw [HRES.out]; rfl, by rw [HRES.out]; exact HAL.out.1, HAL.out.2⟩, (HZ1.out.setr _).2⟩
    ·rw [if_neg (by omega), if_neg (by omega), if_neg (by omega), if_pos hk] at hp
     rw [HET.out] at hp
     have HP := hdq hp
     clear hp hrange
     rcases (show kind = 7 ∨ kind = 8 ∨ kind = 9 by omega) with rfl | rfl | rfl
     all_goals
      clear hk
      obtain ⟨⟨pk, pn, pf, ps⟩, pe⟩ := p
      have HPW : Hid (Val.wf ⟨pk, pn, pf, ps⟩) := hdq (by have := HP.out; rw [show (⟨pk, pn, pf, ps⟩ : Val) = ((⟨pk, pn, pf, ps⟩, pe) : Val × Int).1 from rfl, this]; exact testV_wf _ _ _)
      go_wp2_with (go_at_call 93; refine (RTest_any _ ⟨xk', xn', xf', xs'⟩ ⟨yk', yn', yf', ys'⟩ HALX.out.2 HALY.out.2 _).mono ?_; rw [← HP.out]; unfold Val.agg; rintro e w1 ⟨rfl, hb1⟩; have HZ1 := hdq (HZ.out.next hb1); obtain ⟨⟨q1, q2, q3, q4⟩, f1, f2, f3, f4⟩ := HZ1.out.lr; simp only [Nat.zero_add] at q1 q2 q3 q4 f1 f2 f3 f4; clear hb1)
      exact ret_val2 Tryz.results63 rfl rfl rfl (HZ1.out.setr ⟨pk, pn, pf, ps⟩).1 ⟨⟨_, by rw [HRES.out]; rfl, by rw [HRES.out]; exact Alike.refl _, HPW.out⟩, (HZ1.out.setr ⟨pk, pn, pf, ps⟩).2⟩
    ·rw [if_neg (by omega), if_neg (by omega), if_neg (by omega), if_neg (by omega), if_pos hk] at hp
     rw [HEB.out] at hp
     have HP := hdq hp
     clear hp hrange
     rcases (show kind = 10 ∨ kind = 11 ∨ kind = 12 by omega) with rfl | rfl | rfl
     all_goals
      clear hk
      obtain ⟨⟨pk, pn, pf, ps⟩, pe⟩ := p
      have HPW : Hid (Val.wf ⟨pk, pn, pf, ps⟩) := hdq (by have := HP.out; rw [show (⟨pk, pn, pf, ps⟩ : Val) = ((⟨pk, pn, pf, ps⟩, pe) : Val × Int).1 from rfl, this]; exact bothV_wf _ _ _)
      go_wp2_with (go_at_call 94; refine (RBoth_any _ ⟨xk', xn', xf', xs'⟩ ⟨yk', yn', yf', ys'⟩ HALX.out.2 HALY.out.2 _).mono ?_; rw [← HP.out]; unfold Val.agg; rintro e w1 ⟨rfl, hb1⟩; have HZ1 := hdq (HZ.out.next hb1); obtain ⟨⟨q1, q2, q3, q4⟩, f1, f2, f3, f4⟩ := HZ1.out.lr; simp only [Nat.zero_add] at q1 q2 q3 q4 f1 f2 f3 f4; clear hb1)
      exact ret_val2 Tryz.results63 rfl rfl rfl (HZ1.out.setr ⟨pk, pn, pf, ps⟩).1 ⟨⟨_, by rw [HRES.out]; rfl, by rw [HRES.out]; exact Alike.refl _, HPW.out⟩, (HZ1.out.setr ⟨pk, pn, pf, ps⟩).2⟩
    ·rw [if_neg (by omega), if_neg (by omega), if_neg (by omega), if_neg (by omega), if_neg (by omega)] at hp
     obtain rfl : xk = xk' := HALX.out.1.1
     unfold truthV at hp
     subst hp
     clear hrange
     go_wp2_with (go_at_call 95; refine (RBool_exp _ _).mono ?_; rintro e w1 ⟨rfl, hb1⟩; have HZ1 := hdq (HZ.out.next hb1); obtain ⟨⟨q1, q2, q3, q4⟩, f1, f2, f3, f4⟩ := HZ1.out.lr; simp only [Nat.zero_add] at q1 q2 q3 q4 f1 f2 f3 f4; clear hb1)
     exact ret_val2 Tryz.results63 rfl rfl rfl (HZ1.out.setr ⟨1, tI (decide (xk = 0)), 0, ⟨#[]⟩⟩).1 ⟨⟨_, by rw [HRES.out]; rfl, by rw [HRES.out]; exact Alike.refl _, truthV_wf _⟩, (HZ1.out.setr ⟨1, tI (decide (xk = 0)), 0, ⟨#[]⟩⟩).2⟩
end Go.Proofs.YtgmolmpfihkolaaGreat
