/- Part of the proof. -/
import Derived.Test.YtgmolmpfihkolaaGreatM08
namespace Go.Proofs.YtgmolmpfihkolaaGreat
open Go.RowKit
set_option linter.unusedVariables false
set_option maxRecDepth 100000
attribute [local go_sem] run_store_float run_neg_float
theorem rplain_alike (f : Nat) : Alike (plainV ⟨3, 0, f, ⟨#[]⟩⟩) (rplainV ⟨3, 0, f, ⟨#[]⟩⟩) := by
 rw [(plain_flt _ (right_fl f) rfl).1, (plain_flt _ (right_fl f) rfl).2]
 exact ⟨rfl, rfl, rfl, (bits_alike f).1, (bits_alike f).2⟩
theorem rplainV_wf (v : Val) (h : v.wf) : (rplainV v).wf := by
 unfold rplainV
 split
 ·split
  ·split
   ·exact ⟨by show (Lit.int .i64 3).wf = true; decide, by show (Lit.int .i64 0).wf = true; decide, by show 0 < 2 ^ 64; decide, Nat.zero_le _⟩
   ·exact h
  ·exact h
 ·exact null_wf
theorem num_fl (k n : Int) (f : Nat) (s : ByteArray) (h : numV ⟨k, n, f, s⟩ = true) (hk : k = 3) : n = 0 := by
 unfold numV rightV at h
 simp only [Bool.or_eq_true, Bool.and_eq_true, beq_iff_eq] at h
 omega
set_option maxHeartbeats 4000000 in
theorem RCalc_early (op : Int) (a b : Val) (ha : a.wf) (hb : b.wf) (h3 : 3 ≤ op) (h6 : op < 6) (hearly : numV a = false ∨ numV b = false ∨ a.kind = 0 ∨ b.kind = 0 ∨ a.kind ≠ b.kind) (w : World) : Calls Tryz.prog 92 #[.int .i64 op, a.agg, b.agg] w
 fun e w' => (∃ v, e = .returned (.tuple #[v.agg, .int .i64 (calcV op a b).2]) ∧ Alike (calcV op a b).1 v ∧ v.wf) ∧ Below w.heap.size w w' := by
 have HT := hdq (FourB.start w a b Val.null Val.null 39 39 39 39)
 have hka := numV_kind a
 have hkb := numV_kind b
 obtain ⟨r, hr⟩ : ∃ r, r = calcV op a b := ⟨_, rfl⟩
 rw [← hr]
 have hn6 : ¬ op = 6 := by omega
 unfold calcV calcC at hr
 rw [if_neg (by omega), if_neg hn6] at hr
 obtain ⟨k, n, f, s⟩ := a
 obtain ⟨k', n', f', s'⟩ := b
 unfold Val.agg Val.null at *
 simp only at *
 obtain ⟨qa, hqa⟩ : ∃ q, q = numV ⟨k, n, f, s⟩ := ⟨_, rfl⟩
 obtain ⟨qb, hqb⟩ : ∃ q, q = numV ⟨k', n', f', s'⟩ := ⟨_, rfl⟩
 rw [← hqa] at hr hka hearly
 rw [← hqb] at hr hkb hearly
 have HN := hdq hqa.symm
 have HQ := hdq hqb.symm
 have z3 : ¬ op < 3 := by omega
 have z6 : ¬ 6 < op := by omega
 have z66 : (op == 6) = false := by simp; exact hn6
 clear hqa hqb h3 h6
 cases qa with
 | false =>
  rw [if_neg (by simp)] at hr
  subst hr
  clear hka hkb hearly
  go_enter Tryz.func92, Tryz.ntmps92
  go_wp2_with (first | (go_at_call 122; refine (rnumber_exp _ _ _ _ (by assumption) _).mono ?_; (try rw [HN.out]); (try rw [HQ.out]); rintro e wx ⟨rfl, hbx⟩; (first | (have HT2 := hdq (HT1.out.later hbx); obtain ⟨⟨⟨⟨⟨l1, l2, l3, l4⟩, _⟩, ⟨⟨m1, m2, m3, m4⟩, _⟩, _⟩, ⟨⟨r1, r2, r3, r4⟩, g1, g2, g3, g4⟩, _⟩, ⟨⟨o1, o2, o3, o4⟩, _⟩, hsx⟩ := HT2.out; simp only [Nat.zero_add] at l1 l2 l3 l4 m1 m2 m3 m4 r1 r2 r3 r4 g1 g2 g3 g4 o1 o2 o3 o4; have hwx0 := HT2.out.lt0; have hwx1 := HT2.out.lt1; have hne0 := Nat.ne_of_lt hwx0; have hne1 := Nat.ne_of_lt hwx1) | (have HT1 := hdq (HT.out.later hbx); obtain ⟨⟨⟨⟨⟨l1, l2, l3, l4⟩, _⟩, ⟨⟨m1, m2, m3, m4⟩, _⟩, _⟩, ⟨⟨r1, r2, r3, r4⟩, g1, g2, g3, g4⟩, _⟩, ⟨⟨o1, o2, o3, o4⟩, _⟩, hsx⟩ := HT1.out; simp only [Nat.zero_add] at l1 l2 l3 l4 m1 m2 m3 m4 r1 r2 r3 r4 g1 g2 g3 g4 o1 o2 o3 o4)); clear hbx))
  exact ret_val2 Tryz.results92 rfl rfl rfl (HT1.out.1.2.1.stored ⟨0, 0, 0, ⟨#[]⟩⟩) ⟨⟨⟨0, 0, 0, ⟨#[]⟩⟩, rfl, Alike.refl _, null_wf⟩, below_val HT1.out.below (by omega) _ _ _ _⟩
 | true =>
  cases qb with
  | false =>
   rw [if_neg (by simp)] at hr
   subst hr
   clear hka hkb hearly
   go_enter Tryz.func92, Tryz.ntmps92
   go_wp2_with (first | (go_at_call 122; refine (rnumber_exp _ _ _ _ (by assumption) _).mono ?_; (try rw [HN.out]); (try rw [HQ.out]); rintro e wx ⟨rfl, hbx⟩; (first | (have HT2 := hdq (HT1.out.later hbx); obtain ⟨⟨⟨⟨⟨l1, l2, l3, l4⟩, _⟩, ⟨⟨m1, m2, m3, m4⟩, _⟩, _⟩, ⟨⟨r1, r2, r3, r4⟩, g1, g2, g3, g4⟩, _⟩, ⟨⟨o1, o2, o3, o4⟩, _⟩, hsx⟩ := HT2.out; simp only [Nat.zero_add] at l1 l2 l3 l4 m1 m2 m3 m4 r1 r2 r3 r4 g1 g2 g3 g4 o1 o2 o3 o4; have hwx0 := HT2.out.lt0; have hwx1 := HT2.out.lt1; have hne0 := Nat.ne_of_lt hwx0; have hne1 := Nat.ne_of_lt hwx1) | (have HT1 := hdq (HT.out.later hbx); obtain ⟨⟨⟨⟨⟨l1, l2, l3, l4⟩, _⟩, ⟨⟨m1, m2, m3, m4⟩, _⟩, _⟩, ⟨⟨r1, r2, r3, r4⟩, g1, g2, g3, g4⟩, _⟩, ⟨⟨o1, o2, o3, o4⟩, _⟩, hsx⟩ := HT1.out; simp only [Nat.zero_add] at l1 l2 l3 l4 m1 m2 m3 m4 r1 r2 r3 r4 g1 g2 g3 g4 o1 o2 o3 o4)); clear hbx))
   exact ret_val2 Tryz.results92 rfl rfl rfl (HT2.out.1.2.1.stored ⟨0, 0, 0, ⟨#[]⟩⟩) ⟨⟨⟨0, 0, 0, ⟨#[]⟩⟩, rfl, Alike.refl _, null_wf⟩, below_val HT2.out.below (by omega) _ _ _ _⟩
  | true =>
   rw [Bool.true_and, if_pos rfl] at hr
   have hka := hka rfl
   have hkb := hkb rfl
   by_cases h0 : k = 0
   ·subst h0
    rw [if_pos (.inl rfl)] at hr
    subst hr
    clear hkb hearly
    go_enter Tryz.func92, Tryz.ntmps92
    go_wp2_with (first | (go_at_call 122; refine (rnumber_exp _ _ _ _ (by assumption) _).mono ?_; (try rw [HN.out]); (try rw [HQ.out]); rintro e wx ⟨rfl, hbx⟩; (first | (have HT2 := hdq (HT1.out.later hbx); obtain ⟨⟨⟨⟨⟨l1, l2, l3, l4⟩, _⟩, ⟨⟨m1, m2, m3, m4⟩, _⟩, _⟩, ⟨⟨r1, r2, r3, r4⟩, g1, g2, g3, g4⟩, _⟩, ⟨⟨o1, o2, o3, o4⟩, _⟩, hsx⟩ := HT2.out; simp only [Nat.zero_add] at l1 l2 l3 l4 m1 m2 m3 m4 r1 r2 r3 r4 g1 g2 g3 g4 o1 o2 o3 o4; have hwx0 := HT2.out.lt0; have hwx1 := HT2.out.lt1; have hne0 := Nat.ne_of_lt hwx0; have hne1 := Nat.ne_of_lt hwx1) | (have HT1 := hdq (HT.out.later hbx); obtain ⟨⟨⟨⟨⟨l1, l2, l3, l4⟩, _⟩, ⟨⟨m1, m2, m3, m4⟩, _⟩, _⟩, ⟨⟨r1, r2, r3, r4⟩, g1, g2, g3, g4⟩, _⟩, ⟨⟨o1, o2, o3, o4⟩, _⟩, hsx⟩ := HT1.out; simp only [Nat.zero_add] at l1 l2 l3 l4 m1 m2 m3 m4 r1 r2 r3 r4 g1 g2 g3 g4 o1 o2 o3 o4)); clear hbx))
    exact ret_val2 Tryz.results92 rfl rfl rfl (HT2.out.1.2.1.stored ⟨0, 0, 0, ⟨#[]⟩⟩) ⟨⟨⟨0, 0, 0, ⟨#[]⟩⟩, rfl, Alike.refl _, null_wf⟩, below_val HT2.out.below (by omega) _ _ _ _⟩
   ·have e0 : (k == 0) = false := by simp; exact h0
    have e1 : (k != 0) = true := by simp; exact h0
    by_cases h0' : k' = 0
    ·subst h0'
     rw [if_pos (.inr rfl)] at hr
     subst hr
     clear hka hkb hearly
     go_enter Tryz.func92, Tryz.ntmps92
     go_wp2_with (first | (go_at_call 122; refine (rnumber_exp _ _ _ _ (by assumption) _).mono ?_; (try rw [HN.out]); (try rw [HQ.out]); rintro e wx ⟨rfl, hbx⟩; (first | (have HT2 := hdq (HT1.out.later hbx); obtain ⟨⟨⟨⟨⟨l1, l2, l3, l4⟩, _⟩, ⟨⟨m1, m2, m3, m4⟩, _⟩, _⟩, ⟨⟨r1, r2, r3, r4⟩, g1, g2, g3, g4⟩, _⟩, ⟨⟨o1, o2, o3, o4⟩, _⟩, hsx⟩ := HT2.out; simp only [Nat.zero_add] at l1 l2 l3 l4 m1 m2 m3 m4 r1 r2 r3 r4 g1 g2 g3 g4 o1 o2 o3 o4; have hwx0 := HT2.out.lt0; have hwx1 := HT2.out.lt1; have hne0 := Nat.ne_of_lt hwx0; have hne1 := Nat.ne_of_lt hwx1) | (have HT1 := hdq (HT.out.later hbx); obtain ⟨⟨⟨⟨⟨l1, l2, l3, l4⟩, _⟩, ⟨⟨m1, m2, m3, m4⟩, _⟩, _⟩, ⟨⟨r1, r2, r3, r4⟩, g1, g2, g3, g4⟩, _⟩, ⟨⟨o1, o2, o3, o4⟩, _⟩, hsx⟩ := HT1.out; simp only [Nat.zero_add] at l1 l2 l3 l4 m1 m2 m3 m4 r1 r2 r3 r4 g1 g2 g3 g4 o1 o2 o3 o4)); clear hbx))
     exact ret_val2 Tryz.results92 rfl rfl rfl (HT2.out.1.2.1.stored ⟨0, 0, 0, ⟨#[]⟩⟩) ⟨⟨⟨0, 0, 0, ⟨#[]⟩⟩, rfl, Alike.refl _, null_wf⟩, below_val HT2.out.below (by omega) _ _ _ _⟩
    ·have e0' : (k' == 0) = false := by simp; exact h0'
     have e1' : (k' != 0) = true := by simp; exact h0'
     rw [if_neg (by omega)] at hr
     have hkk : k ≠ k' := by
      rcases hearly with h | h | h | h | h
      ·cases h
      ·cases h
      ·exact absurd h h0
      ·exact absurd h h0'
      ·exact h
     rw [if_pos hkk] at hr
     have ekk : (k == k') = false := by simp; exact hkk
     have ekk2 : (k != k') = true := by simp; exact hkk
     subst hr
     clear hka hkb hearly
     go_enter Tryz.func92, Tryz.ntmps92
     go_wp2_with (first | (go_at_call 122; refine (rnumber_exp _ _ _ _ (by assumption) _).mono ?_; (try rw [HN.out]); (try rw [HQ.out]); rintro e wx ⟨rfl, hbx⟩; (first | (have HT2 := hdq (HT1.out.later hbx); obtain ⟨⟨⟨⟨⟨l1, l2, l3, l4⟩, _⟩, ⟨⟨m1, m2, m3, m4⟩, _⟩, _⟩, ⟨⟨r1, r2, r3, r4⟩, g1, g2, g3, g4⟩, _⟩, ⟨⟨o1, o2, o3, o4⟩, _⟩, hsx⟩ := HT2.out; simp only [Nat.zero_add] at l1 l2 l3 l4 m1 m2 m3 m4 r1 r2 r3 r4 g1 g2 g3 g4 o1 o2 o3 o4; have hwx0 := HT2.out.lt0; have hwx1 := HT2.out.lt1; have hne0 := Nat.ne_of_lt hwx0; have hne1 := Nat.ne_of_lt hwx1) | (have HT1 := hdq (HT.out.later hbx); obtain ⟨⟨⟨⟨⟨l1, l2, l3, l4⟩, _⟩, ⟨⟨m1, m2, m3, m4⟩, _⟩, _⟩, ⟨⟨r1, r2, r3, r4⟩, g1, g2, g3, g4⟩, _⟩, ⟨⟨o1, o2, o3, o4⟩, _⟩, hsx⟩ := HT1.out; simp only [Nat.zero_add] at l1 l2 l3 l4 m1 m2 m3 m4 r1 r2 r3 r4 g1 g2 g3 g4 o1 o2 o3 o4)); clear hbx))
     exact ret_val2 Tryz.results92 rfl rfl rfl (HT2.out.1.2.1.stored ⟨0, 0, 0, ⟨#[]⟩⟩) ⟨⟨⟨0, 0, 0, ⟨#[]⟩⟩, rfl, Alike.refl _, null_wf⟩, below_val HT2.out.below (by omega) _ _ _ _⟩
theorem sub_zero0 (t : TypeId) (w : World) : (binOp .sub t (.float .f64 0) (.float .f64 0)).run Tryz.prog w = .ok (.float .f64 0) w := run_float_arith w .sub t .f64 _ _ _ (by kernel_rfl)
theorem mul_zero0 (t : TypeId) (w : World) : (binOp .mul t (.float .f64 0) (.float .f64 0)).run Tryz.prog w = .ok (.float .f64 0) w := run_float_arith w .mul t .f64 _ _ _ (by kernel_rfl)
attribute [local go_sem] add_zero0 sub_zero0 mul_zero0
set_option maxHeartbeats 4000000 in
theorem RCalc_two_3 (a b : Val) (ha : a.wf) (hb : b.wf) (na : numV a = true) (ka : a.kind = 2) (nb : numV b = true) (kb : b.kind = 2) (w : World) : Calls Tryz.prog 92 #[.int .i64 3, a.agg, b.agg] w
 fun e w' => (∃ v, e = .returned (.tuple #[v.agg, .int .i64 (calcV 3 a b).2]) ∧ Alike (calcV 3 a b).1 v ∧ v.wf) ∧ Below w.heap.size w w' := by
 have HT := hdq (FourB.start w a b Val.null Val.null 39 39 39 39)
 have hr : calcV 3 a b = (Val.num (wholeK 3 a.int b.int), 0) := by
  unfold calcV
  rw [if_neg (show ¬ (3 : Int) = 6 by omega)]
  unfold calcC
  rw [if_neg (by omega)]
  simp [na, nb, ka, kb]
 rw [hr]
 clear hr
 have hfa := num_flt a na ka
 have hfb := num_flt b nb kb
 obtain ⟨k, n, f, s⟩ := a
 obtain ⟨k', n', f', s'⟩ := b
 unfold Val.agg Val.null Val.num at *
 simp only at *
 have HN := hdq na
 have HQ := hdq nb
 subst ka hfa
 subst kb hfb
 clear na nb
 have HPW : Hid (Val.wf ⟨2, wrap64 (n + n'), 0, ⟨#[]⟩⟩) := hdq (num_wf (wrap_wf _))
 have HPL := hdq (rplain_num (wrap64 (n + n')))
 go_enter Tryz.func92, Tryz.ntmps92
 go_wp2_with (first | (go_at_call 122; refine (rnumber_exp _ _ _ _ (by assumption) _).mono ?_; (try rw [HN.out]); (try rw [HQ.out]); rintro e wx ⟨rfl, hbx⟩; (first | (have HT2 := hdq (HT1.out.later hbx); obtain ⟨⟨⟨⟨⟨l1, l2, l3, l4⟩, _⟩, ⟨⟨m1, m2, m3, m4⟩, _⟩, _⟩, ⟨⟨r1, r2, r3, r4⟩, g1, g2, g3, g4⟩, _⟩, ⟨⟨o1, o2, o3, o4⟩, _⟩, hsx⟩ := HT2.out; simp only [Nat.zero_add] at l1 l2 l3 l4 m1 m2 m3 m4 r1 r2 r3 r4 g1 g2 g3 g4 o1 o2 o3 o4; have hwx0 := HT2.out.lt0; have hwx1 := HT2.out.lt1; have hne0 := Nat.ne_of_lt hwx0; have hne1 := Nat.ne_of_lt hwx1) | (have HT1 := hdq (HT.out.later hbx); obtain ⟨⟨⟨⟨⟨l1, l2, l3, l4⟩, _⟩, ⟨⟨m1, m2, m3, m4⟩, _⟩, _⟩, ⟨⟨r1, r2, r3, r4⟩, g1, g2, g3, g4⟩, _⟩, ⟨⟨o1, o2, o3, o4⟩, _⟩, hsx⟩ := HT1.out; simp only [Nat.zero_add] at l1 l2 l3 l4 m1 m2 m3 m4 r1 r2 r3 r4 g1 g2 g3 g4 o1 o2 o3 o4)); clear hbx) | (go_at_call 37; refine (RPlain_exp _ _ _ _ HPW.out _).mono ?_; rw [HPL.out]; rintro e wy ⟨rfl, hby⟩; have HT3 := hdq ((HT2.out.later (((Below.refl _ _).alloc (Nat.le_refl _) _))).later hby); obtain ⟨⟨⟨⟨⟨l1, l2, l3, l4⟩, _⟩, ⟨⟨m1, m2, m3, m4⟩, _⟩, _⟩, ⟨⟨r1, r2, r3, r4⟩, g1, g2, g3, g4⟩, _⟩, ⟨⟨o1, o2, o3, o4⟩, _⟩, hsx⟩ := HT3.out; simp only [Nat.zero_add] at l1 l2 l3 l4 m1 m2 m3 m4 r1 r2 r3 r4 g1 g2 g3 g4 o1 o2 o3 o4; clear hby))
 exact ret_val2 Tryz.results92 rfl rfl rfl (HT3.out.1.2.1.stored ⟨2, wrap64 (n + n'), 0, ⟨#[]⟩⟩) ⟨⟨⟨2, wrap64 (n + n'), 0, ⟨#[]⟩⟩, rfl, Alike.refl _, HPW.out⟩, below_val HT3.out.below (by omega) _ _ _ _⟩
set_option maxHeartbeats 4000000 in
theorem RCalc_two_4 (a b : Val) (ha : a.wf) (hb : b.wf) (na : numV a = true) (ka : a.kind = 2) (nb : numV b = true) (kb : b.kind = 2) (w : World) : Calls Tryz.prog 92 #[.int .i64 4, a.agg, b.agg] w
 fun e w' => (∃ v, e = .returned (.tuple #[v.agg, .int .i64 (calcV 4 a b).2]) ∧ Alike (calcV 4 a b).1 v ∧ v.wf) ∧ Below w.heap.size w w' := by
 have HT := hdq (FourB.start w a b Val.null Val.null 39 39 39 39)
 have hr : calcV 4 a b = (Val.num (wholeK 4 a.int b.int), 0) := by
  unfold calcV
  rw [if_neg (show ¬ (4 : Int) = 6 by omega)]
  unfold calcC
  rw [if_neg (by omega)]
  simp [na, nb, ka, kb]
 rw [hr]
 clear hr
 have hfa := num_flt a na ka
 have hfb := num_flt b nb kb
 obtain ⟨k, n, f, s⟩ := a
 obtain ⟨k', n', f', s'⟩ := b
 unfold Val.agg Val.null Val.num at *
 simp only at *
 have HN := hdq na
 have HQ := hdq nb
 subst ka hfa
 subst kb hfb
 clear na nb
 have HPW : Hid (Val.wf ⟨2, wrap64 (n - n'), 0, ⟨#[]⟩⟩) := hdq (num_wf (wrap_wf _))
 have HPL := hdq (rplain_num (wrap64 (n - n')))
 go_enter Tryz.func92, Tryz.ntmps92
 go_wp2_with (first | (go_at_call 122; refine (rnumber_exp _ _ _ _ (by assumption) _).mono ?_; (try rw [HN.out]); (try rw [HQ.out]); rintro e wx ⟨rfl, hbx⟩; (first | (have HT2 := hdq (HT1.out.later hbx); obtain ⟨⟨⟨⟨⟨l1, l2, l3, l4⟩, _⟩, ⟨⟨m1, m2, m3, m4⟩, _⟩, _⟩, ⟨⟨r1, r2, r3, r4⟩, g1, g2, g3, g4⟩, _⟩, ⟨⟨o1, o2, o3, o4⟩, _⟩, hsx⟩ := HT2.out; simp only [Nat.zero_add] at l1 l2 l3 l4 m1 m2 m3 m4 r1 r2 r3 r4 g1 g2 g3 g4 o1 o2 o3 o4; have hwx0 := HT2.out.lt0; have hwx1 := HT2.out.lt1; have hne0 := Nat.ne_of_lt hwx0; have hne1 := Nat.ne_of_lt hwx1) | (have HT1 := hdq (HT.out.later hbx); obtain ⟨⟨⟨⟨⟨l1, l2, l3, l4⟩, _⟩, ⟨⟨m1, m2, m3, m4⟩, _⟩, _⟩, ⟨⟨r1, r2, r3, r4⟩, g1, g2, g3, g4⟩, _⟩, ⟨⟨o1, o2, o3, o4⟩, _⟩, hsx⟩ := HT1.out; simp only [Nat.zero_add] at l1 l2 l3 l4 m1 m2 m3 m4 r1 r2 r3 r4 g1 g2 g3 g4 o1 o2 o3 o4)); clear hbx) | (go_at_call 37; refine (RPlain_exp _ _ _ _ HPW.out _).mono ?_; rw [HPL.out]; rintro e wy ⟨rfl, hby⟩; have HT3 := hdq ((HT2.out.later (((Below.refl _ _).alloc (Nat.le_refl _) _))).later hby); obtain ⟨⟨⟨⟨⟨l1, l2, l3, l4⟩, _⟩, ⟨⟨m1, m2, m3, m4⟩, _⟩, _⟩, ⟨⟨r1, r2, r3, r4⟩, g1, g2, g3, g4⟩, _⟩, ⟨⟨o1, o2, o3, o4⟩, _⟩, hsx⟩ := HT3.out; simp only [Nat.zero_add] at l1 l2 l3 l4 m1 m2 m3 m4 r1 r2 r3 r4 g1 g2 g3 g4 o1 o2 o3 o4; clear hby))
 exact ret_val2 Tryz.results92 rfl rfl rfl (HT3.out.1.2.1.stored ⟨2, wrap64 (n - n'), 0, ⟨#[]⟩⟩) ⟨⟨⟨2, wrap64 (n - n'), 0, ⟨#[]⟩⟩, rfl, Alike.refl _, HPW.out⟩, below_val HT3.out.below (by omega) _ _ _ _⟩
set_option maxHeartbeats 4000000 in
theorem RCalc_two_5 (a b : Val) (ha : a.wf) (hb : b.wf) (na : numV a = true) (ka : a.kind = 2) (nb : numV b = true) (kb : b.kind = 2) (w : World) : Calls Tryz.prog 92 #[.int .i64 5, a.agg, b.agg] w
 fun e w' => (∃ v, e = .returned (.tuple #[v.agg, .int .i64 (calcV 5 a b).2]) ∧ Alike (calcV 5 a b).1 v ∧ v.wf) ∧ Below w.heap.size w w' := by
 have HT := hdq (FourB.start w a b Val.null Val.null 39 39 39 39)
 have hr : calcV 5 a b = (Val.num (wholeK 5 a.int b.int), 0) := by
  unfold calcV
  rw [if_neg (show ¬ (5 : Int) = 6 by omega)]
  unfold calcC
  rw [if_neg (by omega)]
  simp [na, nb, ka, kb]
 rw [hr]
 clear hr
 have hfa := num_flt a na ka
 have hfb := num_flt b nb kb
 obtain ⟨k, n, f, s⟩ := a
 obtain ⟨k', n', f', s'⟩ := b
 unfold Val.agg Val.null Val.num at *
 simp only at *
 have HN := hdq na
 have HQ := hdq nb
 subst ka hfa
 subst kb hfb
 clear na nb
 have HPW : Hid (Val.wf ⟨2, wrap64 (n * n'), 0, ⟨#[]⟩⟩) := hdq (num_wf (wrap_wf _))
 have HPL := hdq (rplain_num (wrap64 (n * n')))
 go_enter Tryz.func92, Tryz.ntmps92
 go_wp2_with (first | (go_at_call 122; refine (rnumber_exp _ _ _ _ (by assumption) _).mono ?_; (try rw [HN.out]); (try rw [HQ.out]); rintro e wx ⟨rfl, hbx⟩; (first | (have HT2 := hdq (HT1.out.later hbx); obtain ⟨⟨⟨⟨⟨l1, l2, l3, l4⟩, _⟩, ⟨⟨m1, m2, m3, m4⟩, _⟩, _⟩, ⟨⟨r1, r2, r3, r4⟩, g1, g2, g3, g4⟩, _⟩, ⟨⟨o1, o2, o3, o4⟩, _⟩, hsx⟩ := HT2.out; simp only [Nat.zero_add] at l1 l2 l3 l4 m1 m2 m3 m4 r1 r2 r3 r4 g1 g2 g3 g4 o1 o2 o3 o4; have hwx0 := HT2.out.lt0; have hwx1 := HT2.out.lt1; have hne0 := Nat.ne_of_lt hwx0; have hne1 := Nat.ne_of_lt hwx1) | (have HT1 := hdq (HT.out.later hbx); obtain ⟨⟨⟨⟨⟨l1, l2, l3, l4⟩, _⟩, ⟨⟨m1, m2, m3, m4⟩, _⟩, _⟩, ⟨⟨r1, r2, r3, r4⟩, g1, g2, g3, g4⟩, _⟩, ⟨⟨o1, o2, o3, o4⟩, _⟩, hsx⟩ := HT1.out; simp only [Nat.zero_add] at l1 l2 l3 l4 m1 m2 m3 m4 r1 r2 r3 r4 g1 g2 g3 g4 o1 o2 o3 o4)); clear hbx) | (go_at_call 37; refine (RPlain_exp _ _ _ _ HPW.out _).mono ?_; rw [HPL.out]; rintro e wy ⟨rfl, hby⟩; have HT3 := hdq ((HT2.out.later (((Below.refl _ _).alloc (Nat.le_refl _) _))).later hby); obtain ⟨⟨⟨⟨⟨l1, l2, l3, l4⟩, _⟩, ⟨⟨m1, m2, m3, m4⟩, _⟩, _⟩, ⟨⟨r1, r2, r3, r4⟩, g1, g2, g3, g4⟩, _⟩, ⟨⟨o1, o2, o3, o4⟩, _⟩, hsx⟩ := HT3.out; simp only [Nat.zero_add] at l1 l2 l3 l4 m1 m2 m3 m4 r1 r2 r3 r4 g1 g2 g3 g4 o1 o2 o3 o4; clear hby))
 exact ret_val2 Tryz.results92 rfl rfl rfl (HT3.out.1.2.1.stored ⟨2, wrap64 (n * n'), 0, ⟨#[]⟩⟩) ⟨⟨⟨2, wrap64 (n * n'), 0, ⟨#[]⟩⟩, rfl, Alike.refl _, HPW.out⟩, below_val HT3.out.below (by omega) _ _ _ _⟩
set_option maxHeartbeats 4000000 in
theorem RCalc_two_6 (a b : Val) (ha : a.wf) (na : numV a = true) (ka : a.kind = 2) (w : World) : Calls Tryz.prog 92 #[.int .i64 6, a.agg, b.agg] w
 fun e w' => (∃ v, e = .returned (.tuple #[v.agg, .int .i64 (calcV 6 a b).2]) ∧ Alike (calcV 6 a b).1 v ∧ v.wf) ∧ Below w.heap.size w w' := by
 have HT := hdq (FourB.start w a a Val.null Val.null 39 39 39 39)
 have hr : calcV 6 a b = (Val.num (wholeK 6 a.int a.int), 0) := by
  unfold calcV
  rw [if_pos rfl]
  unfold calcC
  rw [if_neg (by omega)]
  simp [na, ka]
 rw [hr]
 clear hr
 have hfa := num_flt a na ka
 obtain ⟨k, n, f, s⟩ := a
 obtain ⟨k', n', f', s'⟩ := b
 unfold Val.agg Val.null Val.num at *
 simp only at *
 have HN := hdq na
 have HQ := HN
 subst ka hfa
 clear na 
 have HPW : Hid (Val.wf ⟨2, wrap64 (-n), 0, ⟨#[]⟩⟩) := hdq (num_wf (wrap_wf _))
 have HPL := hdq (rplain_num (wrap64 (-n)))
 go_enter Tryz.func92, Tryz.ntmps92
 go_wp2_with (first | (go_at_call 122; refine (rnumber_exp _ _ _ _ (by assumption) _).mono ?_; (try rw [HN.out]); (try rw [HQ.out]); rintro e wx ⟨rfl, hbx⟩; (first | (have HT2 := hdq (HT1.out.later hbx); obtain ⟨⟨⟨⟨⟨l1, l2, l3, l4⟩, _⟩, ⟨⟨m1, m2, m3, m4⟩, _⟩, _⟩, ⟨⟨r1, r2, r3, r4⟩, g1, g2, g3, g4⟩, _⟩, ⟨⟨o1, o2, o3, o4⟩, _⟩, hsx⟩ := HT2.out; simp only [Nat.zero_add] at l1 l2 l3 l4 m1 m2 m3 m4 r1 r2 r3 r4 g1 g2 g3 g4 o1 o2 o3 o4; have hwx0 := HT2.out.lt0; have hwx1 := HT2.out.lt1; have hne0 := Nat.ne_of_lt hwx0; have hne1 := Nat.ne_of_lt hwx1) | (have HT1 := hdq (HT.out.later hbx); obtain ⟨⟨⟨⟨⟨l1, l2, l3, l4⟩, _⟩, ⟨⟨m1, m2, m3, m4⟩, _⟩, _⟩, ⟨⟨r1, r2, r3, r4⟩, g1, g2, g3, g4⟩, _⟩, ⟨⟨o1, o2, o3, o4⟩, _⟩, hsx⟩ := HT1.out; simp only [Nat.zero_add] at l1 l2 l3 l4 m1 m2 m3 m4 r1 r2 r3 r4 g1 g2 g3 g4 o1 o2 o3 o4)); clear hbx) | (go_at_call 37; refine (RPlain_exp _ _ _ _ HPW.out _).mono ?_; rw [HPL.out]; rintro e wy ⟨rfl, hby⟩; have HT3 := hdq ((HT2.out.later (((Below.refl _ _).alloc (Nat.le_refl _) _))).later hby); obtain ⟨⟨⟨⟨⟨l1, l2, l3, l4⟩, _⟩, ⟨⟨m1, m2, m3, m4⟩, _⟩, _⟩, ⟨⟨r1, r2, r3, r4⟩, g1, g2, g3, g4⟩, _⟩, ⟨⟨o1, o2, o3, o4⟩, _⟩, hsx⟩ := HT3.out; simp only [Nat.zero_add] at l1 l2 l3 l4 m1 m2 m3 m4 r1 r2 r3 r4 g1 g2 g3 g4 o1 o2 o3 o4; clear hby))
 exact ret_val2 Tryz.results92 rfl rfl rfl (HT3.out.1.2.1.stored ⟨2, wrap64 (-n), 0, ⟨#[]⟩⟩) ⟨⟨⟨2, wrap64 (-n), 0, ⟨#[]⟩⟩, rfl, Alike.refl _, HPW.out⟩, below_val HT3.out.below (by omega) _ _ _ _⟩
end Go.Proofs.YtgmolmpfihkolaaGreat
namespace Go.Proofs.YtgmolmpfihkolaaGreat
open Go.RowKit
set_option linter.unusedVariables false
set_option maxRecDepth 100000
attribute [local go_sem] run_store_float run_neg_float
set_option maxHeartbeats 4000000 in
theorem RCalc_three_3 (a b : Val) (ha : a.wf) (hb : b.wf) (na : numV a = true) (ka : a.kind = 3) (nb : numV b = true) (kb : b.kind = 3) (w : World) : Calls Tryz.prog 92 #[.int .i64 3, a.agg, b.agg] w
 fun e w' => (∃ v, e = .returned (.tuple #[v.agg, .int .i64 (calcV 3 a b).2]) ∧ Alike (calcV 3 a b).1 v ∧ v.wf) ∧ Below w.heap.size w w' := by
 have HT := hdq (FourB.start w a b Val.null Val.null 39 39 39 39)
 have hr : calcV 3 a b = (plainV ⟨3, 0, (brokenK 3 a.flt b.flt).getD nanF, ⟨#[]⟩⟩, 0) := by
  unfold calcV
  rw [if_neg (show ¬ (3 : Int) = 6 by omega)]
  unfold calcC
  rw [if_neg (by omega)]
  simp [na, nb, ka, kb]
 rw [hr]
 clear hr
 have hlt : a.flt < 2 ^ 64 := ha.2.2.1
 obtain ⟨k, n, f, s⟩ := a
 obtain ⟨k', n', f', s'⟩ := b
 obtain rfl : n = 0 := num_fl _ _ _ _ na ka
 obtain rfl : n' = 0 := num_fl _ _ _ _ nb kb
 unfold Val.agg Val.null at *
 simp only at *
 have HN := hdq na
 have HQ := hdq nb
 subst ka
 subst kb
 clear na nb
 have e : brokenK 3 f f' = floatBits .add .f64 f f' := rfl
 rw [e]
 clear e hlt
 cases hb : floatBits .add .f64 f f' with
 | none =>
  have hr := run_float_none .add (by simp) f f' hb
  have HW : Hid (∀ W, Val.wf ⟨3, 0, someNan f f' W, ⟨#[]⟩⟩) := hdq (fun W => fl_wf (someNan_nan f f' W).2)
  have HAL : Hid (∀ W, Alike (plainV ⟨3, 0, (none : Option Nat).getD nanF, ⟨#[]⟩⟩) (rplainV ⟨3, 0, someNan f f' W, ⟨#[]⟩⟩)) := hdq (fun W => by
   have h1 := (FloatsTo.none f f' W).2
   rw [← h1]
   exact rplain_alike _)
  clear hb
  go_enter Tryz.func92, Tryz.ntmps92
  go_wp2_with (first | (go_at_call 122; refine (rnumber_exp _ _ _ _ (by assumption) _).mono ?_; (try rw [HN.out]); (try rw [HQ.out]); rintro e wx ⟨rfl, hbx⟩; (first | (have HT2 := hdq (HT1.out.later hbx); obtain ⟨⟨⟨⟨⟨l1, l2, l3, l4⟩, _⟩, ⟨⟨m1, m2, m3, m4⟩, _⟩, _⟩, ⟨⟨r1, r2, r3, r4⟩, g1, g2, g3, g4⟩, _⟩, ⟨⟨o1, o2, o3, o4⟩, _⟩, hsx⟩ := HT2.out; simp only [Nat.zero_add] at l1 l2 l3 l4 m1 m2 m3 m4 r1 r2 r3 r4 g1 g2 g3 g4 o1 o2 o3 o4; have hwx0 := HT2.out.lt0; have hwx1 := HT2.out.lt1; have hne0 := Nat.ne_of_lt hwx0; have hne1 := Nat.ne_of_lt hwx1) | (have HT1 := hdq (HT.out.later hbx); obtain ⟨⟨⟨⟨⟨l1, l2, l3, l4⟩, _⟩, ⟨⟨m1, m2, m3, m4⟩, _⟩, _⟩, ⟨⟨r1, r2, r3, r4⟩, g1, g2, g3, g4⟩, _⟩, ⟨⟨o1, o2, o3, o4⟩, _⟩, hsx⟩ := HT1.out; simp only [Nat.zero_add] at l1 l2 l3 l4 m1 m2 m3 m4 r1 r2 r3 r4 g1 g2 g3 g4 o1 o2 o3 o4)); clear hbx) | (go_at_call 37; refine (RPlain_exp _ _ _ _ (HW.out _) _).mono ?_; rintro e wy ⟨rfl, hby⟩; have HT3 := hdq ((HT2.out.later (((Below.refl _ _).alloc (Nat.le_refl _) _).drew)).later hby); obtain ⟨⟨⟨⟨⟨l1, l2, l3, l4⟩, _⟩, ⟨⟨m1, m2, m3, m4⟩, _⟩, _⟩, ⟨⟨r1, r2, r3, r4⟩, g1, g2, g3, g4⟩, _⟩, ⟨⟨o1, o2, o3, o4⟩, _⟩, hsx⟩ := HT3.out; simp only [Nat.zero_add] at l1 l2 l3 l4 m1 m2 m3 m4 r1 r2 r3 r4 g1 g2 g3 g4 o1 o2 o3 o4; clear hby))
  exact ret_val2 Tryz.results92 rfl rfl rfl (HT3.out.1.2.1.stored (rplainV ⟨3, 0, someNan f f' _, ⟨#[]⟩⟩)) ⟨⟨_, rfl, HAL.out _, rplainV_wf _ (HW.out _)⟩, below_val HT3.out.below (by omega) _ _ _ _⟩
 | some r =>
  have hr := fun t w => run_float_arith (P := Tryz.prog) w .add t .f64 f f' r hb
  have HW := hdq (fl_wf (FloatsTo.some hb).1)
  have HAL := hdq (rplain_alike r)
  clear hb
  go_enter Tryz.func92, Tryz.ntmps92
  go_wp2_with (first | (go_at_call 122; refine (rnumber_exp _ _ _ _ (by assumption) _).mono ?_; (try rw [HN.out]); (try rw [HQ.out]); rintro e wx ⟨rfl, hbx⟩; (first | (have HT2 := hdq (HT1.out.later hbx); obtain ⟨⟨⟨⟨⟨l1, l2, l3, l4⟩, _⟩, ⟨⟨m1, m2, m3, m4⟩, _⟩, _⟩, ⟨⟨r1, r2, r3, r4⟩, g1, g2, g3, g4⟩, _⟩, ⟨⟨o1, o2, o3, o4⟩, _⟩, hsx⟩ := HT2.out; simp only [Nat.zero_add] at l1 l2 l3 l4 m1 m2 m3 m4 r1 r2 r3 r4 g1 g2 g3 g4 o1 o2 o3 o4; have hwx0 := HT2.out.lt0; have hwx1 := HT2.out.lt1; have hne0 := Nat.ne_of_lt hwx0; have hne1 := Nat.ne_of_lt hwx1) | (have HT1 := hdq (HT.out.later hbx); obtain ⟨⟨⟨⟨⟨l1, l2, l3, l4⟩, _⟩, ⟨⟨m1, m2, m3, m4⟩, _⟩, _⟩, ⟨⟨r1, r2, r3, r4⟩, g1, g2, g3, g4⟩, _⟩, ⟨⟨o1, o2, o3, o4⟩, _⟩, hsx⟩ := HT1.out; simp only [Nat.zero_add] at l1 l2 l3 l4 m1 m2 m3 m4 r1 r2 r3 r4 g1 g2 g3 g4 o1 o2 o3 o4)); clear hbx) | (go_at_call 37; refine (RPlain_exp _ _ _ _ HW.out _).mono ?_; rintro e wy ⟨rfl, hby⟩; have HT3 := hdq ((HT2.out.later (((Below.refl _ _).alloc (Nat.le_refl _) _))).later hby); obtain ⟨⟨⟨⟨⟨l1, l2, l3, l4⟩, _⟩, ⟨⟨m1, m2, m3, m4⟩, _⟩, _⟩, ⟨⟨r1, r2, r3, r4⟩, g1, g2, g3, g4⟩, _⟩, ⟨⟨o1, o2, o3, o4⟩, _⟩, hsx⟩ := HT3.out; simp only [Nat.zero_add] at l1 l2 l3 l4 m1 m2 m3 m4 r1 r2 r3 r4 g1 g2 g3 g4 o1 o2 o3 o4; clear hby))
  exact ret_val2 Tryz.results92 rfl rfl rfl (HT3.out.1.2.1.stored (rplainV ⟨3, 0, r, ⟨#[]⟩⟩)) ⟨⟨_, rfl, HAL.out, rplainV_wf _ HW.out⟩, below_val HT3.out.below (by omega) _ _ _ _⟩
set_option maxHeartbeats 4000000 in
theorem RCalc_three_4 (a b : Val) (ha : a.wf) (hb : b.wf) (na : numV a = true) (ka : a.kind = 3) (nb : numV b = true) (kb : b.kind = 3) (w : World) : Calls Tryz.prog 92 #[.int .i64 4, a.agg, b.agg] w
 fun e w' => (∃ v, e = .returned (.tuple #[v.agg, .int .i64 (calcV 4 a b).2]) ∧ Alike (calcV 4 a b).1 v ∧ v.wf) ∧ Below w.heap.size w w' := by
 have HT := hdq (FourB.start w a b Val.null Val.null 39 39 39 39)
 have hr : calcV 4 a b = (plainV ⟨3, 0, (brokenK 4 a.flt b.flt).getD nanF, ⟨#[]⟩⟩, 0) := by
  unfold calcV
  rw [if_neg (show ¬ (4 : Int) = 6 by omega)]
  unfold calcC
  rw [if_neg (by omega)]
  simp [na, nb, ka, kb]
 rw [hr]
 clear hr
 have hlt : a.flt < 2 ^ 64 := ha.2.2.1
 obtain ⟨k, n, f, s⟩ := a
 obtain ⟨k', n', f', s'⟩ := b
 obtain rfl : n = 0 := num_fl _ _ _ _ na ka
 obtain rfl : n' = 0 := num_fl _ _ _ _ nb kb
 unfold Val.agg Val.null at *
 simp only at *
 have HN := hdq na
 have HQ := hdq nb
 subst ka
 subst kb
 clear na nb
 have e : brokenK 4 f f' = floatBits .sub .f64 f f' := rfl
 rw [e]
 clear e hlt
 cases hb : floatBits .sub .f64 f f' with
 | none =>
  have hr := run_float_none .sub (by simp) f f' hb
  have HW : Hid (∀ W, Val.wf ⟨3, 0, someNan f f' W, ⟨#[]⟩⟩) := hdq (fun W => fl_wf (someNan_nan f f' W).2)
  have HAL : Hid (∀ W, Alike (plainV ⟨3, 0, (none : Option Nat).getD nanF, ⟨#[]⟩⟩) (rplainV ⟨3, 0, someNan f f' W, ⟨#[]⟩⟩)) := hdq (fun W => by
   have h1 := (FloatsTo.none f f' W).2
   rw [← h1]
   exact rplain_alike _)
  clear hb
  go_enter Tryz.func92, Tryz.ntmps92
  go_wp2_with (first | (go_at_call 122; refine (rnumber_exp _ _ _ _ (by assumption) _).mono ?_; (try rw [HN.out]); (try rw [HQ.out]); rintro e wx ⟨rfl, hbx⟩; (first | (have HT2 := hdq (HT1.out.later hbx); obtain ⟨⟨⟨⟨⟨l1, l2, l3, l4⟩, _⟩, ⟨⟨m1, m2, m3, m4⟩, _⟩, _⟩, ⟨⟨r1, r2, r3, r4⟩, g1, g2, g3, g4⟩, _⟩, ⟨⟨o1, o2, o3, o4⟩, _⟩, hsx⟩ := HT2.out; simp only [Nat.zero_add] at l1 l2 l3 l4 m1 m2 m3 m4 r1 r2 r3 r4 g1 g2 g3 g4 o1 o2 o3 o4; have hwx0 := HT2.out.lt0; have hwx1 := HT2.out.lt1; have hne0 := Nat.ne_of_lt hwx0; have hne1 := Nat.ne_of_lt hwx1) | (have HT1 := hdq (HT.out.later hbx); obtain ⟨⟨⟨⟨⟨l1, l2, l3, l4⟩, _⟩, ⟨⟨m1, m2, m3, m4⟩, _⟩, _⟩, ⟨⟨r1, r2, r3, r4⟩, g1, g2, g3, g4⟩, _⟩, ⟨⟨o1, o2, o3, o4⟩, _⟩, hsx⟩ := HT1.out; simp only [Nat.zero_add] at l1 l2 l3 l4 m1 m2 m3 m4 r1 r2 r3 r4 g1 g2 g3 g4 o1 o2 o3 o4)); clear hbx) | (go_at_call 37; refine (RPlain_exp _ _ _ _ (HW.out _) _).mono ?_; rintro e wy ⟨rfl, hby⟩; have HT3 := hdq ((HT2.out.later (((Below.refl _ _).alloc (Nat.le_refl _) _).drew)).later hby); obtain ⟨⟨⟨⟨⟨l1, l2, l3, l4⟩, _⟩, ⟨⟨m1, m2, m3, m4⟩, _⟩, _⟩, ⟨⟨r1, r2, r3, r4⟩, g1, g2, g3, g4⟩, _⟩, ⟨⟨o1, o2, o3, o4⟩, _⟩, hsx⟩ := HT3.out; simp only [Nat.zero_add] at l1 l2 l3 l4 m1 m2 m3 m4 r1 r2 r3 r4 g1 g2 g3 g4 o1 o2 o3 o4; clear hby))
  exact ret_val2 Tryz.results92 rfl rfl rfl (HT3.out.1.2.1.stored (rplainV ⟨3, 0, someNan f f' _, ⟨#[]⟩⟩)) ⟨⟨_, rfl, HAL.out _, rplainV_wf _ (HW.out _)⟩, below_val HT3.out.below (by omega) _ _ _ _⟩
 | some r =>
  have hr := fun t w => run_float_arith (P := Tryz.prog) w .sub t .f64 f f' r hb
  have HW := hdq (fl_wf (FloatsTo.some hb).1)
  have HAL := hdq (rplain_alike r)
  clear hb
  go_enter Tryz.func92, Tryz.ntmps92
  go_wp2_with (first | (go_at_call 122; refine (rnumber_exp _ _ _ _ (by assumption) _).mono ?_; (try rw [HN.out]); (try rw [HQ.out]); rintro e wx ⟨rfl, hbx⟩; (first | (have HT2 := hdq (HT1.out.later hbx); obtain ⟨⟨⟨⟨⟨l1, l2, l3, l4⟩, _⟩, ⟨⟨m1, m2, m3, m4⟩, _⟩, _⟩, ⟨⟨r1, r2, r3, r4⟩, g1, g2, g3, g4⟩, _⟩, ⟨⟨o1, o2, o3, o4⟩, _⟩, hsx⟩ := HT2.out; simp only [Nat.zero_add] at l1 l2 l3 l4 m1 m2 m3 m4 r1 r2 r3 r4 g1 g2 g3 g4 o1 o2 o3 o4; have hwx0 := HT2.out.lt0; have hwx1 := HT2.out.lt1; have hne0 := Nat.ne_of_lt hwx0; have hne1 := Nat.ne_of_lt hwx1) | (have HT1 := hdq (HT.out.later hbx); obtain ⟨⟨⟨⟨⟨l1, l2, l3, l4⟩, _⟩, ⟨⟨m1, m2, m3, m4⟩, _⟩, _⟩, ⟨⟨r1, r2, r3, r4⟩, g1, g2, g3, g4⟩, _⟩, ⟨⟨o1, o2, o3, o4⟩, _⟩, hsx⟩ := HT1.out; simp only [Nat.zero_add] at l1 l2 l3 l4 m1 m2 m3 m4 r1 r2 r3 r4 g1 g2 g3 g4 o1 o2 o3 o4)); clear hbx) | (go_at_call 37; refine (RPlain_exp _ _ _ _ HW.out _).mono ?_; rintro e wy ⟨rfl, hby⟩; have HT3 := hdq ((HT2.out.later (((Below.refl _ _).alloc (Nat.le_refl _) _))).later hby); obtain ⟨⟨⟨⟨⟨l1, l2, l3, l4⟩, _⟩, ⟨⟨m1, m2, m3, m4⟩, _⟩, _⟩, ⟨⟨r1, r2, r3, r4⟩, g1, g2, g3, g4⟩, _⟩, ⟨⟨o1, o2, o3, o4⟩, _⟩, hsx⟩ := HT3.out; simp only [Nat.zero_add] at l1 l2 l3 l4 m1 m2 m3 m4 r1 r2 r3 r4 g1 g2 g3 g4 o1 o2 o3 o4; clear hby))
  exact ret_val2 Tryz.results92 rfl rfl rfl (HT3.out.1.2.1.stored (rplainV ⟨3, 0, r, ⟨#[]⟩⟩)) ⟨⟨_, rfl, HAL.out, rplainV_wf _ HW.out⟩, below_val HT3.out.below (by omega) _ _ _ _⟩
set_option maxHeartbeats 4000000 in
theorem RCalc_three_5 (a b : Val) (ha : a.wf) (hb : b.wf) (na : numV a = true) (ka : a.kind = 3) (nb : numV b = true) (kb : b.kind = 3) (w : World) : Calls Tryz.prog 92 #[.int .i64 5, a.agg, b.agg] w
 fun e w' => (∃ v, e = .returned (.tuple #[v.agg, .int .i64 (calcV 5 a b).2]) ∧ Alike (calcV 5 a b).1 v ∧ v.wf) ∧ Below w.heap.size w w' := by
 have HT := hdq (FourB.start w a b Val.null Val.null 39 39 39 39)
 have hr : calcV 5 a b = (plainV ⟨3, 0, (brokenK 5 a.flt b.flt).getD nanF, ⟨#[]⟩⟩, 0) := by
  unfold calcV
  rw [if_neg (show ¬ (5 : Int) = 6 by omega)]
  unfold calcC
  rw [if_neg (by omega)]
  simp [na, nb, ka, kb]
 rw [hr]
 clear hr
 have hlt : a.flt < 2 ^ 64 := ha.2.2.1
 obtain ⟨k, n, f, s⟩ := a
 obtain ⟨k', n', f', s'⟩ := b
 obtain rfl : n = 0 := num_fl _ _ _ _ na ka
 obtain rfl : n' = 0 := num_fl _ _ _ _ nb kb
 unfold Val.agg Val.null at *
 simp only at *
 have HN := hdq na
 have HQ := hdq nb
 subst ka
 subst kb
 clear na nb
 have e : brokenK 5 f f' = floatBits .mul .f64 f f' := rfl
 rw [e]
 clear e hlt
 cases hb : floatBits .mul .f64 f f' with
 | none =>
  have hr := run_float_none .mul (by simp) f f' hb
  have HW : Hid (∀ W, Val.wf ⟨3, 0, someNan f f' W, ⟨#[]⟩⟩) := hdq (fun W => fl_wf (someNan_nan f f' W).2)
  have HAL : Hid (∀ W, Alike (plainV ⟨3, 0, (none : Option Nat).getD nanF, ⟨#[]⟩⟩) (rplainV ⟨3, 0, someNan f f' W, ⟨#[]⟩⟩)) := hdq (fun W => by
   have h1 := (FloatsTo.none f f' W).2
   rw [← h1]
   exact rplain_alike _)
  clear hb
  go_enter Tryz.func92, Tryz.ntmps92
  go_wp2_with (first | (go_at_call 122; refine (rnumber_exp _ _ _ _ (by assumption) _).mono ?_; (try rw [HN.out]); (try rw [HQ.out]); rintro e wx ⟨rfl, hbx⟩; (first | (have HT2 := hdq (HT1.out.later hbx); obtain ⟨⟨⟨⟨⟨l1, l2, l3, l4⟩, _⟩, ⟨⟨m1, m2, m3, m4⟩, _⟩, _⟩, ⟨⟨r1, r2, r3, r4⟩, g1, g2, g3, g4⟩, _⟩, ⟨⟨o1, o2, o3, o4⟩, _⟩, hsx⟩ := HT2.out; simp only [Nat.zero_add] at l1 l2 l3 l4 m1 m2 m3 m4 r1 r2 r3 r4 g1 g2 g3 g4 o1 o2 o3 o4; have hwx0 := HT2.out.lt0; have hwx1 := HT2.out.lt1; have hne0 := Nat.ne_of_lt hwx0; have hne1 := Nat.ne_of_lt hwx1) | (have HT1 := hdq (HT.out.later hbx); obtain ⟨⟨⟨⟨⟨l1, l2, l3, l4⟩, _⟩, ⟨⟨m1, m2, m3, m4⟩, _⟩, _⟩, ⟨⟨r1, r2, r3, r4⟩, g1, g2, g3, g4⟩, _⟩, ⟨⟨o1, o2, o3, o4⟩, _⟩, hsx⟩ := HT1.out; simp only [Nat.zero_add] at l1 l2 l3 l4 m1 m2 m3 m4 r1 r2 r3 r4 g1 g2 g3 g4 o1 o2 o3 o4)); clear hbx) | (go_at_call 37; refine (RPlain_exp _ _ _ _ (HW.out _) _).mono ?_; rintro e wy ⟨rfl, hby⟩; have HT3 := hdq ((HT2.out.later (((Below.refl _ _).alloc (Nat.le_refl _) _).drew)).later hby); obtain ⟨⟨⟨⟨⟨l1, l2, l3, l4⟩, _⟩, ⟨⟨m1, m2, m3, m4⟩, _⟩, _⟩, ⟨⟨r1, r2, r3, r4⟩, g1, g2, g3, g4⟩, _⟩, ⟨⟨o1, o2, o3, o4⟩, _⟩, hsx⟩ := HT3.out; simp only [Nat.zero_add] at l1 l2 l3 l4 m1 m2 m3 m4 r1 r2 r3 r4 g1 g2 g3 g4 o1 o2 o3 o4; clear hby))
  exact ret_val2 Tryz.results92 rfl rfl rfl (HT3.out.1.2.1.stored (rplainV ⟨3, 0, someNan f f' _, ⟨#[]⟩⟩)) ⟨⟨_, rfl, HAL.out _, rplainV_wf _ (HW.out _)⟩, below_val HT3.out.below (by omega) _ _ _ _⟩
 | some r =>
  have hr := fun t w => run_float_arith (P := Tryz.prog) w .mul t .f64 f f' r hb
  have HW := hdq (fl_wf (FloatsTo.some hb).1)
  have HAL := hdq (rplain_alike r)
  clear hb
  go_enter Tryz.func92, Tryz.ntmps92
  go_wp2_with (first | (go_at_call 122; refine (rnumber_exp _ _ _ _ (by assumption) _).mono ?_; (try rw [HN.out]); (try rw [HQ.out]); rintro e wx ⟨rfl, hbx⟩; (first | (have HT2 := hdq (HT1.out.later hbx); obtain ⟨⟨⟨⟨⟨l1, l2, l3, l4⟩, _⟩, ⟨⟨m1, m2, m3, m4⟩, _⟩, _⟩, ⟨⟨r1, r2, r3, r4⟩, g1, g2, g3, g4⟩, _⟩, ⟨⟨o1, o2, o3, o4⟩, _⟩, hsx⟩ := HT2.out; simp only [Nat.zero_add] at l1 l2 l3 l4 m1 m2 m3 m4 r1 r2 r3 r4 g1 g2 g3 g4 o1 o2 o3 o4; have hwx0 := HT2.out.lt0; have hwx1 := HT2.out.lt1; have hne0 := Nat.ne_of_lt hwx0; have hne1 := Nat.ne_of_lt hwx1) | (have HT1 := hdq (HT.out.later hbx); obtain ⟨⟨⟨⟨⟨l1, l2, l3, l4⟩, _⟩, ⟨⟨m1, m2, m3, m4⟩, _⟩, _⟩, ⟨⟨r1, r2, r3, r4⟩, g1, g2, g3, g4⟩, _⟩, ⟨⟨o1, o2, o3, o4⟩, _⟩, hsx⟩ := HT1.out; simp only [Nat.zero_add] at l1 l2 l3 l4 m1 m2 m3 m4 r1 r2 r3 r4 g1 g2 g3 g4 o1 o2 o3 o4)); clear hbx) | (go_at_call 37; refine (RPlain_exp _ _ _ _ HW.out _).mono ?_; rintro e wy ⟨rfl, hby⟩; have HT3 := hdq ((HT2.out.later (((Below.refl _ _).alloc (Nat.le_refl _) _))).later hby); obtain ⟨⟨⟨⟨⟨l1, l2, l3, l4⟩, _⟩, ⟨⟨m1, m2, m3, m4⟩, _⟩, _⟩, ⟨⟨r1, r2, r3, r4⟩, g1, g2, g3, g4⟩, _⟩, ⟨⟨o1, o2, o3, o4⟩, _⟩, hsx⟩ := HT3.out; simp only [Nat.zero_add] at l1 l2 l3 l4 m1 m2 m3 m4 r1 r2 r3 r4 g1 g2 g3 g4 o1 o2 o3 o4; clear hby))
  exact ret_val2 Tryz.results92 rfl rfl rfl (HT3.out.1.2.1.stored (rplainV ⟨3, 0, r, ⟨#[]⟩⟩)) ⟨⟨_, rfl, HAL.out, rplainV_wf _ HW.out⟩, below_val HT3.out.below (by omega) _ _ _ _⟩
set_option maxHeartbeats 4000000 in
theorem RCalc_three_6 (a b : Val) (ha : a.wf) (na : numV a = true) (ka : a.kind = 3) (w : World) : Calls Tryz.prog 92 #[.int .i64 6, a.agg, b.agg] w
 fun e w' => (∃ v, e = .returned (.tuple #[v.agg, .int .i64 (calcV 6 a b).2]) ∧ Alike (calcV 6 a b).1 v ∧ v.wf) ∧ Below w.heap.size w w' := by
 have HT := hdq (FourB.start w a a Val.null Val.null 39 39 39 39)
 have hr : calcV 6 a b = (plainV ⟨3, 0, (brokenK 6 a.flt a.flt).getD nanF, ⟨#[]⟩⟩, 0) := by
  unfold calcV
  rw [if_pos rfl]
  unfold calcC
  rw [if_neg (by omega)]
  simp [na, ka]
 rw [hr]
 clear hr
 have hlt : a.flt < 2 ^ 64 := ha.2.2.1
 obtain ⟨k, n, f, s⟩ := a
 obtain ⟨k', n', f', s'⟩ := b
 obtain rfl : n = 0 := num_fl _ _ _ _ na ka
 unfold Val.agg Val.null at *
 simp only at *
 have HN := hdq na
 have HQ := HN
 subst ka
 clear na 
 have HW := hdq (fl_wf (negFloat_lt f hlt))
 have HAL := hdq (rplain_alike (Op.negFloat .f64 f))
 have e : (brokenK 6 f f).getD nanF = Op.negFloat .f64 f := rfl
 rw [e]
 clear e hlt
 go_enter Tryz.func92, Tryz.ntmps92
 go_wp2_with (first | (go_at_call 122; refine (rnumber_exp _ _ _ _ (by assumption) _).mono ?_; (try rw [HN.out]); (try rw [HQ.out]); rintro e wx ⟨rfl, hbx⟩; (first | (have HT2 := hdq (HT1.out.later hbx); obtain ⟨⟨⟨⟨⟨l1, l2, l3, l4⟩, _⟩, ⟨⟨m1, m2, m3, m4⟩, _⟩, _⟩, ⟨⟨r1, r2, r3, r4⟩, g1, g2, g3, g4⟩, _⟩, ⟨⟨o1, o2, o3, o4⟩, _⟩, hsx⟩ := HT2.out; simp only [Nat.zero_add] at l1 l2 l3 l4 m1 m2 m3 m4 r1 r2 r3 r4 g1 g2 g3 g4 o1 o2 o3 o4; have hwx0 := HT2.out.lt0; have hwx1 := HT2.out.lt1; have hne0 := Nat.ne_of_lt hwx0; have hne1 := Nat.ne_of_lt hwx1) | (have HT1 := hdq (HT.out.later hbx); obtain ⟨⟨⟨⟨⟨l1, l2, l3, l4⟩, _⟩, ⟨⟨m1, m2, m3, m4⟩, _⟩, _⟩, ⟨⟨r1, r2, r3, r4⟩, g1, g2, g3, g4⟩, _⟩, ⟨⟨o1, o2, o3, o4⟩, _⟩, hsx⟩ := HT1.out; simp only [Nat.zero_add] at l1 l2 l3 l4 m1 m2 m3 m4 r1 r2 r3 r4 g1 g2 g3 g4 o1 o2 o3 o4)); clear hbx) | (go_at_call 37; refine (RPlain_exp _ _ _ _ HW.out _).mono ?_; rintro e wy ⟨rfl, hby⟩; have HT3 := hdq ((HT2.out.later (((Below.refl _ _).alloc (Nat.le_refl _) _))).later hby); obtain ⟨⟨⟨⟨⟨l1, l2, l3, l4⟩, _⟩, ⟨⟨m1, m2, m3, m4⟩, _⟩, _⟩, ⟨⟨r1, r2, r3, r4⟩, g1, g2, g3, g4⟩, _⟩, ⟨⟨o1, o2, o3, o4⟩, _⟩, hsx⟩ := HT3.out; simp only [Nat.zero_add] at l1 l2 l3 l4 m1 m2 m3 m4 r1 r2 r3 r4 g1 g2 g3 g4 o1 o2 o3 o4; clear hby))
 exact ret_val2 Tryz.results92 rfl rfl rfl (HT3.out.1.2.1.stored (rplainV ⟨3, 0, Op.negFloat .f64 f, ⟨#[]⟩⟩)) ⟨⟨_, rfl, HAL.out, rplainV_wf _ HW.out⟩, below_val HT3.out.below (by omega) _ _ _ _⟩
end Go.Proofs.YtgmolmpfihkolaaGreat
