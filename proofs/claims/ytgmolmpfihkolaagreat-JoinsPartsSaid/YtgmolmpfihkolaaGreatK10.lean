/- Part of the proof. -/
import Derived.Test.YtgmolmpfihkolaaGreatK09
namespace Go.Proofs.YtgmolmpfihkolaaGreat
open Go.RowKit
set_option linter.unusedVariables false
set_option maxRecDepth 100000
attribute [local go_sem] run_store_float
theorem RCalc_out (op : Int) (a b : Val) (hop : op < 3 ∨ 6 < op) (w : World) : Calls Tryz.prog 92 #[.int .i64 op, a.agg, b.agg] w
 fun e w' => (∃ v, e = .returned (.tuple #[v.agg, .int .i64 (calcV op a b).2]) ∧ Alike (calcV op a b).1 v ∧ v.wf) ∧ Below w.heap.size w w' := by
 have HT := hdq (FourB.start w a b Val.null Val.null 39 39 39 39)
 have e : calcV op a b = (Val.null, 2) := by unfold calcV calcC; rw [if_pos hop]
 rw [e]
 clear e
 obtain ⟨k, n, f, s⟩ := a
 obtain ⟨k', n', f', s'⟩ := b
 unfold Val.agg Val.null at *
 simp only at *
 rcases hop with h | h
 ·go_enter Tryz.func92, Tryz.ntmps92
  go_wp2
  exact ret_val2 Tryz.results92 rfl rfl rfl HT.out.1.2.1 ⟨⟨_, rfl, Alike.refl _, null_wf⟩, HT.out.below⟩
 ·have h' : ¬ op < 3 := by omega
  go_enter Tryz.func92, Tryz.ntmps92
  go_wp2
  exact ret_val2 Tryz.results92 rfl rfl rfl HT.out.1.2.1 ⟨⟨_, rfl, Alike.refl _, null_wf⟩, HT.out.below⟩
set_option maxHeartbeats 4000000 in
theorem RCalc_early6 (a b : Val) (ha : a.wf) (hearly : numV a = false ∨ a.kind = 0) (w : World) : Calls Tryz.prog 92 #[.int .i64 6, a.agg, b.agg] w
 fun e w' => (∃ v, e = .returned (.tuple #[v.agg, .int .i64 (calcV 6 a b).2]) ∧ Alike (calcV 6 a b).1 v ∧ v.wf) ∧ Below w.heap.size w w' := by
 have HT := hdq (FourB.start w a a Val.null Val.null 39 39 39 39)
 obtain ⟨r, hr⟩ : ∃ r, r = calcV 6 a b := ⟨_, rfl⟩
 rw [← hr]
 unfold calcV at hr
 rw [if_pos rfl] at hr
 unfold calcC at hr
 rw [if_neg (by omega)] at hr
 obtain ⟨k, n, f, s⟩ := a
 obtain ⟨k', n', f', s'⟩ := b
 unfold Val.agg Val.null at *
 simp only at *
 obtain ⟨qa, hqa⟩ : ∃ q, q = numV ⟨k, n, f, s⟩ := ⟨_, rfl⟩
 rw [← hqa] at hr hearly
 have HN := hdq hqa.symm
 have HQ := HN
 clear hqa
 cases qa with
 | false =>
  rw [if_neg (by simp)] at hr
  subst hr
  clear hearly
  go_enter Tryz.func92, Tryz.ntmps92
  go_wp2_with (first | (go_at_call 122; refine (rnumber_exp _ _ _ _ (by assumption) _).mono ?_; (try rw [HN.out]); (try rw [HQ.out]); rintro e wx ⟨rfl, hbx⟩; (first | (have HT2 := hdq (HT1.out.later hbx); obtain ⟨⟨⟨⟨⟨l1, l2, l3, l4⟩, _⟩, ⟨⟨m1, m2, m3, m4⟩, _⟩, _⟩, ⟨⟨r1, r2, r3, r4⟩, g1, g2, g3, g4⟩, _⟩, ⟨⟨o1, o2, o3, o4⟩, _⟩, hsx⟩ := HT2.out; simp only [Nat.zero_add] at l1 l2 l3 l4 m1 m2 m3 m4 r1 r2 r3 r4 g1 g2 g3 g4 o1 o2 o3 o4) | (have HT1 := hdq (HT.out.later hbx); obtain ⟨⟨⟨⟨⟨l1, l2, l3, l4⟩, _⟩, ⟨⟨m1, m2, m3, m4⟩, _⟩, _⟩, ⟨⟨r1, r2, r3, r4⟩, g1, g2, g3, g4⟩, _⟩, ⟨⟨o1, o2, o3, o4⟩, _⟩, hsx⟩ := HT1.out; simp only [Nat.zero_add] at l1 l2 l3 l4 m1 m2 m3 m4 r1 r2 r3 r4 g1 g2 g3 g4 o1 o2 o3 o4)); clear hbx))
  exact ret_val2 Tryz.results92 rfl rfl rfl (HT1.out.1.2.1.stored ⟨0, 0, 0, ⟨#[]⟩⟩) ⟨⟨⟨0, 0, 0, ⟨#[]⟩⟩, rfl, Alike.refl _, null_wf⟩, below_val HT1.out.below (by omega) _ _ _ _⟩
 | true =>
  have h0 : k = 0 := hearly.resolve_left (by simp)
  subst h0
  rw [Bool.true_and, if_pos rfl, if_pos (.inl rfl)] at hr
  subst hr
  clear hearly
  go_enter Tryz.func92, Tryz.ntmps92
  go_wp2_with (first | (go_at_call 122; refine (rnumber_exp _ _ _ _ (by assumption) _).mono ?_; (try rw [HN.out]); (try rw [HQ.out]); rintro e wx ⟨rfl, hbx⟩; (first | (have HT2 := hdq (HT1.out.later hbx); obtain ⟨⟨⟨⟨⟨l1, l2, l3, l4⟩, _⟩, ⟨⟨m1, m2, m3, m4⟩, _⟩, _⟩, ⟨⟨r1, r2, r3, r4⟩, g1, g2, g3, g4⟩, _⟩, ⟨⟨o1, o2, o3, o4⟩, _⟩, hsx⟩ := HT2.out; simp only [Nat.zero_add] at l1 l2 l3 l4 m1 m2 m3 m4 r1 r2 r3 r4 g1 g2 g3 g4 o1 o2 o3 o4) | (have HT1 := hdq (HT.out.later hbx); obtain ⟨⟨⟨⟨⟨l1, l2, l3, l4⟩, _⟩, ⟨⟨m1, m2, m3, m4⟩, _⟩, _⟩, ⟨⟨r1, r2, r3, r4⟩, g1, g2, g3, g4⟩, _⟩, ⟨⟨o1, o2, o3, o4⟩, _⟩, hsx⟩ := HT1.out; simp only [Nat.zero_add] at l1 l2 l3 l4 m1 m2 m3 m4 r1 r2 r3 r4 g1 g2 g3 g4 o1 o2 o3 o4)); clear hbx))
  exact ret_val2 Tryz.results92 rfl rfl rfl (HT2.out.1.2.1.stored ⟨0, 0, 0, ⟨#[]⟩⟩) ⟨⟨⟨0, 0, 0, ⟨#[]⟩⟩, rfl, Alike.refl _, null_wf⟩, below_val HT2.out.below (by omega) _ _ _ _⟩
theorem RCalc_any (op : Int) (a b : Val) (ha : a.wf) (hb : b.wf) (w : World) : Calls Tryz.prog 92 #[.int .i64 op, a.agg, b.agg] w
 fun e w' => (∃ v, e = .returned (.tuple #[v.agg, .int .i64 (calcV op a b).2]) ∧ Alike (calcV op a b).1 v ∧ v.wf) ∧ Below w.heap.size w w' := by
 by_cases h : op < 3 ∨ 6 < op
 ·exact RCalc_out op a b h w
 ·by_cases h6 : op = 6
  ·subst h6
   by_cases he : numV a = false ∨ a.kind = 0
   ·exact RCalc_early6 a b ha he w
   ·have na : numV a = true := by cases h : numV a with
     | true => rfl
     | false => exact absurd (.inl h) he
    rcases numV_kind a na with h | h | h
    ·exact absurd (.inr h) he
    ·exact RCalc_two_6 a b ha na h w
    ·exact RCalc_three_6 a b ha na h w
  ·by_cases he : numV a = false ∨ numV b = false ∨ a.kind = 0 ∨ b.kind = 0 ∨ a.kind ≠ b.kind
   ·exact RCalc_early op a b ha hb (by omega) (by omega) he w
   ·have na : numV a = true := by cases h : numV a with
     | true => rfl
     | false => exact absurd (.inl h) he
    have nb : numV b = true := by cases h : numV b with
     | true => rfl
     | false => exact absurd (.inr (.inl h)) he
    have hab : a.kind = b.kind := Classical.byContradiction fun h => he (.inr (.inr (.inr (.inr h))))
    have ha0 : a.kind ≠ 0 := fun h => he (.inr (.inr (.inl h)))
    rcases (show op = 3 ∨ op = 4 ∨ op = 5 by omega) with rfl | rfl | rfl
    ·rcases numV_kind a na with h | h | h
     ·exact absurd h ha0
     ·exact RCalc_two_3 a b ha hb na h nb (hab ▸ h) w
     ·exact RCalc_three_3 a b ha hb na h nb (hab ▸ h) w
    ·rcases numV_kind a na with h | h | h
     ·exact absurd h ha0
     ·exact RCalc_two_4 a b ha hb na h nb (hab ▸ h) w
     ·exact RCalc_three_4 a b ha hb na h nb (hab ▸ h) w
    ·rcases numV_kind a na with h | h | h
     ·exact absurd h ha0
     ·exact RCalc_two_5 a b ha hb na h nb (hab ▸ h) w
     ·exact RCalc_three_5 a b ha hb na h nb (hab ▸ h) w
theorem RBool_any (b : Bool) (w : World) : Calls Tryz.prog 95 #[.bool b] w fun e w' => e = .returned (truthV b).agg ∧ Below w.heap.size w w' := by
 have HB := hdq (Two.start w (truthV b) (truthV b) 39 39)
 cases b
 all_goals
  go_enter Tryz.func95, Tryz.ntmps95
  go_wp2
  exact ret_val Tryz.results95 rfl rfl HB.out.1 ⟨rfl, HB.out.2.2.1⟩
theorem RBool_exp (b : Bool) (w : World) : Calls Tryz.prog 95 #[.bool b] w fun e w' => e = .returned (.agg #[.int .i64 1, .int .i64 (tI b), .float .f64 0, .string ⟨#[]⟩]) ∧ Below w.heap.size w w' := RBool_any b w
theorem RCmp_right (a b : Val) (ha : a.wf) (hb : b.wf) (h1 : rightV a = true) (h2 : rightV b = true) (w : World) : Calls Tryz.prog 71 #[a.agg, b.agg] w fun e w' => e = .returned (.int .i64 (cmpV a b)) ∧ Below w.heap.size w w' := by
 have h := RCmp_plain a b ha hb w
 rw [← cmp_eq a b h1 h2] at h
 exact h
theorem cmp_three (a b : Val) (h1 : rightV a = true) (h2 : rightV b = true) : cmpV a b = -1 ∨ cmpV a b = 0 ∨ cmpV a b = 1 := by
 unfold cmpV; rw [cmp_eq a b h1 h2]; exact rcmp_vals _ _
set_option maxHeartbeats 4000000 in
theorem RTest_in (op : Int) (a b : Val) (ha : a.wf) (hb : b.wf) (h7 : 7 ≤ op) (h9 : op ≤ 9) (w : World) : Calls Tryz.prog 93 #[.int .i64 op, a.agg, b.agg] w
 fun e w' => e = .returned (.tuple #[(testV op a b).1.agg, .int .i64 (testV op a b).2]) ∧ Below w.heap.size w w' := by
 have HT := hdq (FourB.start w a b Val.null Val.null 39 39 39 39)
 obtain ⟨r, hr⟩ : ∃ r, r = testV op a b := ⟨_, rfl⟩
 rw [← hr]
 unfold testV at hr
 rw [if_neg (by omega)] at hr
 have hc3 := cmp_three a b
 have hcr := RCmp_right a b ha hb
 obtain ⟨k, n, f, s⟩ := a
 obtain ⟨k', n', f', s'⟩ := b
 unfold Val.agg Val.null at *
 simp only at *
 obtain ⟨qa, hqa⟩ : ∃ q, q = rightV ⟨k, n, f, s⟩ := ⟨_, rfl⟩
 obtain ⟨qb, hqb⟩ : ∃ q, q = rightV ⟨k', n', f', s'⟩ := ⟨_, rfl⟩
 obtain ⟨c, hc⟩ : ∃ c, c = cmpV ⟨k, n, f, s⟩ ⟨k', n', f', s'⟩ := ⟨_, rfl⟩
 rw [← hqa, ← hqb, ← hc] at hr hc3 hcr
 have HN := hdq hqa.symm
 have HQ := hdq hqb.symm
 have z3 : ¬ op < 7 := by omega
 have z6 : ¬ 9 < op := by omega
 clear hqa hqb hc
 cases qa with
 | false =>
  rw [if_neg (by simp)] at hr
  subst hr
  clear hc3 hcr
  go_enter Tryz.func93, Tryz.ntmps93
  go_wp2_with (first | (go_at_call 64; refine (RRight_exp _ _ _ _ (by assumption) _).mono ?_; (try rw [HN.out]); (try rw [HQ.out]); rintro e wx ⟨rfl, hbx⟩; (first | (have HT2 := hdq (HT1.out.later hbx); obtain ⟨⟨⟨⟨⟨l1, l2, l3, l4⟩, _⟩, ⟨⟨m1, m2, m3, m4⟩, _⟩, _⟩, ⟨⟨r1, r2, r3, r4⟩, g1, g2, g3, g4⟩, _⟩, ⟨⟨o1, o2, o3, o4⟩, _⟩, hsx⟩ := HT2.out; simp only [Nat.zero_add] at l1 l2 l3 l4 m1 m2 m3 m4 r1 r2 r3 r4 g1 g2 g3 g4 o1 o2 o3 o4) | (have HT1 := hdq (HT.out.later hbx); obtain ⟨⟨⟨⟨⟨l1, l2, l3, l4⟩, _⟩, ⟨⟨m1, m2, m3, m4⟩, _⟩, _⟩, ⟨⟨r1, r2, r3, r4⟩, g1, g2, g3, g4⟩, _⟩, ⟨⟨o1, o2, o3, o4⟩, _⟩, hsx⟩ := HT1.out; simp only [Nat.zero_add] at l1 l2 l3 l4 m1 m2 m3 m4 r1 r2 r3 r4 g1 g2 g3 g4 o1 o2 o3 o4)); clear hbx))
  exact ret_val2 Tryz.results93 rfl rfl rfl (HT1.out.1.2.1.stored ⟨0, 0, 0, ⟨#[]⟩⟩) ⟨rfl, below_val HT1.out.below (by omega) _ _ _ _⟩
 | true =>
  cases qb with
  | false =>
   rw [if_neg (by simp)] at hr
   subst hr
   clear hc3 hcr
   go_enter Tryz.func93, Tryz.ntmps93
   go_wp2_with (first | (go_at_call 64; refine (RRight_exp _ _ _ _ (by assumption) _).mono ?_; (try rw [HN.out]); (try rw [HQ.out]); rintro e wx ⟨rfl, hbx⟩; (first | (have HT2 := hdq (HT1.out.later hbx); obtain ⟨⟨⟨⟨⟨l1, l2, l3, l4⟩, _⟩, ⟨⟨m1, m2, m3, m4⟩, _⟩, _⟩, ⟨⟨r1, r2, r3, r4⟩, g1, g2, g3, g4⟩, _⟩, ⟨⟨o1, o2, o3, o4⟩, _⟩, hsx⟩ := HT2.out; simp only [Nat.zero_add] at l1 l2 l3 l4 m1 m2 m3 m4 r1 r2 r3 r4 g1 g2 g3 g4 o1 o2 o3 o4) | (have HT1 := hdq (HT.out.later hbx); obtain ⟨⟨⟨⟨⟨l1, l2, l3, l4⟩, _⟩, ⟨⟨m1, m2, m3, m4⟩, _⟩, _⟩, ⟨⟨r1, r2, r3, r4⟩, g1, g2, g3, g4⟩, _⟩, ⟨⟨o1, o2, o3, o4⟩, _⟩, hsx⟩ := HT1.out; simp only [Nat.zero_add] at l1 l2 l3 l4 m1 m2 m3 m4 r1 r2 r3 r4 g1 g2 g3 g4 o1 o2 o3 o4)); clear hbx))
   exact ret_val2 Tryz.results93 rfl rfl rfl (HT2.out.1.2.1.stored ⟨0, 0, 0, ⟨#[]⟩⟩) ⟨rfl, below_val HT2.out.below (by omega) _ _ _ _⟩
  | true =>
   rw [Bool.true_and, if_pos rfl] at hr
   have hc3 := hc3 rfl rfl
   have HC := hdq (hcr rfl rfl)
   clear hcr
   by_cases h0 : k = 0
   ·subst h0
    rw [if_pos (.inl rfl)] at hr
    subst hr
    clear hc3
    go_enter Tryz.func93, Tryz.ntmps93
    go_wp2_with (first | (go_at_call 64; refine (RRight_exp _ _ _ _ (by assumption) _).mono ?_; (try rw [HN.out]); (try rw [HQ.out]); rintro e wx ⟨rfl, hbx⟩; (first | (have HT2 := hdq (HT1.out.later hbx); obtain ⟨⟨⟨⟨⟨l1, l2, l3, l4⟩, _⟩, ⟨⟨m1, m2, m3, m4⟩, _⟩, _⟩, ⟨⟨r1, r2, r3, r4⟩, g1, g2, g3, g4⟩, _⟩, ⟨⟨o1, o2, o3, o4⟩, _⟩, hsx⟩ := HT2.out; simp only [Nat.zero_add] at l1 l2 l3 l4 m1 m2 m3 m4 r1 r2 r3 r4 g1 g2 g3 g4 o1 o2 o3 o4) | (have HT1 := hdq (HT.out.later hbx); obtain ⟨⟨⟨⟨⟨l1, l2, l3, l4⟩, _⟩, ⟨⟨m1, m2, m3, m4⟩, _⟩, _⟩, ⟨⟨r1, r2, r3, r4⟩, g1, g2, g3, g4⟩, _⟩, ⟨⟨o1, o2, o3, o4⟩, _⟩, hsx⟩ := HT1.out; simp only [Nat.zero_add] at l1 l2 l3 l4 m1 m2 m3 m4 r1 r2 r3 r4 g1 g2 g3 g4 o1 o2 o3 o4)); clear hbx))
    exact ret_val2 Tryz.results93 rfl rfl rfl (HT2.out.1.2.1.stored ⟨0, 0, 0, ⟨#[]⟩⟩) ⟨rfl, below_val HT2.out.below (by omega) _ _ _ _⟩
   ·have e0 : (k == 0) = false := by simp; exact h0
    have e1 : (k != 0) = true := by simp; exact h0
    by_cases h0' : k' = 0
    ·subst h0'
     rw [if_pos (.inr rfl)] at hr
     subst hr
     clear hc3
     go_enter Tryz.func93, Tryz.ntmps93
     go_wp2_with (first | (go_at_call 64; refine (RRight_exp _ _ _ _ (by assumption) _).mono ?_; (try rw [HN.out]); (try rw [HQ.out]); rintro e wx ⟨rfl, hbx⟩; (first | (have HT2 := hdq (HT1.out.later hbx); obtain ⟨⟨⟨⟨⟨l1, l2, l3, l4⟩, _⟩, ⟨⟨m1, m2, m3, m4⟩, _⟩, _⟩, ⟨⟨r1, r2, r3, r4⟩, g1, g2, g3, g4⟩, _⟩, ⟨⟨o1, o2, o3, o4⟩, _⟩, hsx⟩ := HT2.out; simp only [Nat.zero_add] at l1 l2 l3 l4 m1 m2 m3 m4 r1 r2 r3 r4 g1 g2 g3 g4 o1 o2 o3 o4) | (have HT1 := hdq (HT.out.later hbx); obtain ⟨⟨⟨⟨⟨l1, l2, l3, l4⟩, _⟩, ⟨⟨m1, m2, m3, m4⟩, _⟩, _⟩, ⟨⟨r1, r2, r3, r4⟩, g1, g2, g3, g4⟩, _⟩, ⟨⟨o1, o2, o3, o4⟩, _⟩, hsx⟩ := HT1.out; simp only [Nat.zero_add] at l1 l2 l3 l4 m1 m2 m3 m4 r1 r2 r3 r4 g1 g2 g3 g4 o1 o2 o3 o4)); clear hbx))
     exact ret_val2 Tryz.results93 rfl rfl rfl (HT2.out.1.2.1.stored ⟨0, 0, 0, ⟨#[]⟩⟩) ⟨rfl, below_val HT2.out.below (by omega) _ _ _ _⟩
    ·have e0' : (k' == 0) = false := by simp; exact h0'
     have e1' : (k' != 0) = true := by simp; exact h0'
     rw [if_neg (by omega)] at hr
     by_cases hkk : k = k'
     ·subst hkk
      rw [if_neg (by simp)] at hr
      unfold truthV at hr
      rcases (show op = 7 ∨ op = 8 ∨ op = 9 by omega) with rfl | rfl | rfl
      all_goals
       rcases hc3 with rfl | rfl | rfl
       all_goals
        simp only [show ¬ (8 : Int) = 7 by omega, show ¬ (9 : Int) = 7 by omega, show ¬ (9 : Int) = 8 by omega, show ¬ (-1 : Int) = 0 by omega, show ¬ (1 : Int) = 0 by omega, show (-1 : Int) < 0 by omega, show ¬ (1 : Int) < 0 by omega, show (-1 : Int) ≤ 0 by omega, show ¬ (1 : Int) ≤ 0 by omega, show ¬ (0 : Int) < 0 by omega, Int.le_refl, if_true, if_false, decide_true, decide_false] at hr
        first
         | (
          obtain rfl : r = (⟨1, tI true, 0, ⟨#[]⟩⟩, 0) := hr
          go_enter Tryz.func93, Tryz.ntmps93
          go_wp2_with (first | (go_at_call 64; refine (RRight_exp _ _ _ _ (by assumption) _).mono ?_; (try rw [HN.out]); (try rw [HQ.out]); rintro e wx ⟨rfl, hbx⟩; (first | (have HT2 := hdq (HT1.out.later hbx); obtain ⟨⟨⟨⟨⟨l1, l2, l3, l4⟩, _⟩, ⟨⟨m1, m2, m3, m4⟩, _⟩, _⟩, ⟨⟨r1, r2, r3, r4⟩, g1, g2, g3, g4⟩, _⟩, ⟨⟨o1, o2, o3, o4⟩, _⟩, hsx⟩ := HT2.out; simp only [Nat.zero_add] at l1 l2 l3 l4 m1 m2 m3 m4 r1 r2 r3 r4 g1 g2 g3 g4 o1 o2 o3 o4) | (have HT1 := hdq (HT.out.later hbx); obtain ⟨⟨⟨⟨⟨l1, l2, l3, l4⟩, _⟩, ⟨⟨m1, m2, m3, m4⟩, _⟩, _⟩, ⟨⟨r1, r2, r3, r4⟩, g1, g2, g3, g4⟩, _⟩, ⟨⟨o1, o2, o3, o4⟩, _⟩, hsx⟩ := HT1.out; simp only [Nat.zero_add] at l1 l2 l3 l4 m1 m2 m3 m4 r1 r2 r3 r4 g1 g2 g3 g4 o1 o2 o3 o4)); clear hbx) | (go_at_call 71; refine (HC.out _).mono ?_; rintro e wy ⟨rfl, hby⟩; have HT3 := hdq (HT2.out.later hby); obtain ⟨⟨⟨⟨⟨l1, l2, l3, l4⟩, _⟩, ⟨⟨m1, m2, m3, m4⟩, _⟩, _⟩, ⟨⟨r1, r2, r3, r4⟩, g1, g2, g3, g4⟩, _⟩, ⟨⟨o1, o2, o3, o4⟩, _⟩, hsx⟩ := HT3.out; simp only [Nat.zero_add] at l1 l2 l3 l4 m1 m2 m3 m4 r1 r2 r3 r4 g1 g2 g3 g4 o1 o2 o3 o4; clear hby) | (go_at_call 95; refine (RBool_exp _ _).mono ?_; rintro e wy ⟨rfl, hby⟩; have HT4 := hdq (HT3.out.later hby); obtain ⟨⟨⟨⟨⟨l1, l2, l3, l4⟩, _⟩, ⟨⟨m1, m2, m3, m4⟩, _⟩, _⟩, ⟨⟨r1, r2, r3, r4⟩, g1, g2, g3, g4⟩, _⟩, ⟨⟨o1, o2, o3, o4⟩, _⟩, hsx⟩ := HT4.out; simp only [Nat.zero_add] at l1 l2 l3 l4 m1 m2 m3 m4 r1 r2 r3 r4 g1 g2 g3 g4 o1 o2 o3 o4; clear hby))
          exact ret_val2 Tryz.results93 rfl rfl rfl (HT4.out.1.2.1.stored ⟨1, tI true, 0, ⟨#[]⟩⟩) ⟨rfl, below_val HT4.out.below (by omega) _ _ _ _⟩)
         | (
          obtain rfl : r = (⟨1, tI false, 0, ⟨#[]⟩⟩, 0) := hr
          go_enter Tryz.func93, Tryz.ntmps93
          go_wp2_with (first | (go_at_call 64; refine (RRight_exp _ _ _ _ (by assumption) _).mono ?_; (try rw [HN.out]); (try rw [HQ.out]); rintro e wx ⟨rfl, hbx⟩; (first | (have HT2 := hdq (HT1.out.later hbx); obtain ⟨⟨⟨⟨⟨l1, l2, l3, l4⟩, _⟩, ⟨⟨m1, m2, m3, m4⟩, _⟩, _⟩, ⟨⟨r1, r2, r3, r4⟩, g1, g2, g3, g4⟩, _⟩, ⟨⟨o1, o2, o3, o4⟩, _⟩, hsx⟩ := HT2.out; simp only [Nat.zero_add] at l1 l2 l3 l4 m1 m2 m3 m4 r1 r2 r3 r4 g1 g2 g3 g4 o1 o2 o3 o4) | (have HT1 := hdq (HT.out.later hbx); obtain ⟨⟨⟨⟨⟨l1, l2, l3, l4⟩, _⟩, ⟨⟨m1, m2, m3, m4⟩, _⟩, _⟩, ⟨⟨r1, r2, r3, r4⟩, g1, g2, g3, g4⟩, _⟩, ⟨⟨o1, o2, o3, o4⟩, _⟩, hsx⟩ := HT1.out; simp only [Nat.zero_add] at l1 l2 l3 l4 m1 m2 m3 m4 r1 r2 r3 r4 g1 g2 g3 g4 o1 o2 o3 o4)); clear hbx) | (go_at_call 71; refine (HC.out _).mono ?_; rintro e wy ⟨rfl, hby⟩; have HT3 := hdq (HT2.out.later hby); obtain ⟨⟨⟨⟨⟨l1, l2, l3, l4⟩, _⟩, ⟨⟨m1, m2, m3, m4⟩, _⟩, _⟩, ⟨⟨r1, r2, r3, r4⟩, g1, g2, g3, g4⟩, _⟩, ⟨⟨o1, o2, o3, o4⟩, _⟩, hsx⟩ := HT3.out; simp only [Nat.zero_add] at l1 l2 l3 l4 m1 m2 m3 m4 r1 r2 r3 r4 g1 g2 g3 g4 o1 o2 o3 o4; clear hby) | (go_at_call 95; refine (RBool_exp _ _).mono ?_; rintro e wy ⟨rfl, hby⟩; have HT4 := hdq (HT3.out.later hby); obtain ⟨⟨⟨⟨⟨l1, l2, l3, l4⟩, _⟩, ⟨⟨m1, m2, m3, m4⟩, _⟩, _⟩, ⟨⟨r1, r2, r3, r4⟩, g1, g2, g3, g4⟩, _⟩, ⟨⟨o1, o2, o3, o4⟩, _⟩, hsx⟩ := HT4.out; simp only [Nat.zero_add] at l1 l2 l3 l4 m1 m2 m3 m4 r1 r2 r3 r4 g1 g2 g3 g4 o1 o2 o3 o4; clear hby))
          exact ret_val2 Tryz.results93 rfl rfl rfl (HT4.out.1.2.1.stored ⟨1, tI false, 0, ⟨#[]⟩⟩) ⟨rfl, below_val HT4.out.below (by omega) _ _ _ _⟩)
     ·rw [if_pos hkk] at hr
      have ekk : (k == k') = false := by simp; exact hkk
      have ekk2 : (k != k') = true := by simp; exact hkk
      subst hr
      clear hc3
      go_enter Tryz.func93, Tryz.ntmps93
      go_wp2_with (first | (go_at_call 64; refine (RRight_exp _ _ _ _ (by assumption) _).mono ?_; (try rw [HN.out]); (try rw [HQ.out]); rintro e wx ⟨rfl, hbx⟩; (first | (have HT2 := hdq (HT1.out.later hbx); obtain ⟨⟨⟨⟨⟨l1, l2, l3, l4⟩, _⟩, ⟨⟨m1, m2, m3, m4⟩, _⟩, _⟩, ⟨⟨r1, r2, r3, r4⟩, g1, g2, g3, g4⟩, _⟩, ⟨⟨o1, o2, o3, o4⟩, _⟩, hsx⟩ := HT2.out; simp only [Nat.zero_add] at l1 l2 l3 l4 m1 m2 m3 m4 r1 r2 r3 r4 g1 g2 g3 g4 o1 o2 o3 o4) | (have HT1 := hdq (HT.out.later hbx); obtain ⟨⟨⟨⟨⟨l1, l2, l3, l4⟩, _⟩, ⟨⟨m1, m2, m3, m4⟩, _⟩, _⟩, ⟨⟨r1, r2, r3, r4⟩, g1, g2, g3, g4⟩, _⟩, ⟨⟨o1, o2, o3, o4⟩, _⟩, hsx⟩ := HT1.out; simp only [Nat.zero_add] at l1 l2 l3 l4 m1 m2 m3 m4 r1 r2 r3 r4 g1 g2 g3 g4 o1 o2 o3 o4)); clear hbx))
      exact ret_val2 Tryz.results93 rfl rfl rfl (HT2.out.1.2.1.stored ⟨0, 0, 0, ⟨#[]⟩⟩) ⟨rfl, below_val HT2.out.below (by omega) _ _ _ _⟩
theorem RTest_any (op : Int) (a b : Val) (ha : a.wf) (hb : b.wf) (w : World) : Calls Tryz.prog 93 #[.int .i64 op, a.agg, b.agg] w
 fun e w' => e = .returned (.tuple #[(testV op a b).1.agg, .int .i64 (testV op a b).2]) ∧ Below w.heap.size w w' := by
 by_cases hop : op < 7 ∨ 9 < op
 ·have HT := hdq (FourB.start w a b Val.null Val.null 39 39 39 39)
  have e : testV op a b = (Val.null, 2) := by unfold testV; rw [if_pos hop]
  rw [e]
  clear e ha hb
  obtain ⟨k, n, f, s⟩ := a
  obtain ⟨k', n', f', s'⟩ := b
  unfold Val.agg Val.null at *
  simp only at *
  rcases hop with h | h
  ·go_enter Tryz.func93, Tryz.ntmps93
   go_wp2
   exact ret_val2 Tryz.results93 rfl rfl rfl HT.out.1.2.1 ⟨rfl, HT.out.below⟩
  ·have h' : ¬ op < 7 := by omega
   go_enter Tryz.func93, Tryz.ntmps93
   go_wp2
   exact ret_val2 Tryz.results93 rfl rfl rfl HT.out.1.2.1 ⟨rfl, HT.out.below⟩
 ·exact RTest_in op a b ha hb (by omega) (by omega) w
end Go.Proofs.YtgmolmpfihkolaaGreat
