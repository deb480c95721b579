/- Part of the proof. -/
import Derived.Test.YtgmolmpfihkolaaGreatD04
namespace Go.Proofs.YtgmolmpfihkolaaGreat
open Go.RowKit
set_option linter.unusedVariables false
set_option maxRecDepth 100000
attribute [local go_sem] run_store_float
set_option maxHeartbeats 4000000 in
theorem Both_and (a b : Val) (ha : a.wf) (hb : b.wf) (w : World) : Calls Tryz.prog 83 #[.int .i64 10, a.agg, b.agg] w
 fun e w' => e = .returned (.tuple #[(bothV 10 a b).1.agg, .int .i64 (bothV 10 a b).2]) ∧ Below w.heap.size w w' := by
 have hmf : ∀ (fn : Fn) (first cap : Array Value) (w : World), (Instr.makeFunc fn first cap).run Tryz.prog w = .ok (.func fn first cap) w := fun _ _ _ _ => rfl
 have HT := hdq (Three.start w a b Val.null 39 39 39)
 obtain ⟨r, hr⟩ : ∃ r, r = bothV 10 a b := ⟨_, rfl⟩
 rw [← hr]
 unfold bothV at hr
 rw [if_neg (show ¬ (10 : Int) = 12 by omega)] at hr
 unfold bothC at hr
 rw [if_neg (by omega)] at hr
 obtain ⟨k, n, f, s⟩ := a
 obtain ⟨k', n', f', s'⟩ := b
 obtain ⟨q, hq⟩ : ∃ q, q = ((decide (k = 1) && decide (n = 0)) || (decide (k' = 1) && decide (n' = 0))) := ⟨_, rfl⟩
 have HIS := hdq (fun (b c : Nat) (W : World) h1 h2 h3 h4 => is_any 0 k n k' n' b c W h1 h2 h3 h4)
 rw [← hq] at HIS
 have hq2 : q = true ↔ (k = 1 ∧ n = 0 ∨ k' = 1 ∧ n' = 0) := by rw [hq]; simp
 clear hq
 unfold Val.agg Val.null at *
 simp only at *
 obtain ⟨qa, hqa⟩ : ∃ q, q = truthOk ⟨k, n, f, s⟩ := ⟨_, rfl⟩
 obtain ⟨qb, hqb⟩ : ∃ q, q = truthOk ⟨k', n', f', s'⟩ := ⟨_, rfl⟩
 rw [← hqa, ← hqb] at hr
 have HN := hdq hqa.symm
 have HQ := hdq hqb.symm
 clear hqa hqb
 cases qa with
 | false =>
  rw [if_neg (by simp)] at hr
  subst hr
  clear hq2
  go_enter Tryz.func83, Tryz.ntmps83
  go_wp2_with (first | (go_at_call 116; refine (truth_exp _ _ _ _ (by assumption) _).mono ?_; (try rw [HN.out]); (try rw [HQ.out]); rintro e wx ⟨rfl, hbx⟩; (first | (have HT2 := hdq (HT1.out.later hbx); obtain ⟨⟨⟨⟨l1, l2, l3, l4⟩, _⟩, ⟨⟨m1, m2, m3, m4⟩, _⟩, _⟩, ⟨⟨r1, r2, r3, r4⟩, g1, g2, g3, g4⟩, hsx⟩ := HT2.out; simp only [Nat.zero_add] at l1 l2 l3 l4 m1 m2 m3 m4 r1 r2 r3 r4 g1 g2 g3 g4) | (have HT1 := hdq (HT.out.later hbx); obtain ⟨⟨⟨⟨l1, l2, l3, l4⟩, _⟩, ⟨⟨m1, m2, m3, m4⟩, _⟩, _⟩, ⟨⟨r1, r2, r3, r4⟩, g1, g2, g3, g4⟩, hsx⟩ := HT1.out; simp only [Nat.zero_add] at l1 l2 l3 l4 m1 m2 m3 m4 r1 r2 r3 r4 g1 g2 g3 g4)); clear hbx))
  exact ret_val2 Tryz.results83 rfl rfl rfl (HT1.out.2.1.stored ⟨0, 0, 0, ⟨#[]⟩⟩) ⟨rfl, below_val HT1.out.below (by omega) _ _ _ _⟩
 | true =>
  cases qb with
  | false =>
   rw [if_neg (by simp)] at hr
   subst hr
   clear hq2
   go_enter Tryz.func83, Tryz.ntmps83
   go_wp2_with (first | (go_at_call 116; refine (truth_exp _ _ _ _ (by assumption) _).mono ?_; (try rw [HN.out]); (try rw [HQ.out]); rintro e wx ⟨rfl, hbx⟩; (first | (have HT2 := hdq (HT1.out.later hbx); obtain ⟨⟨⟨⟨l1, l2, l3, l4⟩, _⟩, ⟨⟨m1, m2, m3, m4⟩, _⟩, _⟩, ⟨⟨r1, r2, r3, r4⟩, g1, g2, g3, g4⟩, hsx⟩ := HT2.out; simp only [Nat.zero_add] at l1 l2 l3 l4 m1 m2 m3 m4 r1 r2 r3 r4 g1 g2 g3 g4) | (have HT1 := hdq (HT.out.later hbx); obtain ⟨⟨⟨⟨l1, l2, l3, l4⟩, _⟩, ⟨⟨m1, m2, m3, m4⟩, _⟩, _⟩, ⟨⟨r1, r2, r3, r4⟩, g1, g2, g3, g4⟩, hsx⟩ := HT1.out; simp only [Nat.zero_add] at l1 l2 l3 l4 m1 m2 m3 m4 r1 r2 r3 r4 g1 g2 g3 g4)); clear hbx))
   exact ret_val2 Tryz.results83 rfl rfl rfl (HT2.out.2.1.stored ⟨0, 0, 0, ⟨#[]⟩⟩) ⟨rfl, below_val HT2.out.below (by omega) _ _ _ _⟩
  | true =>
   rw [Bool.true_and, if_pos rfl] at hr
   cases q with
   | true =>
    have hq3 := hq2.1 rfl
    rw [if_pos ⟨trivial, hq3⟩] at hr
    unfold truthV at hr
    subst hr
    clear hq2 hq3
    go_enter Tryz.func83, Tryz.ntmps83
    go_wp2_with (first | (go_at_call 116; refine (truth_exp _ _ _ _ (by assumption) _).mono ?_; (try rw [HN.out]); (try rw [HQ.out]); rintro e wx ⟨rfl, hbx⟩; (first | (have HT2 := hdq (HT1.out.later hbx); obtain ⟨⟨⟨⟨l1, l2, l3, l4⟩, _⟩, ⟨⟨m1, m2, m3, m4⟩, _⟩, _⟩, ⟨⟨r1, r2, r3, r4⟩, g1, g2, g3, g4⟩, hsx⟩ := HT2.out; simp only [Nat.zero_add] at l1 l2 l3 l4 m1 m2 m3 m4 r1 r2 r3 r4 g1 g2 g3 g4) | (have HT1 := hdq (HT.out.later hbx); obtain ⟨⟨⟨⟨l1, l2, l3, l4⟩, _⟩, ⟨⟨m1, m2, m3, m4⟩, _⟩, _⟩, ⟨⟨r1, r2, r3, r4⟩, g1, g2, g3, g4⟩, hsx⟩ := HT1.out; simp only [Nat.zero_add] at l1 l2 l3 l4 m1 m2 m3 m4 r1 r2 r3 r4 g1 g2 g3 g4)); clear hbx) | (go_at_call 117; refine (HIS.out _ _ _ (by assumption) (by assumption) (by assumption) (by assumption)).mono ?_; rintro e w' ⟨rfl, rfl⟩) | (go_at_call 84; refine (Truth_exp _ _).mono ?_; rintro e wy ⟨rfl, hby⟩; have HT3 := hdq (HT2.out.later hby); obtain ⟨⟨⟨⟨l1, l2, l3, l4⟩, _⟩, ⟨⟨m1, m2, m3, m4⟩, _⟩, _⟩, ⟨⟨r1, r2, r3, r4⟩, g1, g2, g3, g4⟩, hsx⟩ := HT3.out; simp only [Nat.zero_add] at l1 l2 l3 l4 m1 m2 m3 m4 r1 r2 r3 r4 g1 g2 g3 g4; clear hby))
    all_goals exact ret_val2 Tryz.results83 rfl rfl rfl (HT3.out.2.1.stored ⟨1, tI false, 0, ⟨#[]⟩⟩) ⟨rfl, below_val HT3.out.below (by omega) _ _ _ _⟩
   | false =>
    have hq3 : ¬ (k = 1 ∧ n = 0 ∨ k' = 1 ∧ n' = 0) := fun h => by have := hq2.2 h; cases this
    rw [if_neg (fun h => hq3 h.2), if_neg (fun h => by cases h.1)] at hr
    clear hq2 hq3
    by_cases h0 : k = 0
    ·subst h0
     rw [if_pos (.inl rfl)] at hr
     subst hr
     go_enter Tryz.func83, Tryz.ntmps83
     go_wp2_with (first | (go_at_call 116; refine (truth_exp _ _ _ _ (by assumption) _).mono ?_; (try rw [HN.out]); (try rw [HQ.out]); rintro e wx ⟨rfl, hbx⟩; (first | (have HT2 := hdq (HT1.out.later hbx); obtain ⟨⟨⟨⟨l1, l2, l3, l4⟩, _⟩, ⟨⟨m1, m2, m3, m4⟩, _⟩, _⟩, ⟨⟨r1, r2, r3, r4⟩, g1, g2, g3, g4⟩, hsx⟩ := HT2.out; simp only [Nat.zero_add] at l1 l2 l3 l4 m1 m2 m3 m4 r1 r2 r3 r4 g1 g2 g3 g4) | (have HT1 := hdq (HT.out.later hbx); obtain ⟨⟨⟨⟨l1, l2, l3, l4⟩, _⟩, ⟨⟨m1, m2, m3, m4⟩, _⟩, _⟩, ⟨⟨r1, r2, r3, r4⟩, g1, g2, g3, g4⟩, hsx⟩ := HT1.out; simp only [Nat.zero_add] at l1 l2 l3 l4 m1 m2 m3 m4 r1 r2 r3 r4 g1 g2 g3 g4)); clear hbx) | (go_at_call 117; refine (HIS.out _ _ _ (by assumption) (by assumption) (by assumption) (by assumption)).mono ?_; rintro e w' ⟨rfl, rfl⟩) | (go_at_call 84; refine (Truth_exp _ _).mono ?_; rintro e wy ⟨rfl, hby⟩; have HT3 := hdq (HT2.out.later hby); obtain ⟨⟨⟨⟨l1, l2, l3, l4⟩, _⟩, ⟨⟨m1, m2, m3, m4⟩, _⟩, _⟩, ⟨⟨r1, r2, r3, r4⟩, g1, g2, g3, g4⟩, hsx⟩ := HT3.out; simp only [Nat.zero_add] at l1 l2 l3 l4 m1 m2 m3 m4 r1 r2 r3 r4 g1 g2 g3 g4; clear hby))
     exact ret_val2 Tryz.results83 rfl rfl rfl (HT2.out.2.1.stored ⟨0, 0, 0, ⟨#[]⟩⟩) ⟨rfl, below_val HT2.out.below (by omega) _ _ _ _⟩
    ·have e0 : (k == 0) = false := by simp; exact h0
     by_cases h0' : k' = 0
     ·subst h0'
      rw [if_pos (.inr rfl)] at hr
      subst hr
      go_enter Tryz.func83, Tryz.ntmps83
      go_wp2_with (first | (go_at_call 116; refine (truth_exp _ _ _ _ (by assumption) _).mono ?_; (try rw [HN.out]); (try rw [HQ.out]); rintro e wx ⟨rfl, hbx⟩; (first | (have HT2 := hdq (HT1.out.later hbx); obtain ⟨⟨⟨⟨l1, l2, l3, l4⟩, _⟩, ⟨⟨m1, m2, m3, m4⟩, _⟩, _⟩, ⟨⟨r1, r2, r3, r4⟩, g1, g2, g3, g4⟩, hsx⟩ := HT2.out; simp only [Nat.zero_add] at l1 l2 l3 l4 m1 m2 m3 m4 r1 r2 r3 r4 g1 g2 g3 g4) | (have HT1 := hdq (HT.out.later hbx); obtain ⟨⟨⟨⟨l1, l2, l3, l4⟩, _⟩, ⟨⟨m1, m2, m3, m4⟩, _⟩, _⟩, ⟨⟨r1, r2, r3, r4⟩, g1, g2, g3, g4⟩, hsx⟩ := HT1.out; simp only [Nat.zero_add] at l1 l2 l3 l4 m1 m2 m3 m4 r1 r2 r3 r4 g1 g2 g3 g4)); clear hbx) | (go_at_call 117; refine (HIS.out _ _ _ (by assumption) (by assumption) (by assumption) (by assumption)).mono ?_; rintro e w' ⟨rfl, rfl⟩) | (go_at_call 84; refine (Truth_exp _ _).mono ?_; rintro e wy ⟨rfl, hby⟩; have HT3 := hdq (HT2.out.later hby); obtain ⟨⟨⟨⟨l1, l2, l3, l4⟩, _⟩, ⟨⟨m1, m2, m3, m4⟩, _⟩, _⟩, ⟨⟨r1, r2, r3, r4⟩, g1, g2, g3, g4⟩, hsx⟩ := HT3.out; simp only [Nat.zero_add] at l1 l2 l3 l4 m1 m2 m3 m4 r1 r2 r3 r4 g1 g2 g3 g4; clear hby))
      exact ret_val2 Tryz.results83 rfl rfl rfl (HT2.out.2.1.stored ⟨0, 0, 0, ⟨#[]⟩⟩) ⟨rfl, below_val HT2.out.below (by omega) _ _ _ _⟩
     ·have e0' : (k' == 0) = false := by simp; exact h0'
      rw [if_neg (by omega), if_neg (by omega)] at hr
      unfold truthV at hr
      subst hr
      go_enter Tryz.func83, Tryz.ntmps83
      go_wp2_with (first | (go_at_call 116; refine (truth_exp _ _ _ _ (by assumption) _).mono ?_; (try rw [HN.out]); (try rw [HQ.out]); rintro e wx ⟨rfl, hbx⟩; (first | (have HT2 := hdq (HT1.out.later hbx); obtain ⟨⟨⟨⟨l1, l2, l3, l4⟩, _⟩, ⟨⟨m1, m2, m3, m4⟩, _⟩, _⟩, ⟨⟨r1, r2, r3, r4⟩, g1, g2, g3, g4⟩, hsx⟩ := HT2.out; simp only [Nat.zero_add] at l1 l2 l3 l4 m1 m2 m3 m4 r1 r2 r3 r4 g1 g2 g3 g4) | (have HT1 := hdq (HT.out.later hbx); obtain ⟨⟨⟨⟨l1, l2, l3, l4⟩, _⟩, ⟨⟨m1, m2, m3, m4⟩, _⟩, _⟩, ⟨⟨r1, r2, r3, r4⟩, g1, g2, g3, g4⟩, hsx⟩ := HT1.out; simp only [Nat.zero_add] at l1 l2 l3 l4 m1 m2 m3 m4 r1 r2 r3 r4 g1 g2 g3 g4)); clear hbx) | (go_at_call 117; refine (HIS.out _ _ _ (by assumption) (by assumption) (by assumption) (by assumption)).mono ?_; rintro e w' ⟨rfl, rfl⟩) | (go_at_call 84; refine (Truth_exp _ _).mono ?_; rintro e wy ⟨rfl, hby⟩; have HT3 := hdq (HT2.out.later hby); obtain ⟨⟨⟨⟨l1, l2, l3, l4⟩, _⟩, ⟨⟨m1, m2, m3, m4⟩, _⟩, _⟩, ⟨⟨r1, r2, r3, r4⟩, g1, g2, g3, g4⟩, hsx⟩ := HT3.out; simp only [Nat.zero_add] at l1 l2 l3 l4 m1 m2 m3 m4 r1 r2 r3 r4 g1 g2 g3 g4; clear hby))
      exact ret_val2 Tryz.results83 rfl rfl rfl (HT3.out.2.1.stored ⟨1, tI true, 0, ⟨#[]⟩⟩) ⟨rfl, below_val HT3.out.below (by omega) _ _ _ _⟩
set_option maxHeartbeats 4000000 in
theorem Both_or (a b : Val) (ha : a.wf) (hb : b.wf) (w : World) : Calls Tryz.prog 83 #[.int .i64 11, a.agg, b.agg] w
 fun e w' => e = .returned (.tuple #[(bothV 11 a b).1.agg, .int .i64 (bothV 11 a b).2]) ∧ Below w.heap.size w w' := by
 have hmf : ∀ (fn : Fn) (first cap : Array Value) (w : World), (Instr.makeFunc fn first cap).run Tryz.prog w = .ok (.func fn first cap) w := fun _ _ _ _ => rfl
 have HT := hdq (Three.start w a b Val.null 39 39 39)
 obtain ⟨r, hr⟩ : ∃ r, r = bothV 11 a b := ⟨_, rfl⟩
 rw [← hr]
 unfold bothV at hr
 rw [if_neg (show ¬ (11 : Int) = 12 by omega)] at hr
 unfold bothC at hr
 rw [if_neg (by omega)] at hr
 obtain ⟨k, n, f, s⟩ := a
 obtain ⟨k', n', f', s'⟩ := b
 obtain ⟨q, hq⟩ : ∃ q, q = ((decide (k = 1) && decide (n = 1)) || (decide (k' = 1) && decide (n' = 1))) := ⟨_, rfl⟩
 have HIS := hdq (fun (b c : Nat) (W : World) h1 h2 h3 h4 => is_any 1 k n k' n' b c W h1 h2 h3 h4)
 rw [← hq] at HIS
 have hq2 : q = true ↔ (k = 1 ∧ n = 1 ∨ k' = 1 ∧ n' = 1) := by rw [hq]; simp
 clear hq
 unfold Val.agg Val.null at *
 simp only at *
 obtain ⟨qa, hqa⟩ : ∃ q, q = truthOk ⟨k, n, f, s⟩ := ⟨_, rfl⟩
 obtain ⟨qb, hqb⟩ : ∃ q, q = truthOk ⟨k', n', f', s'⟩ := ⟨_, rfl⟩
 rw [← hqa, ← hqb] at hr
 have HN := hdq hqa.symm
 have HQ := hdq hqb.symm
 clear hqa hqb
 cases qa with
 | false =>
  rw [if_neg (by simp)] at hr
  subst hr
  clear hq2
  go_enter Tryz.func83, Tryz.ntmps83
  go_wp2_with (first | (go_at_call 116; refine (truth_exp _ _ _ _ (by assumption) _).mono ?_; (try rw [HN.out]); (try rw [HQ.out]); rintro e wx ⟨rfl, hbx⟩; (first | (have HT2 := hdq (HT1.out.later hbx); obtain ⟨⟨⟨⟨l1, l2, l3, l4⟩, _⟩, ⟨⟨m1, m2, m3, m4⟩, _⟩, _⟩, ⟨⟨r1, r2, r3, r4⟩, g1, g2, g3, g4⟩, hsx⟩ := HT2.out; simp only [Nat.zero_add] at l1 l2 l3 l4 m1 m2 m3 m4 r1 r2 r3 r4 g1 g2 g3 g4) | (have HT1 := hdq (HT.out.later hbx); obtain ⟨⟨⟨⟨l1, l2, l3, l4⟩, _⟩, ⟨⟨m1, m2, m3, m4⟩, _⟩, _⟩, ⟨⟨r1, r2, r3, r4⟩, g1, g2, g3, g4⟩, hsx⟩ := HT1.out; simp only [Nat.zero_add] at l1 l2 l3 l4 m1 m2 m3 m4 r1 r2 r3 r4 g1 g2 g3 g4)); clear hbx))
  exact ret_val2 Tryz.results83 rfl rfl rfl (HT1.out.2.1.stored ⟨0, 0, 0, ⟨#[]⟩⟩) ⟨rfl, below_val HT1.out.below (by omega) _ _ _ _⟩
 | true =>
  cases qb with
  | false =>
   rw [if_neg (by simp)] at hr
   subst hr
   clear hq2
   go_enter Tryz.func83, Tryz.ntmps83
   go_wp2_with (first | (go_at_call 116; refine (truth_exp _ _ _ _ (by assumption) _).mono ?_; (try rw [HN.out]); (try rw [HQ.out]); rintro e wx ⟨rfl, hbx⟩; (first | (have HT2 := hdq (HT1.out.later hbx); obtain ⟨⟨⟨⟨l1, l2, l3, l4⟩, _⟩, ⟨⟨m1, m2, m3, m4⟩, _⟩, _⟩, ⟨⟨r1, r2, r3, r4⟩, g1, g2, g3, g4⟩, hsx⟩ := HT2.out; simp only [Nat.zero_add] at l1 l2 l3 l4 m1 m2 m3 m4 r1 r2 r3 r4 g1 g2 g3 g4) | (have HT1 := hdq (HT.out.later hbx); obtain ⟨⟨⟨⟨l1, l2, l3, l4⟩, _⟩, ⟨⟨m1, m2, m3, m4⟩, _⟩, _⟩, ⟨⟨r1, r2, r3, r4⟩, g1, g2, g3, g4⟩, hsx⟩ := HT1.out; simp only [Nat.zero_add] at l1 l2 l3 l4 m1 m2 m3 m4 r1 r2 r3 r4 g1 g2 g3 g4)); clear hbx))
   exact ret_val2 Tryz.results83 rfl rfl rfl (HT2.out.2.1.stored ⟨0, 0, 0, ⟨#[]⟩⟩) ⟨rfl, below_val HT2.out.below (by omega) _ _ _ _⟩
  | true =>
   rw [Bool.true_and, if_pos rfl] at hr
   cases q with
   | true =>
    have hq3 := hq2.1 rfl
    rw [if_neg (fun h => by cases h.1), if_pos ⟨trivial, hq3⟩] at hr
    unfold truthV at hr
    subst hr
    clear hq2 hq3
    go_enter Tryz.func83, Tryz.ntmps83
    go_wp2_with (first | (go_at_call 116; refine (truth_exp _ _ _ _ (by assumption) _).mono ?_; (try rw [HN.out]); (try rw [HQ.out]); rintro e wx ⟨rfl, hbx⟩; (first | (have HT2 := hdq (HT1.out.later hbx); obtain ⟨⟨⟨⟨l1, l2, l3, l4⟩, _⟩, ⟨⟨m1, m2, m3, m4⟩, _⟩, _⟩, ⟨⟨r1, r2, r3, r4⟩, g1, g2, g3, g4⟩, hsx⟩ := HT2.out; simp only [Nat.zero_add] at l1 l2 l3 l4 m1 m2 m3 m4 r1 r2 r3 r4 g1 g2 g3 g4) | (have HT1 := hdq (HT.out.later hbx); obtain ⟨⟨⟨⟨l1, l2, l3, l4⟩, _⟩, ⟨⟨m1, m2, m3, m4⟩, _⟩, _⟩, ⟨⟨r1, r2, r3, r4⟩, g1, g2, g3, g4⟩, hsx⟩ := HT1.out; simp only [Nat.zero_add] at l1 l2 l3 l4 m1 m2 m3 m4 r1 r2 r3 r4 g1 g2 g3 g4)); clear hbx) | (go_at_call 117; refine (HIS.out _ _ _ (by assumption) (by assumption) (by assumption) (by assumption)).mono ?_; rintro e w' ⟨rfl, rfl⟩) | (go_at_call 84; refine (Truth_exp _ _).mono ?_; rintro e wy ⟨rfl, hby⟩; have HT3 := hdq (HT2.out.later hby); obtain ⟨⟨⟨⟨l1, l2, l3, l4⟩, _⟩, ⟨⟨m1, m2, m3, m4⟩, _⟩, _⟩, ⟨⟨r1, r2, r3, r4⟩, g1, g2, g3, g4⟩, hsx⟩ := HT3.out; simp only [Nat.zero_add] at l1 l2 l3 l4 m1 m2 m3 m4 r1 r2 r3 r4 g1 g2 g3 g4; clear hby))
    all_goals exact ret_val2 Tryz.results83 rfl rfl rfl (HT3.out.2.1.stored ⟨1, tI true, 0, ⟨#[]⟩⟩) ⟨rfl, below_val HT3.out.below (by omega) _ _ _ _⟩
   | false =>
    have hq3 : ¬ (k = 1 ∧ n = 1 ∨ k' = 1 ∧ n' = 1) := fun h => by have := hq2.2 h; cases this
    rw [if_neg (fun h => by cases h.1), if_neg (fun h => hq3 h.2)] at hr
    clear hq2 hq3
    by_cases h0 : k = 0
    ·subst h0
     rw [if_pos (.inl rfl)] at hr
     subst hr
     go_enter Tryz.func83, Tryz.ntmps83
     go_wp2_with (first | (go_at_call 116; refine (truth_exp _ _ _ _ (by assumption) _).mono ?_; (try rw [HN.out]); (try rw [HQ.out]); rintro e wx ⟨rfl, hbx⟩; (first | (have HT2 := hdq (HT1.out.later hbx); obtain ⟨⟨⟨⟨l1, l2, l3, l4⟩, _⟩, ⟨⟨m1, m2, m3, m4⟩, _⟩, _⟩, ⟨⟨r1, r2, r3, r4⟩, g1, g2, g3, g4⟩, hsx⟩ := HT2.out; simp only [Nat.zero_add] at l1 l2 l3 l4 m1 m2 m3 m4 r1 r2 r3 r4 g1 g2 g3 g4) | (have HT1 := hdq (HT.out.later hbx); obtain ⟨⟨⟨⟨l1, l2, l3, l4⟩, _⟩, ⟨⟨m1, m2, m3, m4⟩, _⟩, _⟩, ⟨⟨r1, r2, r3, r4⟩, g1, g2, g3, g4⟩, hsx⟩ := HT1.out; simp only [Nat.zero_add] at l1 l2 l3 l4 m1 m2 m3 m4 r1 r2 r3 r4 g1 g2 g3 g4)); clear hbx) | (go_at_call 117; refine (HIS.out _ _ _ (by assumption) (by assumption) (by assumption) (by assumption)).mono ?_; rintro e w' ⟨rfl, rfl⟩) | (go_at_call 84; refine (Truth_exp _ _).mono ?_; rintro e wy ⟨rfl, hby⟩; have HT3 := hdq (HT2.out.later hby); obtain ⟨⟨⟨⟨l1, l2, l3, l4⟩, _⟩, ⟨⟨m1, m2, m3, m4⟩, _⟩, _⟩, ⟨⟨r1, r2, r3, r4⟩, g1, g2, g3, g4⟩, hsx⟩ := HT3.out; simp only [Nat.zero_add] at l1 l2 l3 l4 m1 m2 m3 m4 r1 r2 r3 r4 g1 g2 g3 g4; clear hby))
     exact ret_val2 Tryz.results83 rfl rfl rfl (HT2.out.2.1.stored ⟨0, 0, 0, ⟨#[]⟩⟩) ⟨rfl, below_val HT2.out.below (by omega) _ _ _ _⟩
    ·have e0 : (k == 0) = false := by simp; exact h0
     by_cases h0' : k' = 0
     ·subst h0'
      rw [if_pos (.inr rfl)] at hr
      subst hr
      go_enter Tryz.func83, Tryz.ntmps83
      go_wp2_with (first | (go_at_call 116; refine (truth_exp _ _ _ _ (by assumption) _).mono ?_; (try rw [HN.out]); (try rw [HQ.out]); rintro e wx ⟨rfl, hbx⟩; (first | (have HT2 := hdq (HT1.out.later hbx); obtain ⟨⟨⟨⟨l1, l2, l3, l4⟩, _⟩, ⟨⟨m1, m2, m3, m4⟩, _⟩, _⟩, ⟨⟨r1, r2, r3, r4⟩, g1, g2, g3, g4⟩, hsx⟩ := HT2.out; simp only [Nat.zero_add] at l1 l2 l3 l4 m1 m2 m3 m4 r1 r2 r3 r4 g1 g2 g3 g4) | (have HT1 := hdq (HT.out.later hbx); obtain ⟨⟨⟨⟨l1, l2, l3, l4⟩, _⟩, ⟨⟨m1, m2, m3, m4⟩, _⟩, _⟩, ⟨⟨r1, r2, r3, r4⟩, g1, g2, g3, g4⟩, hsx⟩ := HT1.out; simp only [Nat.zero_add] at l1 l2 l3 l4 m1 m2 m3 m4 r1 r2 r3 r4 g1 g2 g3 g4)); clear hbx) | (go_at_call 117; refine (HIS.out _ _ _ (by assumption) (by assumption) (by assumption) (by assumption)).mono ?_; rintro e w' ⟨rfl, rfl⟩) | (go_at_call 84; refine (Truth_exp _ _).mono ?_; rintro e wy ⟨rfl, hby⟩; have HT3 := hdq (HT2.out.later hby); obtain ⟨⟨⟨⟨l1, l2, l3, l4⟩, _⟩, ⟨⟨m1, m2, m3, m4⟩, _⟩, _⟩, ⟨⟨r1, r2, r3, r4⟩, g1, g2, g3, g4⟩, hsx⟩ := HT3.out; simp only [Nat.zero_add] at l1 l2 l3 l4 m1 m2 m3 m4 r1 r2 r3 r4 g1 g2 g3 g4; clear hby))
      exact ret_val2 Tryz.results83 rfl rfl rfl (HT2.out.2.1.stored ⟨0, 0, 0, ⟨#[]⟩⟩) ⟨rfl, below_val HT2.out.below (by omega) _ _ _ _⟩
     ·have e0' : (k' == 0) = false := by simp; exact h0'
      rw [if_neg (by omega), if_neg (by omega)] at hr
      unfold truthV at hr
      subst hr
      go_enter Tryz.func83, Tryz.ntmps83
      go_wp2_with (first | (go_at_call 116; refine (truth_exp _ _ _ _ (by assumption) _).mono ?_; (try rw [HN.out]); (try rw [HQ.out]); rintro e wx ⟨rfl, hbx⟩; (first | (have HT2 := hdq (HT1.out.later hbx); obtain ⟨⟨⟨⟨l1, l2, l3, l4⟩, _⟩, ⟨⟨m1, m2, m3, m4⟩, _⟩, _⟩, ⟨⟨r1, r2, r3, r4⟩, g1, g2, g3, g4⟩, hsx⟩ := HT2.out; simp only [Nat.zero_add] at l1 l2 l3 l4 m1 m2 m3 m4 r1 r2 r3 r4 g1 g2 g3 g4) | (have HT1 := hdq (HT.out.later hbx); obtain ⟨⟨⟨⟨l1, l2, l3, l4⟩, _⟩, ⟨⟨m1, m2, m3, m4⟩, _⟩, _⟩, ⟨⟨r1, r2, r3, r4⟩, g1, g2, g3, g4⟩, hsx⟩ := HT1.out; simp only [Nat.zero_add] at l1 l2 l3 l4 m1 m2 m3 m4 r1 r2 r3 r4 g1 g2 g3 g4)); clear hbx) | (go_at_call 117; refine (HIS.out _ _ _ (by assumption) (by assumption) (by assumption) (by assumption)).mono ?_; rintro e w' ⟨rfl, rfl⟩) | (go_at_call 84; refine (Truth_exp _ _).mono ?_; rintro e wy ⟨rfl, hby⟩; have HT3 := hdq (HT2.out.later hby); obtain ⟨⟨⟨⟨l1, l2, l3, l4⟩, _⟩, ⟨⟨m1, m2, m3, m4⟩, _⟩, _⟩, ⟨⟨r1, r2, r3, r4⟩, g1, g2, g3, g4⟩, hsx⟩ := HT3.out; simp only [Nat.zero_add] at l1 l2 l3 l4 m1 m2 m3 m4 r1 r2 r3 r4 g1 g2 g3 g4; clear hby))
      exact ret_val2 Tryz.results83 rfl rfl rfl (HT3.out.2.1.stored ⟨1, tI false, 0, ⟨#[]⟩⟩) ⟨rfl, below_val HT3.out.below (by omega) _ _ _ _⟩
set_option maxHeartbeats 4000000 in
theorem Both_not (a b : Val) (ha : a.wf) (w : World) : Calls Tryz.prog 83 #[.int .i64 12, a.agg, b.agg] w
 fun e w' => e = .returned (.tuple #[(bothV 12 a b).1.agg, .int .i64 (bothV 12 a b).2]) ∧ Below w.heap.size w w' := by
 have hmf : ∀ (fn : Fn) (first cap : Array Value) (w : World), (Instr.makeFunc fn first cap).run Tryz.prog w = .ok (.func fn first cap) w := fun _ _ _ _ => rfl
 have HT := hdq (Three.start w a a Val.null 39 39 39)
 obtain ⟨r, hr⟩ : ∃ r, r = bothV 12 a b := ⟨_, rfl⟩
 rw [← hr]
 unfold bothV at hr
 rw [if_pos rfl] at hr
 unfold bothC at hr
 rw [if_neg (by omega)] at hr
 obtain ⟨k, n, f, s⟩ := a
 obtain ⟨k', n', f', s'⟩ := b
 unfold Val.agg Val.null at *
 simp only at *
 obtain ⟨qa, hqa⟩ : ∃ q, q = truthOk ⟨k, n, f, s⟩ := ⟨_, rfl⟩
 rw [← hqa] at hr
 have HN := hdq hqa.symm
 have HQ := HN
 clear hqa
 cases qa with
 | false =>
  rw [if_neg (by simp)] at hr
  subst hr
  go_enter Tryz.func83, Tryz.ntmps83
  go_wp2_with (first | (go_at_call 116; refine (truth_exp _ _ _ _ (by assumption) _).mono ?_; (try rw [HN.out]); (try rw [HQ.out]); rintro e wx ⟨rfl, hbx⟩; (first | (have HT2 := hdq (HT1.out.later hbx); obtain ⟨⟨⟨⟨l1, l2, l3, l4⟩, _⟩, ⟨⟨m1, m2, m3, m4⟩, _⟩, _⟩, ⟨⟨r1, r2, r3, r4⟩, g1, g2, g3, g4⟩, hsx⟩ := HT2.out; simp only [Nat.zero_add] at l1 l2 l3 l4 m1 m2 m3 m4 r1 r2 r3 r4 g1 g2 g3 g4) | (have HT1 := hdq (HT.out.later hbx); obtain ⟨⟨⟨⟨l1, l2, l3, l4⟩, _⟩, ⟨⟨m1, m2, m3, m4⟩, _⟩, _⟩, ⟨⟨r1, r2, r3, r4⟩, g1, g2, g3, g4⟩, hsx⟩ := HT1.out; simp only [Nat.zero_add] at l1 l2 l3 l4 m1 m2 m3 m4 r1 r2 r3 r4 g1 g2 g3 g4)); clear hbx))
  exact ret_val2 Tryz.results83 rfl rfl rfl (HT1.out.2.1.stored ⟨0, 0, 0, ⟨#[]⟩⟩) ⟨rfl, below_val HT1.out.below (by omega) _ _ _ _⟩
 | true =>
  rw [Bool.true_and, if_pos rfl, if_neg (by omega), if_neg (by omega)] at hr
  by_cases h0 : k = 0
  ·subst h0
   rw [if_pos (.inl rfl)] at hr
   subst hr
   go_enter Tryz.func83, Tryz.ntmps83
   go_wp2_with (first | (go_at_call 116; refine (truth_exp _ _ _ _ (by assumption) _).mono ?_; (try rw [HN.out]); (try rw [HQ.out]); rintro e wx ⟨rfl, hbx⟩; (first | (have HT2 := hdq (HT1.out.later hbx); obtain ⟨⟨⟨⟨l1, l2, l3, l4⟩, _⟩, ⟨⟨m1, m2, m3, m4⟩, _⟩, _⟩, ⟨⟨r1, r2, r3, r4⟩, g1, g2, g3, g4⟩, hsx⟩ := HT2.out; simp only [Nat.zero_add] at l1 l2 l3 l4 m1 m2 m3 m4 r1 r2 r3 r4 g1 g2 g3 g4) | (have HT1 := hdq (HT.out.later hbx); obtain ⟨⟨⟨⟨l1, l2, l3, l4⟩, _⟩, ⟨⟨m1, m2, m3, m4⟩, _⟩, _⟩, ⟨⟨r1, r2, r3, r4⟩, g1, g2, g3, g4⟩, hsx⟩ := HT1.out; simp only [Nat.zero_add] at l1 l2 l3 l4 m1 m2 m3 m4 r1 r2 r3 r4 g1 g2 g3 g4)); clear hbx) | (go_at_call 84; refine (Truth_exp _ _).mono ?_; rintro e wy ⟨rfl, hby⟩; have HT3 := hdq (HT2.out.later hby); obtain ⟨⟨⟨⟨l1, l2, l3, l4⟩, _⟩, ⟨⟨m1, m2, m3, m4⟩, _⟩, _⟩, ⟨⟨r1, r2, r3, r4⟩, g1, g2, g3, g4⟩, hsx⟩ := HT3.out; simp only [Nat.zero_add] at l1 l2 l3 l4 m1 m2 m3 m4 r1 r2 r3 r4 g1 g2 g3 g4; clear hby))
   exact ret_val2 Tryz.results83 rfl rfl rfl (HT2.out.2.1.stored ⟨0, 0, 0, ⟨#[]⟩⟩) ⟨rfl, below_val HT2.out.below (by omega) _ _ _ _⟩
  ·have e0 : (k == 0) = false := by simp; exact h0
   rw [if_neg (by omega), if_pos trivial] at hr
   unfold truthV at hr
   subst hr
   go_enter Tryz.func83, Tryz.ntmps83
   go_wp2_with (first | (go_at_call 116; refine (truth_exp _ _ _ _ (by assumption) _).mono ?_; (try rw [HN.out]); (try rw [HQ.out]); rintro e wx ⟨rfl, hbx⟩; (first | (have HT2 := hdq (HT1.out.later hbx); obtain ⟨⟨⟨⟨l1, l2, l3, l4⟩, _⟩, ⟨⟨m1, m2, m3, m4⟩, _⟩, _⟩, ⟨⟨r1, r2, r3, r4⟩, g1, g2, g3, g4⟩, hsx⟩ := HT2.out; simp only [Nat.zero_add] at l1 l2 l3 l4 m1 m2 m3 m4 r1 r2 r3 r4 g1 g2 g3 g4) | (have HT1 := hdq (HT.out.later hbx); obtain ⟨⟨⟨⟨l1, l2, l3, l4⟩, _⟩, ⟨⟨m1, m2, m3, m4⟩, _⟩, _⟩, ⟨⟨r1, r2, r3, r4⟩, g1, g2, g3, g4⟩, hsx⟩ := HT1.out; simp only [Nat.zero_add] at l1 l2 l3 l4 m1 m2 m3 m4 r1 r2 r3 r4 g1 g2 g3 g4)); clear hbx) | (go_at_call 84; refine (Truth_exp _ _).mono ?_; rintro e wy ⟨rfl, hby⟩; have HT3 := hdq (HT2.out.later hby); obtain ⟨⟨⟨⟨l1, l2, l3, l4⟩, _⟩, ⟨⟨m1, m2, m3, m4⟩, _⟩, _⟩, ⟨⟨r1, r2, r3, r4⟩, g1, g2, g3, g4⟩, hsx⟩ := HT3.out; simp only [Nat.zero_add] at l1 l2 l3 l4 m1 m2 m3 m4 r1 r2 r3 r4 g1 g2 g3 g4; clear hby))
   exact ret_val2 Tryz.results83 rfl rfl rfl (HT3.out.2.1.stored ⟨1, tI (decide (n = 0)), 0, ⟨#[]⟩⟩) ⟨rfl, below_val HT3.out.below (by omega) _ _ _ _⟩
theorem bothV_wf (op : Int) (a b : Val) : (bothV op a b).1.wf := by
 unfold bothV bothC
 repeat' split
 all_goals first | exact null_wf | exact truthV_wf _
theorem Both_any (op : Int) (a b : Val) (ha : a.wf) (hb : b.wf) (w : World) : Calls Tryz.prog 83 #[.int .i64 op, a.agg, b.agg] w
 fun e w' => e = .returned (.tuple #[(bothV op a b).1.agg, .int .i64 (bothV op a b).2]) ∧ Below w.heap.size w w' := by
 by_cases hop : op < 10 ∨ 12 < op
 ·have HT := hdq (Three.start w a b Val.null 39 39 39)
  have e : bothV op a b = (Val.null, 2) := by unfold bothV bothC; rw [if_pos hop]
  rw [e]
  clear e ha hb
  obtain ⟨k, n, f, s⟩ := a
  obtain ⟨k', n', f', s'⟩ := b
  unfold Val.agg Val.null at *
  simp only at *
  rcases hop with h | h
  ·go_enter Tryz.func83, Tryz.ntmps83
   go_wp2
   exact ret_val2 Tryz.results83 rfl rfl rfl HT.out.2.1 ⟨rfl, HT.out.below⟩
  ·have h' : ¬ op < 10 := by omega
   go_enter Tryz.func83, Tryz.ntmps83
   go_wp2
   exact ret_val2 Tryz.results83 rfl rfl rfl HT.out.2.1 ⟨rfl, HT.out.below⟩
 ·rcases (show op = 10 ∨ op = 11 ∨ op = 12 by omega) with rfl | rfl | rfl
  ·exact Both_and a b ha hb w
  ·exact Both_or a b ha hb w
  ·exact Both_not a b ha w
end Go.Proofs.YtgmolmpfihkolaaGreat
namespace Go.Proofs.YtgmolmpfihkolaaGreat
open Go.ChangeShapes Go.WideShapes Go.ChangeAt Go.RowKit
set_option maxRecDepth 100000
set_option linter.unusedVariables false
inductive Tx where
 | mk (kind rel col : Int) (con : Val) (kids : List Tx)
instance : Inhabited Tx := ⟨.mk 0 0 0 Val.null []⟩
def RowWith (W : World) (R : List Value → Tx → Prop) (a : Option Addr) (len cap : Nat) (ts : List Tx) : Prop :=
 ts.length = len ∧ len ≤ cap ∧ len ≤ maxLen ∧ (len = 0 ∨ ∃ b off, a = some ⟨b, off, none⟩ ∧ b < W.heap.size ∧
  ∀ i t, ts[i]? = some t → ∃ cs, R cs t ∧ ∀ j c, cs[j]? = some c → W.cell? ⟨b, off + i * 8 + j, none⟩ = some c)
def ExAt (W : World) : Nat → List Value → Tx → Prop
 | 0, _, _ => False
 | d + 1, cs, .mk kind rel col con kids => ∃ a len cap,
  cs = [.int .i64 kind, .int .i64 rel, .int .i64 col, .int .i64 con.kind, .int .i64 con.int, .float .f64 con.flt, .string con.text, .slice a len cap] ∧
  ((Lit.int .i64 kind).wf = true ∧ (Lit.int .i64 rel).wf = true ∧ (Lit.int .i64 col).wf = true ∧ con.wf) ∧
  RowWith W (ExAt W d) a len cap kids
theorem RowWith.mono {W : World} {R R' : List Value → Tx → Prop} {a : Option Addr} {len cap : Nat} {ts : List Tx} (h : RowWith W R a len cap ts) (hR : ∀ cs t, t ∈ ts → R cs t → R' cs t) : RowWith W R' a len cap ts := by
 obtain ⟨h1, h2, h3, h4⟩ := h
 refine ⟨h1, h2, h3, ?_⟩
 rcases h4 with h4 | ⟨b, off, e, hb, hc⟩
 ·exact .inl h4
 ·refine .inr ⟨b, off, e, hb, fun i t ht => ?_⟩
  obtain ⟨cs, hr, hc'⟩ := hc i t ht
  exact ⟨cs, hR cs t (List.mem_of_getElem? ht) hr, hc'⟩
theorem RowWith.later {W W' : World} {R R' : List Value → Tx → Prop} {a : Option Addr} {len cap : Nat} {ts : List Tx} (h : RowWith W R a len cap ts) (hb : Below W.heap.size W W') (hR : ∀ cs t, R cs t → R' cs t) : RowWith W' R' a len cap ts := by
 obtain ⟨h1, h2, h3, h4⟩ := h
 refine ⟨h1, h2, h3, ?_⟩
 rcases h4 with h4 | ⟨b, off, e, hl, hc⟩
 ·exact .inl h4
 ·refine .inr ⟨b, off, e, Nat.lt_of_lt_of_le hl hb.size, fun i t ht => ?_⟩
  obtain ⟨cs, hr, hc'⟩ := hc i t ht
  exact ⟨cs, hR cs t hr, fun j c hj => (hb.cell hl).trans (hc' j c hj)⟩
theorem ExAt.later {W W' : World} (hb : Below W.heap.size W W') : ∀ {d : Nat} {cs : List Value} {t : Tx}, ExAt W d cs t → ExAt W' d cs t
 | 0, _, _, h => h.elim
 | d + 1, cs, .mk kind rel col con kids, h => by
  obtain ⟨a, len, cap, e, hw, hr⟩ := h
  exact ⟨a, len, cap, e, hw, hr.later hb fun cs t h => ExAt.later hb h⟩
section
variable {H : Type} {enc : TypeId × Value → H} {W : World} {base : Nat} {spare : Nat → Bool} {held : Bool}
end
end Go.Proofs.YtgmolmpfihkolaaGreat
namespace Go.Proofs.YtgmolmpfihkolaaGreat
open Go.RowKit
set_option linter.unusedVariables false
set_option maxRecDepth 100000
def kidsK (k : Int) : Int := if k = 1 ∨ k = 2 then 0 else if k = 6 ∨ k = 12 ∨ k = 13 then 1 else if 3 ≤ k ∧ k ≤ 11 then 2 else -1
def fieldsK (k r c : Int) (v : Val) : Bool := (decide (k = 1) || (decide (r = 0) && decide (c = 0))) && (decide (0 ≤ r) && decide (r ≤ 31)) && (decide (0 ≤ c) && decide (c ≤ 31)) && rightV v && (decide (k = 2) || decide (v.kind = 0))
mutual
def szT : Tx → Nat
 | .mk _ _ _ _ ks => 1 + szTs ks
def szTs : List Tx → Nat
 | [] => 0
 | t :: ts => szT t + szTs ts
end
mutual
def okT : Nat → Tx → Bool
 | d, .mk k r c v ks => decide (d ≤ 24) && decide (kidsK k = (ks.length : Int)) && fieldsK k r c v && okTs (d + 1) ks
def okTs : Nat → List Tx → Bool
 | _, [] => true
 | d, t :: ts => okT d t && okTs d ts
end
theorem szTs_append : ∀ (a b : List Tx), szTs (a ++ b) = szTs a + szTs b
 | [], b => by simp [szTs]
 | t :: a, b => by simp only [List.cons_append, szTs, szTs_append a b]; omega
theorem okTs_append (d : Nat) : ∀ (a b : List Tx), okTs d (a ++ b) = (okTs d a && okTs d b)
 | [], b => by simp [okTs]
 | t :: a, b => by simp only [List.cons_append, okTs, okTs_append d a b, Bool.and_assoc]
theorem szTs_take (ts : List Tx) (k : Nat) (t : Tx) (h : ts[k]? = some t) : szTs (ts.take (k + 1)) = szTs (ts.take k) + szT t := by
 rw [List.take_add_one, h, szTs_append]; simp [szTs]
theorem okTs_take (d : Nat) (ts : List Tx) (k : Nat) (t : Tx) (h : ts[k]? = some t) : okTs d (ts.take (k + 1)) = (okTs d (ts.take k) && okT d t) := by
 rw [List.take_add_one, h, okTs_append]; simp [okTs]
theorem szTs_le (ts : List Tx) (k : Nat) : szTs (ts.take k) ≤ szTs ts := by
 have h := szTs_append (ts.take k) (ts.drop k)
 rw [List.take_append_drop] at h
 omega
theorem okTs_le (d : Nat) (ts : List Tx) (k : Nat) (h : okTs d ts = true) : okTs d (ts.take k) = true := by
 have e := okTs_append d (ts.take k) (ts.drop k)
 rw [List.take_append_drop, h] at e
 have := e.symm
 rw [Bool.and_eq_true] at this
 exact this.1
def leftT (d : Nat) (left : Int) (t : Tx) : Int := if okT d t = true ∧ (szT t : Int) ≤ left then left - szT t else -1
def formedT (t : Tx) : Bool := okT 1 t && decide (szT t ≤ 400)
theorem left_formed (t : Tx) : decide (0 ≤ leftT 1 400 t) = formedT t := by
 unfold leftT formedT
 by_cases h : okT 1 t = true
 ·by_cases h2 : szT t ≤ 400
  ·rw [if_pos ⟨h, by omega⟩, h]; simp; omega
  ·rw [if_neg (fun h => h2 (by omega)), h]; simp; omega
 ·rw [if_neg (fun e => h e.1)]; simp [h]
end Go.Proofs.YtgmolmpfihkolaaGreat
namespace Go.Proofs.YtgmolmpfihkolaaGreat
open Go.RowKit
set_option linter.unusedVariables false
set_option maxRecDepth 100000
attribute [local go_sem] run_store_float
theorem kids_any (k : Int) (w : World) : Calls Tryz.prog 111 #[.int .i64 k] w fun e w' => e = .returned (.int .i64 (kidsK k)) ∧ w = w' := by
 by_cases h : 1 ≤ k ∧ k ≤ 13
 ·rcases (show k = 1 ∨ k = 2 ∨ k = 3 ∨ k = 4 ∨ k = 5 ∨ k = 6 ∨ k = 7 ∨ k = 8 ∨ k = 9 ∨ k = 10 ∨ k = 11 ∨ k = 12 ∨ k = 13 by omega) with rfl | rfl | rfl | rfl | rfl | rfl | rfl | rfl | rfl | rfl | rfl | rfl | rfl
  all_goals
   clear h
   go_enter Tryz.func111, Tryz.ntmps111
   go_wp2
   go_ret
   exact ⟨rfl, rfl⟩
 ·have e : kidsK k = -1 := by unfold kidsK; rw [if_neg (by omega), if_neg (by omega), if_neg (by omega)]
  rw [e]
  have h1 : (k == 1) = false := by simp; omega
  have h2 : (k == 2) = false := by simp; omega
  have h3 : (k == 3) = false := by simp; omega
  have h4 : (k == 4) = false := by simp; omega
  have h5 : (k == 5) = false := by simp; omega
  have h6 : (k == 6) = false := by simp; omega
  have h7 : (k == 7) = false := by simp; omega
  have h8 : (k == 8) = false := by simp; omega
  have h9 : (k == 9) = false := by simp; omega
  have h10 : (k == 10) = false := by simp; omega
  have h11 : (k == 11) = false := by simp; omega
  have h12 : (k == 12) = false := by simp; omega
  have h13 : (k == 13) = false := by simp; omega
  clear e h
  go_enter Tryz.func111, Tryz.ntmps111
  go_wp2
  go_ret
  exact ⟨rfl, rfl⟩
theorem inside_any (n : Int) (w : World) : Calls Tryz.prog 131 #[.int .i64 n] w fun e w' => e = .returned (.bool (decide (0 ≤ n) && decide (n ≤ 31))) ∧ w = w' := by
 by_cases h : 0 ≤ n
 ·go_enter Tryz.func131, Tryz.ntmps131
  go_wp2
  go_ret
  exact ⟨by simp; omega, rfl⟩
 ·go_enter Tryz.func131, Tryz.ntmps131
  go_wp2
  go_ret
  exact ⟨by simp; omega, rfl⟩
theorem new_at (W : World) (l : List Value) (t : TypeId) (j : Nat) (u : Value) (h : l[j]? = some u) : (W.alloc (.cells ⟨l⟩ t)).cell? ⟨W.heap.size, j, none⟩ = some u := by
 have hb := World.alloc_heap_new W (.cells ⟨l⟩ t)
 simp only [World.cell?]; rw [hb]; simpa using h
set_option maxHeartbeats 1000000 in
theorem fields_any (k r c ck ci : Int) (cf : Nat) (ct : ByteArray) (hc : Val.wf ⟨ck, ci, cf, ct⟩) (a : Option Addr) (len cap : Nat) (w : World) :
 Calls Tryz.prog 112 #[.agg #[.int .i64 k, .int .i64 r, .int .i64 c, .int .i64 ck, .int .i64 ci, .float .f64 cf, .string ct, .slice a len cap]] w
 fun e w' => e = .returned (.bool (fieldsK k r c ⟨ck, ci, cf, ct⟩)) ∧ Below w.heap.size w w' := by
 have HRI := hdq (Right_exp ck ci cf ct hc)
 have HB0 := hdq ((Below.refl _ w).alloc (Nat.le_refl _) (.cells #[.int .i64 k, .int .i64 r, .int .i64 c, .int .i64 ck, .int .i64 ci, .float .f64 cf, .string ct, .slice a len cap] 53))
 have HK := hdq (new_at w [.int .i64 k, .int .i64 r, .int .i64 c, .int .i64 ck, .int .i64 ci, .float .f64 cf, .string ct, .slice a len cap] 53 0 _ rfl)
 have HCK := hdq (new_at w [.int .i64 k, .int .i64 r, .int .i64 c, .int .i64 ck, .int .i64 ci, .float .f64 cf, .string ct, .slice a len cap] 53 3 _ rfl)
 unfold fieldsK
 simp only
 obtain ⟨q, hq⟩ : ∃ q, q = rightV ⟨ck, ci, cf, ct⟩ := ⟨_, rfl⟩
 rw [← hq] at HRI ⊢
 clear hq hc
 obtain ⟨qr, hqr⟩ : ∃ q, q = (decide (0 ≤ r) && decide (r ≤ 31)) := ⟨_, rfl⟩
 obtain ⟨qc, hqc⟩ : ∃ q, q = (decide (0 ≤ c) && decide (c ≤ 31)) := ⟨_, rfl⟩
 rw [← hqr, ← hqc]
 have HR := hdq hqr.symm
 have HC := hdq hqc.symm
 clear hqr hqc
 have hq4 : qr = false ∨ (qr = true ∧ qc = false) ∨ (qr = true ∧ qc = true ∧ q = false) ∨ (qr = true ∧ qc = true ∧ q = true) := by cases qr <;> cases qc <;> cases q <;> simp
 by_cases h1 : k = 1
 ·subst h1
  rcases hq4 with rfl | ⟨rfl, rfl⟩ | ⟨rfl, rfl, rfl⟩ | ⟨rfl, rfl, rfl⟩
  all_goals
   go_enter Tryz.func112, Tryz.ntmps112
   go_wp2_with (first | (go_at_call 131; refine (inside_any _ _).mono ?_; (try rw [HR.out]); (try rw [HC.out]); rintro e w' ⟨rfl, rfl⟩) | (go_at_call 60; refine (HRI.out _).mono ?_; rintro e w1 ⟨rfl, hb⟩; have HB1 := hdq (HB0.out.trans (hb.mono HB0.out.size)); have c0 := (hb.cell (by simp)).trans HK.out; have c3 := (hb.cell (by simp)).trans HCK.out; clear hb))
   go_ret
   (first | refine ⟨?_, HB1.out⟩ | refine ⟨?_, HB0.out⟩) <;> (first | (simp_all; done) | (simp_all; rfl))
 ·have e1 : (k == 1) = false := by simp; exact h1
  by_cases hr0 : r = 0
  ·subst hr0
   by_cases hc0 : c = 0
   ·subst hc0
    obtain rfl : qr = true := HR.out.symm
    obtain rfl : qc = true := HC.out.symm
    have hq5 : q = false ∨ (q = true ∧ k = 2) ∨ (q = true ∧ ¬ k = 2) := by cases q <;> simp; omega
    clear hq4
    rcases hq5 with rfl | ⟨rfl, rfl⟩ | ⟨rfl, h2⟩
    ·go_enter Tryz.func112, Tryz.ntmps112
     go_wp2_with (first | (go_at_call 131; refine (inside_any _ _).mono ?_; (try rw [HR.out]); (try rw [HC.out]); rintro e w' ⟨rfl, rfl⟩) | (go_at_call 60; refine (HRI.out _).mono ?_; rintro e w1 ⟨rfl, hb⟩; have HB1 := hdq (HB0.out.trans (hb.mono HB0.out.size)); have c0 := (hb.cell (by simp)).trans HK.out; have c3 := (hb.cell (by simp)).trans HCK.out; clear hb))
     go_ret
     (first | refine ⟨?_, HB1.out⟩ | refine ⟨?_, HB0.out⟩) <;> (first | (simp_all; done) | (simp_all; rfl))
    ·go_enter Tryz.func112, Tryz.ntmps112
     go_wp2_with (first | (go_at_call 131; refine (inside_any _ _).mono ?_; (try rw [HR.out]); (try rw [HC.out]); rintro e w' ⟨rfl, rfl⟩) | (go_at_call 60; refine (HRI.out _).mono ?_; rintro e w1 ⟨rfl, hb⟩; have HB1 := hdq (HB0.out.trans (hb.mono HB0.out.size)); have c0 := (hb.cell (by simp)).trans HK.out; have c3 := (hb.cell (by simp)).trans HCK.out; clear hb))
     go_ret
     (first | refine ⟨?_, HB1.out⟩ | refine ⟨?_, HB0.out⟩) <;> (first | (simp_all; done) | (simp_all; rfl))
    ·have e2 : (k == 2) = false := by simp; exact h2
     go_enter Tryz.func112, Tryz.ntmps112
     go_wp2_with (first | (go_at_call 131; refine (inside_any _ _).mono ?_; (try rw [HR.out]); (try rw [HC.out]); rintro e w' ⟨rfl, rfl⟩) | (go_at_call 60; refine (HRI.out _).mono ?_; rintro e w1 ⟨rfl, hb⟩; have HB1 := hdq (HB0.out.trans (hb.mono HB0.out.size)); have c0 := (hb.cell (by simp)).trans HK.out; have c3 := (hb.cell (by simp)).trans HCK.out; clear hb))
     go_ret
     (first | refine ⟨?_, HB1.out⟩ | refine ⟨?_, HB0.out⟩) <;> (first | (simp_all; done) | (simp_all; rfl))
   ·have ec : (c == 0) = false := by simp; exact hc0
    clear hq4
    go_enter Tryz.func112, Tryz.ntmps112
    go_wp2_with (first | (go_at_call 131; refine (inside_any _ _).mono ?_; (try rw [HR.out]); (try rw [HC.out]); rintro e w' ⟨rfl, rfl⟩) | (go_at_call 60; refine (HRI.out _).mono ?_; rintro e w1 ⟨rfl, hb⟩; have HB1 := hdq (HB0.out.trans (hb.mono HB0.out.size)); have c0 := (hb.cell (by simp)).trans HK.out; have c3 := (hb.cell (by simp)).trans HCK.out; clear hb))
    go_ret
    (first | refine ⟨?_, HB1.out⟩ | refine ⟨?_, HB0.out⟩) <;> (first | (simp_all; done) | (simp_all; rfl))
  ·have er : (r == 0) = false := by simp; exact hr0
   clear hq4
   go_enter Tryz.func112, Tryz.ntmps112
   go_wp2_with (first | (go_at_call 131; refine (inside_any _ _).mono ?_; (try rw [HR.out]); (try rw [HC.out]); rintro e w' ⟨rfl, rfl⟩) | (go_at_call 60; refine (HRI.out _).mono ?_; rintro e w1 ⟨rfl, hb⟩; have HB1 := hdq (HB0.out.trans (hb.mono HB0.out.size)); have c0 := (hb.cell (by simp)).trans HK.out; have c3 := (hb.cell (by simp)).trans HCK.out; clear hb))
   go_ret
   (first | refine ⟨?_, HB1.out⟩ | refine ⟨?_, HB0.out⟩) <;> (first | (simp_all; done) | (simp_all; rfl))
end Go.Proofs.YtgmolmpfihkolaaGreat
