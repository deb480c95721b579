/- Part of the proof. -/
import Derived.Test.YtgmolmpfihkolaaGreatK10
namespace Go.Proofs.YtgmolmpfihkolaaGreat
open Go.RowKit
set_option linter.unusedVariables false
set_option maxRecDepth 100000
attribute [local go_sem] run_store_float
theorem truth_vals (k n : Int) (f : Nat) (s : ByteArray) (h : rightV ⟨k, n, f, s⟩ = true) (hk : ¬ 1 < k) : (k = 0 ∧ n = 0) ∨ (k = 1 ∧ n = 0) ∨ (k = 1 ∧ n = 1) := by
 have h1 := right_kind _ h
 unfold rightV at h
 simp only [Bool.or_eq_true, Bool.and_eq_true, beq_iff_eq] at h
 simp only at h1
 omega
theorem truthOk_of (k n : Int) (f : Nat) (s : ByteArray) (q : Bool) (hq : rightV ⟨k, n, f, s⟩ = q) : truthOk ⟨k, n, f, s⟩ = (q && decide (k ≤ 1)) := by
 unfold truthOk
 rw [hq]
 cases q with
 | false => rfl
 | true =>
  have h1 := right_kind _ hq
  simp only at h1
  simp only [Bool.true_and]
  rcases h1 with rfl | rfl | rfl | rfl | rfl <;> rfl
set_option maxHeartbeats 8000000 in
theorem RBoth_two (op : Int) (hop : op = 10 ∨ op = 11) (a b : Val) (ha : a.wf) (hb : b.wf) (w : World) : Calls Tryz.prog 94 #[.int .i64 op, a.agg, b.agg] w
 fun e w' => e = .returned (.tuple #[(bothV op a b).1.agg, .int .i64 (bothV op a b).2]) ∧ Below w.heap.size w w' := by
 have HT := hdq (FourB.start w a b Val.null Val.null 39 39 39 39)
 obtain ⟨r, hr⟩ : ∃ r, r = bothV op a b := ⟨_, rfl⟩
 rw [← hr]
 unfold bothV at hr
 rw [if_neg (by omega)] at hr
 unfold bothC at hr
 rw [if_neg (by omega)] at hr
 obtain ⟨k, n, f, s⟩ := a
 obtain ⟨k', n', f', s'⟩ := b
 obtain ⟨qa, hqa⟩ : ∃ q, q = rightV ⟨k, n, f, s⟩ := ⟨_, rfl⟩
 obtain ⟨qb, hqb⟩ : ∃ q, q = rightV ⟨k', n', f', s'⟩ := ⟨_, rfl⟩
 rw [truthOk_of _ _ _ _ _ hqa.symm, truthOk_of _ _ _ _ _ hqb.symm] at hr
 have hva := truth_vals k n f s
 have hvb := truth_vals k' n' f' s'
 rw [← hqa] at hva
 rw [← hqb] at hvb
 unfold Val.agg Val.null at *
 simp only at *
 have HN := hdq hqa.symm
 have HQ := hdq hqb.symm
 clear hqa hqb
 have z3 : ¬ op < 10 := by omega
 have z6 : ¬ 12 < op := by omega
 have z12 : (op == 12) = false := by simp; omega
 cases qa with
 | false =>
  rw [if_neg (by simp)] at hr
  subst hr
  clear hva hvb hop
  go_enter Tryz.func94, Tryz.ntmps94
  go_wp2_with (first | (go_at_call 64; refine (RRight_exp _ _ _ _ (by assumption) _).mono ?_; (try rw [HN.out]); (try rw [HQ.out]); rintro e wx ⟨rfl, hbx⟩; (first | (have HT2 := hdq (HT1.out.later hbx); obtain ⟨⟨⟨⟨⟨l1, l2, l3, l4⟩, _⟩, ⟨⟨m1, m2, m3, m4⟩, _⟩, _⟩, ⟨⟨r1, r2, r3, r4⟩, g1, g2, g3, g4⟩, _⟩, ⟨⟨o1, o2, o3, o4⟩, _⟩, hsx⟩ := HT2.out; simp only [Nat.zero_add] at l1 l2 l3 l4 m1 m2 m3 m4 r1 r2 r3 r4 g1 g2 g3 g4 o1 o2 o3 o4) | (have HT1 := hdq (HT.out.later hbx); obtain ⟨⟨⟨⟨⟨l1, l2, l3, l4⟩, _⟩, ⟨⟨m1, m2, m3, m4⟩, _⟩, _⟩, ⟨⟨r1, r2, r3, r4⟩, g1, g2, g3, g4⟩, _⟩, ⟨⟨o1, o2, o3, o4⟩, _⟩, hsx⟩ := HT1.out; simp only [Nat.zero_add] at l1 l2 l3 l4 m1 m2 m3 m4 r1 r2 r3 r4 g1 g2 g3 g4 o1 o2 o3 o4)); clear hbx))
  exact ret_val2 Tryz.results94 rfl rfl rfl (HT1.out.1.2.1.stored ⟨0, 0, 0, ⟨#[]⟩⟩) ⟨rfl, below_val HT1.out.below (by omega) _ _ _ _⟩
 | true =>
  cases qb with
  | false =>
   rw [if_neg (by simp)] at hr
   subst hr
   clear hva hvb hop
   go_enter Tryz.func94, Tryz.ntmps94
   go_wp2_with (first | (go_at_call 64; refine (RRight_exp _ _ _ _ (by assumption) _).mono ?_; (try rw [HN.out]); (try rw [HQ.out]); rintro e wx ⟨rfl, hbx⟩; (first | (have HT2 := hdq (HT1.out.later hbx); obtain ⟨⟨⟨⟨⟨l1, l2, l3, l4⟩, _⟩, ⟨⟨m1, m2, m3, m4⟩, _⟩, _⟩, ⟨⟨r1, r2, r3, r4⟩, g1, g2, g3, g4⟩, _⟩, ⟨⟨o1, o2, o3, o4⟩, _⟩, hsx⟩ := HT2.out; simp only [Nat.zero_add] at l1 l2 l3 l4 m1 m2 m3 m4 r1 r2 r3 r4 g1 g2 g3 g4 o1 o2 o3 o4) | (have HT1 := hdq (HT.out.later hbx); obtain ⟨⟨⟨⟨⟨l1, l2, l3, l4⟩, _⟩, ⟨⟨m1, m2, m3, m4⟩, _⟩, _⟩, ⟨⟨r1, r2, r3, r4⟩, g1, g2, g3, g4⟩, _⟩, ⟨⟨o1, o2, o3, o4⟩, _⟩, hsx⟩ := HT1.out; simp only [Nat.zero_add] at l1 l2 l3 l4 m1 m2 m3 m4 r1 r2 r3 r4 g1 g2 g3 g4 o1 o2 o3 o4)); clear hbx))
   exact ret_val2 Tryz.results94 rfl rfl rfl (HT2.out.1.2.1.stored ⟨0, 0, 0, ⟨#[]⟩⟩) ⟨rfl, below_val HT2.out.below (by omega) _ _ _ _⟩
  | true =>
   by_cases hk : 1 < k
   ·have hk2 : decide (k ≤ 1) = false := by simp; omega
    rw [hk2] at hr
    rw [if_neg (by simp)] at hr
    subst hr
    clear hva hvb hop hk2
    go_enter Tryz.func94, Tryz.ntmps94
    go_wp2_with (first | (go_at_call 64; refine (RRight_exp _ _ _ _ (by assumption) _).mono ?_; (try rw [HN.out]); (try rw [HQ.out]); rintro e wx ⟨rfl, hbx⟩; (first | (have HT2 := hdq (HT1.out.later hbx); obtain ⟨⟨⟨⟨⟨l1, l2, l3, l4⟩, _⟩, ⟨⟨m1, m2, m3, m4⟩, _⟩, _⟩, ⟨⟨r1, r2, r3, r4⟩, g1, g2, g3, g4⟩, _⟩, ⟨⟨o1, o2, o3, o4⟩, _⟩, hsx⟩ := HT2.out; simp only [Nat.zero_add] at l1 l2 l3 l4 m1 m2 m3 m4 r1 r2 r3 r4 g1 g2 g3 g4 o1 o2 o3 o4) | (have HT1 := hdq (HT.out.later hbx); obtain ⟨⟨⟨⟨⟨l1, l2, l3, l4⟩, _⟩, ⟨⟨m1, m2, m3, m4⟩, _⟩, _⟩, ⟨⟨r1, r2, r3, r4⟩, g1, g2, g3, g4⟩, _⟩, ⟨⟨o1, o2, o3, o4⟩, _⟩, hsx⟩ := HT1.out; simp only [Nat.zero_add] at l1 l2 l3 l4 m1 m2 m3 m4 r1 r2 r3 r4 g1 g2 g3 g4 o1 o2 o3 o4)); clear hbx))
    exact ret_val2 Tryz.results94 rfl rfl rfl (HT2.out.1.2.1.stored ⟨0, 0, 0, ⟨#[]⟩⟩) ⟨rfl, below_val HT2.out.below (by omega) _ _ _ _⟩
   ·by_cases hk' : 1 < k'
    ·have hk2 : decide (k' ≤ 1) = false := by simp; omega
     rw [hk2] at hr
     rw [if_neg (by simp)] at hr
     subst hr
     clear hva hvb hop hk2
     go_enter Tryz.func94, Tryz.ntmps94
     go_wp2_with (first | (go_at_call 64; refine (RRight_exp _ _ _ _ (by assumption) _).mono ?_; (try rw [HN.out]); (try rw [HQ.out]); rintro e wx ⟨rfl, hbx⟩; (first | (have HT2 := hdq (HT1.out.later hbx); obtain ⟨⟨⟨⟨⟨l1, l2, l3, l4⟩, _⟩, ⟨⟨m1, m2, m3, m4⟩, _⟩, _⟩, ⟨⟨r1, r2, r3, r4⟩, g1, g2, g3, g4⟩, _⟩, ⟨⟨o1, o2, o3, o4⟩, _⟩, hsx⟩ := HT2.out; simp only [Nat.zero_add] at l1 l2 l3 l4 m1 m2 m3 m4 r1 r2 r3 r4 g1 g2 g3 g4 o1 o2 o3 o4) | (have HT1 := hdq (HT.out.later hbx); obtain ⟨⟨⟨⟨⟨l1, l2, l3, l4⟩, _⟩, ⟨⟨m1, m2, m3, m4⟩, _⟩, _⟩, ⟨⟨r1, r2, r3, r4⟩, g1, g2, g3, g4⟩, _⟩, ⟨⟨o1, o2, o3, o4⟩, _⟩, hsx⟩ := HT1.out; simp only [Nat.zero_add] at l1 l2 l3 l4 m1 m2 m3 m4 r1 r2 r3 r4 g1 g2 g3 g4 o1 o2 o3 o4)); clear hbx))
     exact ret_val2 Tryz.results94 rfl rfl rfl (HT2.out.1.2.1.stored ⟨0, 0, 0, ⟨#[]⟩⟩) ⟨rfl, below_val HT2.out.below (by omega) _ _ _ _⟩
    ·have hva := hva rfl hk
     have hvb := hvb rfl hk'
     clear hk hk' z3 z6 z12
     rcases hva with ⟨rfl, rfl⟩ | ⟨rfl, rfl⟩ | ⟨rfl, rfl⟩
     all_goals
      rcases hvb with ⟨rfl, rfl⟩ | ⟨rfl, rfl⟩ | ⟨rfl, rfl⟩
      all_goals
       rcases hop with rfl | rfl
       all_goals
        unfold truthV at hr
        simp at hr
        first
         | (
          obtain rfl : r = (⟨1, tI true, 0, ⟨#[]⟩⟩, 0) := hr
          go_enter Tryz.func94, Tryz.ntmps94
          go_wp2_with (first | (go_at_call 64; refine (RRight_exp _ _ _ _ (by assumption) _).mono ?_; (try rw [HN.out]); (try rw [HQ.out]); rintro e wx ⟨rfl, hbx⟩; (first | (have HT2 := hdq (HT1.out.later hbx); obtain ⟨⟨⟨⟨⟨l1, l2, l3, l4⟩, _⟩, ⟨⟨m1, m2, m3, m4⟩, _⟩, _⟩, ⟨⟨r1, r2, r3, r4⟩, g1, g2, g3, g4⟩, _⟩, ⟨⟨o1, o2, o3, o4⟩, _⟩, hsx⟩ := HT2.out; simp only [Nat.zero_add] at l1 l2 l3 l4 m1 m2 m3 m4 r1 r2 r3 r4 g1 g2 g3 g4 o1 o2 o3 o4) | (have HT1 := hdq (HT.out.later hbx); obtain ⟨⟨⟨⟨⟨l1, l2, l3, l4⟩, _⟩, ⟨⟨m1, m2, m3, m4⟩, _⟩, _⟩, ⟨⟨r1, r2, r3, r4⟩, g1, g2, g3, g4⟩, _⟩, ⟨⟨o1, o2, o3, o4⟩, _⟩, hsx⟩ := HT1.out; simp only [Nat.zero_add] at l1 l2 l3 l4 m1 m2 m3 m4 r1 r2 r3 r4 g1 g2 g3 g4 o1 o2 o3 o4)); clear hbx) | (go_at_call 95; refine (RBool_exp _ _).mono ?_; rintro e wy ⟨rfl, hby⟩; have HT3 := hdq (HT2.out.later hby); obtain ⟨⟨⟨⟨⟨l1, l2, l3, l4⟩, _⟩, ⟨⟨m1, m2, m3, m4⟩, _⟩, _⟩, ⟨⟨r1, r2, r3, r4⟩, g1, g2, g3, g4⟩, _⟩, ⟨⟨o1, o2, o3, o4⟩, _⟩, hsx⟩ := HT3.out; simp only [Nat.zero_add] at l1 l2 l3 l4 m1 m2 m3 m4 r1 r2 r3 r4 g1 g2 g3 g4 o1 o2 o3 o4; clear hby))
          exact ret_val2 Tryz.results94 rfl rfl rfl (HT3.out.1.2.1.stored ⟨1, tI true, 0, ⟨#[]⟩⟩) ⟨rfl, below_val HT3.out.below (by omega) _ _ _ _⟩)
         | (
          obtain rfl : r = (⟨1, tI false, 0, ⟨#[]⟩⟩, 0) := hr
          go_enter Tryz.func94, Tryz.ntmps94
          go_wp2_with (first | (go_at_call 64; refine (RRight_exp _ _ _ _ (by assumption) _).mono ?_; (try rw [HN.out]); (try rw [HQ.out]); rintro e wx ⟨rfl, hbx⟩; (first | (have HT2 := hdq (HT1.out.later hbx); obtain ⟨⟨⟨⟨⟨l1, l2, l3, l4⟩, _⟩, ⟨⟨m1, m2, m3, m4⟩, _⟩, _⟩, ⟨⟨r1, r2, r3, r4⟩, g1, g2, g3, g4⟩, _⟩, ⟨⟨o1, o2, o3, o4⟩, _⟩, hsx⟩ := HT2.out; simp only [Nat.zero_add] at l1 l2 l3 l4 m1 m2 m3 m4 r1 r2 r3 r4 g1 g2 g3 g4 o1 o2 o3 o4) | (have HT1 := hdq (HT.out.later hbx); obtain ⟨⟨⟨⟨⟨l1, l2, l3, l4⟩, _⟩, ⟨⟨m1, m2, m3, m4⟩, _⟩, _⟩, ⟨⟨r1, r2, r3, r4⟩, g1, g2, g3, g4⟩, _⟩, ⟨⟨o1, o2, o3, o4⟩, _⟩, hsx⟩ := HT1.out; simp only [Nat.zero_add] at l1 l2 l3 l4 m1 m2 m3 m4 r1 r2 r3 r4 g1 g2 g3 g4 o1 o2 o3 o4)); clear hbx) | (go_at_call 95; refine (RBool_exp _ _).mono ?_; rintro e wy ⟨rfl, hby⟩; have HT3 := hdq (HT2.out.later hby); obtain ⟨⟨⟨⟨⟨l1, l2, l3, l4⟩, _⟩, ⟨⟨m1, m2, m3, m4⟩, _⟩, _⟩, ⟨⟨r1, r2, r3, r4⟩, g1, g2, g3, g4⟩, _⟩, ⟨⟨o1, o2, o3, o4⟩, _⟩, hsx⟩ := HT3.out; simp only [Nat.zero_add] at l1 l2 l3 l4 m1 m2 m3 m4 r1 r2 r3 r4 g1 g2 g3 g4 o1 o2 o3 o4; clear hby))
          exact ret_val2 Tryz.results94 rfl rfl rfl (HT3.out.1.2.1.stored ⟨1, tI false, 0, ⟨#[]⟩⟩) ⟨rfl, below_val HT3.out.below (by omega) _ _ _ _⟩)
         | (
          obtain rfl : r = (⟨0, 0, 0, ⟨#[]⟩⟩, 0) := hr
          go_enter Tryz.func94, Tryz.ntmps94
          go_wp2_with (first | (go_at_call 64; refine (RRight_exp _ _ _ _ (by assumption) _).mono ?_; (try rw [HN.out]); (try rw [HQ.out]); rintro e wx ⟨rfl, hbx⟩; (first | (have HT2 := hdq (HT1.out.later hbx); obtain ⟨⟨⟨⟨⟨l1, l2, l3, l4⟩, _⟩, ⟨⟨m1, m2, m3, m4⟩, _⟩, _⟩, ⟨⟨r1, r2, r3, r4⟩, g1, g2, g3, g4⟩, _⟩, ⟨⟨o1, o2, o3, o4⟩, _⟩, hsx⟩ := HT2.out; simp only [Nat.zero_add] at l1 l2 l3 l4 m1 m2 m3 m4 r1 r2 r3 r4 g1 g2 g3 g4 o1 o2 o3 o4) | (have HT1 := hdq (HT.out.later hbx); obtain ⟨⟨⟨⟨⟨l1, l2, l3, l4⟩, _⟩, ⟨⟨m1, m2, m3, m4⟩, _⟩, _⟩, ⟨⟨r1, r2, r3, r4⟩, g1, g2, g3, g4⟩, _⟩, ⟨⟨o1, o2, o3, o4⟩, _⟩, hsx⟩ := HT1.out; simp only [Nat.zero_add] at l1 l2 l3 l4 m1 m2 m3 m4 r1 r2 r3 r4 g1 g2 g3 g4 o1 o2 o3 o4)); clear hbx))
          exact ret_val2 Tryz.results94 rfl rfl rfl (HT2.out.1.2.1.stored ⟨0, 0, 0, ⟨#[]⟩⟩) ⟨rfl, below_val HT2.out.below (by omega) _ _ _ _⟩)
set_option maxHeartbeats 4000000 in
theorem RBoth_not (a b : Val) (ha : a.wf) (w : World) : Calls Tryz.prog 94 #[.int .i64 12, a.agg, b.agg] w
 fun e w' => e = .returned (.tuple #[(bothV 12 a b).1.agg, .int .i64 (bothV 12 a b).2]) ∧ Below w.heap.size w w' := by
 have HT := hdq (FourB.start w a a Val.null Val.null 39 39 39 39)
 obtain ⟨r, hr⟩ : ∃ r, r = bothV 12 a b := ⟨_, rfl⟩
 rw [← hr]
 unfold bothV at hr
 rw [if_pos rfl] at hr
 unfold bothC at hr
 rw [if_neg (by omega)] at hr
 obtain ⟨k, n, f, s⟩ := a
 obtain ⟨k', n', f', s'⟩ := b
 obtain ⟨qa, hqa⟩ : ∃ q, q = rightV ⟨k, n, f, s⟩ := ⟨_, rfl⟩
 rw [truthOk_of _ _ _ _ _ hqa.symm] at hr
 have hva := truth_vals k n f s
 rw [← hqa] at hva
 unfold Val.agg Val.null at *
 simp only at *
 have HN := hdq hqa.symm
 have HQ := HN
 clear hqa
 cases qa with
 | false =>
  rw [if_neg (by simp)] at hr
  subst hr
  clear hva
  go_enter Tryz.func94, Tryz.ntmps94
  go_wp2_with (first | (go_at_call 64; refine (RRight_exp _ _ _ _ (by assumption) _).mono ?_; (try rw [HN.out]); (try rw [HQ.out]); rintro e wx ⟨rfl, hbx⟩; (first | (have HT2 := hdq (HT1.out.later hbx); obtain ⟨⟨⟨⟨⟨l1, l2, l3, l4⟩, _⟩, ⟨⟨m1, m2, m3, m4⟩, _⟩, _⟩, ⟨⟨r1, r2, r3, r4⟩, g1, g2, g3, g4⟩, _⟩, ⟨⟨o1, o2, o3, o4⟩, _⟩, hsx⟩ := HT2.out; simp only [Nat.zero_add] at l1 l2 l3 l4 m1 m2 m3 m4 r1 r2 r3 r4 g1 g2 g3 g4 o1 o2 o3 o4) | (have HT1 := hdq (HT.out.later hbx); obtain ⟨⟨⟨⟨⟨l1, l2, l3, l4⟩, _⟩, ⟨⟨m1, m2, m3, m4⟩, _⟩, _⟩, ⟨⟨r1, r2, r3, r4⟩, g1, g2, g3, g4⟩, _⟩, ⟨⟨o1, o2, o3, o4⟩, _⟩, hsx⟩ := HT1.out; simp only [Nat.zero_add] at l1 l2 l3 l4 m1 m2 m3 m4 r1 r2 r3 r4 g1 g2 g3 g4 o1 o2 o3 o4)); clear hbx))
  exact ret_val2 Tryz.results94 rfl rfl rfl (HT1.out.1.2.1.stored ⟨0, 0, 0, ⟨#[]⟩⟩) ⟨rfl, below_val HT1.out.below (by omega) _ _ _ _⟩
 | true =>
  by_cases hk : 1 < k
  ·have hk2 : decide (k ≤ 1) = false := by simp; omega
   rw [hk2] at hr
   rw [if_neg (by simp)] at hr
   subst hr
   clear hva hk2
   go_enter Tryz.func94, Tryz.ntmps94
   go_wp2_with (first | (go_at_call 64; refine (RRight_exp _ _ _ _ (by assumption) _).mono ?_; (try rw [HN.out]); (try rw [HQ.out]); rintro e wx ⟨rfl, hbx⟩; (first | (have HT2 := hdq (HT1.out.later hbx); obtain ⟨⟨⟨⟨⟨l1, l2, l3, l4⟩, _⟩, ⟨⟨m1, m2, m3, m4⟩, _⟩, _⟩, ⟨⟨r1, r2, r3, r4⟩, g1, g2, g3, g4⟩, _⟩, ⟨⟨o1, o2, o3, o4⟩, _⟩, hsx⟩ := HT2.out; simp only [Nat.zero_add] at l1 l2 l3 l4 m1 m2 m3 m4 r1 r2 r3 r4 g1 g2 g3 g4 o1 o2 o3 o4) | (have HT1 := hdq (HT.out.later hbx); obtain ⟨⟨⟨⟨⟨l1, l2, l3, l4⟩, _⟩, ⟨⟨m1, m2, m3, m4⟩, _⟩, _⟩, ⟨⟨r1, r2, r3, r4⟩, g1, g2, g3, g4⟩, _⟩, ⟨⟨o1, o2, o3, o4⟩, _⟩, hsx⟩ := HT1.out; simp only [Nat.zero_add] at l1 l2 l3 l4 m1 m2 m3 m4 r1 r2 r3 r4 g1 g2 g3 g4 o1 o2 o3 o4)); clear hbx))
   exact ret_val2 Tryz.results94 rfl rfl rfl (HT2.out.1.2.1.stored ⟨0, 0, 0, ⟨#[]⟩⟩) ⟨rfl, below_val HT2.out.below (by omega) _ _ _ _⟩
  ·have hva := hva rfl hk
   clear hk
   rcases hva with ⟨rfl, rfl⟩ | ⟨rfl, rfl⟩ | ⟨rfl, rfl⟩
   all_goals
    unfold truthV at hr
    simp at hr
    first
     | (
      obtain rfl : r = (⟨1, tI true, 0, ⟨#[]⟩⟩, 0) := hr
      go_enter Tryz.func94, Tryz.ntmps94
      go_wp2_with (first | (go_at_call 64; refine (RRight_exp _ _ _ _ (by assumption) _).mono ?_; (try rw [HN.out]); (try rw [HQ.out]); rintro e wx ⟨rfl, hbx⟩; (first | (have HT2 := hdq (HT1.out.later hbx); obtain ⟨⟨⟨⟨⟨l1, l2, l3, l4⟩, _⟩, ⟨⟨m1, m2, m3, m4⟩, _⟩, _⟩, ⟨⟨r1, r2, r3, r4⟩, g1, g2, g3, g4⟩, _⟩, ⟨⟨o1, o2, o3, o4⟩, _⟩, hsx⟩ := HT2.out; simp only [Nat.zero_add] at l1 l2 l3 l4 m1 m2 m3 m4 r1 r2 r3 r4 g1 g2 g3 g4 o1 o2 o3 o4) | (have HT1 := hdq (HT.out.later hbx); obtain ⟨⟨⟨⟨⟨l1, l2, l3, l4⟩, _⟩, ⟨⟨m1, m2, m3, m4⟩, _⟩, _⟩, ⟨⟨r1, r2, r3, r4⟩, g1, g2, g3, g4⟩, _⟩, ⟨⟨o1, o2, o3, o4⟩, _⟩, hsx⟩ := HT1.out; simp only [Nat.zero_add] at l1 l2 l3 l4 m1 m2 m3 m4 r1 r2 r3 r4 g1 g2 g3 g4 o1 o2 o3 o4)); clear hbx) | (go_at_call 95; refine (RBool_exp _ _).mono ?_; rintro e wy ⟨rfl, hby⟩; have HT3 := hdq (HT2.out.later hby); obtain ⟨⟨⟨⟨⟨l1, l2, l3, l4⟩, _⟩, ⟨⟨m1, m2, m3, m4⟩, _⟩, _⟩, ⟨⟨r1, r2, r3, r4⟩, g1, g2, g3, g4⟩, _⟩, ⟨⟨o1, o2, o3, o4⟩, _⟩, hsx⟩ := HT3.out; simp only [Nat.zero_add] at l1 l2 l3 l4 m1 m2 m3 m4 r1 r2 r3 r4 g1 g2 g3 g4 o1 o2 o3 o4; clear hby))
      exact ret_val2 Tryz.results94 rfl rfl rfl (HT3.out.1.2.1.stored ⟨1, tI true, 0, ⟨#[]⟩⟩) ⟨rfl, below_val HT3.out.below (by omega) _ _ _ _⟩)
     | (
      obtain rfl : r = (⟨1, tI false, 0, ⟨#[]⟩⟩, 0) := hr
      go_enter Tryz.func94, Tryz.ntmps94
      go_wp2_with (first | (go_at_call 64; refine (RRight_exp _ _ _ _ (by assumption) _).mono ?_; (try rw [HN.out]); (try rw [HQ.out]); rintro e wx ⟨rfl, hbx⟩; (first | (have HT2 := hdq (HT1.out.later hbx); obtain ⟨⟨⟨⟨⟨l1, l2, l3, l4⟩, _⟩, ⟨⟨m1, m2, m3, m4⟩, _⟩, _⟩, ⟨⟨r1, r2, r3, r4⟩, g1, g2, g3, g4⟩, _⟩, ⟨⟨o1, o2, o3, o4⟩, _⟩, hsx⟩ := HT2.out; simp only [Nat.zero_add] at l1 l2 l3 l4 m1 m2 m3 m4 r1 r2 r3 r4 g1 g2 g3 g4 o1 o2 o3 o4) | (have HT1 := hdq (HT.out.later hbx); obtain ⟨⟨⟨⟨⟨l1, l2, l3, l4⟩, _⟩, ⟨⟨m1, m2, m3, m4⟩, _⟩, _⟩, ⟨⟨r1, r2, r3, r4⟩, g1, g2, g3, g4⟩, _⟩, ⟨⟨o1, o2, o3, o4⟩, _⟩, hsx⟩ := HT1.out; simp only [Nat.zero_add] at l1 l2 l3 l4 m1 m2 m3 m4 r1 r2 r3 r4 g1 g2 g3 g4 o1 o2 o3 o4)); clear hbx) | (go_at_call 95; refine (RBool_exp _ _).mono ?_; rintro e wy ⟨rfl, hby⟩; have HT3 := hdq (HT2.out.later hby); obtain ⟨⟨⟨⟨⟨l1, l2, l3, l4⟩, _⟩, ⟨⟨m1, m2, m3, m4⟩, _⟩, _⟩, ⟨⟨r1, r2, r3, r4⟩, g1, g2, g3, g4⟩, _⟩, ⟨⟨o1, o2, o3, o4⟩, _⟩, hsx⟩ := HT3.out; simp only [Nat.zero_add] at l1 l2 l3 l4 m1 m2 m3 m4 r1 r2 r3 r4 g1 g2 g3 g4 o1 o2 o3 o4; clear hby))
      exact ret_val2 Tryz.results94 rfl rfl rfl (HT3.out.1.2.1.stored ⟨1, tI false, 0, ⟨#[]⟩⟩) ⟨rfl, below_val HT3.out.below (by omega) _ _ _ _⟩)
     | (
      obtain rfl : r = (⟨0, 0, 0, ⟨#[]⟩⟩, 0) := hr
      go_enter Tryz.func94, Tryz.ntmps94
      go_wp2_with (first | (go_at_call 64; refine (RRight_exp _ _ _ _ (by assumption) _).mono ?_; (try rw [HN.out]); (try rw [HQ.out]); rintro e wx ⟨rfl, hbx⟩; (first | (have HT2 := hdq (HT1.out.later hbx); obtain ⟨⟨⟨⟨⟨l1, l2, l3, l4⟩, _⟩, ⟨⟨m1, m2, m3, m4⟩, _⟩, _⟩, ⟨⟨r1, r2, r3, r4⟩, g1, g2, g3, g4⟩, _⟩, ⟨⟨o1, o2, o3, o4⟩, _⟩, hsx⟩ := HT2.out; simp only [Nat.zero_add] at l1 l2 l3 l4 m1 m2 m3 m4 r1 r2 r3 r4 g1 g2 g3 g4 o1 o2 o3 o4) | (have HT1 := hdq (HT.out.later hbx); obtain ⟨⟨⟨⟨⟨l1, l2, l3, l4⟩, _⟩, ⟨⟨m1, m2, m3, m4⟩, _⟩, _⟩, ⟨⟨r1, r2, r3, r4⟩, g1, g2, g3, g4⟩, _⟩, ⟨⟨o1, o2, o3, o4⟩, _⟩, hsx⟩ := HT1.out; simp only [Nat.zero_add] at l1 l2 l3 l4 m1 m2 m3 m4 r1 r2 r3 r4 g1 g2 g3 g4 o1 o2 o3 o4)); clear hbx))
      exact ret_val2 Tryz.results94 rfl rfl rfl (HT2.out.1.2.1.stored ⟨0, 0, 0, ⟨#[]⟩⟩) ⟨rfl, below_val HT2.out.below (by omega) _ _ _ _⟩)
theorem RBoth_any (op : Int) (a b : Val) (ha : a.wf) (hb : b.wf) (w : World) : Calls Tryz.prog 94 #[.int .i64 op, a.agg, b.agg] w
 fun e w' => e = .returned (.tuple #[(bothV op a b).1.agg, .int .i64 (bothV op a b).2]) ∧ Below w.heap.size w w' := by
 by_cases hop : op < 10 ∨ 12 < op
 ·have HT := hdq (FourB.start w a b Val.null Val.null 39 39 39 39)
  have e : bothV op a b = (Val.null, 2) := by unfold bothV bothC; rw [if_pos hop]
  rw [e]
  clear e ha hb
  obtain ⟨k, n, f, s⟩ := a
  obtain ⟨k', n', f', s'⟩ := b
  unfold Val.agg Val.null at *
  simp only at *
  rcases hop with h | h
  ·go_enter Tryz.func94, Tryz.ntmps94
   go_wp2
   exact ret_val2 Tryz.results94 rfl rfl rfl HT.out.1.2.1 ⟨rfl, HT.out.below⟩
  ·have h' : ¬ op < 10 := by omega
   go_enter Tryz.func94, Tryz.ntmps94
   go_wp2
   exact ret_val2 Tryz.results94 rfl rfl rfl HT.out.1.2.1 ⟨rfl, HT.out.below⟩
 ·rcases (show op = 10 ∨ op = 11 ∨ op = 12 by omega) with rfl | rfl | rfl
  ·exact RBoth_two 10 (.inl rfl) a b ha hb w
  ·exact RBoth_two 11 (.inr rfl) a b ha hb w
  ·exact RBoth_not a b ha w
end Go.Proofs.YtgmolmpfihkolaaGreat
