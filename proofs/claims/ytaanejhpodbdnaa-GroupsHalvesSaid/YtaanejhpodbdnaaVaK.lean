/- The reference's zero, Right, number, Plain. -/
import Derived.Test.YtaanejhpodbdnaaVaE
namespace Go.Proofs.Ytaanejhpodbdnaa
open Go.RowKit
set_option maxRecDepth 100000
set_option linter.unusedVariables false
attribute [local go_sem] run_store_float

theorem quo_zero (t : TypeId) (w : World) : (binOp .quo t (.float .f64 4607182418800017408) (.float .f64 0)).run Try.prog w = .ok (.float .f64 9218868437227405312) w := run_float_arith w .quo t .f64 _ _ _ (by kernel_rfl)
theorem quo_minus (t : TypeId) (w : World) : (binOp .quo t (.float .f64 4607182418800017408) (.float .f64 9223372036854775808)).run Try.prog w = .ok (.float .f64 18442240474082181120) w := run_float_arith w .quo t .f64 _ _ _ (by kernel_rfl)
theorem inf_gt : (FloatKind.f64.format.order 9218868437227405312 0 == some .gt) = true := by kernel_rfl
theorem minus_gt : (FloatKind.f64.format.order 18442240474082181120 0 == some .gt) = false := by kernel_rfl
attribute [local go_sem] quo_zero quo_minus

theorem zero_any (f : Nat) (hf : f < 2 ^ 64) (w : World) : Calls Try.prog 26 #[.float .f64 f] w fun e w' => e = .returned (.bool (f == 0)) ∧ w = w' := by
  have hz := order_zero f
  have g1 := inf_gt
  have g2 := minus_gt
  by_cases h0 : f % 9223372036854775808 = 0
  · rw [decide_eq_true h0] at hz
    have : f = 0 ∨ f = 9223372036854775808 := by omega
    clear h0 hf
    rcases this with rfl | rfl
    · go_enter Try.func26, Try.ntmps26
      go_wp2
      go_ret
      exact ⟨rfl, rfl⟩
    · go_enter Try.func26, Try.ntmps26
      go_wp2
      go_ret
      exact ⟨rfl, rfl⟩
  · rw [decide_eq_false h0] at hz
    have : (f == 0) = false := by simp; intro e; subst e; exact h0 rfl
    rw [this]
    clear h0 hf this
    go_enter Try.func26, Try.ntmps26
    go_wp2
    go_ret
    exact ⟨rfl, rfl⟩

set_option maxHeartbeats 1000000 in
theorem RRight_any (v : Val) (hv : v.wf) (w : World) : Calls Try.prog 39 #[v.agg] w fun e w' => e = .returned (.bool (rightV v)) ∧ Below w.heap.size w w' := by
  obtain ⟨k, n, f, s⟩ := v
  have hf : f < 2 ^ 64 := hv.2.2.1
  unfold Val.agg rightV
  simp only
  have hS := Lib.hid (fun W => zero_any f hf W)
  obtain ⟨z, hz⟩ : ∃ z, z = (f == 0) := ⟨_, rfl⟩
  rw [← hz] at hS
  rw [← hz]
  clear hz hf hv
  cases z
  all_goals go_enter Try.func39, Try.ntmps39
  all_goals go_wp2_with (go_at_call 26; refine (hS.out _).mono ?_; rintro e w' ⟨rfl, rfl⟩)
  all_goals go_ret
  all_goals refine ⟨?_, (Below.refl _ w).alloc (Nat.le_refl _) _⟩
  all_goals (simp_all <;> omega)

theorem RRight_exp (k n : Int) (f : Nat) (s : ByteArray) (hv : Val.wf ⟨k, n, f, s⟩) (w : World) : Calls Try.prog 39 #[.agg #[.int .i64 k, .int .i64 n, .float .f64 f, .string s]] w
    fun e w' => e = .returned (.bool (rightV ⟨k, n, f, s⟩)) ∧ Below w.heap.size w w' := RRight_any _ hv w

/-- A value as the reference's Plain has it. -/
def rplainV (v : Val) : Val := if rightV v then (if v.kind = 3 then (if v.flt % 9223372036854775808 = 0 then ⟨3, 0, 0, ⟨#[]⟩⟩ else v) else v) else Val.null

set_option maxHeartbeats 1000000 in
theorem RPlain_any (v : Val) (hv : v.wf) (w : World) : Calls Try.prog 22 #[v.agg] w fun e w' => e = .returned (rplainV v).agg ∧ Below w.heap.size w w' := by
  have HRI := Lib.hid (fun W => RRight_any v hv W)
  obtain ⟨p, hp⟩ : ∃ p, p = rplainV v := ⟨_, rfl⟩
  obtain ⟨r, hr⟩ : ∃ r, r = rightV v := ⟨_, rfl⟩
  rw [← hr] at HRI
  rw [← hp]
  unfold rplainV at hp
  rw [← hr] at hp
  clear hr hv
  have HT := Lib.hid (Two.start w v Val.null 28 28)
  obtain ⟨k, n, f, s⟩ := v
  have hoz := order_zero f
  unfold Val.agg Val.null at *
  simp only at *
  cases r with
  | false =>
    rw [if_neg (by simp)] at hp
    subst hp
    clear hoz
    go_enter Try.func22, Try.ntmps22
    go_wp2_with (go_at_call 39; refine (HRI.out _).mono ?_; rintro e w1 ⟨rfl, hb⟩; have HT1 := Lib.hid (HT.out.later hb); obtain ⟨⟨⟨l1, l2, l3, l4⟩, _⟩, ⟨⟨r1, r2, r3, r4⟩, g1, g2, g3, g4⟩, _⟩ := HT1.out; simp only [Nat.zero_add] at r1 r2 r3 r4 g1 g2 g3 g4 l1 l2 l3 l4; clear hb)
    exact ret_val Try.results22 rfl rfl (HT1.out.2.1.stored ⟨0, 0, 0, ⟨#[]⟩⟩) ⟨rfl, below_val HT1.out.2.2.1 (by omega) _ _ _ _⟩
  | true =>
    rw [if_pos rfl] at hp
    by_cases hk : k = 3
    · subst hk
      rw [if_pos rfl] at hp
      by_cases hz : f % 9223372036854775808 = 0
      · rw [if_pos hz] at hp
        rw [decide_eq_true hz] at hoz
        subst hp
        clear hz
        go_enter Try.func22, Try.ntmps22
        go_wp2_with (go_at_call 39; refine (HRI.out _).mono ?_; rintro e w1 ⟨rfl, hb⟩; have HT1 := Lib.hid (HT.out.later hb); obtain ⟨⟨⟨l1, l2, l3, l4⟩, _⟩, ⟨⟨r1, r2, r3, r4⟩, g1, g2, g3, g4⟩, _⟩ := HT1.out; simp only [Nat.zero_add] at r1 r2 r3 r4 g1 g2 g3 g4 l1 l2 l3 l4; clear hb)
        exact ret_val Try.results22 rfl rfl (HT1.out.2.1.stored ⟨3, 0, 0, ⟨#[]⟩⟩) ⟨rfl, below_val HT1.out.2.2.1 (by omega) _ _ _ _⟩
      · rw [if_neg hz] at hp
        rw [decide_eq_false hz] at hoz
        subst hp
        clear hz
        go_enter Try.func22, Try.ntmps22
        go_wp2_with (go_at_call 39; refine (HRI.out _).mono ?_; rintro e w1 ⟨rfl, hb⟩; have HT1 := Lib.hid (HT.out.later hb); obtain ⟨⟨⟨l1, l2, l3, l4⟩, _⟩, ⟨⟨r1, r2, r3, r4⟩, g1, g2, g3, g4⟩, _⟩ := HT1.out; simp only [Nat.zero_add] at r1 r2 r3 r4 g1 g2 g3 g4 l1 l2 l3 l4; clear hb)
        exact ret_val Try.results22 rfl rfl (HT1.out.2.1.stored ⟨3, n, f, s⟩) ⟨rfl, below_val HT1.out.2.2.1 (by omega) _ _ _ _⟩
    · rw [if_neg hk] at hp
      have hk3 : ((k : Int) == 3) = false := by simp; exact hk
      subst hp
      clear hoz hk
      go_enter Try.func22, Try.ntmps22
      go_wp2_with (go_at_call 39; refine (HRI.out _).mono ?_; rintro e w1 ⟨rfl, hb⟩; have HT1 := Lib.hid (HT.out.later hb); obtain ⟨⟨⟨l1, l2, l3, l4⟩, _⟩, ⟨⟨r1, r2, r3, r4⟩, g1, g2, g3, g4⟩, _⟩ := HT1.out; simp only [Nat.zero_add] at r1 r2 r3 r4 g1 g2 g3 g4 l1 l2 l3 l4; clear hb)
      exact ret_val Try.results22 rfl rfl (HT1.out.2.1.stored ⟨k, n, f, s⟩) ⟨rfl, below_val HT1.out.2.2.1 (by omega) _ _ _ _⟩
end Go.Proofs.Ytaanejhpodbdnaa
