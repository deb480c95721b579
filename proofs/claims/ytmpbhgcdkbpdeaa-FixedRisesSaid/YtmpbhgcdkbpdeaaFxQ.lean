/- Plain laws: no sum, product, difference, share or number of digits falls where a number of it grows; shares by the same number and by the unit. -/
import Derived.Test.YtmpbhgcdkbpdeaaFxP
namespace Go.Proofs.Ytmpbhgcdkbpdeaa
namespace Fx
set_option linter.unusedVariables false
theorem addS_ge (a b : Int) (ha : 0 ≤ a) (ha' : a ≤ 18446744073709551615) (hb : 0 ≤ b) : a ≤ addS a b := by rw [addS_eq]; omega
theorem addS_mono (a c b : Int) (h : a ≤ c) : ¬ addS c b < addS a b := by simp only [addS_eq]; omega
theorem subS_mono (a c b : Int) (h : a ≤ c) : ¬ subS c b < subS a b := by unfold subS; split <;> split <;> omega
theorem mulS_mono (a c b : Int) (h : a ≤ c) (hb : 0 ≤ b) : ¬ mulS c b < mulS a b := by
  have := Int.mul_le_mul_of_nonneg_right h hb
  simp only [mulS_eq]; omega

theorem share_prod (p q d : Int) (hp : 0 ≤ p) (h : p ≤ q) (hd : 0 ≤ d) :
    (if p = 0 then 0 else if d ≤ p / 18446744073709551616 then 18446744073709551615 else p / d) ≤ (if q = 0 then 0 else if d ≤ q / 18446744073709551616 then 18446744073709551615 else q / d) := by
  by_cases h0 : p = 0
  · rw [if_pos h0]
    split
    · omega
    · split
      · omega
      · exact Int.ediv_nonneg (by omega) hd
  · rw [if_neg h0, if_neg (show ¬ q = 0 by omega)]
    by_cases h1 : d ≤ p / 18446744073709551616
    · rw [if_pos h1, if_pos (by omega)]; omega
    · rw [if_neg h1]
      by_cases h2 : d ≤ q / 18446744073709551616
      · rw [if_pos h2]
        have : p / d < 18446744073709551616 := by
          apply Int.ediv_lt_of_lt_mul (by omega)
          omega
        omega
      · rw [if_neg h2]
        exact Int.ediv_le_ediv (by omega) h

theorem shareS_mono (a c n d : Int) (ha : 0 ≤ a) (h : a ≤ c) (hn : 0 ≤ n) (hd : 0 ≤ d) : ¬ shareS c n d < shareS a n d := by
  have h1 : 0 ≤ a * n := Int.mul_nonneg ha hn
  have h2 := Int.mul_le_mul_of_nonneg_right h hn
  have := share_prod (a * n) (c * n) d h1 h2 hd
  unfold shareS
  omega
theorem shareS_comm (a n d : Int) : shareS a n d = shareS n a d := by unfold shareS; rw [Int.mul_comm]
theorem shareS_mono' (a c n d : Int) (ha : 0 ≤ a) (h : a ≤ c) (hn : 0 ≤ n) (hd : 0 ≤ d) : ¬ shareS n c d < shareS n a d := by
  rw [shareS_comm n c, shareS_comm n a]; exact shareS_mono a c n d ha h hn hd

theorem shareS_same (a d : Int) (ha : 0 ≤ a) (ha' : a ≤ 18446744073709551615) (hd : 0 < d) : shareS a d d = a := by
  unfold shareS
  by_cases h0 : a * d = 0
  · rw [if_pos h0]
    rcases Int.mul_eq_zero.1 h0 with h | h <;> omega
  · rw [if_neg h0]
    have h1 : a * d / 18446744073709551616 < d := by
      apply Int.ediv_lt_of_lt_mul (by omega)
      have : a * d < 18446744073709551616 * d := Int.mul_lt_mul_of_pos_right (by omega) hd
      omega
    rw [if_neg (by omega), Int.mul_ediv_cancel _ (by omega)]

theorem shareS_least (a f d : Int) (ha : 0 ≤ a) (ha' : a ≤ 18446744073709551615) (hf : 0 ≤ f) (hd : 0 < d) (h : f ≤ d) : shareS a f d ≤ a := by
  have := shareS_mono' f d a d hf h ha (by omega)
  rw [shareS_same a d ha ha' hd] at this
  omega

theorem unit_back (f : Int) (h0 : 0 ≤ f) (h1 : f ≤ 1048576) : addS f (subS 1048576 f) = 1048576 := by
  unfold subS; rw [addS_eq]; split <;> omega

theorem bitLenAux_mono : ∀ (f x y : Nat), x ≤ y → Lib.bitLenAux f x ≤ Lib.bitLenAux f y
  | 0, x, y, h => by simp [Lib.bitLenAux]
  | f + 1, x, y, h => by
    simp only [Lib.bitLenAux]
    have := bitLenAux_mono f (x / 2) (y / 2) (Nat.div_le_div_right h)
    split
    · omega
    · rw [if_neg (by omega)]; omega
theorem bitLen_mono (a c : Int) (h : a ≤ c) : ¬ (Lib.bitLen c.toNat : Int) < (Lib.bitLen a.toNat : Int) := by
  have := bitLenAux_mono 64 a.toNat c.toNat (by omega)
  unfold Lib.bitLen
  omega
end Fx
end Go.Proofs.Ytmpbhgcdkbpdeaa
