/- Plain laws of sums and products that stop at the greatest number. -/
import Derived.Test.YtmpbhgcdkbpdeaaFxM
namespace Go.Proofs.Ytmpbhgcdkbpdeaa
namespace Fx
set_option linter.unusedVariables false
theorem addS_comm (a b : Int) : addS a b = addS b a := by unfold addS; rw [Int.add_comm a b]
theorem mulS_comm (a b : Int) : mulS a b = mulS b a := by unfold mulS; rw [Int.mul_comm a b]
theorem addS_assoc (a b c : Int) (ha : 0 ≤ a) (hb : 0 ≤ b) (hc : 0 ≤ c) : addS (addS a b) c = addS a (addS b c) := by
  simp only [addS_eq]; omega
theorem addS_zero (a : Int) (ha : a ≤ 18446744073709551615) : addS a 0 = a := by simp only [addS_eq]; omega
theorem mulS_one (a : Int) (ha : a ≤ 18446744073709551615) : mulS a 1 = a := by simp only [mulS_eq]; omega

theorem mulS_zero (a : Int) : mulS a 0 = 0 := by simp only [mulS_eq]; omega
theorem zero_mulS (a : Int) : mulS 0 a = 0 := by rw [mulS_comm, mulS_zero]

theorem mul_ge (p c : Int) (hp : 0 ≤ p) (hc : 1 ≤ c) : p ≤ p * c := by
  have := Int.mul_le_mul_of_nonneg_left hc hp
  rw [Int.mul_one] at this; exact this

/-- To stop ahead of a product changes nothing of a product that stops. -/
theorem mulS_stop (p c : Int) (hp : 0 ≤ p) (hc : 0 ≤ c) : mulS (min p 18446744073709551615) c = mulS p c := by
  by_cases h : p ≤ 18446744073709551615
  · rw [Int.min_eq_left h]
  · rw [Int.min_eq_right (by omega)]
    by_cases h0 : c = 0
    · subst h0; rw [mulS_zero, mulS_zero]
    · have h1 := mul_ge 18446744073709551615 c (by omega) (by omega)
      have h2 := mul_ge p c hp (by omega)
      rw [mulS_eq, mulS_eq]
      omega

theorem mulS_assoc (a b c : Int) (ha : 0 ≤ a) (hb : 0 ≤ b) (hc : 0 ≤ c) : mulS (mulS a b) c = mulS a (mulS b c) := by
  rw [mulS_eq a b, mulS_stop (a * b) c (Int.mul_nonneg ha hb) hc, mulS_comm a, mulS_eq b c, mulS_stop (b * c) a (Int.mul_nonneg hb hc) ha]
  unfold mulS
  rw [show b * c * a = a * b * c by rw [Int.mul_comm, Int.mul_assoc]]

theorem mulS_addS (a b c : Int) (ha : 0 ≤ a) (hb : 0 ≤ b) (hc : 0 ≤ c) : mulS a (addS b c) = addS (mulS a b) (mulS a c) := by
  rw [mulS_comm a, addS_eq b c, mulS_stop (b + c) a (by omega) ha]
  have h1 : 0 ≤ a * b := Int.mul_nonneg ha hb
  have h2 : 0 ≤ a * c := Int.mul_nonneg ha hc
  rw [mulS_eq, mulS_eq, mulS_eq, addS_eq, Int.add_mul, Int.mul_comm b, Int.mul_comm c]
  omega
end Fx
end Go.Proofs.Ytmpbhgcdkbpdeaa
