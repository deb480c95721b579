/- Plain: what the reference's Near adds up. -/
import Derived.Test.YtmjpdknnglblcaaDoorGrU
namespace Go.Proofs.YtmjpdknnglblcaaDoor
namespace Gr
set_option linter.unusedVariables false

def nearP (A : Nat → Nat → Bool) (s i k j : Nat) : Bool := !s.testBit j && ((List.range i).any (fun x => s.testBit x && A x j) || (decide (j < k) && (s.testBit i && A i j)))
def nearN (n : Nat) (A : Nat → Nat → Bool) (s i k : Nat) : Nat := ofB n (nearP A s i k)
theorem nearN_zero (n : Nat) (A : Nat → Nat → Bool) (s : Nat) : nearN n A s 0 0 = 0 := by
  apply Nat.eq_of_testBit_eq
  intro j
  unfold nearN
  rw [testBit_ofB]; simp [nearP]
theorem nearN_end (n : Nat) (A : Nat → Nat → Bool) (s : Nat) : nearN n A s n 0 = nearB n A s := by
  apply Nat.eq_of_testBit_eq
  intro j
  unfold nearN
  rw [testBit_ofB, testBit_nearB]; simp [nearP]
theorem nearN_next (n : Nat) (A : Nat → Nat → Bool) (s i : Nat) : nearN n A s i n = nearN n A s (i + 1) 0 := by
  apply Nat.eq_of_testBit_eq
  intro j
  unfold nearN
  rw [testBit_ofB, testBit_ofB]
  unfold nearP
  rw [List.range_succ, List.any_append]
  by_cases hj : j < n
  · simp [hj]
  · simp [hj]
theorem nearN_step (n : Nat) (A : Nat → Nat → Bool) (s i k : Nat) (hk : k < n) : nearN n A s i (k + 1) = if (s.testBit i && !s.testBit k) && A i k then nearN n A s i k ||| 2 ^ k else nearN n A s i k := by
  apply Nat.eq_of_testBit_eq
  intro j
  have hsplit : ∀ b : Bool, (if b then nearN n A s i k ||| 2 ^ k else nearN n A s i k).testBit j = ((nearN n A s i k).testBit j || (b && decide (k = j))) := by
    intro b; cases b <;> simp [Nat.testBit_or, Nat.testBit_two_pow]
  rw [hsplit]
  unfold nearN
  rw [testBit_ofB, testBit_ofB]
  unfold nearP
  by_cases e : k = j
  · subst e
    simp only [hk, decide_true, Bool.true_and, Nat.lt_irrefl, decide_false, Bool.false_and, Bool.or_false, Bool.and_true, Nat.lt_succ_self]
    cases s.testBit k <;> cases s.testBit i <;> cases A i k <;> simp
  · have h : decide (j < k + 1) = decide (j < k) := by rw [decide_eq_decide]; omega
    rw [h]; simp [e]
theorem nearN_lt (n : Nat) (A : Nat → Nat → Bool) (s i k : Nat) : nearN n A s i k < 2 ^ n := ofB_lt _ _
end Gr
end Go.Proofs.YtmjpdknnglblcaaDoor
