/- The walk of FixedAlgebra. -/
import Derived.Test.YtmpbhgcdkbpdeaaFxV
import Derived.Test.YtmpbhgcdkbpdeaaFxP
namespace Go.Proofs.Ytmpbhgcdkbpdeaa
open Go.RowKit
open Fx
set_option maxRecDepth 100000

set_option maxHeartbeats 1000000 in
theorem algebra_walk (a b c : Int) (w : World) (ha : 0 ≤ a) (ha' : a ≤ 18446744073709551615) (hb : 0 ≤ b) (hb' : b ≤ 18446744073709551615) (hc : 0 ≤ c) (hc' : c ≤ 18446744073709551615) :
    Calls Try.prog 3 #[.int .u64 a, .int .u64 b, .int .u64 c] w fun e w' => e = .returned (.bool true) ∧ Drew w w' := by
  have s1 : (addS a b == addS b a) = true := by rw [addS_comm]; simp
  have s2 : (addS (addS a b) c == addS a (addS b c)) = true := by rw [addS_assoc a b c ha hb hc]; simp
  have s3 : (addS a 0 == a) = true := by rw [addS_zero a ha']; simp
  have p1 : (mulS a b == mulS b a) = true := by rw [mulS_comm]; simp
  have p2 : (mulS (mulS a b) c == mulS a (mulS b c)) = true := by rw [mulS_assoc a b c ha hb hc]; simp
  have p3 : (mulS a 1 == a) = true := by rw [mulS_one a ha']; simp
  have d1 : (mulS a (addS b c) == addS (mulS a b) (mulS a c)) = true := by rw [mulS_addS a b c ha hb hc]; simp
  have ⟨b1, b1'⟩ := addS_bd a b ha hb
  have ⟨b2, b2'⟩ := addS_bd b c hb hc
  have ⟨b3, b3'⟩ := mulS_bd a b ha hb
  have ⟨b4, b4'⟩ := mulS_bd b c hb hc
  have ⟨b5, b5'⟩ := mulS_bd a c ha hc
  go_enter Try.func3, Try.ntmps3
  go_wp2_with (first | (go_at_call 7; refine (works_any _).mono ?_; rintro e w' ⟨rfl, ⟨nd, rfl⟩⟩) | (go_at_call 8; refine (add_any _ _ _ (by omega) (by omega)).mono ?_; rintro e w' ⟨rfl, rfl⟩) | (go_at_call 9; refine (mul_any _ _ _ (by omega) (by omega) (by omega) (by omega)).mono ?_; rintro e w' ⟨rfl, rfl⟩))
  go_ret
  exact ⟨rfl, _, rfl⟩
end Go.Proofs.Ytmpbhgcdkbpdeaa
