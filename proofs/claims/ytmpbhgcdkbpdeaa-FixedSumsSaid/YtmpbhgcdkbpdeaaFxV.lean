/- The chapter's examples hold. -/
import Derived.Test.YtmpbhgcdkbpdeaaFxS
namespace Go.Proofs.Ytmpbhgcdkbpdeaa
open Go.RowKit
open Fx
set_option maxRecDepth 100000

theorem works_any (w : World) : Calls Try.prog 7 #[] w fun e w' => e = .returned (.bool true) ∧ Drew w w' := by
  have k1 : addS 18446744073709551615 1 = 18446744073709551615 := by decide +kernel
  have k2 : mulS 1099511627776 1099511627776 = 18446744073709551615 := by decide +kernel
  have k3 : shareS 18446744073709551615 2 4 = 9223372036854775807 := by decide +kernel
  have k4 : (Lib.bitLen (8 : Int).toNat : Int) = 4 := by decide +kernel
  have k5 : subS 1 2 = 0 := by decide +kernel
  go_enter Try.func7, Try.ntmps7
  go_wp2_with (first | (go_at_call 8; refine (add_any _ _ _ (by omega) (by omega)).mono ?_; rintro e w' ⟨rfl, rfl⟩) | (go_at_call 9; refine (mul_any _ _ _ (by omega) (by omega) (by omega) (by omega)).mono ?_; rintro e w' ⟨rfl, rfl⟩) | (go_at_call 10; refine (share_any _ _ _ _ (by omega) (by omega) (by omega) (by omega) (by omega) (by omega)).mono ?_; rintro e w' ⟨rfl, ⟨nd, rfl⟩⟩) | (go_at_call 17; refine (log_any _ _ (by omega) (by omega)).mono ?_; rintro e w' ⟨rfl, rfl⟩) | (go_at_call 16; refine (sub_any _ _ _ (by omega) (by omega)).mono ?_; rintro e w' ⟨rfl, rfl⟩))

  go_ret
  exact ⟨rfl, _, rfl⟩
end Go.Proofs.Ytmpbhgcdkbpdeaa
