/- The walk of FixedRises. -/
import Derived.Test.YtmpbhgcdkbpdeaaFxV
import Derived.Test.YtmpbhgcdkbpdeaaFxQ
namespace Go.Proofs.Ytmpbhgcdkbpdeaa
open Go.RowKit
open Fx
set_option maxRecDepth 100000

set_option maxHeartbeats 2000000 in
theorem rises_at (a m b d : Int) (w : World) (ha : 0 ≤ a) (ha' : a ≤ 18446744073709551615) (hm : 0 ≤ m) (hb : 0 ≤ b) (hb' : b ≤ 18446744073709551615) (hd : 0 ≤ d) (hd' : d ≤ 18446744073709551615)
    (h7 : decide (0 < d) = true → (shareS a d d != a) = false) :
    Calls Try.prog 5 #[.int .u64 a, .int .u64 m, .int .u64 b, .int .u64 d] w fun e w' => e = .returned (.bool true) ∧ Drew w w' := by
  obtain ⟨hc0, hc'⟩ := addS_bd a m ha hm
  have hac := addS_ge a m ha ha' hm
  have h1 := addS_mono a (addS a m) b hac
  have h2 := mulS_mono a (addS a m) b hac hb
  have h3 := subS_mono a (addS a m) b hac
  have h4 := shareS_mono a (addS a m) b d ha hac hb hd
  have h5 := shareS_mono' a (addS a m) b d ha hac hb hd
  have h6 := bitLen_mono a (addS a m) hac
  have h6' : ¬ (Lib.bitLen (addS a m).toNat < Lib.bitLen a.toNat) := by omega
  have h8 : (shareS a 1048576 1048576 == a) = true := by rw [shareS_same a 1048576 ha ha' (by omega)]; simp
  have f0 : 0 ≤ b % 1048577 := by omega
  have f1 : b % 1048577 ≤ 1048576 := by omega
  have h9 := shareS_least a (b % 1048577) 1048576 ha ha' f0 (by omega) f1
  have h10 : (addS (b % 1048577) (subS 1048576 (b % 1048577)) == 1048576) = true := by rw [unit_back _ f0 f1]; simp
  have ⟨g0, _⟩ := subS_bd 1048576 (b % 1048577) (by omega) f0
  clear hac
  have d1 : decide (addS (addS a m) b < addS a b) = false := decide_eq_false h1
  have d2 : decide (mulS (addS a m) b < mulS a b) = false := decide_eq_false h2
  have d3 : decide (subS (addS a m) b < subS a b) = false := decide_eq_false h3
  have d4 : decide (shareS (addS a m) b d < shareS a b d) = false := decide_eq_false h4
  have d5 : decide (shareS b (addS a m) d < shareS b a d) = false := decide_eq_false h5
  have d6 : decide (Lib.bitLen (addS a m).toNat < Lib.bitLen a.toNat) = false := decide_eq_false h6'
  have d9 : decide (shareS a (b % 1048577) 1048576 ≤ a) = true := decide_eq_true h9
  clear h1 h2 h3 h4 h5 h6 h6' h9
  by_cases hz : 0 < d
  · have h7' := h7 (by simpa using hz)
    clear h7
    go_enter Try.func5, Try.ntmps5
    go_wp2_with (first | (go_at_call 7; refine (works_any _).mono ?_; rintro e w' ⟨rfl, ⟨nd, rfl⟩⟩) | (go_at_call 8; refine (add_any _ _ _ (by omega) (by omega)).mono ?_; rintro e w' ⟨rfl, rfl⟩) | (go_at_call 9; refine (mul_any _ _ _ (by omega) (by omega) (by omega) (by omega)).mono ?_; rintro e w' ⟨rfl, rfl⟩) | (go_at_call 10; refine (share_any _ _ _ _ (by omega) (by omega) (by omega) (by omega) (by omega) (by omega)).mono ?_; rintro e w' ⟨rfl, ⟨nd, rfl⟩⟩) | (go_at_call 12; refine (scale_any _ _ _ (by omega) (by omega) (by omega) (by omega)).mono ?_; rintro e w' ⟨rfl, ⟨nd, rfl⟩⟩) | (go_at_call 17; refine (log_any _ _ (by omega) (by omega)).mono ?_; rintro e w' ⟨rfl, rfl⟩) | (go_at_call 16; refine (sub_any _ _ _ (by omega) (by omega)).mono ?_; rintro e w' ⟨rfl, rfl⟩) | (go_at_call 14; refine (inv_any _ _ (by omega)).mono ?_; rintro e w' ⟨rfl, rfl⟩))
    go_ret
    exact ⟨rfl, _, rfl⟩
  · have hz' : decide (0 < d) = false := by simpa using hz
    clear h7
    go_enter Try.func5, Try.ntmps5
    go_wp2_with (first | (go_at_call 7; refine (works_any _).mono ?_; rintro e w' ⟨rfl, ⟨nd, rfl⟩⟩) | (go_at_call 8; refine (add_any _ _ _ (by omega) (by omega)).mono ?_; rintro e w' ⟨rfl, rfl⟩) | (go_at_call 9; refine (mul_any _ _ _ (by omega) (by omega) (by omega) (by omega)).mono ?_; rintro e w' ⟨rfl, rfl⟩) | (go_at_call 10; refine (share_any _ _ _ _ (by omega) (by omega) (by omega) (by omega) (by omega) (by omega)).mono ?_; rintro e w' ⟨rfl, ⟨nd, rfl⟩⟩) | (go_at_call 12; refine (scale_any _ _ _ (by omega) (by omega) (by omega) (by omega)).mono ?_; rintro e w' ⟨rfl, ⟨nd, rfl⟩⟩) | (go_at_call 17; refine (log_any _ _ (by omega) (by omega)).mono ?_; rintro e w' ⟨rfl, rfl⟩) | (go_at_call 16; refine (sub_any _ _ _ (by omega) (by omega)).mono ?_; rintro e w' ⟨rfl, rfl⟩) | (go_at_call 14; refine (inv_any _ _ (by omega)).mono ?_; rintro e w' ⟨rfl, rfl⟩))
    go_ret
    exact ⟨rfl, _, rfl⟩

theorem rises_walk (a m b d : Int) (w : World) (ha : 0 ≤ a) (ha' : a ≤ 18446744073709551615) (hm : 0 ≤ m) (hb : 0 ≤ b) (hb' : b ≤ 18446744073709551615) (hd : 0 ≤ d) (hd' : d ≤ 18446744073709551615) :
    Calls Try.prog 5 #[.int .u64 a, .int .u64 m, .int .u64 b, .int .u64 d] w fun e w' => e = .returned (.bool true) ∧ Drew w w' := by
  refine rises_at a m b d w ha ha' hm hb hb' hd hd' fun h => ?_
  rw [shareS_same a d ha ha' (by simpa using h)]; simp
end Go.Proofs.Ytmpbhgcdkbpdeaa
