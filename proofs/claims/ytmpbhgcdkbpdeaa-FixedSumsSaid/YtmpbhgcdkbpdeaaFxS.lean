/- The walks of the chapter fixed that share: Share, Scale, works. -/
import Derived.Test.YtmpbhgcdkbpdeaaFxD
namespace Go.Proofs.Ytmpbhgcdkbpdeaa
open Go.RowKit
open Fx
set_option maxRecDepth 100000

def Drew (w w' : World) : Prop := ∃ n, w' = w.drewN n
theorem Drew.refl (w : World) : Drew w w := ⟨0, rfl⟩
theorem Drew.grown {w w' : World} (h : Drew w w') : Grown w w' := by
  obtain ⟨n, rfl⟩ := h
  induction n with
  | zero => exact Grown.refl _
  | succ n ih => exact Grown.drew ih
theorem Fx.u64_bd {a : Int} (h : (Lit.int .u64 a).wf = true) : 0 ≤ a ∧ a ≤ 18446744073709551615 := by
  simpa [Lit.wf, IntKind.min, IntKind.max, IntKind.signed, IntKind.bits] using h

theorem share_zero (a n d : Int) (w : World) (ha : 0 ≤ a) (ha' : a ≤ 18446744073709551615) (hn : 0 ≤ n) (hn' : n ≤ 18446744073709551615) (hz : a * n = 0) :
    Calls Try.prog 10 #[.int .u64 a, .int .u64 n, .int .u64 d] w fun e w' => e = .returned (.int .u64 0) ∧ Drew w w' := by
  have e1 : a * n / 18446744073709551616 = 0 := by rw [hz]; rfl
  have e2 : a * n % 18446744073709551616 = 0 := by rw [hz]; rfl
  clear hz
  go_enter Try.func10, Try.ntmps10
  go_wp2_with (go_at_call 26; refine (mul64_any _ _ _ ha ha' hn hn').mono ?_; rintro e w' ⟨rfl, rfl⟩)
  go_ret
  exact ⟨rfl, Drew.refl _⟩

theorem share_any (a n d : Int) (w : World) (ha : 0 ≤ a) (ha' : a ≤ 18446744073709551615) (hn : 0 ≤ n) (hn' : n ≤ 18446744073709551615) (hd : 0 ≤ d) (hd' : d ≤ 18446744073709551615) :
    Calls Try.prog 10 #[.int .u64 a, .int .u64 n, .int .u64 d] w fun e w' => e = .returned (.int .u64 (shareS a n d)) ∧ Drew w w' := by
  by_cases hz : a * n = 0
  · rw [show shareS a n d = 0 from if_pos hz]
    exact share_zero a n d w ha ha' hn hn' hz
  have hm := mul64_any a n w ha ha' hn hn'
  have hp : 0 ≤ a * n := Int.mul_nonneg ha hn
  have hle : a * n ≤ 18446744073709551615 * 18446744073709551615 := Int.mul_le_mul ha' hn' hn (by omega)
  have e0 : a * n = a * n / 18446744073709551616 * 18446744073709551616 + a * n % 18446744073709551616 := by omega
  by_cases hge : d ≤ a * n / 18446744073709551616
  · rw [show shareS a n d = 18446744073709551615 by unfold shareS; rw [if_neg hz, if_pos hge]]
    have hb : 0 ≤ a * n / 18446744073709551616 := by omega
    have hb' : a * n / 18446744073709551616 = 0 → ¬ a * n % 18446744073709551616 = 0 := by omega
    clear hle e0 hp hz
    generalize a * n / 18446744073709551616 = hi at *
    generalize a * n % 18446744073709551616 = lo at *
    by_cases h1 : hi = 0
    · have h1' : (hi == 0) = true := by simpa using h1
      have h2 : (lo == 0) = false := by simpa using hb' h1
      clear h1 hb'
      have HM := Lib.hid hm
      clear hm
      go_enter Try.func10, Try.ntmps10
      go_wp2_with (first | (go_at_call 26; refine (HM.out).mono ?_; rintro e w' ⟨rfl, rfl⟩) | (go_at_call 27; refine (capb_true _ _).mono ?_; rintro e w' ⟨rfl, rfl⟩))
      go_ret
      exact ⟨rfl, Drew.refl _⟩
    · have h1' : (hi == 0) = false := by simpa using h1
      clear h1 hb'
      have HM := Lib.hid hm
      clear hm
      go_enter Try.func10, Try.ntmps10
      go_wp2_with (first | (go_at_call 26; refine (HM.out).mono ?_; rintro e w' ⟨rfl, rfl⟩) | (go_at_call 27; refine (capb_true _ _).mono ?_; rintro e w' ⟨rfl, rfl⟩))
      go_ret
      exact ⟨rfl, Drew.refl _⟩
  · rw [show shareS a n d = a * n / d by unfold shareS; rw [if_neg hz, if_neg hge]]
    have hb : 0 ≤ a * n / 18446744073709551616 := by omega
    have hb' : a * n / 18446744073709551616 = 0 → ¬ a * n % 18446744073709551616 = 0 := by omega
    have hb2 : 0 ≤ a * n % 18446744073709551616 ∧ a * n % 18446744073709551616 ≤ 18446744073709551615 := by omega
    have hdv : ∀ w, Calls Try.prog 28 #[.int .u64 (a * n / 18446744073709551616), .int .u64 (a * n % 18446744073709551616), .int .u64 d] w fun e w' => e = .returned (.tuple #[.int .u64 (a * n / d), .int .u64 (a * n % d)]) ∧ ∃ n, w' = w.drewN n := by
      intro w
      have := div64_any (a * n / 18446744073709551616) (a * n % 18446744073709551616) d w hb (by omega) hb2.1 hb2.2 hd'
      rw [← e0] at this
      exact this
    clear hle e0 hp hz
    generalize a * n / d = q at *
    generalize a * n % d = r at *
    generalize a * n / 18446744073709551616 = hi at *
    generalize a * n % 18446744073709551616 = lo at *
    have HM := Lib.hid hm
    have HD := Lib.hid hdv
    clear hm hdv
    by_cases h1 : hi = 0
    · have h1' : (hi == 0) = true := by simpa using h1
      have h2 : (lo == 0) = false := by simpa using hb' h1
      clear h1 hb' hb2
      go_enter Try.func10, Try.ntmps10
      go_wp2_with (first | (go_at_call 26; refine (HM.out).mono ?_; rintro e w' ⟨rfl, rfl⟩) | (go_at_call 28; refine (HD.out _).mono ?_; rintro e w' ⟨rfl, ⟨nd, rfl⟩⟩))
      go_ret
      exact ⟨rfl, _, rfl⟩
    · have h1' : (hi == 0) = false := by simpa using h1
      clear h1 hb' hb2
      go_enter Try.func10, Try.ntmps10
      go_wp2_with (first | (go_at_call 26; refine (HM.out).mono ?_; rintro e w' ⟨rfl, rfl⟩) | (go_at_call 28; refine (HD.out _).mono ?_; rintro e w' ⟨rfl, ⟨nd, rfl⟩⟩))
      go_ret
      exact ⟨rfl, _, rfl⟩

theorem scale_any (a f : Int) (w : World) (ha : 0 ≤ a) (ha' : a ≤ 18446744073709551615) (hf : 0 ≤ f) (hf' : f ≤ 18446744073709551615) :
    Calls Try.prog 12 #[.int .u64 a, .int .u64 f] w fun e w' => e = .returned (.int .u64 (shareS a f 1048576)) ∧ Drew w w' := by
  go_enter Try.func12, Try.ntmps12
  go_wp2_with (go_at_call 10; refine (share_any _ _ _ _ ha ha' hf hf' (by omega) (by omega)).mono ?_; rintro e w' ⟨rfl, ⟨nd, rfl⟩⟩)
  go_ret
  exact ⟨rfl, _, rfl⟩
end Go.Proofs.Ytmpbhgcdkbpdeaa
