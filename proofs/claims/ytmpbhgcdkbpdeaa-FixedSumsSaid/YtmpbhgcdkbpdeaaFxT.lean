/- The walk of the reference's Share, digit by digit. -/
import Derived.Test.YtmpbhgcdkbpdeaaFxR
import Derived.Test.YtmpbhgcdkbpdeaaFxV
import Derived.Deep.DeepCutAuto
namespace Go.Proofs.Ytmpbhgcdkbpdeaa
open Go.RowKit
open Fx
set_option maxRecDepth 100000

def ShRel (N d j q r : Nat) : Prop := d * q + r = N / 2 ^ j ∧ r < d ∧ q * 2 ^ j < 18446744073709551616

theorem sh_step (N d k q r bit : Nat) (h : ShRel N d (k + 1) q r) (hN : N < 18446744073709551616 * d) (hb : bit = N / 2 ^ k % 2) :
    (2 * r + bit < d → ShRel N d k (2 * q) (2 * r + bit)) ∧ (d ≤ 2 * r + bit → ShRel N d k (2 * q + 1) (2 * r + bit - d)) := by
  obtain ⟨h1, h2, h3⟩ := h
  have e : N / 2 ^ (k + 1) = N / 2 ^ k / 2 := by rw [Nat.pow_succ, Nat.div_div_eq_div_mul]
  rw [e] at h1
  have hb2 : bit ≤ 1 := by omega
  have hp : 0 < 2 ^ k := Nat.pow_pos (by omega)
  have h4 : N / 2 ^ k = d * (2 * q) + (2 * r + bit) := by rw [Nat.mul_left_comm]; omega
  have h5 : N / 2 ^ k * 2 ^ k ≤ N := Nat.div_mul_le_self N _
  have aux : ∀ Q R, d * Q + R = N / 2 ^ k → Q * 2 ^ k < 18446744073709551616 := by
    intro Q R hQ
    rw [← hQ, Nat.add_mul, Nat.mul_assoc] at h5
    have : d * (Q * 2 ^ k) < 18446744073709551616 * d := by
      generalize d * (Q * 2 ^ k) = z at *
      generalize R * 2 ^ k = y at *
      omega
    rw [Nat.mul_comm d] at this
    exact Nat.lt_of_mul_lt_mul_right this
  constructor
  · intro hlt
    exact ⟨h4.symm, hlt, aux _ _ h4.symm⟩
  · intro hge
    have h6 : d * (2 * q + 1) + (2 * r + bit - d) = N / 2 ^ k := by rw [h4, Nat.mul_add, Nat.mul_one]; omega
    exact ⟨h6, by omega, aux _ _ h6⟩

theorem sh_q (N d k q r : Nat) (h : ShRel N d (k + 1) q r) : q < 9223372036854775808 := by
  have h3 := h.2.2
  have : q * 2 ≤ q * 2 ^ (k + 1) := Nat.mul_le_mul_left _ (by rw [Nat.pow_succ]; have := Nat.pow_pos (n := k) (show 0 < 2 by omega); omega)
  omega

theorem sh_end (N d q r : Nat) (h : ShRel N d 0 q r) : q = N / d := by
  obtain ⟨h1, h2, _⟩ := h
  simp only [Nat.pow_zero, Nat.div_one] at h1
  rw [← h1, Nat.mul_add_div (by omega), Nat.div_eq_of_lt h2]; rfl

set_option maxHeartbeats 1000000 in
theorem rshare_main (a n : Int) (h l d : Nat) (w : World) (hw : ∀ w, Calls Try.prog 29 #[.int .u64 a, .int .u64 n] w fun e w' => e = .returned (.tuple #[.int .u64 (h : Int), .int .u64 (l : Int)]) ∧ Drew w w')
    (hl : l < 18446744073709551616) (hd : h < d) (hd' : d < 18446744073709551616) (hz : Hid (h = 0 → ¬ l = 0)) :
    Calls Try.prog 11 #[.int .u64 a, .int .u64 n, .int .u64 d] w fun e w' => e = .returned (.int .u64 (((h * 18446744073709551616 + l) / d : Nat) : Int)) ∧ Drew w w' := by
  have HW := Lib.hid hw
  clear hw
  have hst : ShRel (18446744073709551616 * h + l) d 64 0 h := by
    refine ⟨?_, hd, by simp⟩
    show d * 0 + h = (18446744073709551616 * h + l) / 18446744073709551616
    rw [Nat.mul_add_div (by omega), Nat.div_eq_of_lt hl]; omega
  obtain ⟨N, hN⟩ : ∃ N, N = 18446744073709551616 * h + l := ⟨_, rfl⟩
  have hNd : N < 18446744073709551616 * d := by omega
  have hNl : ∀ k, k < 64 → l / 2 ^ k % 2 = N / 2 ^ k % 2 := by
    intro k hk
    have e : 18446744073709551616 * h = 2 ^ k * (2 * (h * 2 ^ (63 - k))) := by
      have : 18446744073709551616 = 2 ^ k * (2 * 2 ^ (63 - k)) := by
        rw [← Nat.pow_succ', ← Nat.pow_add, show k + (63 - k).succ = 64 by omega]
      rw [Nat.mul_left_comm 2, Nat.mul_left_comm (2 ^ k), ← this, Nat.mul_comm]
    rw [hN, e, Nat.mul_add_div (Nat.pow_pos (by omega)), Nat.mul_add_mod]
  rw [← hN] at hst
  rw [show h * 18446744073709551616 + l = N by rw [hN, Nat.mul_comm]]
  have HN := Lib.hid (And.intro hNd hNl)
  obtain ⟨Z, hZ⟩ : ∃ Z, Z = N / d := ⟨_, rfl⟩
  rw [← hZ]
  have HZ := Lib.hid hZ
  clear hZ
  clear hN hNd hNl
  have g1 : ((d : Int) == 0) = false := by simp; omega
  have g2 : ¬ (d : Int) ≤ (h : Int) := by omega
  have L1 := Lib.hid hl
  have L2 := Lib.hid hd'
  clear hl hd hd'
  have hgo : (((h : Int) == 0) = true ∧ ((l : Int) == 0) = false) ∨ ((h : Int) == 0) = false := by
    by_cases h0 : h = 0
    · left; have := hz.out h0; simp; omega
    · right; simp; omega
  rcases hgo with ⟨g3, g4⟩ | g3
  all_goals
    go_enter Try.func11, Try.ntmps11
    go_wp2_with (go_at_call 29; refine (HW.out _).mono ?_; rintro e w' ⟨rfl, ⟨nd, rfl⟩⟩)
    go_loop [9, 10, 11] (fun rest q i => ∃ j Q R : Nat, rest = .int .u64 (R : Int) ∧ q = .int .u64 (Q : Int) ∧ i = .int .i64 ((j : Int) - 1) ∧ j ≤ 64 ∧ ShRel N d j Q R) (fun _ _ i => (intOf i + 1).toNat)
    case atStart => exact ⟨64, 0, h, rfl, rfl, rfl, by omega, hst⟩
    case round =>
      obtain ⟨j, Q, R, rfl, rfl, rfl, hj, hrel⟩ := hrel
      clear g1 g2 g3
      cases j with
      | zero =>
        obtain rfl : Q = Z := by rw [HZ.out]; exact sh_end N d Q R hrel
        go_wp2
        go_ret
        exact ⟨rfl, _, rfl⟩
      | succ k =>
        have e0 : ((k + 1 : Nat) : Int) - 1 = (k : Int) := by omega
        rw [e0]
        have hq := sh_q N d k Q R hrel
        have hr := hrel.2.1
        obtain ⟨bit, hbit⟩ : ∃ b, b = l / 2 ^ k % 2 := ⟨_, rfl⟩
        have hb1 : bit ≤ 1 := by omega
        have hst := sh_step N d k Q R bit hrel HN.out.1 (by rw [hbit]; exact HN.out.2 k (by omega))
        have hlk : l / 2 ^ k < 18446744073709551616 := Nat.lt_of_le_of_lt (Nat.div_le_self _ _) L1.out
        have f1 : (l : Int) / 2 ^ k = ((l / 2 ^ k : Nat) : Int) := by simp
        obtain ⟨lk, hlk'⟩ : ∃ b, b = l / 2 ^ k := ⟨_, rfl⟩
        rw [← hlk'] at f1 hbit hlk
        have f2 : (lk : Int) % 2 = (bit : Int) := by omega
        have f3 : (lk : Int) ≤ 18446744073709551615 := by omega
        have f4 : IntKind.u64.wrap (k : Int) = (k : Int) := by rw [IntKind.wrap_u64]; omega
        have f5 : IntKind.u64.wrap ((Q : Int) * 2) = ((2 * Q : Nat) : Int) := by rw [IntKind.wrap_u64]; omega
        have f6 : IntKind.u64.wrap (((2 * Q : Nat) : Int) + 1) = ((2 * Q + 1 : Nat) : Int) := by rw [IntKind.wrap_u64]; omega
        have hk : k ≤ 63 := by omega
        have D := L2.out
        have hw1 : IntKind.u64.wrap (IntKind.u64.wrap ((R : Int) * 2) + (bit : Int)) = (((2 * R + bit) % 18446744073709551616 : Nat) : Int) := by
          simp only [IntKind.wrap_u64]; omega
        obtain ⟨W1, hW1⟩ : ∃ b, b = (2 * R + bit) % 18446744073709551616 := ⟨_, rfl⟩
        rw [← hW1] at hw1
        have fe : IntKind.i64.wrap ((k : Int) - 1) = (k : Int) - 1 := by rw [IntKind.wrap_i64]; omega
        obtain ⟨Q2, hQ2⟩ : ∃ b, b = 2 * Q := ⟨_, rfl⟩
        obtain ⟨Q3, hQ3⟩ : ∃ b, b = 2 * Q + 1 := ⟨_, rfl⟩
        rw [← hQ2] at f5 f6 hst
        rw [hQ2, ← hQ3] at f6
        rw [hQ2, ← hQ3] at hst
        rw [← hQ2] at f6 hst
        clear hQ2 hQ3 hq hbit hlk
        by_cases c1 : 9223372036854775808 ≤ R
        · have hs := hst.2 (by omega)
          have hw2 : IntKind.u64.wrap ((W1 : Int) - (d : Int)) = ((2 * R + bit - d : Nat) : Int) := by rw [IntKind.wrap_u64]; omega
          obtain ⟨R2, hR2⟩ : ∃ b, b = 2 * R + bit - d := ⟨_, rfl⟩
          rw [← hR2] at hs hw2
          have c1' : (9223372036854775808 : Int) ≤ (R : Int) := by omega
          clear hR2 c1 hr hW1 hb1 D hst hlk' HZ
          go_wp2
          go_round
          case rel => exact ⟨k, Q3, R2, rfl, rfl, rfl, by omega, hs⟩
          case measure => simp [intOf]
        · have c1' : ¬ (9223372036854775808 : Int) ≤ (R : Int) := by omega
          have eW : W1 = 2 * R + bit := by omega
          rw [← eW] at hst
          have hw3 : (R : Int) * 2 + (bit : Int) = (W1 : Int) := by omega
          by_cases c2 : d ≤ W1
          · have hs := hst.2 c2
            have hw2 : IntKind.u64.wrap ((W1 : Int) - (d : Int)) = ((W1 - d : Nat) : Int) := by rw [IntKind.wrap_u64]; omega
            obtain ⟨R2, hR2⟩ : ∃ b, b = W1 - d := ⟨_, rfl⟩
            rw [← hR2] at hs hw2
            have c2' : (d : Int) ≤ (W1 : Int) := by omega
            clear hR2 c1 hr hW1 hb1 D hst hlk' HZ eW c2
            go_wp2
            go_round
            case rel => exact ⟨k, Q3, R2, rfl, rfl, rfl, by omega, hs⟩
            case measure => simp [intOf]
          · have hs := hst.1 (by omega)
            have c2' : ¬ (d : Int) ≤ (W1 : Int) := by omega
            clear c1 hr hW1 hb1 D hst hlk' HZ eW c2
            go_wp2
            go_round
            case rel => exact ⟨k, Q2, W1, rfl, rfl, rfl, by omega, hs⟩
            case measure => simp [intOf]

theorem rshare_any (a n d : Int) (w : World) (ha : 0 ≤ a) (ha' : a ≤ 18446744073709551615) (hn : 0 ≤ n) (hn' : n ≤ 18446744073709551615) (hd : 0 ≤ d) (hd' : d ≤ 18446744073709551615) :
    Calls Try.prog 11 #[.int .u64 a, .int .u64 n, .int .u64 d] w fun e w' => e = .returned (.int .u64 (shareS a n d)) ∧ Drew w w' := by
  have hm := fun w => wide_any a n w ha ha' hn hn'
  have hp : 0 ≤ a * n := Int.mul_nonneg ha hn
  have hle : a * n ≤ 18446744073709551615 * 18446744073709551615 := Int.mul_le_mul ha' hn' hn (by omega)
  have e0 : a * n = a * n / 18446744073709551616 * 18446744073709551616 + a * n % 18446744073709551616 := by omega
  have hb : 0 ≤ a * n / 18446744073709551616 := by omega
  have hz1 : a * n / 18446744073709551616 = 0 → ¬ a * n = 0 → ¬ a * n % 18446744073709551616 = 0 := by omega
  have hb2 : 0 ≤ a * n % 18446744073709551616 ∧ a * n % 18446744073709551616 ≤ 18446744073709551615 := by omega
  by_cases hz : a * n = 0
  · rw [show shareS a n d = 0 from if_pos hz]
    have e1 : a * n / 18446744073709551616 = 0 := by rw [hz]; rfl
    have e2 : a * n % 18446744073709551616 = 0 := by rw [hz]; rfl
    rw [e1, e2] at hm
    have HM := Lib.hid hm
    clear hm hle e0 hp hz hb hz1 hb2 e1 e2
    go_enter Try.func11, Try.ntmps11
    go_wp2_with (go_at_call 29; refine (HM.out _).mono ?_; rintro e w' ⟨rfl, ⟨nd, rfl⟩⟩)
    go_ret
    exact ⟨rfl, _, rfl⟩
  by_cases hge : d ≤ a * n / 18446744073709551616
  · rw [show shareS a n d = 18446744073709551615 by unfold shareS; rw [if_neg hz, if_pos hge]]
    clear hle e0 hp
    generalize a * n = p at *
    generalize p / 18446744073709551616 = hi at *
    generalize p % 18446744073709551616 = lo at *
    have HM := Lib.hid hm
    clear hm
    have hgo : ((hi == 0) = true ∧ (lo == 0) = false) ∨ (hi == 0) = false := by
      by_cases h0 : hi = 0
      · left; have := hz1 h0 hz; simp; omega
      · right; simp; omega
    clear hz1 hb2 hz
    by_cases hd0 : d = 0
    · subst hd0
      rcases hgo with ⟨g3, g4⟩ | g3
      all_goals
        go_enter Try.func11, Try.ntmps11
        go_wp2_with (go_at_call 29; refine (HM.out _).mono ?_; rintro e w' ⟨rfl, ⟨nd, rfl⟩⟩)
        go_ret
        exact ⟨rfl, _, rfl⟩
    · have g1 : (d == 0) = false := by simpa using hd0
      clear hd0
      rcases hgo with ⟨g3, g4⟩ | g3
      all_goals
        go_enter Try.func11, Try.ntmps11
        go_wp2_with (go_at_call 29; refine (HM.out _).mono ?_; rintro e w' ⟨rfl, ⟨nd, rfl⟩⟩)
        go_ret
        exact ⟨rfl, _, rfl⟩
  · rw [show shareS a n d = a * n / d by unfold shareS; rw [if_neg hz, if_neg hge]]
    obtain ⟨D, rfl⟩ := Int.eq_ofNat_of_zero_le hd
    obtain ⟨h, hh⟩ := Int.eq_ofNat_of_zero_le hb
    obtain ⟨l, hl⟩ := Int.eq_ofNat_of_zero_le hb2.1
    rw [hh] at hm hge hz1 e0
    rw [hl] at hm hb2 hz1 e0
    have e1 : a * n / (D : Int) = (((h * 18446744073709551616 + l) / D : Nat) : Int) := by
      rw [Int.natCast_ediv]
      congr 1
    rw [e1]
    exact rshare_main a n h l D w hm (by omega) (by omega) (by omega) (Lib.hid (by omega))

theorem rscale_any (a f : Int) (w : World) (ha : 0 ≤ a) (ha' : a ≤ 18446744073709551615) (hf : 0 ≤ f) (hf' : f ≤ 18446744073709551615) :
    Calls Try.prog 13 #[.int .u64 a, .int .u64 f] w fun e w' => e = .returned (.int .u64 (shareS a f 1048576)) ∧ Drew w w' := by
  go_enter Try.func13, Try.ntmps13
  go_wp2_with (go_at_call 11; refine (rshare_any _ _ _ _ ha ha' hf hf' (by omega) (by omega)).mono ?_; rintro e w' ⟨rfl, ⟨nd, rfl⟩⟩)
  go_ret
  exact ⟨rfl, _, rfl⟩

theorem shares_walk (a n d : Int) (w : World) (ha : 0 ≤ a) (ha' : a ≤ 18446744073709551615) (hn : 0 ≤ n) (hn' : n ≤ 18446744073709551615) (hd : 0 ≤ d) (hd' : d ≤ 18446744073709551615) :
    Calls Try.prog 4 #[.int .u64 a, .int .u64 n, .int .u64 d] w fun e w' => e = .returned (.bool true) ∧ Drew w w' := by
  go_enter Try.func4, Try.ntmps4
  go_wp2_with (first | (go_at_call 7; refine (works_any _).mono ?_; rintro e w' ⟨rfl, ⟨nd, rfl⟩⟩) | (go_at_call 10; refine (share_any _ _ _ _ ha ha' hn hn' hd hd').mono ?_; rintro e w' ⟨rfl, ⟨nd, rfl⟩⟩) | (go_at_call 11; refine (rshare_any _ _ _ _ ha ha' hn hn' hd hd').mono ?_; rintro e w' ⟨rfl, ⟨nd, rfl⟩⟩) | (go_at_call 12; refine (scale_any _ _ _ ha ha' hn hn').mono ?_; rintro e w' ⟨rfl, ⟨nd, rfl⟩⟩) | (go_at_call 13; refine (rscale_any _ _ _ ha ha' hn hn').mono ?_; rintro e w' ⟨rfl, ⟨nd, rfl⟩⟩) | (go_at_call 14; refine (inv_any _ _ ha).mono ?_; rintro e w' ⟨rfl, rfl⟩) | (go_at_call 15; refine (rinv_any _ _ ha ha').mono ?_; rintro e w' ⟨rfl, rfl⟩))
  go_ret
  exact ⟨rfl, _, rfl⟩
end Go.Proofs.Ytmpbhgcdkbpdeaa
