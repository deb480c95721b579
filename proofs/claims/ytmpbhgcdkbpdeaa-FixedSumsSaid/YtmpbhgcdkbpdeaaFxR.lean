/- The walks of the references of the chapter fixed. -/
import Derived.Test.YtmpbhgcdkbpdeaaFxS
namespace Go.Proofs.Ytmpbhgcdkbpdeaa
open Go.RowKit
open Fx
set_option maxRecDepth 100000

theorem radd_any (a b : Int) (w : World) (ha : 0 ≤ a) (ha' : a ≤ 18446744073709551615) (hb : 0 ≤ b) (hb' : b ≤ 18446744073709551615) :
    Calls Try.prog 18 #[.int .u64 a, .int .u64 b] w fun e w' => e = .returned (.int .u64 (addS a b)) ∧ w = w' := by
  by_cases h : 18446744073709551615 - a < b
  · rw [show addS a b = 18446744073709551615 by unfold addS; rw [if_neg (by omega)]]
    go_enter Try.func18, Try.ntmps18
    go_wp2
    go_ret
    exact ⟨rfl, rfl⟩
  · rw [show addS a b = a + b by unfold addS; rw [if_pos (by omega)]]
    go_enter Try.func18, Try.ntmps18
    go_wp2
    go_ret
    exact ⟨rfl, rfl⟩

theorem rsub_any (a b : Int) (w : World) (ha : 0 ≤ a) (ha' : a ≤ 18446744073709551615) (hb : 0 ≤ b) (hb' : b ≤ 18446744073709551615) :
    Calls Try.prog 19 #[.int .u64 a, .int .u64 b] w fun e w' => e = .returned (.int .u64 (subS a b)) ∧ w = w' := by
  by_cases h : a < b
  · rw [show subS a b = 0 from if_pos h]
    go_enter Try.func19, Try.ntmps19
    go_wp2
    go_ret
    exact ⟨rfl, rfl⟩
  · rw [show subS a b = a - b from if_neg h]
    go_enter Try.func19, Try.ntmps19
    go_wp2
    go_ret
    exact ⟨rfl, rfl⟩
theorem rinv_any (a : Int) (w : World) (ha : 0 ≤ a) (ha' : a ≤ 18446744073709551615) :
    Calls Try.prog 15 #[.int .u64 a] w fun e w' => e = .returned (.int .u64 (subS 1048576 a)) ∧ w = w' := by
  go_enter Try.func15, Try.ntmps15
  go_wp2_with (go_at_call 19; refine (rsub_any _ _ _ (by omega) (by omega) (by omega) (by omega)).mono ?_; rintro e w' ⟨rfl, rfl⟩)
  go_ret
  exact ⟨rfl, rfl⟩

theorem half_mul (a b : Nat) (ha : a < 4294967296) (hb : b < 4294967296) : a * b ≤ 18446744065119617025 := Nat.mul_le_mul (show a ≤ 4294967295 by omega) (show b ≤ 4294967295 by omega)

theorem wide_plain (x y A1 A0 B1 B0 lq lr mq mr m2q m2r : Nat) (hx : 4294967296 * A1 + A0 = x) (hy : 4294967296 * B1 + B0 = y)
    (h1 : 4294967296 * lq + lr = A0 * B0) (h2 : 4294967296 * mq + mr = A1 * B0 + lq) (h3 : 4294967296 * m2q + m2r = A0 * B1 + mr) (hr : lr < 4294967296) (hr2 : m2r < 4294967296) :
    x * y / 18446744073709551616 = A1 * B1 + mq + m2q ∧ x * y % 18446744073709551616 = 4294967296 * m2r + lr := by
  have e : x * y = 18446744073709551616 * (A1 * B1) + 4294967296 * (A1 * B0) + 4294967296 * (A0 * B1) + A0 * B0 := by
    rw [← hx, ← hy, Nat.add_mul, Nat.mul_add, Nat.mul_add]
    have q1 : 4294967296 * A1 * (4294967296 * B1) = 18446744073709551616 * (A1 * B1) := by
      rw [Nat.mul_mul_mul_comm]
    have q2 : 4294967296 * A1 * B0 = 4294967296 * (A1 * B0) := Nat.mul_assoc _ _ _
    have q3 : A0 * (4294967296 * B1) = 4294967296 * (A0 * B1) := Nat.mul_left_comm _ _ _
    rw [q1, q2, q3]
    omega
  generalize A1 * B1 = p11 at *
  generalize A1 * B0 = p10 at *
  generalize A0 * B1 = p01 at *
  generalize A0 * B0 = p00 at *
  rw [e]
  constructor
  · omega
  · omega

set_option maxHeartbeats 1000000 in
theorem wide_nat (x y : Nat) (hx : x < 18446744073709551616) (hy : y < 18446744073709551616) (w : World) :
    Calls Try.prog 29 #[.int .u64 x, .int .u64 y] w fun e w' => e = .returned (.tuple #[.int .u64 ((x * y / 18446744073709551616 : Nat) : Int), .int .u64 ((x * y % 18446744073709551616 : Nat) : Int)]) ∧ Drew w w' := by
  obtain ⟨A1, A0, hA, hA1, hA0⟩ : ∃ q r, 4294967296 * q + r = x ∧ q < 4294967296 ∧ r < 4294967296 := ⟨x / 4294967296, x % 4294967296, by omega, by omega, by omega⟩
  obtain ⟨B1, B0, hB, hB1, hB0⟩ : ∃ q r, 4294967296 * q + r = y ∧ q < 4294967296 ∧ r < 4294967296 := ⟨y / 4294967296, y % 4294967296, by omega, by omega, by omega⟩
  have g00 := half_mul A0 B0 hA0 hB0
  have g10 := half_mul A1 B0 hA1 hB0
  have g01 := half_mul A0 B1 hA0 hB1
  have g11 := half_mul A1 B1 hA1 hB1
  obtain ⟨lq, lr, hl, hlq, hlr⟩ : ∃ q r, 4294967296 * q + r = A0 * B0 ∧ q < 4294967295 ∧ r < 4294967296 := ⟨A0 * B0 / 4294967296, A0 * B0 % 4294967296, by omega, by omega, by omega⟩
  obtain ⟨mq, mr, hm, hmq, hmr⟩ : ∃ q r, 4294967296 * q + r = A1 * B0 + lq ∧ q < 4294967296 ∧ r < 4294967296 := ⟨(A1 * B0 + lq) / 4294967296, (A1 * B0 + lq) % 4294967296, by omega, by omega, by omega⟩
  obtain ⟨nq, nr, hn, hnq, hnr⟩ : ∃ q r, 4294967296 * q + r = A0 * B1 + mr ∧ q < 4294967296 ∧ r < 4294967296 := ⟨(A0 * B1 + mr) / 4294967296, (A0 * B1 + mr) % 4294967296, by omega, by omega, by omega⟩
  obtain ⟨eh, el⟩ := wide_plain x y A1 A0 B1 B0 lq lr mq mr nq nr hA hB hl hm hn hlr hnr
  have hhi : x * y / 18446744073709551616 < 18446744073709551616 := by
    apply Nat.div_lt_of_lt_mul
    exact Nat.mul_lt_mul'' hx hy
  have a1 : (x : Int) / 4294967296 = (A1 : Int) := by omega
  have a2 : (x : Int) % 4294967296 = (A0 : Int) := by omega
  have a3 : (y : Int) / 4294967296 = (B1 : Int) := by omega
  have a4 : (y : Int) % 4294967296 = (B0 : Int) := by omega
  have c1 : IntKind.u64.wrap ((A0 : Int) * (B0 : Int)) = ((A0 * B0 : Nat) : Int) := by rw [← Int.natCast_mul, IntKind.wrap_u64]; omega
  have c2 : IntKind.u64.wrap ((A1 : Int) * (B0 : Int)) = ((A1 * B0 : Nat) : Int) := by rw [← Int.natCast_mul, IntKind.wrap_u64]; omega
  have c3 : IntKind.u64.wrap ((A0 : Int) * (B1 : Int)) = ((A0 * B1 : Nat) : Int) := by rw [← Int.natCast_mul, IntKind.wrap_u64]; omega
  have c4 : IntKind.u64.wrap ((A1 : Int) * (B1 : Int)) = ((A1 * B1 : Nat) : Int) := by rw [← Int.natCast_mul, IntKind.wrap_u64]; omega
  rw [eh] at hhi ⊢
  rw [el]
  clear hx hy hA hB hA0 hB0 eh el
  generalize A0 * B0 = p00 at *
  generalize A1 * B0 = p10 at *
  generalize A0 * B1 = p01 at *
  generalize A1 * B1 = p11 at *
  have d1 : (p00 : Int) / 4294967296 = (lq : Int) := by omega
  have d2 : (p00 : Int) % 4294967296 = (lr : Int) := by omega
  obtain ⟨mid, hmid⟩ : ∃ m, m = p10 + lq := ⟨_, rfl⟩
  have d3 : IntKind.u64.wrap ((p10 : Int) + (lq : Int)) = (mid : Int) := by rw [IntKind.wrap_u64]; omega
  have d4 : (mid : Int) / 4294967296 = (mq : Int) := by omega
  have d5 : (mid : Int) % 4294967296 = (mr : Int) := by omega
  obtain ⟨mi2, hmi2⟩ : ∃ m, m = p01 + mr := ⟨_, rfl⟩
  have d6 : IntKind.u64.wrap ((p01 : Int) + (mr : Int)) = (mi2 : Int) := by rw [IntKind.wrap_u64]; omega
  have d7 : (mi2 : Int) / 4294967296 = (nq : Int) := by omega
  have d8 : (mi2 : Int) % 4294967296 = (nr : Int) := by omega
  obtain ⟨h1, hh1⟩ : ∃ m, m = p11 + mq := ⟨_, rfl⟩
  have d9 : IntKind.u64.wrap ((p11 : Int) + (mq : Int)) = (h1 : Int) := by rw [IntKind.wrap_u64]; omega
  rw [← hh1] at hhi ⊢
  obtain ⟨hi, hhi1⟩ : ∃ m, m = h1 + nq := ⟨_, rfl⟩
  have d10 : IntKind.u64.wrap ((h1 : Int) + (nq : Int)) = (hi : Int) := by rw [IntKind.wrap_u64]; omega
  rw [← hhi1]
  obtain ⟨l1, hl1⟩ : ∃ m, m = 4294967296 * nr := ⟨_, rfl⟩
  have d11 : IntKind.u64.wrap ((nr : Int) * 4294967296) = (l1 : Int) := by rw [Int.mul_comm, IntKind.wrap_u64]; omega
  obtain ⟨lo, hlo⟩ : ∃ m, m = l1 + lr := ⟨_, rfl⟩
  have d12 : IntKind.u64.wrap ((l1 : Int) + (lr : Int)) = (lo : Int) := by rw [IntKind.wrap_u64]; omega
  rw [← hl1, ← hlo]
  have k1 : IntKind.u64.wrap (A1 : Int) = (A1 : Int) := by rw [IntKind.wrap_u64]; omega
  have k2 : IntKind.u64.wrap (B1 : Int) = (B1 : Int) := by rw [IntKind.wrap_u64]; omega
  have k3 : IntKind.u64.wrap (lq : Int) = (lq : Int) := by rw [IntKind.wrap_u64]; omega
  have k4 : IntKind.u64.wrap (mq : Int) = (mq : Int) := by rw [IntKind.wrap_u64]; omega
  have k5 : IntKind.u64.wrap (nq : Int) = (nq : Int) := by rw [IntKind.wrap_u64]; omega
  have b1 : (p00 : Int) ≤ 18446744073709551615 := by omega
  have b2 : (mid : Int) ≤ 18446744073709551615 := by omega
  have b3 : (mi2 : Int) ≤ 18446744073709551615 := by omega
  have b4 : (lq : Int) ≤ 18446744073709551615 := by omega
  have b5 : (mq : Int) ≤ 18446744073709551615 := by omega
  have b6 : (nq : Int) ≤ 18446744073709551615 := by omega
  clear hA1 hB1 hl hm hn hmid hmi2 hh1 hhi1 hl1 hlo g00 g10 g01 g11 hlq hlr hmq hmr hnq hnr hhi
  go_enter Try.func29, Try.ntmps29
  go_wp2
  go_quiet (fail)
  go_wp2
  go_quiet (fail)
  go_wp2
  go_ret2
  exact ⟨rfl, _, World.drewN_drewN ..⟩

theorem wide_any (x y : Int) (w : World) (hx : 0 ≤ x) (hx' : x ≤ 18446744073709551615) (hy : 0 ≤ y) (hy' : y ≤ 18446744073709551615) :
    Calls Try.prog 29 #[.int .u64 x, .int .u64 y] w fun e w' => e = .returned (.tuple #[.int .u64 (x * y / 18446744073709551616), .int .u64 (x * y % 18446744073709551616)]) ∧ Drew w w' := by
  obtain ⟨X, rfl⟩ := Int.eq_ofNat_of_zero_le hx
  obtain ⟨Y, rfl⟩ := Int.eq_ofNat_of_zero_le hy
  have h := wide_nat X Y (by omega) (by omega) w
  have e1 : (X : Int) * (Y : Int) / 18446744073709551616 = ((X * Y / 18446744073709551616 : Nat) : Int) := by rw [Mul64.mulN]; omega
  have e2 : (X : Int) * (Y : Int) % 18446744073709551616 = ((X * Y % 18446744073709551616 : Nat) : Int) := by rw [Mul64.mulN]; omega
  rw [e1, e2]
  exact h

theorem rmul_any (a b : Int) (w : World) (ha : 0 ≤ a) (ha' : a ≤ 18446744073709551615) (hb : 0 ≤ b) (hb' : b ≤ 18446744073709551615) :
    Calls Try.prog 20 #[.int .u64 a, .int .u64 b] w fun e w' => e = .returned (.int .u64 (mulS a b)) ∧ Drew w w' := by
  have hw := wide_any a b w ha ha' hb hb'
  rw [← cap_mul a b ha hb]
  have h0 : 0 ≤ a * b / 18446744073709551616 := by have := Int.mul_nonneg ha hb; omega
  generalize a * b / 18446744073709551616 = hi at *
  generalize a * b % 18446744073709551616 = lo at *
  have HW := Lib.hid hw
  clear hw
  by_cases hz : hi = 0
  · subst hz
    rw [show capI lo 0 = lo from rfl]
    go_enter Try.func20, Try.ntmps20
    go_wp2_with (go_at_call 29; refine (HW.out).mono ?_; rintro e w' ⟨rfl, ⟨nd, rfl⟩⟩)
    go_ret
    exact ⟨rfl, _, rfl⟩
  · rw [show capI lo hi = 18446744073709551615 from if_neg hz]
    have hz' : decide (0 < hi) = true := by simp; omega
    clear hz h0
    go_enter Try.func20, Try.ntmps20
    go_wp2_with (go_at_call 29; refine (HW.out).mono ?_; rintro e w' ⟨rfl, ⟨nd, rfl⟩⟩)
    go_ret
    exact ⟨rfl, _, rfl⟩
end Go.Proofs.Ytmpbhgcdkbpdeaa
