/- Plain numbers of the chapter fixed: sums, products, shares that stop at the greatest number; one digit of a long division. -/
import Derived.Lib.BitFns
namespace Go.Proofs.Ytmpbhgcdkbpdeaa
namespace Fx
set_option linter.unusedVariables false

def capI (n b : Int) : Int := if b = 0 then n else 18446744073709551615
def addS (a b : Int) : Int := if a + b < 18446744073709551616 then a + b else 18446744073709551615
def mulS (a b : Int) : Int := if a * b < 18446744073709551616 then a * b else 18446744073709551615
def subS (a b : Int) : Int := if a < b then 0 else a - b
def shareS (a n d : Int) : Int := if a * n = 0 then 0 else if d ≤ a * n / 18446744073709551616 then 18446744073709551615 else a * n / d

theorem cap_add (a b : Int) (ha : 0 ≤ a) (hb : 0 ≤ b) : capI ((a + b) % 18446744073709551616) ((a + b) / 18446744073709551616) = addS a b := by
  unfold capI addS
  split <;> split <;> omega

theorem cap_mul (a b : Int) (ha : 0 ≤ a) (hb : 0 ≤ b) : capI ((a * b) % 18446744073709551616) ((a * b) / 18446744073709551616) = mulS a b := by
  have h : 0 ≤ a * b := Int.mul_nonneg ha hb
  unfold capI mulS
  split <;> split <;> omega

theorem addS_bd (a b : Int) (ha : 0 ≤ a) (hb : 0 ≤ b) : 0 ≤ addS a b ∧ addS a b ≤ 18446744073709551615 := by
  unfold addS; split <;> omega
theorem mulS_bd (a b : Int) (ha : 0 ≤ a) (hb : 0 ≤ b) : 0 ≤ mulS a b ∧ mulS a b ≤ 18446744073709551615 := by
  have h : 0 ≤ a * b := Int.mul_nonneg ha hb
  unfold mulS; split <;> omega
theorem subS_bd (a b : Int) (ha : a ≤ 18446744073709551615) (hb : 0 ≤ b) : 0 ≤ subS a b ∧ subS a b ≤ 18446744073709551615 := by
  unfold subS; split <;> omega

theorem addS_eq (a b : Int) : addS a b = min (a + b) 18446744073709551615 := by unfold addS; split <;> omega
theorem mulS_eq (a b : Int) : mulS a b = min (a * b) 18446744073709551615 := by unfold mulS; split <;> omega

theorem share_lt (a n d : Int) (ha : 0 ≤ a) (hn : 0 ≤ n) (h : a * n / 18446744073709551616 < d) : 0 ≤ a * n / d ∧ a * n / d < 18446744073709551616 := by
  have hp : 0 ≤ a * n := Int.mul_nonneg ha hn
  generalize a * n = p at *
  have hd : 0 < d := by omega
  constructor
  · exact Int.ediv_nonneg hp (by omega)
  · apply Int.ediv_lt_of_lt_mul hd
    omega

theorem shareS_bd (a n d : Int) (ha : 0 ≤ a) (hn : 0 ≤ n) : 0 ≤ shareS a n d ∧ shareS a n d ≤ 18446744073709551615 := by
  unfold shareS
  split
  · omega
  · split
    · omega
    · have := share_lt a n d ha hn (by omega)
      omega

/-- One digit of a long division: the loop's end. -/
theorem digit_end (u v q r y1 y0 : Int) (hu : q * y1 + r = u) (hq : 0 ≤ q) (hv : 0 ≤ v)
    (hy : 0 < y1 * 4294967296 + y0)
    (hge : (u * 4294967296 + v) / (y1 * 4294967296 + y0) ≤ q)
    (hle : q * y0 ≤ 4294967296 * r + v) : q = (u * 4294967296 + v) / (y1 * 4294967296 + y0) := by
  have h : q ≤ (u * 4294967296 + v) / (y1 * 4294967296 + y0) := by
    apply Int.le_ediv_of_mul_le hy
    rw [← hu, Int.mul_add, Int.add_mul, ← Int.mul_assoc]
    omega
  omega

theorem digit_more (u v q r y1 y0 : Int) (hu : q * y1 + r = u) (hq : 0 ≤ q) (hv : 0 ≤ v) (hv' : v < 4294967296)
    (hy : 0 < y1 * 4294967296 + y0) (huy : u < y1 * 4294967296 + y0)
    (h : 4294967296 ≤ q ∨ 4294967296 * r + v < q * y0) : (u * 4294967296 + v) / (y1 * 4294967296 + y0) ≤ q - 1 := by
  have : (u * 4294967296 + v) / (y1 * 4294967296 + y0) < q := by
    apply Int.ediv_lt_of_lt_mul hy
    rcases h with h | h
    · have h1 : 4294967296 * (y1 * 4294967296 + y0) ≤ q * (y1 * 4294967296 + y0) := Int.mul_le_mul_of_nonneg_right h (by omega)
      omega
    · rw [← hu, Int.mul_add, Int.add_mul, ← Int.mul_assoc]
      omega
  omega

theorem bitLenAux_lt : ∀ (f x : Nat), x < 2 ^ f → x < 2 ^ Lib.bitLenAux f x
  | 0, x, h => by simpa [Lib.bitLenAux] using h
  | f + 1, x, h => by
    simp only [Lib.bitLenAux]
    split
    · omega
    · have := bitLenAux_lt f (x / 2) (by rw [Nat.pow_succ] at h; omega)
      rw [Nat.add_comm, Nat.pow_succ]; omega
theorem bitLenAux_ge : ∀ (f x : Nat), x ≠ 0 → x < 2 ^ f → 2 ^ Lib.bitLenAux f x ≤ 2 * x
  | 0, x, h0, h => by simp at h; omega
  | f + 1, x, h0, h => by
    simp only [Lib.bitLenAux]
    rw [if_neg h0]
    by_cases hx : x / 2 = 0
    · have : x = 1 := by omega
      subst this
      cases f <;> simp [Lib.bitLenAux]
    · have := bitLenAux_ge f (x / 2) hx (by rw [Nat.pow_succ] at h; omega)
      rw [Nat.add_comm, Nat.pow_succ]; omega
theorem bitLen_lt (x : Nat) (h : x < 18446744073709551616) : x < 2 ^ Lib.bitLen x := bitLenAux_lt 64 x h
theorem bitLen_ge (x : Nat) (h0 : x ≠ 0) (h : x < 18446744073709551616) : 2 ^ Lib.bitLen x ≤ 2 * x := bitLenAux_ge 64 x h0 h
theorem bitLen_pos (x : Nat) (h0 : x ≠ 0) (h : x < 18446744073709551616) : 1 ≤ Lib.bitLen x := by
  have := bitLen_lt x h
  by_cases e : Lib.bitLen x = 0
  · rw [e] at this; omega
  · omega

/-- The divisor moved up till its highest bit stands, and the dividend with it. -/
theorem norm (hi lo d : Nat) (hd : 0 < d) (hd' : d < 18446744073709551616) (hh : hi < d) (hl : lo < 18446744073709551616) (s : Nat) (hs : s + Lib.bitLen d = 64) :
    9223372036854775808 ≤ d * 2 ^ s ∧ d * 2 ^ s < 18446744073709551616 ∧ hi * 2 ^ s < 18446744073709551616 ∧ (hi * 2 ^ s) ||| (lo / 2 ^ (64 - s)) = hi * 2 ^ s + lo / 2 ^ (64 - s) ∧
    hi * 2 ^ s + lo / 2 ^ (64 - s) < d * 2 ^ s ∧ (hi * 18446744073709551616 + lo) * 2 ^ s = (hi * 2 ^ s + lo / 2 ^ (64 - s)) * 18446744073709551616 + lo * 2 ^ s % 18446744073709551616 := by
  have h1 := bitLen_lt d hd'
  have h2 := bitLen_ge d (by omega) hd'
  have e : 2 ^ Lib.bitLen d * 2 ^ s = 18446744073709551616 := by rw [← Nat.pow_add, Nat.add_comm, hs]
  have hp : 0 < 2 ^ s := Nat.pow_pos (by omega)
  have h1' : d * 2 ^ s < 2 ^ Lib.bitLen d * 2 ^ s := Nat.mul_lt_mul_of_pos_right h1 hp
  have h2' : 2 ^ Lib.bitLen d * 2 ^ s ≤ (2 * d) * 2 ^ s := Nat.mul_le_mul_right _ h2
  rw [Nat.mul_assoc] at h2'
  have h3 : (hi + 1) * 2 ^ s ≤ d * 2 ^ s := Nat.mul_le_mul_right _ hh
  rw [Nat.add_mul, Nat.one_mul] at h3
  have hr : 2 ^ s * 2 ^ (64 - s) = 18446744073709551616 := by rw [← Nat.pow_add, show s + (64 - s) = 64 by omega]
  have hq : lo / 2 ^ (64 - s) < 2 ^ s := by
    apply Nat.div_lt_of_lt_mul
    rw [Nat.mul_comm, hr]; exact hl
  have hdv : lo * 2 ^ s / 18446744073709551616 = lo / 2 ^ (64 - s) := by
    rw [← hr, Nat.mul_comm lo, Nat.mul_div_mul_left _ _ hp]
  refine ⟨by omega, by omega, by omega, ?_, by omega, ?_⟩
  · rw [Nat.mul_comm hi, Nat.two_pow_add_eq_or_of_lt hq]
  · have := Nat.div_add_mod (lo * 2 ^ s) 18446744073709551616
    rw [hdv] at this
    rw [Nat.add_mul, Nat.add_mul, Nat.mul_right_comm]
    omega

set_option maxRecDepth 100000 in
theorem dig_start (U V Y1 Y0 : Nat) (hY : 2147483648 ≤ Y1) (hY0 : Y0 < 4294967296) (hV : V < 4294967296) (hY1 : Y1 < 4294967296) (hU : U < Y1 * 4294967296 + Y0) :
    U / Y1 * Y1 + U % Y1 = U ∧ (U * 4294967296 + V) / (Y1 * 4294967296 + Y0) ≤ U / Y1 ∧ U / Y1 ≤ 4294967297 ∧ U % Y1 < 4294967296 := by
  have hm : U % Y1 < Y1 := Nat.mod_lt _ (by omega)
  have e : U / Y1 * Y1 + U % Y1 = U := by rw [Nat.mul_comm]; exact Nat.div_add_mod U Y1
  refine ⟨e, ?_, ?_, by omega⟩
  · have : (U * 4294967296 + V) / (Y1 * 4294967296 + Y0) < U / Y1 + 1 := by
      apply Nat.div_lt_of_lt_mul
      have h1 : Y1 * (U / Y1 + 1) = U / Y1 * Y1 + Y1 := by rw [Nat.mul_add, Nat.mul_comm]; omega
      have h2 := Nat.add_mul (Y1 * 4294967296) Y0 (U / Y1 + 1)
      have h3 := Nat.mul_right_comm Y1 4294967296 (U / Y1 + 1)
      omega
    omega
  · have : U / Y1 < 4294967298 := by
      clear e hm
      have h : U < 4294967298 * Y1 := by omega
      exact Nat.div_lt_of_lt_mul (Nat.mul_comm _ Y1 ▸ h)
    clear e
    generalize U / Y1 = q at *
    omega

theorem dig_more (U V Q R Y1 Y0 : Nat) (hU : Q * Y1 + R = U) (hV : V < 4294967296) (hy : 0 < Y1 * 4294967296 + Y0) (huy : U < Y1 * 4294967296 + Y0)
    (h : 4294967296 ≤ Q ∨ 4294967296 * R + V < Q * Y0) : (U * 4294967296 + V) / (Y1 * 4294967296 + Y0) ≤ Q - 1 ∧ 1 ≤ Q ∧ (Q - 1) * Y1 + (R + Y1) = U := by
  have h0 : 1 ≤ Q := by
    rcases h with h | h
    · omega
    · apply Nat.one_le_iff_ne_zero.2; rintro rfl; omega
  have : (U * 4294967296 + V) / (Y1 * 4294967296 + Y0) < Q := by
    apply Nat.div_lt_of_lt_mul
    rw [Nat.mul_comm (Y1 * 4294967296 + Y0) Q]
    rcases h with h | h
    · have h1 : 4294967296 * (Y1 * 4294967296 + Y0) ≤ Q * (Y1 * 4294967296 + Y0) := Nat.mul_le_mul_right _ h
      omega
    · rw [← hU, Nat.mul_add, Nat.add_mul, ← Nat.mul_assoc]
      omega
  refine ⟨by omega, h0, ?_⟩
  have e : (Q - 1) * Y1 + Y1 = Q * Y1 := by
    obtain ⟨q, rfl⟩ : ∃ q, Q = q + 1 := ⟨Q - 1, by omega⟩
    rw [Nat.add_sub_cancel, Nat.add_mul, Nat.one_mul]
  omega

theorem dig_end (U V Q R Y1 Y0 : Nat) (hU : Q * Y1 + R = U) (hy : 0 < Y1 * 4294967296 + Y0)
    (hge : (U * 4294967296 + V) / (Y1 * 4294967296 + Y0) ≤ Q) (hle : Q * Y0 ≤ 4294967296 * R + V) : Q = (U * 4294967296 + V) / (Y1 * 4294967296 + Y0) := by
  have h : Q ≤ (U * 4294967296 + V) / (Y1 * 4294967296 + Y0) := by
    rw [Nat.le_div_iff_mul_le hy, ← hU, Nat.mul_add, Nat.add_mul, ← Nat.mul_assoc]
    omega
  omega

theorem dig_break (V Q R Y0 : Nat) (hQ : Q ≤ 4294967296) (hY0 : Y0 < 4294967296) (hR : 4294967296 ≤ R) : Q * Y0 ≤ 4294967296 * R + V := by
  have h1 : Q * Y0 ≤ 4294967296 * Y0 := Nat.mul_le_mul_right _ hQ
  omega

theorem dig_lt (U V Y : Nat) (hV : V < 4294967296) (hU : U < Y) : (U * 4294967296 + V) / Y < 4294967296 := by
  apply Nat.div_lt_of_lt_mul
  rw [Nat.mul_comm Y]
  omega

/-- The state of the loop that seeks a digit: the guess is not too small. -/
def DigRel (U V Y1 Y0 Q R : Nat) : Prop := Q * Y1 + R = U ∧ (U * 4294967296 + V) / (Y1 * 4294967296 + Y0) ≤ Q ∧ Q ≤ 4294967297 ∧ R < 4294967296
/-- A digit and its rest. -/
def DigOut (U V Y Q R : Nat) : Prop := Y * Q + R = 4294967296 * U + V ∧ Q < 4294967296 ∧ R < Y

theorem rel_more (U V Y1 Y0 Q R : Nat) (h : DigRel U V Y1 Y0 Q R) (hV : V < 4294967296) (hY0 : Y0 < 4294967296) (hY1 : 2147483648 ≤ Y1) (hU : U < Y1 * 4294967296 + Y0)
    (hc : 4294967296 ≤ Q ∨ 4294967296 * R + V < Q * Y0) :
    1 ≤ Q ∧ (R + Y1 < 4294967296 → DigRel U V Y1 Y0 (Q - 1) (R + Y1)) ∧ (4294967296 ≤ R + Y1 → Q - 1 = (U * 4294967296 + V) / (Y1 * 4294967296 + Y0)) := by
  obtain ⟨h1, h2, h3, h4⟩ := h
  obtain ⟨m1, m2, m3⟩ := dig_more U V Q R Y1 Y0 h1 hV (by omega) hU hc
  refine ⟨m2, fun hr => ⟨m3, m1, by omega, hr⟩, fun hr => ?_⟩
  exact dig_end U V (Q - 1) (R + Y1) Y1 Y0 m3 (by omega) m1 (dig_break V (Q - 1) (R + Y1) Y0 (by omega) hY0 hr)

theorem rel_end (U V Y1 Y0 Q R : Nat) (h : DigRel U V Y1 Y0 Q R) (hY1 : 2147483648 ≤ Y1) (hc : Q * Y0 ≤ 4294967296 * R + V) :
    Q = (U * 4294967296 + V) / (Y1 * 4294967296 + Y0) :=
  dig_end U V Q R Y1 Y0 h.1 (by omega) h.2.1 hc

theorem out_of (U V Y1 Y0 Y Q : Nat) (hV : V < 4294967296) (hU : U < Y) (hy : 4294967296 * Y1 + Y0 = Y) (hQ : Q = (U * 4294967296 + V) / (Y1 * 4294967296 + Y0)) : DigOut U V Y Q ((U * 4294967296 + V) % Y) := by
  have e : Y1 * 4294967296 + Y0 = Y := by omega
  rw [e] at hQ
  subst hQ
  refine ⟨?_, dig_lt U V Y hV hU, Nat.mod_lt _ (by omega)⟩
  rw [Nat.div_add_mod, Nat.mul_comm U]

/-- Two digits make the whole quotient. -/
theorem dig_two (U T1 T0 Y q r : Nat) (hY : 0 < Y) (e : Y * q + r = 4294967296 * U + T1) :
    (18446744073709551616 * U + (4294967296 * T1 + T0)) / Y = 4294967296 * q + (4294967296 * r + T0) / Y ∧
    (18446744073709551616 * U + (4294967296 * T1 + T0)) % Y = (4294967296 * r + T0) % Y := by
  have e2 : 18446744073709551616 * U + (4294967296 * T1 + T0) = (4294967296 * r + T0) + Y * (4294967296 * q) := by
    rw [Nat.mul_left_comm]
    generalize Y * q = x at *
    omega
  rw [e2]
  constructor
  · rw [Nat.add_mul_div_left _ _ hY]; omega
  · rw [Nat.add_mul_mod_self_left]

end Fx
end Go.Proofs.Ytmpbhgcdkbpdeaa
