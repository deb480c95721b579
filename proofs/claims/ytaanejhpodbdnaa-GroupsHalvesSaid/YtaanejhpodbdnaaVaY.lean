/- Plain: how values stand to one another is an order. -/
import Derived.Test.YtaanejhpodbdnaaVaR
namespace Go.Proofs.Ytaanejhpodbdnaa
open Go.RowKit
set_option linter.unusedVariables false
set_option exponentiation.threshold 4000

theorem bl_trans : ∀ (x y z : List UInt8), Op.bytesLess x y = true → Op.bytesLess y z = true → Op.bytesLess x z = true
  | _, [], _, h, _ => by cases ‹List UInt8› <;> simp [Op.bytesLess] at h
  | _, _ :: _, [], _, h => by simp [Op.bytesLess] at h
  | [], _ :: _, _ :: _, _, _ => by simp [Op.bytesLess]
  | a :: x, b :: y, c :: z, h1, h2 => by
    simp only [Op.bytesLess, Bool.or_eq_true, Bool.and_eq_true, decide_eq_true_eq, beq_iff_eq] at h1 h2 ⊢
    rcases h1 with h1 | ⟨rfl, h1⟩
    · rcases h2 with h2 | ⟨rfl, h2⟩
      · exact .inl (UInt8.lt_trans h1 h2)
      · exact .inl h1
    · rcases h2 with h2 | ⟨rfl, h2⟩
      · exact .inl h2
      · exact .inr ⟨rfl, bl_trans x y z h1 h2⟩
theorem bl_irr : ∀ (x : List UInt8), Op.bytesLess x x = false
  | [] => rfl
  | a :: x => by
    simp only [Op.bytesLess, bl_irr x, Bool.and_false, Bool.or_false, decide_eq_false_iff_not]
    exact UInt8.lt_irrefl a
theorem bl_tri : ∀ (x y : List UInt8), Op.bytesLess x y = true ∨ x = y ∨ Op.bytesLess y x = true
  | [], [] => .inr (.inl rfl)
  | [], _ :: _ => .inl (by simp [Op.bytesLess])
  | _ :: _, [] => .inr (.inr (by simp [Op.bytesLess]))
  | a :: x, b :: y => by
    simp only [Op.bytesLess, Bool.or_eq_true, Bool.and_eq_true, decide_eq_true_eq, beq_iff_eq]
    rcases Nat.lt_trichotomy a.toNat b.toNat with h | h | h
    · exact .inl (.inl (UInt8.lt_iff_toNat_lt.2 h))
    · obtain rfl : a = b := UInt8.toNat_inj.1 h
      rcases bl_tri x y with h | h | h
      · exact .inl (.inr ⟨rfl, h⟩)
      · exact .inr (.inl (by rw [h]))
      · exact .inr (.inr (.inr ⟨rfl, h⟩))
    · exact .inr (.inr (.inl (UInt8.lt_iff_toNat_lt.2 h)))

theorem cmpS_vals (a b : ByteArray) : (cmpS a b = -1 ↔ Op.bytesLess a.toList b.toList = true) ∧ (cmpS a b = 1 ↔ Op.bytesLess b.toList a.toList = true) ∧ (cmpS a b = 0 ↔ a.toList = b.toList) := by
  unfold cmpS
  rcases bl_tri a.toList b.toList with h | h | h
  · have h2 : Op.bytesLess b.toList a.toList = false := by
      cases e : Op.bytesLess b.toList a.toList with
      | false => rfl
      | true => have := bl_trans _ _ _ h e; rw [bl_irr] at this; cases this
    have h3 : a.toList ≠ b.toList := fun e => by rw [e, bl_irr] at h; cases h
    rw [h, h2]; simp [h3]
  · rw [h, bl_irr]; simp
  · have h2 : Op.bytesLess a.toList b.toList = false := by
      cases e : Op.bytesLess a.toList b.toList with
      | false => rfl
      | true => have := bl_trans _ _ _ h e; rw [bl_irr] at this; cases this
    have h3 : a.toList ≠ b.toList := fun e => by rw [e, bl_irr] at h; cases h
    rw [h, h2]; simp [h3]

/-- How large a float is, in units of the least one. -/
def magF (M : Nat) : Nat := if M < 4503599627370496 then M else if M < 9218868437227405312 then (4503599627370496 + M % 4503599627370496) * 2 ^ (M / 4503599627370496 - 1) else 2 ^ 2099
def valF (f : Nat) : Int := if nanB f then 2 ^ 2100 else if (f / 9223372036854775808 % 2 == 1) then -(magF (f % 9223372036854775808) : Int) else (magF (f % 9223372036854775808) : Int)

theorem cmp_scale (a b : Int) (k : Nat) (hk : 0 < k) : compare (a * k) (b * k) = compare a b := by
  have hk' : (0 : Int) < k := by omega
  rcases Int.lt_trichotomy a b with h | h | h
  · rw [Int.compare_eq_lt.2 h, Int.compare_eq_lt]
    exact Int.mul_lt_mul_of_pos_right h hk'
  · subst h; rw [cmp_self, cmp_self]
  · rw [Int.compare_eq_gt.2 h, Int.compare_eq_gt]
    exact Int.mul_lt_mul_of_pos_right h hk'
theorem signed_eq (s : Bool) (m k : Nat) : Ieee.signed s m k = if s then -((m * 2 ^ k : Nat) : Int) else ((m * 2 ^ k : Nat) : Int) := by
  unfold Ieee.signed
  rw [Nat.shiftLeft_eq]
theorem signed_scale (s : Bool) (m k j : Nat) : Ieee.signed s m (k + j) = Ieee.signed s m k * ((2 ^ j : Nat) : Int) := by
  rw [signed_eq, signed_eq, Nat.pow_add, ← Nat.mul_assoc]
  cases s
  · simp only [Bool.false_eq_true, if_false]; rw [Int.natCast_mul (m * 2 ^ k)]
  · simp only [if_true]; rw [Int.natCast_mul (m * 2 ^ k), Int.neg_mul]
/-- Two numbers of the form that is read: their order is that of the scaled ones. -/
theorem order_num (s t : Bool) (m n : Nat) (i j : Nat) : Ieee.Datum.order (.number s m (-1074 + (i : Int))) (.number t n (-1074 + (j : Int))) = some (compare (Ieee.signed s m i) (Ieee.signed t n j)) := by
  simp only [Ieee.Datum.order]
  congr 1
  obtain ⟨b, hb⟩ : ∃ b : Nat, min (-1074 + (i : Int)) (-1074 + (j : Int)) = -1074 + (b : Int) ∧ b ≤ i ∧ b ≤ j := by
    by_cases h : i ≤ j
    · exact ⟨i, by omega, by omega, h⟩
    · exact ⟨j, by omega, by omega, by omega⟩
  rw [hb.1]
  have e1 : (-1074 + (i : Int) - (-1074 + (b : Int))).toNat = i - b := by omega
  have e2 : (-1074 + (j : Int) - (-1074 + (b : Int))).toNat = j - b := by omega
  rw [e1, e2]
  have f1 := signed_scale s m (i - b) b
  have f2 := signed_scale t n (j - b) b
  rw [Nat.sub_add_cancel hb.2.1] at f1
  rw [Nat.sub_add_cancel hb.2.2] at f2
  rw [f1, f2, cmp_scale _ _ _ (Nat.pow_pos (by omega))]

/-- What is read of a float that is no NaN. -/
theorem read_form (f : Nat) (h : nanB f = false) : (∃ (s : Bool) (m i : Nat), FloatKind.f64.format.read f = .number s m (-1074 + (i : Int)) ∧ Ieee.signed s m i = valF f ∧ m * 2 ^ i < 2 ^ 2099) ∨
    (∃ s : Bool, FloatKind.f64.format.read f = .infinity s ∧ valF f = if s then -(2 ^ 2099 : Int) else 2 ^ 2099) := by
  unfold nanB at h
  have hM : f % 9223372036854775808 ≤ 9218868437227405312 := by simpa using h
  have hn : nanB f = false := h
  unfold valF
  rw [hn, if_neg (by simp), read_cases]
  generalize (f / 9223372036854775808 % 2 == 1) = s
  generalize f % 9223372036854775808 = M at hM
  unfold magF
  by_cases h1 : M < 4503599627370496
  · refine .inl ⟨s, M, 0, ?_, ?_, ?_⟩
    · rw [if_pos h1]; rfl
    · rw [signed_eq, if_pos h1, Nat.pow_zero, Nat.mul_one]
    · rw [Nat.pow_zero, Nat.mul_one]
      exact Nat.lt_trans h1 (Nat.lt_of_lt_of_le (show 4503599627370496 < 2 ^ 53 by decide) (Nat.pow_le_pow_right (by omega) (by omega)))
  · by_cases h2 : M < 9218868437227405312
    · refine .inl ⟨s, 4503599627370496 + M % 4503599627370496, M / 4503599627370496 - 1, ?_, ?_, ?_⟩
      · rw [if_neg h1, if_pos h2]
      · rw [signed_eq, if_neg h1, if_pos h2]
      · have hm : 4503599627370496 + M % 4503599627370496 < 2 ^ 53 := by
          have := Nat.mod_lt M (show 0 < 4503599627370496 by omega)
          have e : (2 : Nat) ^ 53 = 9007199254740992 := by decide
          omega
        have hi : M / 4503599627370496 - 1 ≤ 2045 := by omega
        calc (4503599627370496 + M % 4503599627370496) * 2 ^ (M / 4503599627370496 - 1)
            < 2 ^ 53 * 2 ^ (M / 4503599627370496 - 1) := Nat.mul_lt_mul_of_pos_right hm (Nat.pow_pos (by omega))
          _ ≤ 2 ^ 53 * 2 ^ 2045 := Nat.mul_le_mul_left _ (Nat.pow_le_pow_right (by omega) hi)
          _ = 2 ^ 2098 := by rw [← Nat.pow_add]
          _ ≤ 2 ^ 2099 := Nat.pow_le_pow_right (by omega) (by omega)
    · refine .inr ⟨s, ?_, ?_⟩
      · rw [if_neg h1, if_neg h2, if_pos (by omega)]
      · rw [if_neg h1, if_neg h2]
        cases s <;> simp
theorem order_val (f g : Nat) (hf : nanB f = false) (hg : nanB g = false) : FloatKind.f64.format.order f g = some (compare (valF f) (valF g)) := by
  unfold Ieee.Format.order
  have lo : ∀ (s : Bool) (m i : Nat), m * 2 ^ i < 2 ^ 2099 → -(2 ^ 2099 : Int) < Ieee.signed s m i ∧ Ieee.signed s m i < 2 ^ 2099 := by
    intro s m i h
    have h' : ((m * 2 ^ i : Nat) : Int) < 2 ^ 2099 := by
      have e : ((2 ^ 2099 : Nat) : Int) = 2 ^ 2099 := by rw [Int.natCast_pow]; rfl
      rw [← e]; exact Int.ofNat_lt.2 h
    rw [signed_eq]
    generalize (2 : Int) ^ 2099 = B at *
    generalize m * 2 ^ i = z at *
    cases s
    · simp only [Bool.false_eq_true, if_false]; omega
    · simp only [if_true]; omega
  have hB : (0 : Int) < 2 ^ 2099 := Int.pow_pos (by omega)
  rcases read_form f hf with ⟨s, m, i, e, v, b⟩ | ⟨s, e, v⟩ <;> rcases read_form g hg with ⟨t, n, j, e', v', b'⟩ | ⟨t, e', v'⟩
  · rw [e, e', order_num, v, v']
  · rw [e, e', v']
    obtain ⟨l1, l2⟩ := lo s m i b
    rw [v] at l1 l2
    simp only [Ieee.Datum.order]
    generalize (2 : Int) ^ 2099 = B at *
    cases t
    · simp only [Bool.false_eq_true, if_false]; rw [Int.compare_eq_lt.2 l2]
    · simp only [if_true]; rw [Int.compare_eq_gt.2 l1]
  · rw [e, e', v]
    obtain ⟨l1, l2⟩ := lo t n j b'
    rw [v'] at l1 l2
    simp only [Ieee.Datum.order]
    generalize (2 : Int) ^ 2099 = B at *
    cases s
    · simp only [Bool.false_eq_true, if_false]; rw [Int.compare_eq_gt.2 l2]
    · simp only [if_true]; rw [Int.compare_eq_lt.2 l1]
  · rw [e, e', v, v']
    simp only [Ieee.Datum.order]
    generalize (2 : Int) ^ 2099 = B at *
    cases s <;> cases t
    · simp
    · simp only [Bool.false_eq_true, if_false, if_true]; rw [Int.compare_eq_gt.2 (by omega)]; rfl
    · simp only [Bool.false_eq_true, if_false, if_true]; rw [Int.compare_eq_lt.2 (by omega)]; rfl
    · simp

theorem valF_lt (f : Nat) (h : nanB f = false) : valF f < 2 ^ 2100 := by
  have hB : (0 : Int) < 2 ^ 2099 := Int.pow_pos (by omega)
  have e : (2 : Int) ^ 2100 = 2 * 2 ^ 2099 := by rw [Int.pow_succ]; omega
  rw [e]
  rcases read_form f h with ⟨s, m, i, _, v, b⟩ | ⟨s, _, v⟩
  · rw [← v, signed_eq]
    have h' : ((m * 2 ^ i : Nat) : Int) < 2 ^ 2099 := by
      have e : ((2 ^ 2099 : Nat) : Int) = 2 ^ 2099 := by rw [Int.natCast_pow]; rfl
      rw [← e]; exact Int.ofNat_lt.2 b
    generalize (2 : Int) ^ 2099 = B at *
    generalize m * 2 ^ i = z at *
    cases s
    · simp only [Bool.false_eq_true, if_false]; omega
    · simp only [if_true]; omega
  · rw [v]
    generalize (2 : Int) ^ 2099 = B at *
    cases s
    · simp only [Bool.false_eq_true, if_false]; omega
    · simp only [if_true]; omega
theorem cmpF_val (f g : Nat) : cmpF f g = cmpI (valF f) (valF g) := by
  unfold cmpF cmpI
  cases hf : nanB f <;> cases hg : nanB g
  · rw [order_val f g hf hg]
    simp only [Bool.false_eq_true, if_false]
    rcases Int.lt_trichotomy (valF f) (valF g) with h | h | h
    · rw [Int.compare_eq_lt.2 h, if_pos h]; rfl
    · rw [h, cmp_self, if_neg (Int.lt_irrefl _), if_neg (Int.lt_irrefl _)]; rfl
    · rw [Int.compare_eq_gt.2 h, if_neg (Int.not_lt.2 (Int.le_of_lt h)), if_pos h]; rfl
  · have e : valF g = 2 ^ 2100 := by unfold valF; rw [hg]; rfl
    have := valF_lt f hf
    rw [e, if_pos this]; rfl
  · have e : valF f = 2 ^ 2100 := by unfold valF; rw [hf]; rfl
    have := valF_lt g hg
    simp only [Bool.false_eq_true, if_false, if_true]
    rw [e, if_neg (Int.not_lt.2 (Int.le_of_lt this)), if_pos this]
  · have e : valF f = 2 ^ 2100 := by unfold valF; rw [hf]; rfl
    have e' : valF g = 2 ^ 2100 := by unfold valF; rw [hg]; rfl
    rw [e, e', if_neg (Int.lt_irrefl _), if_neg (Int.lt_irrefl _)]; rfl
end Go.Proofs.Ytaanejhpodbdnaa
