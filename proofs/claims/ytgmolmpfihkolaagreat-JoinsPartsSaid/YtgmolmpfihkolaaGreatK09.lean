/- Part of the proof. -/
import Derived.Test.YtgmolmpfihkolaaGreatK08
namespace Go.Proofs.YtgmolmpfihkolaaGreat
open Go.RowKit
set_option linter.unusedVariables false
set_option exponentiation.threshold 4000
theorem bl_trans : ∀ (x y z : List UInt8), Op.bytesLess x y = true → Op.bytesLess y z = true → Op.bytesLess x z = true
 | _, [], _, h, _ => by cases ‹List UInt8› <;> simp [Op.bytesLess] at h
 | _, _ :: _, [], _, h => by simp [Op.bytesLess] at h
 | [], _ :: _, _ :: _, _, _ => by simp [Op.bytesLess]
 | a :: x, b :: y, c :: z, h1, h2 => by
  simp only [Op.bytesLess, Bool.or_eq_true, Bool.and_eq_true, decide_eq_true_eq, beq_iff_eq] at h1 h2 ⊢
  rcases h1 with h1 | ⟨rfl, h1⟩
  ·rcases h2 with h2 | ⟨rfl, h2⟩
   ·exact .inl (UInt8.lt_trans h1 h2)
   ·exact .inl h1
  ·rcases h2 with h2 | ⟨rfl, h2⟩
   ·exact .inl h2
   ·exact .inr ⟨rfl, bl_trans x y z h1 h2⟩
theorem bl_irr : ∀ (x : List UInt8), Op.bytesLess x x = false
 | [] => rfl
 | a :: x => by
  simp only [Op.bytesLess, bl_irr x, Bool.and_false, Bool.or_false, decide_eq_false_iff_not]
  exact UInt8.lt_irrefl a
theorem bl_tri : ∀ (x y : List UInt8), Op.bytesLess x y = true ∨ x = y ∨ Op.bytesLess y x = true
 | [], [] => .inr (.inl rfl)
 | [], _ :: _ => .inl (by simp [Op.bytesLess])
 | _ :: _, [] => .inr (.inr (by simp [Op.bytesLess]))
 | a :: x, b :: y => by
  simp only [Op.bytesLess, Bool.or_eq_true, Bool.and_eq_true, decide_eq_true_eq, beq_iff_eq]
  rcases Nat.lt_trichotomy a.toNat b.toNat with h | h | h
  ·exact .inl (.inl (UInt8.lt_iff_toNat_lt.2 h))
  ·obtain rfl : a = b := UInt8.toNat_inj.1 h
   rcases bl_tri x y with h | h | h
   ·exact .inl (.inr ⟨rfl, h⟩)
   ·exact .inr (.inl (by rw [h]))
   ·exact .inr (.inr (.inr ⟨rfl, h⟩))
  ·exact .inr (.inr (.inl (UInt8.lt_iff_toNat_lt.2 h)))
theorem cmpS_vals (a b : ByteArray) : (cmpS a b = -1 ↔ Op.bytesLess a.toList b.toList = true) ∧ (cmpS a b = 1 ↔ Op.bytesLess b.toList a.toList = true) ∧ (cmpS a b = 0 ↔ a.toList = b.toList) := by
 unfold cmpS
 rcases bl_tri a.toList b.toList with h | h | h
 ·have h2 : Op.bytesLess b.toList a.toList = false := by
   cases e : Op.bytesLess b.toList a.toList with
   | false => rfl
   | true => have := bl_trans _ _ _ h e; rw [bl_irr] at this; cases this
  have h3 : a.toList ≠ b.toList := fun e => by rw [e, bl_irr] at h; cases h
  rw [h, h2]; simp [h3]
 ·rw [h, bl_irr]; simp
 ·have h2 : Op.bytesLess a.toList b.toList = false := by
   cases e : Op.bytesLess a.toList b.toList with
   | false => rfl
   | true => have := bl_trans _ _ _ h e; rw [bl_irr] at this; cases this
  have h3 : a.toList ≠ b.toList := fun e => by rw [e, bl_irr] at h; cases h
  rw [h, h2]; simp [h3]
def magF (M : Nat) : Nat := if M < 4503599627370496 then M else if M < 9218868437227405312 then (4503599627370496 + M % 4503599627370496) * 2 ^ (M / 4503599627370496 - 1) else 2 ^ 2099
def valF (f : Nat) : Int := if nanB f then 2 ^ 2100 else if (f / 9223372036854775808 % 2 == 1) then -(magF (f % 9223372036854775808) : Int) else (magF (f % 9223372036854775808) : Int)
theorem cmp_scale (a b : Int) (k : Nat) (hk : 0 < k) : compare (a * k) (b * k) = compare a b := by
 have hk' : (0 : Int) < k := by omega
 rcases Int.lt_trichotomy a b with h | h | h
 ·rw [Int.compare_eq_lt.2 h, Int.compare_eq_lt]
  exact Int.mul_lt_mul_of_pos_right h hk'
 ·subst h; rw [cmp_self, cmp_self]
 ·rw [Int.compare_eq_gt.2 h, Int.compare_eq_gt]
  exact Int.mul_lt_mul_of_pos_right h hk'
theorem signed_eq (s : Bool) (m k : Nat) : Ieee.signed s m k = if s then -((m * 2 ^ k : Nat) : Int) else ((m * 2 ^ k : Nat) : Int) := by
 unfold Ieee.signed
 rw [Nat.shiftLeft_eq]
theorem signed_scale (s : Bool) (m k j : Nat) : Ieee.signed s m (k + j) = Ieee.signed s m k * ((2 ^ j : Nat) : Int) := by
 rw [signed_eq, signed_eq, Nat.pow_add, ← Nat.mul_assoc]
 cases s
 ·simp only [Bool.false_eq_true, if_false]; rw [Int.natCast_mul (m * 2 ^ k)]
 ·simp only [if_true]; rw [Int.natCast_mul (m * 2 ^ k), Int.neg_mul]
theorem order_num (s t : Bool) (m n : Nat) (i j : Nat) : Ieee.Datum.order (.number s m (-1074 + (i : Int))) (.number t n (-1074 + (j : Int))) = some (compare (Ieee.signed s m i) (Ieee.signed t n j)) := by
 simp only [Ieee.Datum.order]
 congr 1
 obtain ⟨b, hb⟩ : ∃ b : Nat, min (-1074 + (i : Int)) (-1074 + (j : Int)) = -1074 + (b : Int) ∧ b ≤ i ∧ b ≤ j := by
  by_cases h : i ≤ j
  ·exact ⟨i, by omega, by omega, h⟩
  ·exact ⟨j, by omega, by omega, by omega⟩
 rw [hb.1]
 have e1 : (-1074 + (i : Int) - (-1074 + (b : Int))).toNat = i - b := by omega
 have e2 : (-1074 + (j : Int) - (-1074 + (b : Int))).toNat = j - b := by omega
 rw [e1, e2]
 have f1 := signed_scale s m (i - b) b
 have f2 := signed_scale t n (j - b) b
 rw [Nat.sub_add_cancel hb.2.1] at f1
 rw [Nat.sub_add_cancel hb.2.2] at f2
 rw [f1, f2, cmp_scale _ _ _ (Nat.pow_pos (by omega))]
theorem read_form (f : Nat) (h : nanB f = false) : (∃ (s : Bool) (m i : Nat), FloatKind.f64.format.read f = .number s m (-1074 + (i : Int)) ∧ Ieee.signed s m i = valF f ∧ m * 2 ^ i < 2 ^ 2099) ∨
 (∃ s : Bool, FloatKind.f64.format.read f = .infinity s ∧ valF f = if s then -(2 ^ 2099 : Int) else 2 ^ 2099) := by
 unfold nanB at h
 have hM : f % 9223372036854775808 ≤ 9218868437227405312 := by simpa using h
 have hn : nanB f = false := h
 unfold valF
 rw [hn, if_neg (by simp), read_cases]
 generalize (f / 9223372036854775808 % 2 == 1) = s
 generalize f % 9223372036854775808 = M at hM
 unfold magF
 by_cases h1 : M < 4503599627370496
 ·refine .inl ⟨s, M, 0, ?_, ?_, ?_⟩
  ·rw [if_pos h1]; rfl
  ·rw [signed_eq, if_pos h1, Nat.pow_zero, Nat.mul_one]
  ·rw [Nat.pow_zero, Nat.mul_one]
   exact Nat.lt_trans h1 (Nat.lt_of_lt_of_le (show 4503599627370496 < 2 ^ 53 by decide) (Nat.pow_le_pow_right (by omega) (by omega)))
 ·by_cases h2 : M < 9218868437227405312
  ·refine .inl ⟨s, 4503599627370496 + M % 4503599627370496, M / 4503599627370496 - 1, ?_, ?_, ?_⟩
   ·rw [if_neg h1, if_pos h2]
   ·rw [signed_eq, if_neg h1, if_pos h2]
   ·have hm : 4503599627370496 + M % 4503599627370496 < 2 ^ 53 := by
     have := Nat.mod_lt M (show 0 < 4503599627370496 by omega)
     have e : (2 : Nat) ^ 53 = 9007199254740992 := by decide
     omega
    have hi : M / 4503599627370496 - 1 ≤ 2045 := by omega
    calc (4503599627370496 + M % 4503599627370496) * 2 ^ (M / 4503599627370496 - 1)
     < 2 ^ 53 * 2 ^ (M / 4503599627370496 - 1) := Nat.mul_lt_mul_of_pos_right hm (Nat.pow_pos (by omega))
     _ ≤ 2 ^ 53 * 2 ^ 2045 := Nat.mul_le_mul_left _ (Nat.pow_le_pow_right (by omega) hi)
     _ = 2 ^ 2098 := by rw [← Nat.pow_add]
     _ ≤ 2 ^ 2099 := Nat.pow_le_pow_right (by omega) (by omega)
  ·refine .inr ⟨s, ?_, ?_⟩
   ·rw [if_neg h1, if_neg h2, if_pos (by omega)]
   ·rw [if_neg h1, if_neg h2]
    cases s <;> simp
theorem order_val (f g : Nat) (hf : nanB f = false) (hg : nanB g = false) : FloatKind.f64.format.order f g = some (compare (valF f) (valF g)) := by
 unfold Ieee.Format.order
 have lo : ∀ (s : Bool) (m i : Nat), m * 2 ^ i < 2 ^ 2099 → -(2 ^ 2099 : Int) < Ieee.signed s m i ∧ Ieee.signed s m i < 2 ^ 2099 := by
  intro s m i h
  have h' : ((m * 2 ^ i : Nat) : Int) < 2 ^ 2099 := by
   have e : ((2 ^ 2099 : Nat) : Int) = 2 ^ 2099 := by rw [Int.natCast_pow]; rfl
   rw [← e]; exact Int.ofNat_lt.2 h
  rw [signed_eq]
  generalize (2 : Int) ^ 2099 = B at *
  generalize m * 2 ^ i = z at *
  cases s
  ·simp only [Bool.false_eq_true, if_false]; omega
  ·simp only [if_true]; omega
 have hB : (0 : Int) < 2 ^ 2099 := Int.pow_pos (by omega)
 rcases read_form f hf with ⟨s, m, i, e, v, b⟩ | ⟨s, e, v⟩ <;> rcases read_form g hg with ⟨t, n, j, e', v', b'⟩ | ⟨t, e', v'⟩
 ·rw [e, e', order_num, v, v']
 ·rw [e, e', v']
  obtain ⟨l1, l2⟩ := lo s m i b
  rw [v] at l1 l2
  simp only [Ieee.Datum.order]
  generalize (2 : Int) ^ 2099 = B at *
  cases t
  ·simp only [Bool.false_eq_true, if_false]; rw [Int.compare_eq_lt.2 l2]
  ·simp only [if_true]; rw [Int.compare_eq_gt.2 l1]
 ·rw [e, e', v]
  obtain ⟨l1, l2⟩ := lo t n j b'
  rw [v'] at l1 l2
  simp only [Ieee.Datum.order]
  generalize (2 : Int) ^ 2099 = B at *
  cases s
  ·simp only [Bool.false_eq_true, if_false]; rw [Int.compare_eq_gt.2 l2]
  ·simp only [if_true]; rw [Int.compare_eq_lt.2 l1]
 ·rw [e, e', v, v']
  simp only [Ieee.Datum.order]
  generalize (2 : Int) ^ 2099 = B at *
  cases s <;> cases t
  ·simp
  ·simp only [Bool.false_eq_true, if_false, if_true]; rw [Int.compare_eq_gt.2 (by omega)]; rfl
  ·simp only [Bool.false_eq_true, if_false, if_true]; rw [Int.compare_eq_lt.2 (by omega)]; rfl
  ·simp
theorem valF_lt (f : Nat) (h : nanB f = false) : valF f < 2 ^ 2100 := by
 have hB : (0 : Int) < 2 ^ 2099 := Int.pow_pos (by omega)
 have e : (2 : Int) ^ 2100 = 2 * 2 ^ 2099 := by rw [Int.pow_succ]; omega
 rw [e]
 rcases read_form f h with ⟨s, m, i, _, v, b⟩ | ⟨s, _, v⟩
 ·rw [← v, signed_eq]
  have h' : ((m * 2 ^ i : Nat) : Int) < 2 ^ 2099 := by
   have e : ((2 ^ 2099 : Nat) : Int) = 2 ^ 2099 := by rw [Int.natCast_pow]; rfl
   rw [← e]; exact Int.ofNat_lt.2 b
  generalize (2 : Int) ^ 2099 = B at *
  generalize m * 2 ^ i = z at *
  cases s
  ·simp only [Bool.false_eq_true, if_false]; omega
  ·simp only [if_true]; omega
 ·rw [v]
  generalize (2 : Int) ^ 2099 = B at *
  cases s
  ·simp only [Bool.false_eq_true, if_false]; omega
  ·simp only [if_true]; omega
theorem cmpF_val (f g : Nat) : cmpF f g = cmpI (valF f) (valF g) := by
 unfold cmpF cmpI
 cases hf : nanB f <;> cases hg : nanB g
 ·rw [order_val f g hf hg]
  simp only [Bool.false_eq_true, if_false]
  rcases Int.lt_trichotomy (valF f) (valF g) with h | h | h
  ·rw [Int.compare_eq_lt.2 h, if_pos h]; rfl
  ·rw [h, cmp_self, if_neg (Int.lt_irrefl _), if_neg (Int.lt_irrefl _)]; rfl
  ·rw [Int.compare_eq_gt.2 h, if_neg (Int.not_lt.2 (Int.le_of_lt h)), if_pos h]; rfl
 ·have e : valF g = 2 ^ 2100 := by unfold valF; rw [hg]; rfl
  have := valF_lt f hf
  rw [e, if_pos this]; rfl
 ·have e : valF f = 2 ^ 2100 := by unfold valF; rw [hf]; rfl
  have := valF_lt g hg
  simp only [Bool.false_eq_true, if_false, if_true]
  rw [e, if_neg (Int.not_lt.2 (Int.le_of_lt this)), if_pos this]
 ·have e : valF f = 2 ^ 2100 := by unfold valF; rw [hf]; rfl
  have e' : valF g = 2 ^ 2100 := by unfold valF; rw [hg]; rfl
  rw [e, e', if_neg (Int.lt_irrefl _), if_neg (Int.lt_irrefl _)]; rfl
end Go.Proofs.YtgmolmpfihkolaaGreat
namespace Go.Proofs.YtgmolmpfihkolaaGreat
open Go.RowKit
set_option linter.unusedVariables false
theorem cmpI_neg (a b : Int) : cmpI b a = - cmpI a b := by
 unfold cmpI
 by_cases h1 : a < b
 ·rw [if_pos h1, if_neg (by omega), if_pos h1]; rfl
 ·by_cases h2 : b < a
  ·simp [h1, h2]
  ·simp [h1, h2]
theorem cmpI_le (a b : Int) : cmpI a b ≤ 0 ↔ a ≤ b := by
 unfold cmpI
 by_cases h1 : a < b
 ·rw [if_pos h1]; omega
 ·by_cases h2 : b < a
  ·rw [if_neg h1, if_pos h2]; omega
  ·rw [if_neg h1, if_neg h2]; omega
theorem cmpI_trans (a b c : Int) (h1 : cmpI a b ≤ 0) (h2 : cmpI b c ≤ 0) : cmpI a c ≤ 0 := by
 rw [cmpI_le] at *; omega
theorem cmpS_cases (a b : ByteArray) : cmpS a b = -1 ∨ cmpS a b = 0 ∨ cmpS a b = 1 := by
 unfold cmpS
 split
 ·exact .inl rfl
 ·split
  ·exact .inr (.inl rfl)
  ·exact .inr (.inr rfl)
theorem cmpS_neg (a b : ByteArray) : cmpS b a = - cmpS a b := by
 rcases cmpS_cases a b with h | h | h
 ·rw [h, (cmpS_vals b a).2.1.2 ((cmpS_vals a b).1.1 h)]; rfl
 ·rw [h, (cmpS_vals b a).2.2.2 ((cmpS_vals a b).2.2.1 h).symm]; rfl
 ·rw [h, (cmpS_vals b a).1.2 ((cmpS_vals a b).2.1.1 h)]
theorem cmpS_trans (a b c : ByteArray) (h1 : cmpS a b ≤ 0) (h2 : cmpS b c ≤ 0) : cmpS a c ≤ 0 := by
 have k : ∀ x y : ByteArray, cmpS x y ≤ 0 → Op.bytesLess x.toList y.toList = true ∨ x.toList = y.toList := by
  intro x y h
  rcases cmpS_cases x y with e | e | e
  ·exact .inl ((cmpS_vals x y).1.1 e)
  ·exact .inr ((cmpS_vals x y).2.2.1 e)
  ·omega
 rcases k a b h1 with e1 | e1 <;> rcases k b c h2 with e2 | e2
 ·rw [(cmpS_vals a c).1.2 (bl_trans _ _ _ e1 e2)]; omega
 ·rw [(cmpS_vals a c).1.2 (by rw [← e2]; exact e1)]; omega
 ·rw [(cmpS_vals a c).1.2 (by rw [e1]; exact e2)]; omega
 ·rw [(cmpS_vals a c).2.2.2 (e1.trans e2)]; omega
theorem cmpP_neg (a b : Val) : cmpP b a = - cmpP a b := by
 unfold cmpP
 by_cases hk : a.kind = b.kind
 ·simp only [hk, ne_eq, not_true_eq_false, if_false]
  by_cases h3 : b.kind = 3
  ·simp only [h3, if_true]; rw [cmpF_val, cmpF_val]; exact cmpI_neg _ _
  ·simp only [h3, if_false]
   by_cases h4 : b.kind = 4
   ·simp only [h4, if_true]; exact cmpS_neg _ _
   ·simp only [h4, if_false]; exact cmpI_neg _ _
 ·rw [if_pos (fun e => hk e.symm), if_pos hk]; exact cmpI_neg _ _
theorem cmpP_trans (a b c : Val) (h1 : cmpP a b ≤ 0) (h2 : cmpP b c ≤ 0) : cmpP a c ≤ 0 := by
 unfold cmpP at *
 by_cases k1 : a.kind = b.kind
 ·rw [if_neg (by rw [k1]; simp)] at h1
  by_cases k2 : b.kind = c.kind
  ·rw [if_neg (by rw [k2]; simp)] at h2
   rw [if_neg (by rw [k1, k2]; simp)]
   rw [k1] at h1 ⊢
   by_cases e3 : b.kind = 3
   ·rw [if_pos e3, cmpF_val] at *
    exact cmpI_trans _ _ _ h1 h2
   ·rw [if_neg e3] at *
    by_cases e4 : b.kind = 4
    ·rw [if_pos e4] at *
     exact cmpS_trans _ _ _ h1 h2
    ·rw [if_neg e4] at *
     exact cmpI_trans _ _ _ h1 h2
  ·rw [if_pos k2] at h2
   rw [k1, if_pos k2]; exact h2
 ·rw [if_pos k1] at h1
  by_cases k2 : b.kind = c.kind
  ·rw [← k2, if_pos k1]; exact h1
  ·rw [if_pos k2] at h2
   have := cmpI_trans _ _ _ h1 h2
   by_cases k3 : a.kind = c.kind
   ·exfalso
    rw [cmpI_le] at h1 h2
    omega
   ·rw [if_pos k3]; exact this
theorem cmpV_neg (a b : Val) : cmpV b a = - cmpV a b := cmpP_neg _ _
theorem cmpV_trans (a b c : Val) (h1 : cmpV a b ≤ 0) (h2 : cmpV b c ≤ 0) : cmpV a c ≤ 0 := cmpP_trans _ _ _ h1 h2
theorem cmpRow_neg : ∀ a b : List Val, cmpRow b a = - cmpRow a b
 | [], [] => rfl
 | [], _ :: _ => rfl
 | _ :: _, [] => rfl
 | a :: s, b :: t => by
  simp only [cmpRow]
  have h := cmpV_neg a b
  by_cases e : cmpV a b = 0
  ·rw [if_neg (by omega), if_neg (by omega)]; exact cmpRow_neg s t
  ·rw [if_pos (by omega), if_pos (by omega)]; exact h
theorem cmpRow_trans : ∀ a b c : List Val, cmpRow a b ≤ 0 → cmpRow b c ≤ 0 → cmpRow a c ≤ 0
 | [], [], [], _, _ => by simp [cmpRow]
 | [], _, _ :: _, _, _ => by simp [cmpRow]
 | [], _ :: _, [], _, _ => by simp [cmpRow]
 | _ :: _, [], _, h, _ => by simp [cmpRow] at h
 | _ :: _, _ :: _, [], _, h => by simp [cmpRow] at h
 | a :: s, b :: t, c :: u, h1, h2 => by
  simp only [cmpRow] at h1 h2 ⊢
  have n1 := cmpV_neg a b
  have n2 := cmpV_neg b c
  have n3 := cmpV_neg a c
  by_cases e1 : cmpV a b = 0
  ·by_cases e2 : cmpV b c = 0
   ·have t1 := cmpV_trans a b c (by omega) (by omega)
    have t2 := cmpV_trans c b a (by omega) (by omega)
    rw [if_neg (by omega)] at h1 h2 ⊢
    exact cmpRow_trans s t u h1 h2
   ·rw [if_pos (by omega)] at h2
    have t1 := cmpV_trans a b c (by omega) (by omega)
    have t2 : ¬ cmpV a c = 0 := fun e => by
     have := cmpV_trans c a b (by omega) (by omega)
     omega
    rw [if_pos t2]; exact t1
  ·rw [if_pos (by omega)] at h1
   have h2' : cmpV b c ≤ 0 := by
    by_cases e2 : cmpV b c = 0
    ·omega
    ·rw [if_pos (by omega)] at h2; exact h2
   have t1 := cmpV_trans a b c h1 h2'
   have t2 : ¬ cmpV a c = 0 := fun e => by
    have := cmpV_trans b c a h2' (by omega)
    omega
   rw [if_pos t2]; exact t1
end Go.Proofs.YtgmolmpfihkolaaGreat
namespace Go.Proofs.YtgmolmpfihkolaaGreat
open Go.RowKit
set_option maxRecDepth 100000
set_option linter.unusedVariables false
attribute [local go_sem] run_store_float
theorem rnumber_exp (k n : Int) (f : Nat) (s : ByteArray) (hv : Val.wf ⟨k, n, f, s⟩) (w : World) : Calls Tryz.prog 122 #[.agg #[.int .i64 k, .int .i64 n, .float .f64 f, .string s]] w
 fun e w' => e = .returned (.bool (numV ⟨k, n, f, s⟩)) ∧ Below w.heap.size w w' := rnumber_any _ hv w
theorem add_zero0 (t : TypeId) (w : World) : (binOp .add t (.float .f64 0) (.float .f64 0)).run Tryz.prog w = .ok (.float .f64 0) w := run_float_arith w .add t .f64 _ _ _ (by kernel_rfl)
attribute [local go_sem] add_zero0
def FourB (w : World) (a b c d : Val) (W : World) : Prop := Three w a b c W ∧ LiesV W (w.heap.size + 3) 0 d ∧ w.heap.size + 3 < W.heap.size
theorem FourB.start (w : World) (a b c d : Val) (t u x y : TypeId) : FourB w a b c d ((((w.alloc (.cells #[.int .i64 a.kind, .int .i64 a.int, .float .f64 a.flt, .string a.text] t)).alloc (.cells #[.int .i64 b.kind, .int .i64 b.int, .float .f64 b.flt, .string b.text] u)).alloc (.cells #[.int .i64 c.kind, .int .i64 c.int, .float .f64 c.flt, .string c.text] x)).alloc (.cells #[.int .i64 d.kind, .int .i64 d.int, .float .f64 d.flt, .string d.text] y)) := by
 have h := Three.start w a b c t u x
 have hs : w.heap.size + 3 = (((w.alloc (.cells #[.int .i64 a.kind, .int .i64 a.int, .float .f64 a.flt, .string a.text] t)).alloc (.cells #[.int .i64 b.kind, .int .i64 b.int, .float .f64 b.flt, .string b.text] u)).alloc (.cells #[.int .i64 c.kind, .int .i64 c.int, .float .f64 c.flt, .string c.text] x)).heap.size := by simp
 have h2 := LiesV.new (((w.alloc (.cells #[.int .i64 a.kind, .int .i64 a.int, .float .f64 a.flt, .string a.text] t)).alloc (.cells #[.int .i64 b.kind, .int .i64 b.int, .float .f64 b.flt, .string b.text] u)).alloc (.cells #[.int .i64 c.kind, .int .i64 c.int, .float .f64 c.flt, .string c.text] x)) d y
 rw [← hs] at h2
 exact ⟨h.later ((Below.refl _ _).alloc (Nat.le_refl _) _), h2, by simp⟩
theorem FourB.later {w W W' : World} {a b c d : Val} (h : FourB w a b c d W) (hb : Below W.heap.size W W') : FourB w a b c d W' :=
 ⟨h.1.later hb, h.2.1.below hb h.2.2, Nat.lt_of_lt_of_le h.2.2 hb.size⟩
theorem FourB.below {w W : World} {a b c d : Val} (h : FourB w a b c d W) : Below w.heap.size w W := h.1.below
theorem FourB.lt0 {w W : World} {a b c d : Val} (h : FourB w a b c d W) : w.heap.size < W.heap.size := by have := h.2.2; omega
theorem FourB.lt1 {w W : World} {a b c d : Val} (h : FourB w a b c d W) : w.heap.size + 1 < W.heap.size := by have := h.2.2; omega
theorem num_flt (v : Val) (h : numV v = true) (hk : v.kind = 2) : v.flt = 0 := by
 unfold numV rightV at h
 simp [hk] at h
 exact h.1
theorem rplain_num (n : Int) : rplainV ⟨2, n, 0, ⟨#[]⟩⟩ = ⟨2, n, 0, ⟨#[]⟩⟩ := by
 unfold rplainV
 rw [show rightV ⟨2, n, 0, ⟨#[]⟩⟩ = true from num_right n, if_pos rfl, if_neg (by simp)]
end Go.Proofs.YtgmolmpfihkolaaGreat
namespace Go.Proofs.YtgmolmpfihkolaaGreat
open Go.RowKit
set_option linter.unusedVariables false
set_option maxRecDepth 100000
attribute [local go_sem] run_store_float run_neg_float
theorem rplain_alike (f : Nat) : Alike (plainV ⟨3, 0, f, ⟨#[]⟩⟩) (rplainV ⟨3, 0, f, ⟨#[]⟩⟩) := by
 rw [(plain_flt _ (right_fl f) rfl).1, (plain_flt _ (right_fl f) rfl).2]
 exact ⟨rfl, rfl, rfl, (bits_alike f).1, (bits_alike f).2⟩
theorem rplainV_wf (v : Val) (h : v.wf) : (rplainV v).wf := by
 unfold rplainV
 split
 ·split
  ·split
   ·exact ⟨by show (Lit.int .i64 3).wf = true; decide, by show (Lit.int .i64 0).wf = true; decide, by show 0 < 2 ^ 64; decide, Nat.zero_le _⟩
   ·exact h
  ·exact h
 ·exact null_wf
theorem num_fl (k n : Int) (f : Nat) (s : ByteArray) (h : numV ⟨k, n, f, s⟩ = true) (hk : k = 3) : n = 0 := by
 unfold numV rightV at h
 simp only [Bool.or_eq_true, Bool.and_eq_true, beq_iff_eq] at h
 omega
set_option maxHeartbeats 4000000 in
theorem RCalc_early (op : Int) (a b : Val) (ha : a.wf) (hb : b.wf) (h3 : 3 ≤ op) (h6 : op < 6) (hearly : numV a = false ∨ numV b = false ∨ a.kind = 0 ∨ b.kind = 0 ∨ a.kind ≠ b.kind) (w : World) : Calls Tryz.prog 92 #[.int .i64 op, a.agg, b.agg] w
 fun e w' => (∃ v, e = .returned (.tuple #[v.agg, .int .i64 (calcV op a b).2]) ∧ Alike (calcV op a b).1 v ∧ v.wf) ∧ Below w.heap.size w w' := by
 have HT := hdq (FourB.start w a b Val.null Val.null 39 39 39 39)
 have hka := numV_kind a
 have hkb := numV_kind b
 obtain ⟨r, hr⟩ : ∃ r, r = calcV op a b := ⟨_, rfl⟩
 rw [← hr]
 have hn6 : ¬ op = 6 := by omega
 unfold calcV calcC at hr
 rw [if_neg (by omega), if_neg hn6] at hr
 obtain ⟨k, n, f, s⟩ := a
 obtain ⟨k', n', f', s'⟩ := b
 unfold Val.agg Val.null at *
 simp only at *
 obtain ⟨qa, hqa⟩ : ∃ q, q = numV ⟨k, n, f, s⟩ := ⟨_, rfl⟩
 obtain ⟨qb, hqb⟩ : ∃ q, q = numV ⟨k', n', f', s'⟩ := ⟨_, rfl⟩
 rw [← hqa] at hr hka hearly
 rw [← hqb] at hr hkb hearly
 have HN := hdq hqa.symm
 have HQ := hdq hqb.symm
 have z3 : ¬ op < 3 := by omega
 have z6 : ¬ 6 < op := by omega
 have z66 : (op == 6) = false := by simp; exact hn6
 clear hqa hqb h3 h6
 cases qa with
 | false =>
  rw [if_neg (by simp)] at hr
  subst hr
  clear hka hkb hearly
  go_enter Tryz.func92, Tryz.ntmps92
  go_wp2_with (first | (go_at_call 122; refine (rnumber_exp _ _ _ _ (by assumption) _).mono ?_; (try rw [HN.out]); (try rw [HQ.out]); rintro e wx ⟨rfl, hbx⟩; (first | (have HT2 := hdq (HT1.out.later hbx); obtain ⟨⟨⟨⟨⟨l1, l2, l3, l4⟩, _⟩, ⟨⟨m1, m2, m3, m4⟩, _⟩, _⟩, ⟨⟨r1, r2, r3, r4⟩, g1, g2, g3, g4⟩, _⟩, ⟨⟨o1, o2, o3, o4⟩, _⟩, hsx⟩ := HT2.out; simp only [Nat.zero_add] at l1 l2 l3 l4 m1 m2 m3 m4 r1 r2 r3 r4 g1 g2 g3 g4 o1 o2 o3 o4; have hwx0 := HT2.out.lt0; have hwx1 := HT2.out.lt1; have hne0 := Nat.ne_of_lt hwx0; have hne1 := Nat.ne_of_lt hwx1) | (have HT1 := hdq (HT.out.later hbx); obtain ⟨⟨⟨⟨⟨l1, l2, l3, l4⟩, _⟩, ⟨⟨m1, m2, m3, m4⟩, _⟩, _⟩, ⟨⟨r1, r2, r3, r4⟩, g1, g2, g3, g4⟩, _⟩, ⟨⟨o1, o2, o3, o4⟩, _⟩, hsx⟩ := HT1.out; simp only [Nat.zero_add] at l1 l2 l3 l4 m1 m2 m3 m4 r1 r2 r3 r4 g1 g2 g3 g4 o1 o2 o3 o4)); clear hbx))
  exact ret_val2 Tryz.results92 rfl rfl rfl (HT1.out.1.2.1.stored ⟨0, 0, 0, ⟨#[]⟩⟩) ⟨⟨⟨0, 0, 0, ⟨#[]⟩⟩, rfl, Alike.refl _, null_wf⟩, below_val HT1.out.below (by omega) _ _ _ _⟩
 | true =>
  cases qb with
  | false =>
   rw [if_neg (by simp)] at hr
   subst hr
   clear hka hkb hearly
   go_enter Tryz.func92, Tryz.ntmps92
   go_wp2_with (first | (go_at_call 122; refine (rnumber_exp _ _ _ _ (by assumption) _).mono ?_; (try rw [HN.out]); (try rw [HQ.out]); rintro e wx ⟨rfl, hbx⟩; (first | (have HT2 := hdq (HT1.out.later hbx); obtain ⟨⟨⟨⟨⟨l1, l2, l3, l4⟩, _⟩, ⟨⟨m1, m2, m3, m4⟩, _⟩, _⟩, ⟨⟨r1, r2, r3, r4⟩, g1, g2, g3, g4⟩, _⟩, ⟨⟨o1, o2, o3, o4⟩, _⟩, hsx⟩ := HT2.out; simp only [Nat.zero_add] at l1 l2 l3 l4 m1 m2 m3 m4 r1 r2 r3 r4 g1 g2 g3 g4 o1 o2 o3 o4; have hwx0 := HT2.out.lt0; have hwx1 := HT2.out.lt1; have hne0 := Nat.ne_of_lt hwx0; have hne1 := Nat.ne_of_lt hwx1) | (have HT1 := hdq (HT.out.later hbx); obtain ⟨⟨⟨⟨⟨l1, l2, l3, l4⟩, _⟩, ⟨⟨m1, m2, m3, m4⟩, _⟩, _⟩, ⟨⟨r1, r2, r3, r4⟩, g1, g2, g3, g4⟩, _⟩, ⟨⟨o1, o2, o3, o4⟩, _⟩, hsx⟩ := HT1.out; simp only [Nat.zero_add] at l1 l2 l3 l4 m1 m2 m3 m4 r1 r2 r3 r4 g1 g2 g3 g4 o1 o2 o3 o4)); clear hbx))
   exact ret_val2 Tryz.results92 rfl rfl rfl (HT2.out.1.2.1.stored ⟨0, 0, 0, ⟨#[]⟩⟩) ⟨⟨⟨0, 0, 0, ⟨#[]⟩⟩, rfl, Alike.refl _, null_wf⟩, below_val HT2.out.below (by omega) _ _ _ _⟩
  | true =>
   rw [Bool.true_and, if_pos rfl] at hr
   have hka := hka rfl
   have hkb := hkb rfl
   by_cases h0 : k = 0
   ·subst h0
    rw [if_pos (.inl rfl)] at hr
    subst hr
    clear hkb hearly
    go_enter Tryz.func92, Tryz.ntmps92
    go_wp2_with (first | (go_at_call 122; refine (rnumber_exp _ _ _ _ (by assumption) _).mono ?_; (try rw [HN.out]); (try rw [HQ.out]); rintro e wx ⟨rfl, hbx⟩; (first | (have HT2 := hdq (HT1.out.later hbx); obtain ⟨⟨⟨⟨⟨l1, l2, l3, l4⟩, _⟩, ⟨⟨m1, m2, m3, m4⟩, _⟩, _⟩, ⟨⟨r1, r2, r3, r4⟩, g1, g2, g3, g4⟩, _⟩, ⟨⟨o1, o2, o3, o4⟩, _⟩, hsx⟩ := HT2.out; simp only [Nat.zero_add] at l1 l2 l3 l4 m1 m2 m3 m4 r1 r2 r3 r4 g1 g2 g3 g4 o1 o2 o3 o4; have hwx0 := HT2.out.lt0; have hwx1 := HT2.out.lt1; have hne0 := Nat.ne_of_lt hwx0; have hne1 := Nat.ne_of_lt hwx1) | (have HT1 := hdq (HT.out.later hbx); obtain ⟨⟨⟨⟨⟨l1, l2, l3, l4⟩, _⟩, ⟨⟨m1, m2, m3, m4⟩, _⟩, _⟩, ⟨⟨r1, r2, r3, r4⟩, g1, g2, g3, g4⟩, _⟩, ⟨⟨o1, o2, o3, o4⟩, _⟩, hsx⟩ := HT1.out; simp only [Nat.zero_add] at l1 l2 l3 l4 m1 m2 m3 m4 r1 r2 r3 r4 g1 g2 g3 g4 o1 o2 o3 o4)); clear hbx))
    exact ret_val2 Tryz.results92 rfl rfl rfl (HT2.out.1.2.1.stored ⟨0, 0, 0, ⟨#[]⟩⟩) ⟨⟨⟨0, 0, 0, ⟨#[]⟩⟩, rfl, Alike.refl _, null_wf⟩, below_val HT2.out.below (by omega) _ _ _ _⟩
   ·have e0 : (k == 0) = false := by simp; exact h0
    have e1 : (k != 0) = true := by simp; exact h0
    by_cases h0' : k' = 0
    ·subst h0'
     rw [if_pos (.inr rfl)] at hr
     subst hr
     clear hka hkb hearly
     go_enter Tryz.func92, Tryz.ntmps92
     go_wp2_with (first | (go_at_call 122; refine (rnumber_exp _ _ _ _ (by assumption) _).mono ?_; (try rw [HN.out]); (try rw [HQ.out]); rintro e wx ⟨rfl, hbx⟩; (first | (have HT2 := hdq (HT1.out.later hbx); obtain ⟨⟨⟨⟨⟨l1, l2, l3, l4⟩, _⟩, ⟨⟨m1, m2, m3, m4⟩, _⟩, _⟩, ⟨⟨r1, r2, r3, r4⟩, g1, g2, g3, g4⟩, _⟩, ⟨⟨o1, o2, o3, o4⟩, _⟩, hsx⟩ := HT2.out; simp only [Nat.zero_add] at l1 l2 l3 l4 m1 m2 m3 m4 r1 r2 r3 r4 g1 g2 g3 g4 o1 o2 o3 o4; have hwx0 := HT2.out.lt0; have hwx1 := HT2.out.lt1; have hne0 := Nat.ne_of_lt hwx0; have hne1 := Nat.ne_of_lt hwx1) | (have HT1 := hdq (HT.out.later hbx); obtain ⟨⟨⟨⟨⟨l1, l2, l3, l4⟩, _⟩, ⟨⟨m1, m2, m3, m4⟩, _⟩, _⟩, ⟨⟨r1, r2, r3, r4⟩, g1, g2, g3, g4⟩, _⟩, ⟨⟨o1, o2, o3, o4⟩, _⟩, hsx⟩ := HT1.out; simp only [Nat.zero_add] at l1 l2 l3 l4 m1 m2 m3 m4 r1 r2 r3 r4 g1 g2 g3 g4 o1 o2 o3 o4)); clear hbx))
     exact ret_val2 Tryz.results92 rfl rfl rfl (HT2.out.1.2.1.stored ⟨0, 0, 0, ⟨#[]⟩⟩) ⟨⟨⟨0, 0, 0, ⟨#[]⟩⟩, rfl, Alike.refl _, null_wf⟩, below_val HT2.out.below (by omega) _ _ _ _⟩
    ·have e0' : (k' == 0) = false := by simp; exact h0'
     have e1' : (k' != 0) = true := by simp; exact h0'
     rw [if_neg (by omega)] at hr
     have hkk : k ≠ k' := by
      rcases hearly with h | h | h | h | h
      ·cases h
      ·cases h
      ·exact absurd h h0
      ·exact absurd h h0'
      ·exact h
     rw [if_pos hkk] at hr
     have ekk : (k == k') = false := by simp; exact hkk
     have ekk2 : (k != k') = true := by simp; exact hkk
     subst hr
     clear hka hkb hearly
     go_enter Tryz.func92, Tryz.ntmps92
     go_wp2_with (first | (go_at_call 122; refine (rnumber_exp _ _ _ _ (by assumption) _).mono ?_; (try rw [HN.out]); (try rw [HQ.out]); rintro e wx ⟨rfl, hbx⟩; (first | (have HT2 := hdq (HT1.out.later hbx); obtain ⟨⟨⟨⟨⟨l1, l2, l3, l4⟩, _⟩, ⟨⟨m1, m2, m3, m4⟩, _⟩, _⟩, ⟨⟨r1, r2, r3, r4⟩, g1, g2, g3, g4⟩, _⟩, ⟨⟨o1, o2, o3, o4⟩, _⟩, hsx⟩ := HT2.out; simp only [Nat.zero_add] at l1 l2 l3 l4 m1 m2 m3 m4 r1 r2 r3 r4 g1 g2 g3 g4 o1 o2 o3 o4; have hwx0 := HT2.out.lt0; have hwx1 := HT2.out.lt1; have hne0 := Nat.ne_of_lt hwx0; have hne1 := Nat.ne_of_lt hwx1) | (have HT1 := hdq (HT.out.later hbx); obtain ⟨⟨⟨⟨⟨l1, l2, l3, l4⟩, _⟩, ⟨⟨m1, m2, m3, m4⟩, _⟩, _⟩, ⟨⟨r1, r2, r3, r4⟩, g1, g2, g3, g4⟩, _⟩, ⟨⟨o1, o2, o3, o4⟩, _⟩, hsx⟩ := HT1.out; simp only [Nat.zero_add] at l1 l2 l3 l4 m1 m2 m3 m4 r1 r2 r3 r4 g1 g2 g3 g4 o1 o2 o3 o4)); clear hbx))
     exact ret_val2 Tryz.results92 rfl rfl rfl (HT2.out.1.2.1.stored ⟨0, 0, 0, ⟨#[]⟩⟩) ⟨⟨⟨0, 0, 0, ⟨#[]⟩⟩, rfl, Alike.refl _, null_wf⟩, below_val HT2.out.below (by omega) _ _ _ _⟩
theorem sub_zero0 (t : TypeId) (w : World) : (binOp .sub t (.float .f64 0) (.float .f64 0)).run Tryz.prog w = .ok (.float .f64 0) w := run_float_arith w .sub t .f64 _ _ _ (by kernel_rfl)
theorem mul_zero0 (t : TypeId) (w : World) : (binOp .mul t (.float .f64 0) (.float .f64 0)).run Tryz.prog w = .ok (.float .f64 0) w := run_float_arith w .mul t .f64 _ _ _ (by kernel_rfl)
attribute [local go_sem] add_zero0 sub_zero0 mul_zero0
set_option maxHeartbeats 4000000 in
theorem RCalc_two_3 (a b : Val) (ha : a.wf) (hb : b.wf) (na : numV a = true) (ka : a.kind = 2) (nb : numV b = true) (kb : b.kind = 2) (w : World) : Calls Tryz.prog 92 #[.int .i64 3, a.agg, b.agg] w
 fun e w' => (∃ v, e = .returned (.tuple #[v.agg, .int .i64 (calcV 3 a b).2]) ∧ Alike (calcV 3 a b).1 v ∧ v.wf) ∧ Below w.heap.size w w' := by
 have HT := hdq (FourB.start w a b Val.null Val.null 39 39 39 39)
 have hr : calcV 3 a b = (Val.num (wholeK 3 a.int b.int), 0) := by
  unfold calcV
  rw [if_neg (show ¬ (3 : Int) = 6 by omega)]
  unfold calcC
  rw [if_neg (by omega)]
  simp [na, nb, ka, kb]
 rw [hr]
 clear hr
 have hfa := num_flt a na ka
 have hfb := num_flt b nb kb
 obtain ⟨k, n, f, s⟩ := a
 obtain ⟨k', n', f', s'⟩ := b
 unfold Val.agg Val.null Val.num at *
 simp only at *
 have HN := hdq na
 have HQ := hdq nb
 subst ka hfa
 subst kb hfb
 clear na nb
 have HPW : Hid (Val.wf ⟨2, wrap64 (n + n'), 0, ⟨#[]⟩⟩) := hdq (num_wf (wrap_wf _))
 have HPL := hdq (rplain_num (wrap64 (n + n')))
 go_enter Tryz.func92, Tryz.ntmps92
 go_wp2_with (first | (go_at_call 122; refine (rnumber_exp _ _ _ _ (by assumption) _).mono ?_; (try rw [HN.out]); (try rw [HQ.out]); rintro e wx ⟨rfl, hbx⟩; (first | (have HT2 := hdq (HT1.out.later hbx); obtain ⟨⟨⟨⟨⟨l1, l2, l3, l4⟩, _⟩, ⟨⟨m1, m2, m3, m4⟩, _⟩, _⟩, ⟨⟨r1, r2, r3, r4⟩, g1, g2, g3, g4⟩, _⟩, ⟨⟨o1, o2, o3, o4⟩, _⟩, hsx⟩ := HT2.out; simp only [Nat.zero_add] at l1 l2 l3 l4 m1 m2 m3 m4 r1 r2 r3 r4 g1 g2 g3 g4 o1 o2 o3 o4; have hwx0 := HT2.out.lt0; have hwx1 := HT2.out.lt1; have hne0 := Nat.ne_of_lt hwx0; have hne1 := Nat.ne_of_lt hwx1) | (have HT1 := hdq (HT.out.later hbx); obtain ⟨⟨⟨⟨⟨l1, l2, l3, l4⟩, _⟩, ⟨⟨m1, m2, m3, m4⟩, _⟩, _⟩, ⟨⟨r1, r2, r3, r4⟩, g1, g2, g3, g4⟩, _⟩, ⟨⟨o1, o2, o3, o4⟩, _⟩, hsx⟩ := HT1.out; simp only [Nat.zero_add] at l1 l2 l3 l4 m1 m2 m3 m4 r1 r2 r3 r4 g1 g2 g3 g4 o1 o2 o3 o4)); clear hbx) | (go_at_call 37; refine (RPlain_exp _ _ _ _ HPW.out _).mono ?_; rw [HPL.out]; rintro e wy ⟨rfl, hby⟩; have HT3 := hdq ((HT2.out.later (((Below.refl _ _).alloc (Nat.le_refl _) _))).later hby); obtain ⟨⟨⟨⟨⟨l1, l2, l3, l4⟩, _⟩, ⟨⟨m1, m2, m3, m4⟩, _⟩, _⟩, ⟨⟨r1, r2, r3, r4⟩, g1, g2, g3, g4⟩, _⟩, ⟨⟨o1, o2, o3, o4⟩, _⟩, hsx⟩ := HT3.out; simp only [Nat.zero_add] at l1 l2 l3 l4 m1 m2 m3 m4 r1 r2 r3 r4 g1 g2 g3 g4 o1 o2 o3 o4; clear hby))
 exact ret_val2 Tryz.results92 rfl rfl rfl (HT3.out.1.2.1.stored ⟨2, wrap64 (n + n'), 0, ⟨#[]⟩⟩) ⟨⟨⟨2, wrap64 (n + n'), 0, ⟨#[]⟩⟩, rfl, Alike.refl _, HPW.out⟩, below_val HT3.out.below (by omega) _ _ _ _⟩
set_option maxHeartbeats 4000000 in
theorem RCalc_two_4 (a b : Val) (ha : a.wf) (hb : b.wf) (na : numV a = true) (ka : a.kind = 2) (nb : numV b = true) (kb : b.kind = 2) (w : World) : Calls Tryz.prog 92 #[.int .i64 4, a.agg, b.agg] w
 fun e w' => (∃ v, e = .returned (.tuple #[v.agg, .int .i64 (calcV 4 a b).2]) ∧ Alike (calcV 4 a b).1 v ∧ v.wf) ∧ Below w.heap.size w w' := by
 have HT := hdq (FourB.start w a b Val.null Val.null 39 39 39 39)
 have hr : calcV 4 a b = (Val.num (wholeK 4 a.int b.int), 0) := by
  unfold calcV
  rw [if_neg (show ¬ (4 : Int) = 6 by omega)]
  unfold calcC
  rw [if_neg (by omega)]
  simp [na, nb, ka, kb]
 rw [hr]
 clear hr
 have hfa := num_flt a na ka
 have hfb := num_flt b nb kb
 obtain ⟨k, n, f, s⟩ := a
 obtain ⟨k', n', f', s'⟩ := b
 unfold Val.agg Val.null Val.num at *
 simp only at *
 have HN := hdq na
 have HQ := hdq nb
 subst ka hfa
 subst kb hfb
 clear na nb
 have HPW : Hid (Val.wf ⟨2, wrap64 (n - n'), 0, ⟨#[]⟩⟩) := hdq (num_wf (wrap_wf _))
 have HPL := hdq (rplain_num (wrap64 (n - n')))
 go_enter Tryz.func92, Tryz.ntmps92
 go_wp2_with (first | (go_at_call 122; refine (rnumber_exp _ _ _ _ (by assumption) _).mono ?_; (try rw [HN.out]); (try rw [HQ.out]); rintro e wx ⟨rfl, hbx⟩; (first | (have HT2 := hdq (HT1.out.later hbx); obtain ⟨⟨⟨⟨⟨l1, l2, l3, l4⟩, _⟩, ⟨⟨m1, m2, m3, m4⟩, _⟩, _⟩, ⟨⟨r1, r2, r3, r4⟩, g1, g2, g3, g4⟩, _⟩, ⟨⟨o1, o2, o3, o4⟩, _⟩, hsx⟩ := HT2.out; simp only [Nat.zero_add] at l1 l2 l3 l4 m1 m2 m3 m4 r1 r2 r3 r4 g1 g2 g3 g4 o1 o2 o3 o4; have hwx0 := HT2.out.lt0; have hwx1 := HT2.out.lt1; have hne0 := Nat.ne_of_lt hwx0; have hne1 := Nat.ne_of_lt hwx1) | (have HT1 := hdq (HT.out.later hbx); obtain ⟨⟨⟨⟨⟨l1, l2, l3, l4⟩, _⟩, ⟨⟨m1, m2, m3, m4⟩, _⟩, _⟩, ⟨⟨r1, r2, r3, r4⟩, g1, g2, g3, g4⟩, _⟩, ⟨⟨o1, o2, o3, o4⟩, _⟩, hsx⟩ := HT1.out; simp only [Nat.zero_add] at l1 l2 l3 l4 m1 m2 m3 m4 r1 r2 r3 r4 g1 g2 g3 g4 o1 o2 o3 o4)); clear hbx) | (go_at_call 37; refine (RPlain_exp _ _ _ _ HPW.out _).mono ?_; rw [HPL.out]; rintro e wy ⟨rfl, hby⟩; have HT3 := hdq ((HT2.out.later (((Below.refl _ _).alloc (Nat.le_refl _) _))).later hby); obtain ⟨⟨⟨⟨⟨l1, l2, l3, l4⟩, _⟩, ⟨⟨m1, m2, m3, m4⟩, _⟩, _⟩, ⟨⟨r1, r2, r3, r4⟩, g1, g2, g3, g4⟩, _⟩, ⟨⟨o1, o2, o3, o4⟩, _⟩, hsx⟩ := HT3.out; simp only [Nat.zero_add] at l1 l2 l3 l4 m1 m2 m3 m4 r1 r2 r3 r4 g1 g2 g3 g4 o1 o2 o3 o4; clear hby))
 exact ret_val2 Tryz.results92 rfl rfl rfl (HT3.out.1.2.1.stored ⟨2, wrap64 (n - n'), 0, ⟨#[]⟩⟩) ⟨⟨⟨2, wrap64 (n - n'), 0, ⟨#[]⟩⟩, rfl, Alike.refl _, HPW.out⟩, below_val HT3.out.below (by omega) _ _ _ _⟩
set_option maxHeartbeats 4000000 in
theorem RCalc_two_5 (a b : Val) (ha : a.wf) (hb : b.wf) (na : numV a = true) (ka : a.kind = 2) (nb : numV b = true) (kb : b.kind = 2) (w : World) : Calls Tryz.prog 92 #[.int .i64 5, a.agg, b.agg] w
 fun e w' => (∃ v, e = .returned (.tuple #[v.agg, .int .i64 (calcV 5 a b).2]) ∧ Alike (calcV 5 a b).1 v ∧ v.wf) ∧ Below w.heap.size w w' := by
 have HT := hdq (FourB.start w a b Val.null Val.null 39 39 39 39)
 have hr : calcV 5 a b = (Val.num (wholeK 5 a.int b.int), 0) := by
  unfold calcV
  rw [if_neg (show ¬ (5 : Int) = 6 by omega)]
  unfold calcC
  rw [if_neg (by omega)]
  simp [na, nb, ka, kb]
 rw [hr]
 clear hr
 have hfa := num_flt a na ka
 have hfb := num_flt b nb kb
 obtain ⟨k, n, f, s⟩ := a
 obtain ⟨k', n', f', s'⟩ := b
 unfold Val.agg Val.null Val.num at *
 simp only at *
 have HN := hdq na
 have HQ := hdq nb
 subst ka hfa
 subst kb hfb
 clear na nb
 have HPW : Hid (Val.wf ⟨2, wrap64 (n * n'), 0, ⟨#[]⟩⟩) := hdq (num_wf (wrap_wf _))
 have HPL := hdq (rplain_num (wrap64 (n * n')))
 go_enter Tryz.func92, Tryz.ntmps92
 go_wp2_with (first | (go_at_call 122; refine (rnumber_exp _ _ _ _ (by assumption) _).mono ?_; (try rw [HN.out]); (try rw [HQ.out]); rintro e wx ⟨rfl, hbx⟩; (first | (have HT2 := hdq (HT1.out.later hbx); obtain ⟨⟨⟨⟨⟨l1, l2, l3, l4⟩, _⟩, ⟨⟨m1, m2, m3, m4⟩, _⟩, _⟩, ⟨⟨r1, r2, r3, r4⟩, g1, g2, g3, g4⟩, _⟩, ⟨⟨o1, o2, o3, o4⟩, _⟩, hsx⟩ := HT2.out; simp only [Nat.zero_add] at l1 l2 l3 l4 m1 m2 m3 m4 r1 r2 r3 r4 g1 g2 g3 g4 o1 o2 o3 o4; have hwx0 := HT2.out.lt0; have hwx1 := HT2.out.lt1; have hne0 := Nat.ne_of_lt hwx0; have hne1 := Nat.ne_of_lt hwx1) | (have HT1 := hdq (HT.out.later hbx); obtain ⟨⟨⟨⟨⟨l1, l2, l3, l4⟩, _⟩, ⟨⟨m1, m2, m3, m4⟩, _⟩, _⟩, ⟨⟨r1, r2, r3, r4⟩, g1, g2, g3, g4⟩, _⟩, ⟨⟨o1, o2, o3, o4⟩, _⟩, hsx⟩ := HT1.out; simp only [Nat.zero_add] at l1 l2 l3 l4 m1 m2 m3 m4 r1 r2 r3 r4 g1 g2 g3 g4 o1 o2 o3 o4)); clear hbx) | (go_at_call 37; refine (RPlain_exp _ _ _ _ HPW.out _).mono ?_; rw [HPL.out]; rintro e wy ⟨rfl, hby⟩; have HT3 := hdq ((HT2.out.later (((Below.refl _ _).alloc (Nat.le_refl _) _))).later hby); obtain ⟨⟨⟨⟨⟨l1, l2, l3, l4⟩, _⟩, ⟨⟨m1, m2, m3, m4⟩, _⟩, _⟩, ⟨⟨r1, r2, r3, r4⟩, g1, g2, g3, g4⟩, _⟩, ⟨⟨o1, o2, o3, o4⟩, _⟩, hsx⟩ := HT3.out; simp only [Nat.zero_add] at l1 l2 l3 l4 m1 m2 m3 m4 r1 r2 r3 r4 g1 g2 g3 g4 o1 o2 o3 o4; clear hby))
 exact ret_val2 Tryz.results92 rfl rfl rfl (HT3.out.1.2.1.stored ⟨2, wrap64 (n * n'), 0, ⟨#[]⟩⟩) ⟨⟨⟨2, wrap64 (n * n'), 0, ⟨#[]⟩⟩, rfl, Alike.refl _, HPW.out⟩, below_val HT3.out.below (by omega) _ _ _ _⟩
set_option maxHeartbeats 4000000 in
theorem RCalc_two_6 (a b : Val) (ha : a.wf) (na : numV a = true) (ka : a.kind = 2) (w : World) : Calls Tryz.prog 92 #[.int .i64 6, a.agg, b.agg] w
 fun e w' => (∃ v, e = .returned (.tuple #[v.agg, .int .i64 (calcV 6 a b).2]) ∧ Alike (calcV 6 a b).1 v ∧ v.wf) ∧ Below w.heap.size w w' := by
 have HT := hdq (FourB.start w a a Val.null Val.null 39 39 39 39)
 have hr : calcV 6 a b = (Val.num (wholeK 6 a.int a.int), 0) := by
  unfold calcV
  rw [if_pos rfl]
  unfold calcC
  rw [if_neg (by omega)]
  simp [na, ka]
 rw [hr]
 clear hr
 have hfa := num_flt a na ka
 obtain ⟨k, n, f, s⟩ := a
 obtain ⟨k', n', f', s'⟩ := b
 unfold Val.agg Val.null Val.num at *
 simp only at *
 have HN := hdq na
 have HQ := HN
 subst ka hfa
 clear na 
 have HPW : Hid (Val.wf ⟨2, wrap64 (-n), 0, ⟨#[]⟩⟩) := hdq (num_wf (wrap_wf _))
 have HPL := hdq (rplain_num (wrap64 (-n)))
 go_enter Tryz.func92, Tryz.ntmps92
 go_wp2_with (first | (go_at_call 122; refine (rnumber_exp _ _ _ _ (by assumption) _).mono ?_; (try rw [HN.out]); (try rw [HQ.out]); rintro e wx ⟨rfl, hbx⟩; (first | (have HT2 := hdq (HT1.out.later hbx); obtain ⟨⟨⟨⟨⟨l1, l2, l3, l4⟩, _⟩, ⟨⟨m1, m2, m3, m4⟩, _⟩, _⟩, ⟨⟨r1, r2, r3, r4⟩, g1, g2, g3, g4⟩, _⟩, ⟨⟨o1, o2, o3, o4⟩, _⟩, hsx⟩ := HT2.out; simp only [Nat.zero_add] at l1 l2 l3 l4 m1 m2 m3 m4 r1 r2 r3 r4 g1 g2 g3 g4 o1 o2 o3 o4; have hwx0 := HT2.out.lt0; have hwx1 := HT2.out.lt1; have hne0 := Nat.ne_of_lt hwx0; have hne1 := Nat.ne_of_lt hwx1) | (have HT1 := hdq (HT.out.later hbx); obtain ⟨⟨⟨⟨⟨l1, l2, l3, l4⟩, _⟩, ⟨⟨m1, m2, m3, m4⟩, _⟩, _⟩, ⟨⟨r1, r2, r3, r4⟩, g1, g2, g3, g4⟩, _⟩, ⟨⟨o1, o2, o3, o4⟩, _⟩, hsx⟩ := HT1.out; simp only [Nat.zero_add] at l1 l2 l3 l4 m1 m2 m3 m4 r1 r2 r3 r4 g1 g2 g3 g4 o1 o2 o3 o4)); clear hbx) | (go_at_call 37; refine (RPlain_exp _ _ _ _ HPW.out _).mono ?_; rw [HPL.out]; rintro e wy ⟨rfl, hby⟩; have HT3 := hdq ((HT2.out.later (((Below.refl _ _).alloc (Nat.le_refl _) _))).later hby); obtain ⟨⟨⟨⟨⟨l1, l2, l3, l4⟩, _⟩, ⟨⟨m1, m2, m3, m4⟩, _⟩, _⟩, ⟨⟨r1, r2, r3, r4⟩, g1, g2, g3, g4⟩, _⟩, ⟨⟨o1, o2, o3, o4⟩, _⟩, hsx⟩ := HT3.out; simp only [Nat.zero_add] at l1 l2 l3 l4 m1 m2 m3 m4 r1 r2 r3 r4 g1 g2 g3 g4 o1 o2 o3 o4; clear hby))
 exact ret_val2 Tryz.results92 rfl rfl rfl (HT3.out.1.2.1.stored ⟨2, wrap64 (-n), 0, ⟨#[]⟩⟩) ⟨⟨⟨2, wrap64 (-n), 0, ⟨#[]⟩⟩, rfl, Alike.refl _, HPW.out⟩, below_val HT3.out.below (by omega) _ _ _ _⟩
end Go.Proofs.YtgmolmpfihkolaaGreat
namespace Go.Proofs.YtgmolmpfihkolaaGreat
open Go.RowKit
set_option linter.unusedVariables false
set_option maxRecDepth 100000
attribute [local go_sem] run_store_float run_neg_float
set_option maxHeartbeats 4000000 in
theorem RCalc_three_3 (a b : Val) (ha : a.wf) (hb : b.wf) (na : numV a = true) (ka : a.kind = 3) (nb : numV b = true) (kb : b.kind = 3) (w : World) : Calls Tryz.prog 92 #[.int .i64 3, a.agg, b.agg] w
 fun e w' => (∃ v, e = .returned (.tuple #[v.agg, .int .i64 (calcV 3 a b).2]) ∧ Alike (calcV 3 a b).1 v ∧ v.wf) ∧ Below w.heap.size w w' := by
 have HT := hdq (FourB.start w a b Val.null Val.null 39 39 39 39)
 have hr : calcV 3 a b = (plainV ⟨3, 0, (brokenK 3 a.flt b.flt).getD nanF, ⟨#[]⟩⟩, 0) := by
  unfold calcV
  rw [if_neg (show ¬ (3 : Int) = 6 by omega)]
  unfold calcC
  rw [if_neg (by omega)]
  simp [na, nb, ka, kb]
 rw [hr]
 clear hr
 have hlt : a.flt < 2 ^ 64 := ha.2.2.1
 obtain ⟨k, n, f, s⟩ := a
 obtain ⟨k', n', f', s'⟩ := b
 obtain rfl : n = 0 := num_fl _ _ _ _ na ka
 obtain rfl : n' = 0 := num_fl _ _ _ _ nb kb
 unfold Val.agg Val.null at *
 simp only at *
 have HN := hdq na
 have HQ := hdq nb
 subst ka
 subst kb
 clear na nb
 have e : brokenK 3 f f' = floatBits .add .f64 f f' := rfl
 rw [e]
 clear e hlt
 cases hb : floatBits .add .f64 f f' with
 | none =>
  have hr := run_float_none .add (by simp) f f' hb
  have HW : Hid (∀ W, Val.wf ⟨3, 0, someNan f f' W, ⟨#[]⟩⟩) := hdq (fun W => fl_wf (someNan_nan f f' W).2)
  have HAL : Hid (∀ W, Alike (plainV ⟨3, 0, (none : Option Nat).getD nanF, ⟨#[]⟩⟩) (rplainV ⟨3, 0, someNan f f' W, ⟨#[]⟩⟩)) := hdq (fun W => by
   have h1 := (FloatsTo.none f f' W).2
   rw [← h1]
   exact rplain_alike _)
  clear hb
  go_enter Tryz.func92, Tryz.ntmps92
  go_wp2_with (first | (go_at_call 122; refine (rnumber_exp _ _ _ _ (by assumption) _).mono ?_; (try rw [HN.out]); (try rw [HQ.out]); rintro e wx ⟨rfl, hbx⟩; (first | (have HT2 := hdq (HT1.out.later hbx); obtain ⟨⟨⟨⟨⟨l1, l2, l3, l4⟩, _⟩, ⟨⟨m1, m2, m3, m4⟩, _⟩, _⟩, ⟨⟨r1, r2, r3, r4⟩, g1, g2, g3, g4⟩, _⟩, ⟨⟨o1, o2, o3, o4⟩, _⟩, hsx⟩ := HT2.out; simp only [Nat.zero_add] at l1 l2 l3 l4 m1 m2 m3 m4 r1 r2 r3 r4 g1 g2 g3 g4 o1 o2 o3 o4; have hwx0 := HT2.out.lt0; have hwx1 := HT2.out.lt1; have hne0 := Nat.ne_of_lt hwx0; have hne1 := Nat.ne_of_lt hwx1) | (have HT1 := hdq (HT.out.later hbx); obtain ⟨⟨⟨⟨⟨l1, l2, l3, l4⟩, _⟩, ⟨⟨m1, m2, m3, m4⟩, _⟩, _⟩, ⟨⟨r1, r2, r3, r4⟩, g1, g2, g3, g4⟩, _⟩, ⟨⟨o1, o2, o3, o4⟩, _⟩, hsx⟩ := HT1.out; simp only [Nat.zero_add] at l1 l2 l3 l4 m1 m2 m3 m4 r1 r2 r3 r4 g1 g2 g3 g4 o1 o2 o3 o4)); clear hbx) | (go_at_call 37; refine (RPlain_exp _ _ _ _ (HW.out _) _).mono ?_; rintro e wy ⟨rfl, hby⟩; have HT3 := hdq ((HT2.out.later (((Below.refl _ _).alloc (Nat.le_refl _) _).drew)).later hby); obtain ⟨⟨⟨⟨⟨l1, l2, l3, l4⟩, _⟩, ⟨⟨m1, m2, m3, m4⟩, _⟩, _⟩, ⟨⟨r1, r2, r3, r4⟩, g1, g2, g3, g4⟩, _⟩, ⟨⟨o1, o2, o3, o4⟩, _⟩, hsx⟩ := HT3.out; simp only [Nat.zero_add] at l1 l2 l3 l4 m1 m2 m3 m4 r1 r2 r3 r4 g1 g2 g3 g4 o1 o2 o3 o4; clear hby))
  exact ret_val2 Tryz.results92 rfl rfl rfl (HT3.out.1.2.1.stored (rplainV ⟨3, 0, someNan f f' _, ⟨#[]⟩⟩)) ⟨⟨_, rfl, HAL.out _, rplainV_wf _ (HW.out _)⟩, below_val HT3.out.below (by omega) _ _ _ _⟩
 | some r =>
  have hr := fun t w => run_float_arith (P := Tryz.prog) w .add t .f64 f f' r hb
  have HW := hdq (fl_wf (FloatsTo.some hb).1)
  have HAL := hdq (rplain_alike r)
  clear hb
  go_enter Tryz.func92, Tryz.ntmps92
  go_wp2_with (first | (go_at_call 122; refine (rnumber_exp _ _ _ _ (by assumption) _).mono ?_; (try rw [HN.out]); (try rw [HQ.out]); rintro e wx ⟨rfl, hbx⟩; (first | (have HT2 := hdq (HT1.out.later hbx); obtain ⟨⟨⟨⟨⟨l1, l2, l3, l4⟩, _⟩, ⟨⟨m1, m2, m3, m4⟩, _⟩, _⟩, ⟨⟨r1, r2, r3, r4⟩, g1, g2, g3, g4⟩, _⟩, ⟨⟨o1, o2, o3, o4⟩, _⟩, hsx⟩ := HT2.out; simp only [Nat.zero_add] at l1 l2 l3 l4 m1 m2 m3 m4 r1 r2 r3 r4 g1 g2 g3 g4 o1 o2 o3 o4; have hwx0 := HT2.out.lt0; have hwx1 := HT2.out.lt1; have hne0 := Nat.ne_of_lt hwx0; have hne1 := Nat.ne_of_lt hwx1) | (have HT1 := hdq (HT.out.later hbx); obtain ⟨⟨⟨⟨⟨l1, l2, l3, l4⟩, _⟩, ⟨⟨m1, m2, m3, m4⟩, _⟩, _⟩, ⟨⟨r1, r2, r3, r4⟩, g1, g2, g3, g4⟩, _⟩, ⟨⟨o1, o2, o3, o4⟩, _⟩, hsx⟩ := HT1.out; simp only [Nat.zero_add] at l1 l2 l3 l4 m1 m2 m3 m4 r1 r2 r3 r4 g1 g2 g3 g4 o1 o2 o3 o4)); clear hbx) | (go_at_call 37; refine (RPlain_exp _ _ _ _ HW.out _).mono ?_; rintro e wy ⟨rfl, hby⟩; have HT3 := hdq ((HT2.out.later (((Below.refl _ _).alloc (Nat.le_refl _) _))).later hby); obtain ⟨⟨⟨⟨⟨l1, l2, l3, l4⟩, _⟩, ⟨⟨m1, m2, m3, m4⟩, _⟩, _⟩, ⟨⟨r1, r2, r3, r4⟩, g1, g2, g3, g4⟩, _⟩, ⟨⟨o1, o2, o3, o4⟩, _⟩, hsx⟩ := HT3.out; simp only [Nat.zero_add] at l1 l2 l3 l4 m1 m2 m3 m4 r1 r2 r3 r4 g1 g2 g3 g4 o1 o2 o3 o4; clear hby))
  exact ret_val2 Tryz.results92 rfl rfl rfl (HT3.out.1.2.1.stored (rplainV ⟨3, 0, r, ⟨#[]⟩⟩)) ⟨⟨_, rfl, HAL.out, rplainV_wf _ HW.out⟩, below_val HT3.out.below (by omega) _ _ _ _⟩
set_option maxHeartbeats 4000000 in
theorem RCalc_three_4 (a b : Val) (ha : a.wf) (hb : b.wf) (na : numV a = true) (ka : a.kind = 3) (nb : numV b = true) (kb : b.kind = 3) (w : World) : Calls Tryz.prog 92 #[.int .i64 4, a.agg, b.agg] w
 fun e w' => (∃ v, e = .returned (.tuple #[v.agg, .int .i64 (calcV 4 a b).2]) ∧ Alike (calcV 4 a b).1 v ∧ v.wf) ∧ Below w.heap.size w w' := by
 have HT := hdq (FourB.start w a b Val.null Val.null 39 39 39 39)
 have hr : calcV 4 a b = (plainV ⟨3, 0, (brokenK 4 a.flt b.flt).getD nanF, ⟨#[]⟩⟩, 0) := by
  unfold calcV
  rw [if_neg (show ¬ (4 : Int) = 6 by omega)]
  unfold calcC
  rw [if_neg (by omega)]
  simp [na, nb, ka, kb]
 rw [hr]
 clear hr
 have hlt : a.flt < 2 ^ 64 := ha.2.2.1
 obtain ⟨k, n, f, s⟩ := a
 obtain ⟨k', n', f', s'⟩ := b
 obtain rfl : n = 0 := num_fl _ _ _ _ na ka
 obtain rfl : n' = 0 := num_fl _ _ _ _ nb kb
 unfold Val.agg Val.null at *
 simp only at *
 have HN := hdq na
 have HQ := hdq nb
 subst ka
 subst kb
 clear na nb
 have e : brokenK 4 f f' = floatBits .sub .f64 f f' := rfl
 rw [e]
 clear e hlt
 cases hb : floatBits .sub .f64 f f' with
 | none =>
  have hr := run_float_none .sub (by simp) f f' hb
  have HW : Hid (∀ W, Val.wf ⟨3, 0, someNan f f' W, ⟨#[]⟩⟩) := hdq (fun W => fl_wf (someNan_nan f f' W).2)
  have HAL : Hid (∀ W, Alike (plainV ⟨3, 0, (none : Option Nat).getD nanF, ⟨#[]⟩⟩) (rplainV ⟨3, 0, someNan f f' W, ⟨#[]⟩⟩)) := hdq (fun W => by
   have h1 := (FloatsTo.none f f' W).2
   rw [← h1]
   exact rplain_alike _)
  clear hb
  go_enter Tryz.func92, Tryz.ntmps92
  go_wp2_with (first | (go_at_call 122; refine (rnumber_exp _ _ _ _ (by assumption) _).mono ?_; (try rw [HN.out]); (try rw [HQ.out]); rintro e wx ⟨rfl, hbx⟩; (first | (have HT2 := hdq (HT1.out.later hbx); obtain ⟨⟨⟨⟨⟨l1, l2, l3, l4⟩, _⟩, ⟨⟨m1, m2, m3, m4⟩, _⟩, _⟩, ⟨⟨r1, r2, r3, r4⟩, g1, g2, g3, g4⟩, _⟩, ⟨⟨o1, o2, o3, o4⟩, _⟩, hsx⟩ := HT2.out; simp only [Nat.zero_add] at l1 l2 l3 l4 m1 m2 m3 m4 r1 r2 r3 r4 g1 g2 g3 g4 o1 o2 o3 o4; have hwx0 := HT2.out.lt0; have hwx1 := HT2.out.lt1; have hne0 := Nat.ne_of_lt hwx0; have hne1 := Nat.ne_of_lt hwx1) | (have HT1 := hdq (HT.out.later hbx); obtain ⟨⟨⟨⟨⟨l1, l2, l3, l4⟩, _⟩, ⟨⟨m1, m2, m3, m4⟩, _⟩, _⟩, ⟨⟨r1, r2, r3, r4⟩, g1, g2, g3, g4⟩, _⟩, ⟨⟨o1, o2, o3, o4⟩, _⟩, hsx⟩ := HT1.out; simp only [Nat.zero_add] at l1 l2 l3 l4 m1 m2 m3 m4 r1 r2 r3 r4 g1 g2 g3 g4 o1 o2 o3 o4)); clear hbx) | (go_at_call 37; refine (RPlain_exp _ _ _ _ (HW.out _) _).mono ?_; rintro e wy ⟨rfl, hby⟩; have HT3 := hdq ((HT2.out.later (((Below.refl _ _).alloc (Nat.le_refl _) _).drew)).later hby); obtain ⟨⟨⟨⟨⟨l1, l2, l3, l4⟩, _⟩, ⟨⟨m1, m2, m3, m4⟩, _⟩, _⟩, ⟨⟨r1, r2, r3, r4⟩, g1, g2, g3, g4⟩, _⟩, ⟨⟨o1, o2, o3, o4⟩, _⟩, hsx⟩ := HT3.out; simp only [Nat.zero_add] at l1 l2 l3 l4 m1 m2 m3 m4 r1 r2 r3 r4 g1 g2 g3 g4 o1 o2 o3 o4; clear hby))
  exact ret_val2 Tryz.results92 rfl rfl rfl (HT3.out.1.2.1.stored (rplainV ⟨3, 0, someNan f f' _, ⟨#[]⟩⟩)) ⟨⟨_, rfl, HAL.out _, rplainV_wf _ (HW.out _)⟩, below_val HT3.out.below (by omega) _ _ _ _⟩
 | some r =>
  have hr := fun t w => run_float_arith (P := Tryz.prog) w .sub t .f64 f f' r hb
  have HW := hdq (fl_wf (FloatsTo.some hb).1)
  have HAL := hdq (rplain_alike r)
  clear hb
  go_enter Tryz.func92, Tryz.ntmps92
  go_wp2_with (first | (go_at_call 122; refine (rnumber_exp _ _ _ _ (by assumption) _).mono ?_; (try rw [HN.out]); (try rw [HQ.out]); rintro e wx ⟨rfl, hbx⟩; (first | (have HT2 := hdq (HT1.out.later hbx); obtain ⟨⟨⟨⟨⟨l1, l2, l3, l4⟩, _⟩, ⟨⟨m1, m2, m3, m4⟩, _⟩, _⟩, ⟨⟨r1, r2, r3, r4⟩, g1, g2, g3, g4⟩, _⟩, ⟨⟨o1, o2, o3, o4⟩, _⟩, hsx⟩ := HT2.out; simp only [Nat.zero_add] at l1 l2 l3 l4 m1 m2 m3 m4 r1 r2 r3 r4 g1 g2 g3 g4 o1 o2 o3 o4; have hwx0 := HT2.out.lt0; have hwx1 := HT2.out.lt1; have hne0 := Nat.ne_of_lt hwx0; have hne1 := Nat.ne_of_lt hwx1) | (have HT1 := hdq (HT.out.later hbx); obtain ⟨⟨⟨⟨⟨l1, l2, l3, l4⟩, _⟩, ⟨⟨m1, m2, m3, m4⟩, _⟩, _⟩, ⟨⟨r1, r2, r3, r4⟩, g1, g2, g3, g4⟩, _⟩, ⟨⟨o1, o2, o3, o4⟩, _⟩, hsx⟩ := HT1.out; simp only [Nat.zero_add] at l1 l2 l3 l4 m1 m2 m3 m4 r1 r2 r3 r4 g1 g2 g3 g4 o1 o2 o3 o4)); clear hbx) | (go_at_call 37; refine (RPlain_exp _ _ _ _ HW.out _).mono ?_; rintro e wy ⟨rfl, hby⟩; have HT3 := hdq ((HT2.out.later (((Below.refl _ _).alloc (Nat.le_refl _) _))).later hby); obtain ⟨⟨⟨⟨⟨l1, l2, l3, l4⟩, _⟩, ⟨⟨m1, m2, m3, m4⟩, _⟩, _⟩, ⟨⟨r1, r2, r3, r4⟩, g1, g2, g3, g4⟩, _⟩, ⟨⟨o1, o2, o3, o4⟩, _⟩, hsx⟩ := HT3.out; simp only [Nat.zero_add] at l1 l2 l3 l4 m1 m2 m3 m4 r1 r2 r3 r4 g1 g2 g3 g4 o1 o2 o3 o4; clear hby))
  exact ret_val2 Tryz.results92 rfl rfl rfl (HT3.out.1.2.1.stored (rplainV ⟨3, 0, r, ⟨#[]⟩⟩)) ⟨⟨_, rfl, HAL.out, rplainV_wf _ HW.out⟩, below_val HT3.out.below (by omega) _ _ _ _⟩
set_option maxHeartbeats 4000000 in
theorem RCalc_three_5 (a b : Val) (ha : a.wf) (hb : b.wf) (na : numV a = true) (ka : a.kind = 3) (nb : numV b = true) (kb : b.kind = 3) (w : World) : Calls Tryz.prog 92 #[.int .i64 5, a.agg, b.agg] w
 fun e w' => (∃ v, e = .returned (.tuple #[v.agg, .int .i64 (calcV 5 a b).2]) ∧ Alike (calcV 5 a b).1 v ∧ v.wf) ∧ Below w.heap.size w w' := by
 have HT := hdq (FourB.start w a b Val.null Val.null 39 39 39 39)
 have hr : calcV 5 a b = (plainV ⟨3, 0, (brokenK 5 a.flt b.flt).getD nanF, ⟨#[]⟩⟩, 0) := by
  unfold calcV
  rw [if_neg (show ¬ (5 : Int) = 6 by omega)]
  unfold calcC
  rw [if_neg (by omega)]
  simp [na, nb, ka, kb]
 rw [hr]
 clear hr
 have hlt : a.flt < 2 ^ 64 := ha.2.2.1
 obtain ⟨k, n, f, s⟩ := a
 obtain ⟨k', n', f', s'⟩ := b
 obtain rfl : n = 0 := num_fl _ _ _ _ na ka
 obtain rfl : n' = 0 := num_fl _ _ _ _ nb kb
 unfold Val.agg Val.null at *
 simp only at *
 have HN := hdq na
 have HQ := hdq nb
 subst ka
 subst kb
 clear na nb
 have e : brokenK 5 f f' = floatBits .mul .f64 f f' := rfl
 rw [e]
 clear e hlt
 cases hb : floatBits .mul .f64 f f' with
 | none =>
  have hr := run_float_none .mul (by simp) f f' hb
  have HW : Hid (∀ W, Val.wf ⟨3, 0, someNan f f' W, ⟨#[]⟩⟩) := hdq (fun W => fl_wf (someNan_nan f f' W).2)
  have HAL : Hid (∀ W, Alike (plainV ⟨3, 0, (none : Option Nat).getD nanF, ⟨#[]⟩⟩) (rplainV ⟨3, 0, someNan f f' W, ⟨#[]⟩⟩)) := hdq (fun W => by
   have h1 := (FloatsTo.none f f' W).2
   rw [← h1]
   exact rplain_alike _)
  clear hb
  go_enter Tryz.func92, Tryz.ntmps92
  go_wp2_with (first | (go_at_call 122; refine (rnumber_exp _ _ _ _ (by assumption) _).mono ?_; (try rw [HN.out]); (try rw [HQ.out]); rintro e wx ⟨rfl, hbx⟩; (first | (have HT2 := hdq (HT1.out.later hbx); obtain ⟨⟨⟨⟨⟨l1, l2, l3, l4⟩, _⟩, ⟨⟨m1, m2, m3, m4⟩, _⟩, _⟩, ⟨⟨r1, r2, r3, r4⟩, g1, g2, g3, g4⟩, _⟩, ⟨⟨o1, o2, o3, o4⟩, _⟩, hsx⟩ := HT2.out; simp only [Nat.zero_add] at l1 l2 l3 l4 m1 m2 m3 m4 r1 r2 r3 r4 g1 g2 g3 g4 o1 o2 o3 o4; have hwx0 := HT2.out.lt0; have hwx1 := HT2.out.lt1; have hne0 := Nat.ne_of_lt hwx0; have hne1 := Nat.ne_of_lt hwx1) | (have HT1 := hdq (HT.out.later hbx); obtain ⟨⟨⟨⟨⟨l1, l2, l3, l4⟩, _⟩, ⟨⟨m1, m2, m3, m4⟩, _⟩, _⟩, ⟨⟨r1, r2, r3, r4⟩, g1, g2, g3, g4⟩, _⟩, ⟨⟨o1, o2, o3, o4⟩, _⟩, hsx⟩ := HT1.out; simp only [Nat.zero_add] at l1 l2 l3 l4 m1 m2 m3 m4 r1 r2 r3 r4 g1 g2 g3 g4 o1 o2 o3 o4)); clear hbx) | (go_at_call 37; refine (RPlain_exp _ _ _ _ (HW.out _) _).mono ?_; rintro e wy ⟨rfl, hby⟩; have HT3 := hdq ((HT2.out.later (((Below.refl _ _).alloc (Nat.le_refl _) _).drew)).later hby); obtain ⟨⟨⟨⟨⟨l1, l2, l3, l4⟩, _⟩, ⟨⟨m1, m2, m3, m4⟩, _⟩, _⟩, ⟨⟨r1, r2, r3, r4⟩, g1, g2, g3, g4⟩, _⟩, ⟨⟨o1, o2, o3, o4⟩, _⟩, hsx⟩ := HT3.out; simp only [Nat.zero_add] at l1 l2 l3 l4 m1 m2 m3 m4 r1 r2 r3 r4 g1 g2 g3 g4 o1 o2 o3 o4; clear hby))
  exact ret_val2 Tryz.results92 rfl rfl rfl (HT3.out.1.2.1.stored (rplainV ⟨3, 0, someNan f f' _, ⟨#[]⟩⟩)) ⟨⟨_, rfl, HAL.out _, rplainV_wf _ (HW.out _)⟩, below_val HT3.out.below (by omega) _ _ _ _⟩
 | some r =>
  have hr := fun t w => run_float_arith (P := Tryz.prog) w .mul t .f64 f f' r hb
  have HW := hdq (fl_wf (FloatsTo.some hb).1)
  have HAL := hdq (rplain_alike r)
  clear hb
  go_enter Tryz.func92, Tryz.ntmps92
  go_wp2_with (first | (go_at_call 122; refine (rnumber_exp _ _ _ _ (by assumption) _).mono ?_; (try rw [HN.out]); (try rw [HQ.out]); rintro e wx ⟨rfl, hbx⟩; (first | (have HT2 := hdq (HT1.out.later hbx); obtain ⟨⟨⟨⟨⟨l1, l2, l3, l4⟩, _⟩, ⟨⟨m1, m2, m3, m4⟩, _⟩, _⟩, ⟨⟨r1, r2, r3, r4⟩, g1, g2, g3, g4⟩, _⟩, ⟨⟨o1, o2, o3, o4⟩, _⟩, hsx⟩ := HT2.out; simp only [Nat.zero_add] at l1 l2 l3 l4 m1 m2 m3 m4 r1 r2 r3 r4 g1 g2 g3 g4 o1 o2 o3 o4; have hwx0 := HT2.out.lt0; have hwx1 := HT2.out.lt1; have hne0 := Nat.ne_of_lt hwx0; have hne1 := Nat.ne_of_lt hwx1) | (have HT1 := hdq (HT.out.later hbx); obtain ⟨⟨⟨⟨⟨l1, l2, l3, l4⟩, _⟩, ⟨⟨m1, m2, m3, m4⟩, _⟩, _⟩, ⟨⟨r1, r2, r3, r4⟩, g1, g2, g3, g4⟩, _⟩, ⟨⟨o1, o2, o3, o4⟩, _⟩, hsx⟩ := HT1.out; simp only [Nat.zero_add] at l1 l2 l3 l4 m1 m2 m3 m4 r1 r2 r3 r4 g1 g2 g3 g4 o1 o2 o3 o4)); clear hbx) | (go_at_call 37; refine (RPlain_exp _ _ _ _ HW.out _).mono ?_; rintro e wy ⟨rfl, hby⟩; have HT3 := hdq ((HT2.out.later (((Below.refl _ _).alloc (Nat.le_refl _) _))).later hby); obtain ⟨⟨⟨⟨⟨l1, l2, l3, l4⟩, _⟩, ⟨⟨m1, m2, m3, m4⟩, _⟩, _⟩, ⟨⟨r1, r2, r3, r4⟩, g1, g2, g3, g4⟩, _⟩, ⟨⟨o1, o2, o3, o4⟩, _⟩, hsx⟩ := HT3.out; simp only [Nat.zero_add] at l1 l2 l3 l4 m1 m2 m3 m4 r1 r2 r3 r4 g1 g2 g3 g4 o1 o2 o3 o4; clear hby))
  exact ret_val2 Tryz.results92 rfl rfl rfl (HT3.out.1.2.1.stored (rplainV ⟨3, 0, r, ⟨#[]⟩⟩)) ⟨⟨_, rfl, HAL.out, rplainV_wf _ HW.out⟩, below_val HT3.out.below (by omega) _ _ _ _⟩
set_option maxHeartbeats 4000000 in
theorem RCalc_three_6 (a b : Val) (ha : a.wf) (na : numV a = true) (ka : a.kind = 3) (w : World) : Calls Tryz.prog 92 #[.int .i64 6, a.agg, b.agg] w
 fun e w' => (∃ v, e = .returned (.tuple #[v.agg, .int .i64 (calcV 6 a b).2]) ∧ Alike (calcV 6 a b).1 v ∧ v.wf) ∧ Below w.heap.size w w' := by
 have HT := hdq (FourB.start w a a Val.null Val.null 39 39 39 39)
 have hr : calcV 6 a b = (plainV ⟨3, 0, (brokenK 6 a.flt a.flt).getD nanF, ⟨#[]⟩⟩, 0) := by
  unfold calcV
  rw [if_pos rfl]
  unfold calcC
  rw [if_neg (by omega)]
  simp [na, ka]
 rw [hr]
 clear hr
 have hlt : a.flt < 2 ^ 64 := ha.2.2.1
 obtain ⟨k, n, f, s⟩ := a
 obtain ⟨k', n', f', s'⟩ := b
 obtain rfl : n = 0 := num_fl _ _ _ _ na ka
 unfold Val.agg Val.null at *
 simp only at *
 have HN := hdq na
 have HQ := HN
 subst ka
 clear na 
 have HW := hdq (fl_wf (negFloat_lt f hlt))
 have HAL := hdq (rplain_alike (Op.negFloat .f64 f))
 have e : (brokenK 6 f f).getD nanF = Op.negFloat .f64 f := rfl
 rw [e]
 clear e hlt
 go_enter Tryz.func92, Tryz.ntmps92
 go_wp2_with (first | (go_at_call 122; refine (rnumber_exp _ _ _ _ (by assumption) _).mono ?_; (try rw [HN.out]); (try rw [HQ.out]); rintro e wx ⟨rfl, hbx⟩; (first | (have HT2 := hdq (HT1.out.later hbx); obtain ⟨⟨⟨⟨⟨l1, l2, l3, l4⟩, _⟩, ⟨⟨m1, m2, m3, m4⟩, _⟩, _⟩, ⟨⟨r1, r2, r3, r4⟩, g1, g2, g3, g4⟩, _⟩, ⟨⟨o1, o2, o3, o4⟩, _⟩, hsx⟩ := HT2.out; simp only [Nat.zero_add] at l1 l2 l3 l4 m1 m2 m3 m4 r1 r2 r3 r4 g1 g2 g3 g4 o1 o2 o3 o4; have hwx0 := HT2.out.lt0; have hwx1 := HT2.out.lt1; have hne0 := Nat.ne_of_lt hwx0; have hne1 := Nat.ne_of_lt hwx1) | (have HT1 := hdq (HT.out.later hbx); obtain ⟨⟨⟨⟨⟨l1, l2, l3, l4⟩, _⟩, ⟨⟨m1, m2, m3, m4⟩, _⟩, _⟩, ⟨⟨r1, r2, r3, r4⟩, g1, g2, g3, g4⟩, _⟩, ⟨⟨o1, o2, o3, o4⟩, _⟩, hsx⟩ := HT1.out; simp only [Nat.zero_add] at l1 l2 l3 l4 m1 m2 m3 m4 r1 r2 r3 r4 g1 g2 g3 g4 o1 o2 o3 o4)); clear hbx) | (go_at_call 37; refine (RPlain_exp _ _ _ _ HW.out _).mono ?_; rintro e wy ⟨rfl, hby⟩; have HT3 := hdq ((HT2.out.later (((Below.refl _ _).alloc (Nat.le_refl _) _))).later hby); obtain ⟨⟨⟨⟨⟨l1, l2, l3, l4⟩, _⟩, ⟨⟨m1, m2, m3, m4⟩, _⟩, _⟩, ⟨⟨r1, r2, r3, r4⟩, g1, g2, g3, g4⟩, _⟩, ⟨⟨o1, o2, o3, o4⟩, _⟩, hsx⟩ := HT3.out; simp only [Nat.zero_add] at l1 l2 l3 l4 m1 m2 m3 m4 r1 r2 r3 r4 g1 g2 g3 g4 o1 o2 o3 o4; clear hby))
 exact ret_val2 Tryz.results92 rfl rfl rfl (HT3.out.1.2.1.stored (rplainV ⟨3, 0, Op.negFloat .f64 f, ⟨#[]⟩⟩)) ⟨⟨_, rfl, HAL.out, rplainV_wf _ HW.out⟩, below_val HT3.out.below (by omega) _ _ _ _⟩
end Go.Proofs.YtgmolmpfihkolaaGreat
