/- Part of the proof. -/
import Derived.Test.YtgmolmpfihkolaaGreatD08
namespace Go.Proofs.YtgmolmpfihkolaaGreat
open Go.RowKit
set_option linter.unusedVariables false
theorem cmpI_neg (a b : Int) : cmpI b a = - cmpI a b := by
 unfold cmpI
 by_cases h1 : a < b
 ·rw [if_pos h1, if_neg (by omega), if_pos h1]; rfl
 ·by_cases h2 : b < a
  ·simp [h1, h2]
  ·simp [h1, h2]
theorem cmpI_le (a b : Int) : cmpI a b ≤ 0 ↔ a ≤ b := by
 unfold cmpI
 by_cases h1 : a < b
 ·rw [if_pos h1]; omega
 ·by_cases h2 : b < a
  ·rw [if_neg h1, if_pos h2]; omega
  ·rw [if_neg h1, if_neg h2]; omega
theorem cmpI_trans (a b c : Int) (h1 : cmpI a b ≤ 0) (h2 : cmpI b c ≤ 0) : cmpI a c ≤ 0 := by
 rw [cmpI_le] at *; omega
theorem cmpS_cases (a b : ByteArray) : cmpS a b = -1 ∨ cmpS a b = 0 ∨ cmpS a b = 1 := by
 unfold cmpS
 split
 ·exact .inl rfl
 ·split
  ·exact .inr (.inl rfl)
  ·exact .inr (.inr rfl)
theorem cmpS_neg (a b : ByteArray) : cmpS b a = - cmpS a b := by
 rcases cmpS_cases a b with h | h | h
 ·rw [h, (cmpS_vals b a).2.1.2 ((cmpS_vals a b).1.1 h)]; rfl
 ·rw [h, (cmpS_vals b a).2.2.2 ((cmpS_vals a b).2.2.1 h).symm]; rfl
 ·rw [h, (cmpS_vals b a).1.2 ((cmpS_vals a b).2.1.1 h)]
theorem cmpS_trans (a b c : ByteArray) (h1 : cmpS a b ≤ 0) (h2 : cmpS b c ≤ 0) : cmpS a c ≤ 0 := by
 have k : ∀ x y : ByteArray, cmpS x y ≤ 0 → Op.bytesLess x.toList y.toList = true ∨ x.toList = y.toList := by
  intro x y h
  rcases cmpS_cases x y with e | e | e
  ·exact .inl ((cmpS_vals x y).1.1 e)
  ·exact .inr ((cmpS_vals x y).2.2.1 e)
  ·omega
 rcases k a b h1 with e1 | e1 <;> rcases k b c h2 with e2 | e2
 ·rw [(cmpS_vals a c).1.2 (bl_trans _ _ _ e1 e2)]; omega
 ·rw [(cmpS_vals a c).1.2 (by rw [← e2]; exact e1)]; omega
 ·rw [(cmpS_vals a c).1.2 (by rw [e1]; exact e2)]; omega
 ·rw [(cmpS_vals a c).2.2.2 (e1.trans e2)]; omega
theorem cmpP_neg (a b : Val) : cmpP b a = - cmpP a b := by
 unfold cmpP
 by_cases hk : a.kind = b.kind
 ·simp only [hk, ne_eq, not_true_eq_false, if_false]
  by_cases h3 : b.kind = 3
  ·simp only [h3, if_true]; rw [cmpF_val, cmpF_val]; exact cmpI_neg _ _
  ·simp only [h3, if_false]
   by_cases h4 : b.kind = 4
   ·simp only [h4, if_true]; exact cmpS_neg _ _
   ·simp only [h4, if_false]; exact cmpI_neg _ _
 ·rw [if_pos (fun e => hk e.symm), if_pos hk]; exact cmpI_neg _ _
theorem cmpP_trans (a b c : Val) (h1 : cmpP a b ≤ 0) (h2 : cmpP b c ≤ 0) : cmpP a c ≤ 0 := by
 unfold cmpP at *
 by_cases k1 : a.kind = b.kind
 ·rw [if_neg (by rw [k1]; simp)] at h1
  by_cases k2 : b.kind = c.kind
  ·rw [if_neg (by rw [k2]; simp)] at h2
   rw [if_neg (by rw [k1, k2]; simp)]
   rw [k1] at h1 ⊢
   by_cases e3 : b.kind = 3
   ·rw [if_pos e3, cmpF_val] at *
    exact cmpI_trans _ _ _ h1 h2
   ·rw [if_neg e3] at *
    by_cases e4 : b.kind = 4
    ·rw [if_pos e4] at *
     exact cmpS_trans _ _ _ h1 h2
    ·rw [if_neg e4] at *
     exact cmpI_trans _ _ _ h1 h2
  ·rw [if_pos k2] at h2
   rw [k1, if_pos k2]; exact h2
 ·rw [if_pos k1] at h1
  by_cases k2 : b.kind = c.kind
  ·rw [← k2, if_pos k1]; exact h1
  ·rw [if_pos k2] at h2
   have := cmpI_trans _ _ _ h1 h2
   by_cases k3 : a.kind = c.kind
   ·exfalso
    rw [cmpI_le] at h1 h2
    omega
   ·rw [if_pos k3]; exact this
theorem cmpV_neg (a b : Val) : cmpV b a = - cmpV a b := cmpP_neg _ _
theorem cmpV_trans (a b c : Val) (h1 : cmpV a b ≤ 0) (h2 : cmpV b c ≤ 0) : cmpV a c ≤ 0 := cmpP_trans _ _ _ h1 h2
theorem cmpRow_neg : ∀ a b : List Val, cmpRow b a = - cmpRow a b
 | [], [] => rfl
 | [], _ :: _ => rfl
 | _ :: _, [] => rfl
 | a :: s, b :: t => by
  simp only [cmpRow]
  have h := cmpV_neg a b
  by_cases e : cmpV a b = 0
  ·rw [if_neg (by omega), if_neg (by omega)]; exact cmpRow_neg s t
  ·rw [if_pos (by omega), if_pos (by omega)]; exact h
theorem cmpRow_trans : ∀ a b c : List Val, cmpRow a b ≤ 0 → cmpRow b c ≤ 0 → cmpRow a c ≤ 0
 | [], [], [], _, _ => by simp [cmpRow]
 | [], _, _ :: _, _, _ => by simp [cmpRow]
 | [], _ :: _, [], _, _ => by simp [cmpRow]
 | _ :: _, [], _, h, _ => by simp [cmpRow] at h
 | _ :: _, _ :: _, [], _, h => by simp [cmpRow] at h
 | a :: s, b :: t, c :: u, h1, h2 => by
  simp only [cmpRow] at h1 h2 ⊢
  have n1 := cmpV_neg a b
  have n2 := cmpV_neg b c
  have n3 := cmpV_neg a c
  by_cases e1 : cmpV a b = 0
  ·by_cases e2 : cmpV b c = 0
   ·have t1 := cmpV_trans a b c (by omega) (by omega)
    have t2 := cmpV_trans c b a (by omega) (by omega)
    rw [if_neg (by omega)] at h1 h2 ⊢
    exact cmpRow_trans s t u h1 h2
   ·rw [if_pos (by omega)] at h2
    have t1 := cmpV_trans a b c (by omega) (by omega)
    have t2 : ¬ cmpV a c = 0 := fun e => by
     have := cmpV_trans c a b (by omega) (by omega)
     omega
    rw [if_pos t2]; exact t1
  ·rw [if_pos (by omega)] at h1
   have h2' : cmpV b c ≤ 0 := by
    by_cases e2 : cmpV b c = 0
    ·omega
    ·rw [if_pos (by omega)] at h2; exact h2
   have t1 := cmpV_trans a b c h1 h2'
   have t2 : ¬ cmpV a c = 0 := fun e => by
    have := cmpV_trans b c a h2' (by omega)
    omega
   rw [if_pos t2]; exact t1
end Go.Proofs.YtgmolmpfihkolaaGreat
namespace Go.Proofs.YtgmolmpfihkolaaGreat
open Go.RowKit
set_option maxRecDepth 100000
set_option linter.unusedVariables false
attribute [local go_sem] run_store_float
theorem add_zero0 (t : TypeId) (w : World) : (binOp .add t (.float .f64 0) (.float .f64 0)).run Tryz.prog w = .ok (.float .f64 0) w := run_float_arith w .add t .f64 _ _ _ (by kernel_rfl)
attribute [local go_sem] add_zero0
end Go.Proofs.YtgmolmpfihkolaaGreat
namespace Go.Proofs.YtgmolmpfihkolaaGreat
open Go.RowKit
set_option linter.unusedVariables false
set_option maxRecDepth 100000
attribute [local go_sem] run_store_float run_neg_float
theorem sub_zero0 (t : TypeId) (w : World) : (binOp .sub t (.float .f64 0) (.float .f64 0)).run Tryz.prog w = .ok (.float .f64 0) w := run_float_arith w .sub t .f64 _ _ _ (by kernel_rfl)
theorem mul_zero0 (t : TypeId) (w : World) : (binOp .mul t (.float .f64 0) (.float .f64 0)).run Tryz.prog w = .ok (.float .f64 0) w := run_float_arith w .mul t .f64 _ _ _ (by kernel_rfl)
attribute [local go_sem] add_zero0 sub_zero0 mul_zero0
end Go.Proofs.YtgmolmpfihkolaaGreat
namespace Go.Proofs.YtgmolmpfihkolaaGreat
open Go.RowKit
set_option linter.unusedVariables false
set_option maxRecDepth 100000
attribute [local go_sem] run_store_float run_neg_float
end Go.Proofs.YtgmolmpfihkolaaGreat
