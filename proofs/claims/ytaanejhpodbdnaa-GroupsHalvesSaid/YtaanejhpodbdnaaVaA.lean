/- Plain values: kind, number, float's bits, text; what floats are to one another. -/
import Derived.Test.YtaanejhpodbdnaaProg
import Derived.WalkKit
import Derived.WalkLawsBesides
import Derived.Lib.Hide
import Derived.Below
namespace Go.Proofs.Ytaanejhpodbdnaa
open Go.RowKit
set_option linter.unusedVariables false

/-- A value as plain data. -/
structure Val where
  kind : Int
  int : Int
  flt : Nat
  text : ByteArray
instance : Inhabited Val := ⟨⟨0, 0, 0, ByteArray.empty⟩⟩
def Val.null : Val := ⟨0, 0, 0, ⟨#[]⟩⟩
def Val.num (n : Int) : Val := ⟨2, n, 0, ⟨#[]⟩⟩

/-- What is known of each value that comes in. -/
def Val.wf (v : Val) : Prop := (Lit.int .i64 v.kind).wf = true ∧ (Lit.int .i64 v.int).wf = true ∧ v.flt < 2 ^ 64 ∧ v.text.size ≤ maxLen
/-- Its four cells, and the whole. -/
def Val.cells (v : Val) : List Value := [.int .i64 v.kind, .int .i64 v.int, .float .f64 v.flt, .string v.text]
def Val.agg (v : Val) : Value := .agg #[.int .i64 v.kind, .int .i64 v.int, .float .f64 v.flt, .string v.text]

theorem i64_bounds {n : Int} (h : (Lit.int .i64 n).wf = true) : -9223372036854775808 ≤ n ∧ n < 9223372036854775808 := by
  simp [Lit.wf, IntKind.min, IntKind.max, IntKind.signed, IntKind.bits] at h
  omega

/-- Is a float a NaN? -/
def nanB (f : Nat) : Bool := decide (9218868437227405312 < f % 9223372036854775808)

theorem read_cases (f : Nat) : (FloatKind.f64.format.read f) = if f % 9223372036854775808 < 4503599627370496 then .number (f / 9223372036854775808 % 2 == 1) (f % 9223372036854775808) (-1074)
    else if f % 9223372036854775808 < 9218868437227405312 then .number (f / 9223372036854775808 % 2 == 1) (4503599627370496 + f % 9223372036854775808 % 4503599627370496) (-1074 + ((f % 9223372036854775808 / 4503599627370496 - 1 : Nat) : Int))
    else if f % 9223372036854775808 = 9218868437227405312 then .infinity (f / 9223372036854775808 % 2 == 1)
    else .nan (f / 9223372036854775808 % 2 == 1) (f % 9223372036854775808 - 9218868437227405312) := rfl

theorem cmp_self (n : Int) : compare n n = .eq := by
  rw [Int.compare_eq_eq]
theorem signed_zero (s : Bool) (m k : Nat) : (compare (Ieee.signed s m k) 0 = .eq) ↔ m = 0 := by
  rw [Int.compare_eq_eq]
  unfold Ieee.signed
  rw [Nat.shiftLeft_eq]
  have hp : 0 < 2 ^ k := Nat.pow_pos (by omega)
  constructor
  · intro h
    have : m * 2 ^ k = 0 := by split at h <;> omega
    rcases Nat.mul_eq_zero.1 this with h | h
    · exact h
    · omega
  · intro h; subst h; simp

theorem order_self (f : Nat) : (FloatKind.f64.format.order f f == some .eq) = !nanB f := by
  unfold Ieee.Format.order nanB
  rw [read_cases]
  split
  · rename_i h
    simp [Ieee.Datum.order]; omega
  · split
    · rename_i h1 h2
      simp [Ieee.Datum.order]; omega
    · split
      · rename_i h1 h2 h3
        simp [Ieee.Datum.order]; omega
      · rename_i h1 h2 h3
        simp [Ieee.Datum.order]; omega

theorem read_zero : FloatKind.f64.format.read 0 = .number false 0 (-1074) := rfl
theorem order_zero (f : Nat) : (FloatKind.f64.format.order f 0 == some .eq) = decide (f % 9223372036854775808 = 0) := by
  unfold Ieee.Format.order
  rw [read_zero, read_cases]
  split
  · rename_i h
    have := signed_zero (f / 9223372036854775808 % 2 == 1) (f % 9223372036854775808) 0
    simp only [Ieee.Datum.order]
    by_cases h0 : f % 9223372036854775808 = 0
    · have h1 := this.2 h0
      simp [h0, Ieee.signed] at h1 ⊢
    · have h1 : ¬ compare (Ieee.signed (f / 9223372036854775808 % 2 == 1) (f % 9223372036854775808) 0) 0 = .eq := fun e => h0 (this.1 e)
      have e0 : Ieee.signed false 0 0 = 0 := rfl
      simp [h0, e0, h1]
  · split
    · rename_i h1 h2
      simp only [Ieee.Datum.order]
      have e0 : ∀ k, Ieee.signed false 0 k = 0 := fun k => by simp [Ieee.signed]
      rw [e0]
      generalize (-1074 + ((f % 9223372036854775808 / 4503599627370496 - 1 : Nat) : Int) - min (-1074 + ((f % 9223372036854775808 / 4503599627370496 - 1 : Nat) : Int)) (-1074)).toNat = k
      have := signed_zero (f / 9223372036854775808 % 2 == 1) (4503599627370496 + f % 9223372036854775808 % 4503599627370496) k
      have h0 : ¬ f % 9223372036854775808 = 0 := by omega
      have h3 : ¬ compare (Ieee.signed (f / 9223372036854775808 % 2 == 1) (4503599627370496 + f % 9223372036854775808 % 4503599627370496) k) 0 = .eq := fun e => by have := this.1 e; omega
      rw [decide_eq_false h0]
      exact beq_eq_false_iff_ne.2 (fun e => h3 (Option.some.inj e))
    · split
      · rename_i h1 h2 h3
        have h0 : ¬ f % 9223372036854775808 = 0 := by omega
        simp only [Ieee.Datum.order, h0, decide_false]
        cases (f / 9223372036854775808 % 2 == 1) <;> rfl
      · rename_i h1 h2 h3
        simp [Ieee.Datum.order]; omega

theorem order_nan (a b : Nat) (h : nanB a = true ∨ nanB b = true) : FloatKind.f64.format.order a b = none := by
  have key : ∀ f, nanB f = true → ∃ s t, FloatKind.f64.format.read f = .nan s t := by
    intro f hf
    unfold nanB at hf
    have hf' := of_decide_eq_true hf
    rw [read_cases, if_neg (by omega), if_neg (by omega), if_neg (by omega)]
    exact ⟨_, _, rfl⟩
  unfold Ieee.Format.order
  rcases h with h | h
  · obtain ⟨s, t, e⟩ := key a h
    rw [e]; rfl
  · obtain ⟨s, t, e⟩ := key b h
    rw [e]
    cases FloatKind.f64.format.read a <;> rfl
end Go.Proofs.Ytaanejhpodbdnaa
