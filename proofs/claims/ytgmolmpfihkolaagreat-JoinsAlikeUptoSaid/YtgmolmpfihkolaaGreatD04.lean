/- Part of the proof. -/
import Derived.Test.YtgmolmpfihkolaaGreatD03
import Derived.Laws.FloatArith
namespace Go.Proofs.YtgmolmpfihkolaaGreat
open Go.RowKit
set_option linter.unusedVariables false
set_option maxRecDepth 100000
def nanF : Nat := 9221120237041090561
def wholeK (op a b : Int) : Int := if op = 3 then wrap64 (a + b) else if op = 4 then wrap64 (a - b) else if op = 5 then wrap64 (a * b) else wrap64 (-a)
def brokenK (op : Int) (a b : Nat) : Option Nat := if op = 3 then floatBits .add .f64 a b else if op = 4 then floatBits .sub .f64 a b else if op = 5 then floatBits .mul .f64 a b else some (Op.negFloat .f64 a)
def calcC (op : Int) (a b : Val) : Val × Int :=
 if op < 3 ∨ 6 < op then (Val.null, 2)
 else if numV a && numV b then
  (
   if a.kind = 0 ∨ b.kind = 0 then (Val.null, 0)
   else if a.kind ≠ b.kind then (Val.null, 50)
   else if a.kind = 2 then (Val.num (wholeK op a.int b.int), 0)
   else (plainV ⟨3, 0, (brokenK op a.flt b.flt).getD nanF, ⟨#[]⟩⟩, 0))
 else (Val.null, 50)
def calcV (op : Int) (a b : Val) : Val × Int := calcC op a (if op = 6 then a else b)
def tI (b : Bool) : Int := if b then 1 else 0
def truthV (b : Bool) : Val := ⟨1, tI b, 0, ⟨#[]⟩⟩
def testV (op : Int) (a b : Val) : Val × Int :=
 if op < 7 ∨ 9 < op then (Val.null, 2)
 else if rightV a && rightV b then
  (
   if a.kind = 0 ∨ b.kind = 0 then (Val.null, 0)
   else if a.kind ≠ b.kind then (Val.null, 50)
   else (truthV (if op = 7 then decide (cmpV a b = 0) else if op = 8 then decide (cmpV a b < 0) else decide (cmpV a b ≤ 0)), 0))
 else (Val.null, 50)
def truthOk (v : Val) : Bool := rightV v && (decide (v.kind = 0) || decide (v.kind = 1))
def bothC (op : Int) (a c : Val) : Val × Int :=
 if op < 10 ∨ 12 < op then (Val.null, 2)
 else if truthOk a && truthOk c then
  (
   if op = 10 ∧ (a.kind = 1 ∧ a.int = 0 ∨ c.kind = 1 ∧ c.int = 0) then (truthV false, 0)
   else if op = 11 ∧ (a.kind = 1 ∧ a.int = 1 ∨ c.kind = 1 ∧ c.int = 1) then (truthV true, 0)
   else if a.kind = 0 ∨ c.kind = 0 then (Val.null, 0)
   else if op = 12 then (truthV (decide (a.int = 0)), 0)
   else (truthV (decide (op = 10)), 0))
 else (Val.null, 50)
def bothV (op : Int) (a b : Val) : Val × Int := bothC op a (if op = 12 then a else b)
theorem Alike.refl (a : Val) : Alike a a := ⟨rfl, rfl, rfl, rfl, rfl⟩
theorem Alike.trans {a b c : Val} (h : Alike a b) (h' : Alike b c) : Alike a c := ⟨h.1.trans h'.1, h.2.1.trans h'.2.1, h.2.2.1.trans h'.2.2.1, h.2.2.2.1.trans h'.2.2.2.1, h.2.2.2.2.trans h'.2.2.2.2⟩
theorem neg_val (f : Nat) (hf : f < 2 ^ 64) : Op.negFloat .f64 f = if f < 9223372036854775808 then f + 9223372036854775808 else f - 9223372036854775808 := by
 have e : Op.negFloat .f64 f = f ^^^ 2 ^ 63 := rfl
 rw [e]
 have h64 : (2 : Nat) ^ 64 = 18446744073709551616 := by decide
 have h63 : (2 : Nat) ^ 63 = 9223372036854775808 := by decide
 split
 ·rename_i h
  have h1 : f &&& 2 ^ 63 = 0 := by
   apply Nat.eq_of_testBit_eq
   intro i
   rw [Nat.testBit_and, Nat.testBit_two_pow, Nat.zero_testBit]
   by_cases hi : 63 = i
   ·subst hi
    rw [Nat.testBit_lt_two_pow (by omega)]; rfl
   ·simp [hi]
  have h2 := Nat.two_pow_add_eq_or_of_lt (i := 63) (b := f) (by omega) 1
  have h3 : f ^^^ 2 ^ 63 = 2 ^ 63 * 1 ||| f := by
   apply Nat.eq_of_testBit_eq
   intro i
   rw [Nat.testBit_xor, Nat.testBit_or, Nat.mul_one, Nat.testBit_two_pow]
   by_cases hi : 63 = i
   ·subst hi
    rw [Nat.testBit_lt_two_pow (by omega)]; simp
   ·simp [hi]
  rw [h3, ← h2]; omega
 ·rename_i h
  obtain ⟨g, rfl⟩ : ∃ g, f = 9223372036854775808 + g := ⟨f - 9223372036854775808, by omega⟩
  have hg : g < 2 ^ 63 := by omega
  have h2 := Nat.two_pow_add_eq_or_of_lt (i := 63) (b := g) hg 1
  have h3 : (9223372036854775808 + g) ^^^ 2 ^ 63 = g := by
   have : 9223372036854775808 + g = 2 ^ 63 * 1 ||| g := by rw [← h2]
   rw [this]
   apply Nat.eq_of_testBit_eq
   intro i
   rw [Nat.testBit_xor, Nat.testBit_or, Nat.mul_one, Nat.testBit_two_pow]
   by_cases hi : 63 = i
   ·subst hi
    rw [Nat.testBit_lt_two_pow hg]; simp
   ·simp [hi]
  rw [h3]; omega
theorem right_fl (f : Nat) : rightV ⟨3, 0, f, ⟨#[]⟩⟩ = true := by
 unfold rightV; simp
theorem plain_nan (f : Nat) (h : nanB f = true) : plainV ⟨3, 0, f, ⟨#[]⟩⟩ = ⟨3, 0, nanF, ⟨#[]⟩⟩ := by
 rw [(plain_flt _ (right_fl f) rfl).1]
 unfold canF; simp only [h, if_true]; rfl
theorem nanF_nan : nanB nanF = true := by decide
end Go.Proofs.YtgmolmpfihkolaaGreat
namespace Go.Proofs.YtgmolmpfihkolaaGreat
open Go.RowKit
set_option linter.unusedVariables false
set_option maxRecDepth 100000
attribute [local go_sem] run_store_float
theorem run_neg_float (f : Nat) : Op.unary .neg (.float .f64 f) = pure (.float .f64 (Op.negFloat .f64 f)) := rfl
attribute [local go_sem] run_neg_float
theorem whole_any (op a b : Int) (w : World) : Calls Tryz.prog 114 #[.int .i64 op, .int .i64 a, .int .i64 b] w fun e w' => e = .returned (.int .i64 (wholeK op a b)) ∧ w = w' := by
 unfold wholeK
 by_cases h3 : op = 3
 ·subst h3
  go_enter Tryz.func114, Tryz.ntmps114
  go_wp2
  go_ret
  exact ⟨rfl, rfl⟩
 ·rw [if_neg h3]
  by_cases h4 : op = 4
  ·subst h4
   go_enter Tryz.func114, Tryz.ntmps114
   go_wp2
   go_ret
   exact ⟨rfl, rfl⟩
  ·rw [if_neg h4]
   by_cases h5 : op = 5
   ·subst h5
    go_enter Tryz.func114, Tryz.ntmps114
    go_wp2
    go_ret
    exact ⟨rfl, rfl⟩
   ·rw [if_neg h5]
    go_enter Tryz.func114, Tryz.ntmps114
    go_wp2
    go_ret
    exact ⟨rfl, rfl⟩
def someNan (x y : Nat) (w : World) : Nat := (Question.nanBits .f64 x y).cut (w.tape w.drawn (.nanBits .f64 x y))
theorem someNan_nan (x y : Nat) (w : World) : nanB (someNan x y w) = true ∧ someNan x y w < 2 ^ 64 := by
 unfold someNan
 generalize w.tape w.drawn (.nanBits .f64 x y) = t
 have e : (Question.nanBits .f64 x y).cut t = t % 2 * 9223372036854775808 + 9218868437227405312 + 1 + t / 2 % 4503599627370495 := rfl
 rw [e]
 have h1 := Nat.mod_lt t (show 2 > 0 by omega)
 have h2 := Nat.mod_lt (t / 2) (show 4503599627370495 > 0 by omega)
 have h64 : (2 : Nat) ^ 64 = 18446744073709551616 := by decide
 generalize t / 2 % 4503599627370495 = u at *
 have h3 : t % 2 = 0 ∨ t % 2 = 1 := by omega
 generalize t % 2 = v at *
 unfold nanB
 rw [decide_eq_true_eq]
 rcases h3 with rfl | rfl <;> omega
theorem run_float_none (op : BinOp) (ho : op = .add ∨ op = .sub ∨ op = .mul) (x y : Nat) (h : floatBits op .f64 x y = none) (t : TypeId) (w : World) :
 (binOp op t (.float .f64 x) (.float .f64 y)).run Tryz.prog w = .ok (.float .f64 (someNan x y w)) w.drew := by
 unfold floatBits at h
 rcases ho with rfl | rfl | rfl <;> simp only at h
 all_goals simp [binOp, Op.floatArith, h, someNan, Question.forced]
def FloatsTo (r : Option Nat) (f : Nat) : Prop := f < 2 ^ 64 ∧ plainV ⟨3, 0, f, ⟨#[]⟩⟩ = plainV ⟨3, 0, r.getD nanF, ⟨#[]⟩⟩
theorem FloatsTo.none (x y : Nat) (w : World) : FloatsTo none (someNan x y w) := by
 obtain ⟨h1, h2⟩ := someNan_nan x y w
 exact ⟨h2, by rw [plain_nan _ h1, Option.getD_none, plain_nan _ nanF_nan]⟩
theorem FloatsTo.some {op : BinOp} {x y r : Nat} (h : floatBits op .f64 x y = some r) : FloatsTo (some r) r := by
 have := floatBits_wf h
 exact ⟨by simpa [Lit.wf] using this, rfl⟩
theorem negFloat_lt (f : Nat) (hf : f < 2 ^ 64) : Op.negFloat .f64 f < 2 ^ 64 := by
 rw [neg_val f hf]
 have h64 : (2 : Nat) ^ 64 = 18446744073709551616 := by decide
 split <;> omega
theorem broken_any (op : Int) (f g : Nat) (hf : f < 2 ^ 64) (w : World) : Calls Tryz.prog 115 #[.int .i64 op, .float .f64 f, .float .f64 g] w fun e w' => (∃ r, e = .returned (.float .f64 r) ∧ FloatsTo (brokenK op f g) r) ∧ Below w.heap.size w w' := by
 unfold brokenK
 by_cases h3 : op = 3
 ·subst h3
  rw [if_pos rfl]
  cases hb : floatBits .add .f64 f g with
  | none =>
   have hr := run_float_none .add (by simp) f g hb
   clear hb hf
   go_enter Tryz.func115, Tryz.ntmps115
   go_wp2
   go_ret
   exact ⟨⟨_, rfl, FloatsTo.none _ _ _⟩, (Below.refl _ w).drew⟩
  | some r =>
   have hr := fun t w => run_float_arith (P := Tryz.prog) w .add t .f64 f g r hb
   have hft := hdq (FloatsTo.some hb)
   clear hb hf
   go_enter Tryz.func115, Tryz.ntmps115
   go_wp2
   go_ret
   exact ⟨⟨_, rfl, hft.out⟩, Below.refl _ w⟩
 ·rw [if_neg h3]
  by_cases h4 : op = 4
  ·subst h4
   rw [if_pos rfl]
   cases hb : floatBits .sub .f64 f g with
   | none =>
    have hr := run_float_none .sub (by simp) f g hb
    clear hb hf
    go_enter Tryz.func115, Tryz.ntmps115
    go_wp2
    go_ret
    exact ⟨⟨_, rfl, FloatsTo.none _ _ _⟩, (Below.refl _ w).drew⟩
   | some r =>
    have hr := fun t w => run_float_arith (P := Tryz.prog) w .sub t .f64 f g r hb
    have hft := hdq (FloatsTo.some hb)
    clear hb hf
    go_enter Tryz.func115, Tryz.ntmps115
    go_wp2
    go_ret
    exact ⟨⟨_, rfl, hft.out⟩, Below.refl _ w⟩
  ·rw [if_neg h4]
   by_cases h5 : op = 5
   ·subst h5
    rw [if_pos rfl]
    cases hb : floatBits .mul .f64 f g with
    | none =>
     have hr := run_float_none .mul (by simp) f g hb
     clear hb hf
     go_enter Tryz.func115, Tryz.ntmps115
     go_wp2
     go_ret
     exact ⟨⟨_, rfl, FloatsTo.none _ _ _⟩, (Below.refl _ w).drew⟩
    | some r =>
     have hr := fun t w => run_float_arith (P := Tryz.prog) w .mul t .f64 f g r hb
     have hft := hdq (FloatsTo.some hb)
     clear hb hf
     go_enter Tryz.func115, Tryz.ntmps115
     go_wp2
     go_ret
     exact ⟨⟨_, rfl, hft.out⟩, Below.refl _ w⟩
   ·rw [if_neg h5]
    have hlt := hdq (negFloat_lt f hf)
    clear hf
    go_enter Tryz.func115, Tryz.ntmps115
    go_wp2
    go_ret
    exact ⟨⟨_, rfl, hlt.out, rfl⟩, Below.refl _ w⟩
end Go.Proofs.YtgmolmpfihkolaaGreat
namespace Go.Proofs.YtgmolmpfihkolaaGreat
open Go.RowKit
set_option linter.unusedVariables false
set_option maxRecDepth 100000
attribute [local go_sem] run_store_float
theorem numV_kind (v : Val) (h : numV v = true) : v.kind = 0 ∨ v.kind = 2 ∨ v.kind = 3 := by
 unfold numV at h
 rw [Bool.and_eq_true] at h
 have h1 := right_kind v h.1
 have h2 := h.2
 simp at h2
 omega
theorem fl_wf {f : Nat} (h : f < 2 ^ 64) : (Val.mk 3 0 f ⟨#[]⟩).wf := ⟨by show (Lit.int .i64 3).wf = true; decide, by show (Lit.int .i64 0).wf = true; decide, h, Nat.zero_le _⟩
theorem broken_lt (op : Int) (f g : Nat) (hf : f < 2 ^ 64) : (brokenK op f g).getD nanF < 2 ^ 64 := by
 have key : ∀ o : BinOp, (floatBits o .f64 f g).getD nanF < 2 ^ 64 := by
  intro o
  cases h : floatBits o .f64 f g with
  | none => decide
  | some r => have := floatBits_wf h; simpa [Lit.wf] using this
 unfold brokenK
 split
 ·exact key _
 ·split
  ·exact key _
  ·split
   ·exact key _
   ·exact negFloat_lt f hf
theorem whole_wf (op a b : Int) : (Lit.int .i64 (wholeK op a b)).wf = true := by
 unfold wholeK
 split
 ·exact wrap_wf _
 ·split
  ·exact wrap_wf _
  ·split
   ·exact wrap_wf _
   ·exact wrap_wf _
theorem calcC_wf (op : Int) (a b : Val) (ha : a.wf) : (calcC op a b).1.wf := by
 unfold calcC
 split
 ·exact null_wf
 ·split
  ·split
   ·exact null_wf
   ·split
    ·exact null_wf
    ·split
     ·exact num_wf (whole_wf _ _ _)
     ·exact plainV_wf _ (fl_wf (broken_lt _ _ _ ha.2.2.1))
  ·exact null_wf
theorem calcV_wf (op : Int) (a b : Val) (ha : a.wf) : (calcV op a b).1.wf := calcC_wf _ _ _ ha
set_option maxHeartbeats 4000000 in
theorem Calc_other (op : Int) (a b : Val) (ha : a.wf) (hb : b.wf) (h3 : 3 ≤ op) (h6 : op < 6) (w : World) : Calls Tryz.prog 81 #[.int .i64 op, a.agg, b.agg] w
 fun e w' => e = .returned (.tuple #[(calcV op a b).1.agg, .int .i64 (calcV op a b).2]) ∧ Below w.heap.size w w' := by
 have HT := hdq (Three.start w a b Val.null 39 39 39)
 have hfa : a.flt < 2 ^ 64 := ha.2.2.1
 have hka := numV_kind a
 have hkb := numV_kind b
 obtain ⟨r, hr⟩ : ∃ r, r = calcV op a b := ⟨_, rfl⟩
 rw [← hr]
 have hn6 : ¬ op = 6 := by omega
 unfold calcV calcC at hr
 rw [if_neg (by omega), if_neg hn6] at hr
 obtain ⟨k, n, f, s⟩ := a
 obtain ⟨k', n', f', s'⟩ := b
 unfold Val.agg Val.null at *
 simp only at *
 obtain ⟨qa, hqa⟩ : ∃ q, q = numV ⟨k, n, f, s⟩ := ⟨_, rfl⟩
 obtain ⟨qb, hqb⟩ : ∃ q, q = numV ⟨k', n', f', s'⟩ := ⟨_, rfl⟩
 rw [← hqa] at hr hka
 rw [← hqb] at hr hkb
 have HN := hdq hqa.symm
 have HQ := hdq hqb.symm
 have HBR := hdq (fun W => broken_any op f f' hfa W)
 have z3 : ¬ op < 3 := by omega
 have z6 : ¬ 6 < op := by omega
 have z66 : (op == 6) = false := by simp; exact hn6
 clear hqa hqb hfa h3 h6
 cases qa with
 | false =>
  rw [if_neg (by simp)] at hr
  subst hr
  clear hka hkb
  go_enter Tryz.func81, Tryz.ntmps81
  go_wp2_with (first | (go_at_call 113; refine (numeric_exp _ _ _ _ (by assumption) _).mono ?_; (try rw [HN.out]); (try rw [HQ.out]); rintro e wx ⟨rfl, hbx⟩; (first | (have HT2 := hdq (HT1.out.later hbx); obtain ⟨⟨⟨⟨l1, l2, l3, l4⟩, _⟩, ⟨⟨m1, m2, m3, m4⟩, _⟩, _⟩, ⟨⟨r1, r2, r3, r4⟩, g1, g2, g3, g4⟩, hsx⟩ := HT2.out) | (have HT1 := hdq (HT.out.later hbx); obtain ⟨⟨⟨⟨l1, l2, l3, l4⟩, _⟩, ⟨⟨m1, m2, m3, m4⟩, _⟩, _⟩, ⟨⟨r1, r2, r3, r4⟩, g1, g2, g3, g4⟩, hsx⟩ := HT1.out)); simp only [Nat.zero_add] at l1 l2 l3 l4 m1 m2 m3 m4 r1 r2 r3 r4 g1 g2 g3 g4; clear hbx))
  exact ret_val2 Tryz.results81 rfl rfl rfl (HT1.out.2.1.stored ⟨0, 0, 0, ⟨#[]⟩⟩) ⟨rfl, below_val HT1.out.below (by omega) _ _ _ _⟩
 | true =>
  cases qb with
  | false =>
   rw [if_neg (by simp)] at hr
   subst hr
   clear hka hkb
   go_enter Tryz.func81, Tryz.ntmps81
   go_wp2_with (first | (go_at_call 113; refine (numeric_exp _ _ _ _ (by assumption) _).mono ?_; (try rw [HN.out]); (try rw [HQ.out]); rintro e wx ⟨rfl, hbx⟩; (first | (have HT2 := hdq (HT1.out.later hbx); obtain ⟨⟨⟨⟨l1, l2, l3, l4⟩, _⟩, ⟨⟨m1, m2, m3, m4⟩, _⟩, _⟩, ⟨⟨r1, r2, r3, r4⟩, g1, g2, g3, g4⟩, hsx⟩ := HT2.out) | (have HT1 := hdq (HT.out.later hbx); obtain ⟨⟨⟨⟨l1, l2, l3, l4⟩, _⟩, ⟨⟨m1, m2, m3, m4⟩, _⟩, _⟩, ⟨⟨r1, r2, r3, r4⟩, g1, g2, g3, g4⟩, hsx⟩ := HT1.out)); simp only [Nat.zero_add] at l1 l2 l3 l4 m1 m2 m3 m4 r1 r2 r3 r4 g1 g2 g3 g4; clear hbx))
   exact ret_val2 Tryz.results81 rfl rfl rfl (HT2.out.2.1.stored ⟨0, 0, 0, ⟨#[]⟩⟩) ⟨rfl, below_val HT2.out.below (by omega) _ _ _ _⟩
  | true =>
   rw [Bool.true_and, if_pos rfl] at hr
   have hka := hka rfl
   have hkb := hkb rfl
   by_cases h0 : k = 0
   ·subst h0
    rw [if_pos (.inl rfl)] at hr
    subst hr
    clear hkb
    go_enter Tryz.func81, Tryz.ntmps81
    go_wp2_with (first | (go_at_call 113; refine (numeric_exp _ _ _ _ (by assumption) _).mono ?_; (try rw [HN.out]); (try rw [HQ.out]); rintro e wx ⟨rfl, hbx⟩; (first | (have HT2 := hdq (HT1.out.later hbx); obtain ⟨⟨⟨⟨l1, l2, l3, l4⟩, _⟩, ⟨⟨m1, m2, m3, m4⟩, _⟩, _⟩, ⟨⟨r1, r2, r3, r4⟩, g1, g2, g3, g4⟩, hsx⟩ := HT2.out) | (have HT1 := hdq (HT.out.later hbx); obtain ⟨⟨⟨⟨l1, l2, l3, l4⟩, _⟩, ⟨⟨m1, m2, m3, m4⟩, _⟩, _⟩, ⟨⟨r1, r2, r3, r4⟩, g1, g2, g3, g4⟩, hsx⟩ := HT1.out)); simp only [Nat.zero_add] at l1 l2 l3 l4 m1 m2 m3 m4 r1 r2 r3 r4 g1 g2 g3 g4; clear hbx))
    exact ret_val2 Tryz.results81 rfl rfl rfl (HT2.out.2.1.stored ⟨0, 0, 0, ⟨#[]⟩⟩) ⟨rfl, below_val HT2.out.below (by omega) _ _ _ _⟩
   ·have e0 : (k == 0) = false := by simp; exact h0
    by_cases h0' : k' = 0
    ·subst h0'
     rw [if_pos (.inr rfl)] at hr
     subst hr
     clear hka hkb
     go_enter Tryz.func81, Tryz.ntmps81
     go_wp2_with (first | (go_at_call 113; refine (numeric_exp _ _ _ _ (by assumption) _).mono ?_; (try rw [HN.out]); (try rw [HQ.out]); rintro e wx ⟨rfl, hbx⟩; (first | (have HT2 := hdq (HT1.out.later hbx); obtain ⟨⟨⟨⟨l1, l2, l3, l4⟩, _⟩, ⟨⟨m1, m2, m3, m4⟩, _⟩, _⟩, ⟨⟨r1, r2, r3, r4⟩, g1, g2, g3, g4⟩, hsx⟩ := HT2.out) | (have HT1 := hdq (HT.out.later hbx); obtain ⟨⟨⟨⟨l1, l2, l3, l4⟩, _⟩, ⟨⟨m1, m2, m3, m4⟩, _⟩, _⟩, ⟨⟨r1, r2, r3, r4⟩, g1, g2, g3, g4⟩, hsx⟩ := HT1.out)); simp only [Nat.zero_add] at l1 l2 l3 l4 m1 m2 m3 m4 r1 r2 r3 r4 g1 g2 g3 g4; clear hbx))
     exact ret_val2 Tryz.results81 rfl rfl rfl (HT2.out.2.1.stored ⟨0, 0, 0, ⟨#[]⟩⟩) ⟨rfl, below_val HT2.out.below (by omega) _ _ _ _⟩
    ·have e0' : (k' == 0) = false := by simp; exact h0'
     rw [if_neg (by omega)] at hr
     by_cases hkk : k = k'
     ·subst hkk
      rw [if_neg (by simp)] at hr
      by_cases h2 : k = 2
      ·subst h2
       rw [if_pos rfl] at hr
       subst hr
       clear hka hkb
       go_enter Tryz.func81, Tryz.ntmps81
       go_wp2_with (first | (go_at_call 113; refine (numeric_exp _ _ _ _ (by assumption) _).mono ?_; (try rw [HN.out]); (try rw [HQ.out]); rintro e wx ⟨rfl, hbx⟩; (first | (have HT2 := hdq (HT1.out.later hbx); obtain ⟨⟨⟨⟨l1, l2, l3, l4⟩, _⟩, ⟨⟨m1, m2, m3, m4⟩, _⟩, _⟩, ⟨⟨r1, r2, r3, r4⟩, g1, g2, g3, g4⟩, hsx⟩ := HT2.out) | (have HT1 := hdq (HT.out.later hbx); obtain ⟨⟨⟨⟨l1, l2, l3, l4⟩, _⟩, ⟨⟨m1, m2, m3, m4⟩, _⟩, _⟩, ⟨⟨r1, r2, r3, r4⟩, g1, g2, g3, g4⟩, hsx⟩ := HT1.out)); simp only [Nat.zero_add] at l1 l2 l3 l4 m1 m2 m3 m4 r1 r2 r3 r4 g1 g2 g3 g4; clear hbx) | (go_at_call 114; refine (whole_any _ _ _ _).mono ?_; rintro e w' ⟨rfl, rfl⟩) | (go_at_call 30; refine (Number_exp _ _).mono ?_; rintro e wy ⟨rfl, hby⟩; have HT3 := hdq (HT2.out.later hby); obtain ⟨_, ⟨⟨r1, r2, r3, r4⟩, g1, g2, g3, g4⟩, hsx⟩ := HT3.out; simp only [Nat.zero_add] at r1 r2 r3 r4 g1 g2 g3 g4; clear hby))
       exact ret_val2 Tryz.results81 rfl rfl rfl (HT3.out.2.1.stored ⟨2, wholeK op n n', 0, ⟨#[]⟩⟩) ⟨rfl, below_val HT3.out.below (by omega) _ _ _ _⟩
      ·obtain rfl : k = 3 := by omega
       rw [if_neg (by decide)] at hr
       obtain ⟨pl, hpl⟩ : ∃ p, p = plainV ⟨3, 0, (brokenK op f f').getD nanF, ⟨#[]⟩⟩ := ⟨_, rfl⟩
       unfold FloatsTo at HBR
       rw [← hpl] at hr HBR
       subst hr
       clear hka hkb h2 hpl
       go_enter Tryz.func81, Tryz.ntmps81
       go_wp2_with (first | (go_at_call 113; refine (numeric_exp _ _ _ _ (by assumption) _).mono ?_; (try rw [HN.out]); (try rw [HQ.out]); rintro e wx ⟨rfl, hbx⟩; (first | (have HT2 := hdq (HT1.out.later hbx); obtain ⟨⟨⟨⟨l1, l2, l3, l4⟩, _⟩, ⟨⟨m1, m2, m3, m4⟩, _⟩, _⟩, ⟨⟨r1, r2, r3, r4⟩, g1, g2, g3, g4⟩, hsx⟩ := HT2.out) | (have HT1 := hdq (HT.out.later hbx); obtain ⟨⟨⟨⟨l1, l2, l3, l4⟩, _⟩, ⟨⟨m1, m2, m3, m4⟩, _⟩, _⟩, ⟨⟨r1, r2, r3, r4⟩, g1, g2, g3, g4⟩, hsx⟩ := HT1.out)); simp only [Nat.zero_add] at l1 l2 l3 l4 m1 m2 m3 m4 r1 r2 r3 r4 g1 g2 g3 g4; clear hbx) | (go_at_call 115; refine (HBR.out _).mono ?_; rintro e wy ⟨⟨fl, rfl, hft⟩, hby⟩; have HFT := hdq hft; have HT3 := hdq (HT2.out.later hby); obtain ⟨_, ⟨⟨r1, r2, r3, r4⟩, g1, g2, g3, g4⟩, hsx⟩ := HT3.out; simp only [Nat.zero_add] at r1 r2 r3 r4 g1 g2 g3 g4; clear hby hft) | (go_at_call 35; refine (Plain_exp _ _ _ _ (fl_wf HFT.out.1) _).mono ?_; rw [HFT.out.2]; rintro e wz ⟨rfl, hbz⟩; have HT4 := hdq (HT3.out.later hbz); obtain ⟨_, ⟨⟨r1, r2, r3, r4⟩, g1, g2, g3, g4⟩, hsx⟩ := HT4.out; simp only [Nat.zero_add] at r1 r2 r3 r4 g1 g2 g3 g4; clear hbz))
       exact ret_val2 Tryz.results81 rfl rfl rfl (HT4.out.2.1.stored pl) ⟨rfl, below_val HT4.out.below (by omega) _ _ _ _⟩
     ·rw [if_pos hkk] at hr
      have ekk : (k != k') = true := by simp; exact hkk
      subst hr
      clear hka hkb
      go_enter Tryz.func81, Tryz.ntmps81
      go_wp2_with (first | (go_at_call 113; refine (numeric_exp _ _ _ _ (by assumption) _).mono ?_; (try rw [HN.out]); (try rw [HQ.out]); rintro e wx ⟨rfl, hbx⟩; (first | (have HT2 := hdq (HT1.out.later hbx); obtain ⟨⟨⟨⟨l1, l2, l3, l4⟩, _⟩, ⟨⟨m1, m2, m3, m4⟩, _⟩, _⟩, ⟨⟨r1, r2, r3, r4⟩, g1, g2, g3, g4⟩, hsx⟩ := HT2.out) | (have HT1 := hdq (HT.out.later hbx); obtain ⟨⟨⟨⟨l1, l2, l3, l4⟩, _⟩, ⟨⟨m1, m2, m3, m4⟩, _⟩, _⟩, ⟨⟨r1, r2, r3, r4⟩, g1, g2, g3, g4⟩, hsx⟩ := HT1.out)); simp only [Nat.zero_add] at l1 l2 l3 l4 m1 m2 m3 m4 r1 r2 r3 r4 g1 g2 g3 g4; clear hbx))
      exact ret_val2 Tryz.results81 rfl rfl rfl (HT2.out.2.1.stored ⟨0, 0, 0, ⟨#[]⟩⟩) ⟨rfl, below_val HT2.out.below (by omega) _ _ _ _⟩
set_option maxHeartbeats 4000000 in
theorem Calc_neg (a b : Val) (ha : a.wf) (w : World) : Calls Tryz.prog 81 #[.int .i64 6, a.agg, b.agg] w
 fun e w' => e = .returned (.tuple #[(calcV 6 a b).1.agg, .int .i64 (calcV 6 a b).2]) ∧ Below w.heap.size w w' := by
 have HT := hdq (Three.start w a a Val.null 39 39 39)
 have hfa : a.flt < 2 ^ 64 := ha.2.2.1
 have hka := numV_kind a
 obtain ⟨r, hr⟩ : ∃ r, r = calcV 6 a b := ⟨_, rfl⟩
 rw [← hr]
 unfold calcV calcC at hr
 rw [if_neg (by omega), if_pos rfl] at hr
 obtain ⟨k, n, f, s⟩ := a
 obtain ⟨k', n', f', s'⟩ := b
 unfold Val.agg Val.null at *
 simp only at *
 obtain ⟨qa, hqa⟩ : ∃ q, q = numV ⟨k, n, f, s⟩ := ⟨_, rfl⟩
 rw [← hqa] at hr hka
 have HN := hdq hqa.symm
 have HBR := hdq (fun W => broken_any 6 f f hfa W)
 clear hqa hfa
 cases qa with
 | false =>
  rw [if_neg (by simp)] at hr
  subst hr
  clear hka
  go_enter Tryz.func81, Tryz.ntmps81
  go_wp2_with (first | (go_at_call 113; refine (numeric_exp _ _ _ _ (by assumption) _).mono ?_; (try rw [HN.out]); rintro e wx ⟨rfl, hbx⟩; (first | (have HT2 := hdq (HT1.out.later hbx); obtain ⟨⟨⟨⟨l1, l2, l3, l4⟩, _⟩, ⟨⟨m1, m2, m3, m4⟩, _⟩, _⟩, ⟨⟨r1, r2, r3, r4⟩, g1, g2, g3, g4⟩, hsx⟩ := HT2.out) | (have HT1 := hdq (HT.out.later hbx); obtain ⟨⟨⟨⟨l1, l2, l3, l4⟩, _⟩, ⟨⟨m1, m2, m3, m4⟩, _⟩, _⟩, ⟨⟨r1, r2, r3, r4⟩, g1, g2, g3, g4⟩, hsx⟩ := HT1.out)); simp only [Nat.zero_add] at l1 l2 l3 l4 m1 m2 m3 m4 r1 r2 r3 r4 g1 g2 g3 g4; clear hbx))
  exact ret_val2 Tryz.results81 rfl rfl rfl (HT1.out.2.1.stored ⟨0, 0, 0, ⟨#[]⟩⟩) ⟨rfl, below_val HT1.out.below (by omega) _ _ _ _⟩
 | true =>
  rw [Bool.true_and, if_pos rfl] at hr
  have hka := hka rfl
  by_cases h0 : k = 0
  ·subst h0
   rw [if_pos (.inl rfl)] at hr
   subst hr
   go_enter Tryz.func81, Tryz.ntmps81
   go_wp2_with (first | (go_at_call 113; refine (numeric_exp _ _ _ _ (by assumption) _).mono ?_; (try rw [HN.out]); rintro e wx ⟨rfl, hbx⟩; (first | (have HT2 := hdq (HT1.out.later hbx); obtain ⟨⟨⟨⟨l1, l2, l3, l4⟩, _⟩, ⟨⟨m1, m2, m3, m4⟩, _⟩, _⟩, ⟨⟨r1, r2, r3, r4⟩, g1, g2, g3, g4⟩, hsx⟩ := HT2.out) | (have HT1 := hdq (HT.out.later hbx); obtain ⟨⟨⟨⟨l1, l2, l3, l4⟩, _⟩, ⟨⟨m1, m2, m3, m4⟩, _⟩, _⟩, ⟨⟨r1, r2, r3, r4⟩, g1, g2, g3, g4⟩, hsx⟩ := HT1.out)); simp only [Nat.zero_add] at l1 l2 l3 l4 m1 m2 m3 m4 r1 r2 r3 r4 g1 g2 g3 g4; clear hbx))
   exact ret_val2 Tryz.results81 rfl rfl rfl (HT2.out.2.1.stored ⟨0, 0, 0, ⟨#[]⟩⟩) ⟨rfl, below_val HT2.out.below (by omega) _ _ _ _⟩
  ·have e0 : (k == 0) = false := by simp; exact h0
   rw [if_neg (by omega), if_neg (by simp)] at hr
   by_cases h2 : k = 2
   ·subst h2
    rw [if_pos rfl] at hr
    subst hr
    clear hka
    go_enter Tryz.func81, Tryz.ntmps81
    go_wp2_with (first | (go_at_call 113; refine (numeric_exp _ _ _ _ (by assumption) _).mono ?_; (try rw [HN.out]); rintro e wx ⟨rfl, hbx⟩; (first | (have HT2 := hdq (HT1.out.later hbx); obtain ⟨⟨⟨⟨l1, l2, l3, l4⟩, _⟩, ⟨⟨m1, m2, m3, m4⟩, _⟩, _⟩, ⟨⟨r1, r2, r3, r4⟩, g1, g2, g3, g4⟩, hsx⟩ := HT2.out) | (have HT1 := hdq (HT.out.later hbx); obtain ⟨⟨⟨⟨l1, l2, l3, l4⟩, _⟩, ⟨⟨m1, m2, m3, m4⟩, _⟩, _⟩, ⟨⟨r1, r2, r3, r4⟩, g1, g2, g3, g4⟩, hsx⟩ := HT1.out)); simp only [Nat.zero_add] at l1 l2 l3 l4 m1 m2 m3 m4 r1 r2 r3 r4 g1 g2 g3 g4; clear hbx) | (go_at_call 114; refine (whole_any _ _ _ _).mono ?_; rintro e w' ⟨rfl, rfl⟩) | (go_at_call 30; refine (Number_exp _ _).mono ?_; rintro e wy ⟨rfl, hby⟩; have HT3 := hdq (HT2.out.later hby); obtain ⟨_, ⟨⟨r1, r2, r3, r4⟩, g1, g2, g3, g4⟩, hsx⟩ := HT3.out; simp only [Nat.zero_add] at r1 r2 r3 r4 g1 g2 g3 g4; clear hby))
    exact ret_val2 Tryz.results81 rfl rfl rfl (HT3.out.2.1.stored ⟨2, wholeK 6 n n, 0, ⟨#[]⟩⟩) ⟨rfl, below_val HT3.out.below (by omega) _ _ _ _⟩
   ·obtain rfl : k = 3 := by omega
    rw [if_neg (by decide)] at hr
    obtain ⟨pl, hpl⟩ : ∃ p, p = plainV ⟨3, 0, (brokenK 6 f f).getD nanF, ⟨#[]⟩⟩ := ⟨_, rfl⟩
    unfold FloatsTo at HBR
    rw [← hpl] at hr HBR
    subst hr
    clear hka h2 hpl
    go_enter Tryz.func81, Tryz.ntmps81
    go_wp2_with (first | (go_at_call 113; refine (numeric_exp _ _ _ _ (by assumption) _).mono ?_; (try rw [HN.out]); rintro e wx ⟨rfl, hbx⟩; (first | (have HT2 := hdq (HT1.out.later hbx); obtain ⟨⟨⟨⟨l1, l2, l3, l4⟩, _⟩, ⟨⟨m1, m2, m3, m4⟩, _⟩, _⟩, ⟨⟨r1, r2, r3, r4⟩, g1, g2, g3, g4⟩, hsx⟩ := HT2.out) | (have HT1 := hdq (HT.out.later hbx); obtain ⟨⟨⟨⟨l1, l2, l3, l4⟩, _⟩, ⟨⟨m1, m2, m3, m4⟩, _⟩, _⟩, ⟨⟨r1, r2, r3, r4⟩, g1, g2, g3, g4⟩, hsx⟩ := HT1.out)); simp only [Nat.zero_add] at l1 l2 l3 l4 m1 m2 m3 m4 r1 r2 r3 r4 g1 g2 g3 g4; clear hbx) | (go_at_call 115; refine (HBR.out _).mono ?_; rintro e wy ⟨⟨fl, rfl, hft⟩, hby⟩; have HFT := hdq hft; have HT3 := hdq (HT2.out.later hby); obtain ⟨_, ⟨⟨r1, r2, r3, r4⟩, g1, g2, g3, g4⟩, hsx⟩ := HT3.out; simp only [Nat.zero_add] at r1 r2 r3 r4 g1 g2 g3 g4; clear hby hft) | (go_at_call 35; refine (Plain_exp _ _ _ _ (fl_wf HFT.out.1) _).mono ?_; rw [HFT.out.2]; rintro e wz ⟨rfl, hbz⟩; have HT4 := hdq (HT3.out.later hbz); obtain ⟨_, ⟨⟨r1, r2, r3, r4⟩, g1, g2, g3, g4⟩, hsx⟩ := HT4.out; simp only [Nat.zero_add] at r1 r2 r3 r4 g1 g2 g3 g4; clear hbz))
    exact ret_val2 Tryz.results81 rfl rfl rfl (HT4.out.2.1.stored pl) ⟨rfl, below_val HT4.out.below (by omega) _ _ _ _⟩
theorem Calc_out (op : Int) (a b : Val) (hop : op < 3 ∨ 6 < op) (w : World) : Calls Tryz.prog 81 #[.int .i64 op, a.agg, b.agg] w
 fun e w' => e = .returned (.tuple #[(calcV op a b).1.agg, .int .i64 (calcV op a b).2]) ∧ Below w.heap.size w w' := by
 have HT := hdq (Three.start w a b Val.null 39 39 39)
 have e : calcV op a b = (Val.null, 2) := by unfold calcV calcC; rw [if_pos hop]
 rw [e]
 clear e
 obtain ⟨k, n, f, s⟩ := a
 obtain ⟨k', n', f', s'⟩ := b
 unfold Val.agg Val.null at *
 simp only at *
 rcases hop with h | h
 ·go_enter Tryz.func81, Tryz.ntmps81
  go_wp2
  exact ret_val2 Tryz.results81 rfl rfl rfl HT.out.2.1 ⟨rfl, HT.out.below⟩
 ·have h' : ¬ op < 3 := by omega
  go_enter Tryz.func81, Tryz.ntmps81
  go_wp2
  exact ret_val2 Tryz.results81 rfl rfl rfl HT.out.2.1 ⟨rfl, HT.out.below⟩
theorem Calc_any (op : Int) (a b : Val) (ha : a.wf) (hb : b.wf) (w : World) : Calls Tryz.prog 81 #[.int .i64 op, a.agg, b.agg] w
 fun e w' => e = .returned (.tuple #[(calcV op a b).1.agg, .int .i64 (calcV op a b).2]) ∧ Below w.heap.size w w' := by
 by_cases h : op < 3 ∨ 6 < op
 ·exact Calc_out op a b h w
 ·by_cases h6 : op = 6
  ·subst h6; exact Calc_neg a b ha w
  ·exact Calc_other op a b ha hb (by omega) (by omega) w
theorem Truth_any (b : Bool) (w : World) : Calls Tryz.prog 84 #[.bool b] w fun e w' => e = .returned (truthV b).agg ∧ Below w.heap.size w w' := by
 cases b
 ·go_enter Tryz.func84, Tryz.ntmps84
  go_wp2
  exact ret_val Tryz.results84 rfl rfl (LiesV.new w (truthV false) _) ⟨rfl, (Below.refl _ w).alloc (Nat.le_refl _) _⟩
 ·go_enter Tryz.func84, Tryz.ntmps84
  go_wp2
  exact ret_val Tryz.results84 rfl rfl (LiesV.new w (truthV true) _) ⟨rfl, (Below.refl _ w).alloc (Nat.le_refl _) _⟩
theorem Truth_exp (b : Bool) (w : World) : Calls Tryz.prog 84 #[.bool b] w fun e w' => e = .returned (.agg #[.int .i64 1, .int .i64 (tI b), .float .f64 0, .string ⟨#[]⟩]) ∧ Below w.heap.size w w' := Truth_any b w
theorem truthV_wf (b : Bool) : (truthV b).wf := ⟨by show (Lit.int .i64 1).wf = true; decide, by cases b <;> (first | (show (Lit.int .i64 0).wf = true; decide) | (show (Lit.int .i64 1).wf = true; decide)), by show 0 < 2 ^ 64; decide, Nat.zero_le _⟩
theorem testV_wf (op : Int) (a b : Val) : (testV op a b).1.wf := by
 unfold testV
 split
 ·exact null_wf
 ·split
  ·split
   ·exact null_wf
   ·split
    ·exact null_wf
    ·exact truthV_wf _
  ·exact null_wf
set_option maxHeartbeats 4000000 in
theorem Test_in (op : Int) (a b : Val) (ha : a.wf) (hb : b.wf) (h7 : 7 ≤ op) (h9 : op ≤ 9) (w : World) : Calls Tryz.prog 82 #[.int .i64 op, a.agg, b.agg] w
 fun e w' => e = .returned (.tuple #[(testV op a b).1.agg, .int .i64 (testV op a b).2]) ∧ Below w.heap.size w w' := by
 have HT := hdq (Three.start w a b Val.null 39 39 39)
 obtain ⟨r, hr⟩ : ∃ r, r = testV op a b := ⟨_, rfl⟩
 rw [← hr]
 unfold testV at hr
 rw [if_neg (by omega)] at hr
 obtain ⟨k, n, f, s⟩ := a
 obtain ⟨k', n', f', s'⟩ := b
 have HC := hdq (fun W => Cmp_exp k n f s k' n' f' s' ha hb W)
 unfold Val.agg Val.null at *
 simp only at *
 obtain ⟨qa, hqa⟩ : ∃ q, q = rightV ⟨k, n, f, s⟩ := ⟨_, rfl⟩
 obtain ⟨qb, hqb⟩ : ∃ q, q = rightV ⟨k', n', f', s'⟩ := ⟨_, rfl⟩
 obtain ⟨c, hc⟩ : ∃ c, c = cmpV ⟨k, n, f, s⟩ ⟨k', n', f', s'⟩ := ⟨_, rfl⟩
 rw [← hqa, ← hqb, ← hc] at hr
 rw [← hc] at HC
 have HN := hdq hqa.symm
 have HQ := hdq hqb.symm
 have z3 : ¬ op < 7 := by omega
 have z6 : ¬ 9 < op := by omega
 clear hqa hqb hc
 cases qa with
 | false =>
  rw [if_neg (by simp)] at hr
  subst hr
  go_enter Tryz.func82, Tryz.ntmps82
  go_wp2_with (first | (go_at_call 60; refine (Right_exp _ _ _ _ (by assumption) _).mono ?_; (try rw [HN.out]); (try rw [HQ.out]); rintro e wx ⟨rfl, hbx⟩; (first | (have HT2 := hdq (HT1.out.later hbx); obtain ⟨⟨⟨⟨l1, l2, l3, l4⟩, _⟩, ⟨⟨m1, m2, m3, m4⟩, _⟩, _⟩, ⟨⟨r1, r2, r3, r4⟩, g1, g2, g3, g4⟩, hsx⟩ := HT2.out; simp only [Nat.zero_add] at l1 l2 l3 l4 m1 m2 m3 m4 r1 r2 r3 r4 g1 g2 g3 g4) | (have HT1 := hdq (HT.out.later hbx); obtain ⟨⟨⟨⟨l1, l2, l3, l4⟩, _⟩, ⟨⟨m1, m2, m3, m4⟩, _⟩, _⟩, ⟨⟨r1, r2, r3, r4⟩, g1, g2, g3, g4⟩, hsx⟩ := HT1.out; simp only [Nat.zero_add] at l1 l2 l3 l4 m1 m2 m3 m4 r1 r2 r3 r4 g1 g2 g3 g4)); clear hbx))
  exact ret_val2 Tryz.results82 rfl rfl rfl (HT1.out.2.1.stored ⟨0, 0, 0, ⟨#[]⟩⟩) ⟨rfl, below_val HT1.out.below (by omega) _ _ _ _⟩
 | true =>
  cases qb with
  | false =>
   rw [if_neg (by simp)] at hr
   subst hr
   go_enter Tryz.func82, Tryz.ntmps82
   go_wp2_with (first | (go_at_call 60; refine (Right_exp _ _ _ _ (by assumption) _).mono ?_; (try rw [HN.out]); (try rw [HQ.out]); rintro e wx ⟨rfl, hbx⟩; (first | (have HT2 := hdq (HT1.out.later hbx); obtain ⟨⟨⟨⟨l1, l2, l3, l4⟩, _⟩, ⟨⟨m1, m2, m3, m4⟩, _⟩, _⟩, ⟨⟨r1, r2, r3, r4⟩, g1, g2, g3, g4⟩, hsx⟩ := HT2.out; simp only [Nat.zero_add] at l1 l2 l3 l4 m1 m2 m3 m4 r1 r2 r3 r4 g1 g2 g3 g4) | (have HT1 := hdq (HT.out.later hbx); obtain ⟨⟨⟨⟨l1, l2, l3, l4⟩, _⟩, ⟨⟨m1, m2, m3, m4⟩, _⟩, _⟩, ⟨⟨r1, r2, r3, r4⟩, g1, g2, g3, g4⟩, hsx⟩ := HT1.out; simp only [Nat.zero_add] at l1 l2 l3 l4 m1 m2 m3 m4 r1 r2 r3 r4 g1 g2 g3 g4)); clear hbx))
   exact ret_val2 Tryz.results82 rfl rfl rfl (HT2.out.2.1.stored ⟨0, 0, 0, ⟨#[]⟩⟩) ⟨rfl, below_val HT2.out.below (by omega) _ _ _ _⟩
  | true =>
   rw [Bool.true_and, if_pos rfl] at hr
   by_cases h0 : k = 0
   ·subst h0
    rw [if_pos (.inl rfl)] at hr
    subst hr
    go_enter Tryz.func82, Tryz.ntmps82
    go_wp2_with (first | (go_at_call 60; refine (Right_exp _ _ _ _ (by assumption) _).mono ?_; (try rw [HN.out]); (try rw [HQ.out]); rintro e wx ⟨rfl, hbx⟩; (first | (have HT2 := hdq (HT1.out.later hbx); obtain ⟨⟨⟨⟨l1, l2, l3, l4⟩, _⟩, ⟨⟨m1, m2, m3, m4⟩, _⟩, _⟩, ⟨⟨r1, r2, r3, r4⟩, g1, g2, g3, g4⟩, hsx⟩ := HT2.out; simp only [Nat.zero_add] at l1 l2 l3 l4 m1 m2 m3 m4 r1 r2 r3 r4 g1 g2 g3 g4) | (have HT1 := hdq (HT.out.later hbx); obtain ⟨⟨⟨⟨l1, l2, l3, l4⟩, _⟩, ⟨⟨m1, m2, m3, m4⟩, _⟩, _⟩, ⟨⟨r1, r2, r3, r4⟩, g1, g2, g3, g4⟩, hsx⟩ := HT1.out; simp only [Nat.zero_add] at l1 l2 l3 l4 m1 m2 m3 m4 r1 r2 r3 r4 g1 g2 g3 g4)); clear hbx))
    exact ret_val2 Tryz.results82 rfl rfl rfl (HT2.out.2.1.stored ⟨0, 0, 0, ⟨#[]⟩⟩) ⟨rfl, below_val HT2.out.below (by omega) _ _ _ _⟩
   ·have e0 : (k == 0) = false := by simp; exact h0
    by_cases h0' : k' = 0
    ·subst h0'
     rw [if_pos (.inr rfl)] at hr
     subst hr
     go_enter Tryz.func82, Tryz.ntmps82
     go_wp2_with (first | (go_at_call 60; refine (Right_exp _ _ _ _ (by assumption) _).mono ?_; (try rw [HN.out]); (try rw [HQ.out]); rintro e wx ⟨rfl, hbx⟩; (first | (have HT2 := hdq (HT1.out.later hbx); obtain ⟨⟨⟨⟨l1, l2, l3, l4⟩, _⟩, ⟨⟨m1, m2, m3, m4⟩, _⟩, _⟩, ⟨⟨r1, r2, r3, r4⟩, g1, g2, g3, g4⟩, hsx⟩ := HT2.out; simp only [Nat.zero_add] at l1 l2 l3 l4 m1 m2 m3 m4 r1 r2 r3 r4 g1 g2 g3 g4) | (have HT1 := hdq (HT.out.later hbx); obtain ⟨⟨⟨⟨l1, l2, l3, l4⟩, _⟩, ⟨⟨m1, m2, m3, m4⟩, _⟩, _⟩, ⟨⟨r1, r2, r3, r4⟩, g1, g2, g3, g4⟩, hsx⟩ := HT1.out; simp only [Nat.zero_add] at l1 l2 l3 l4 m1 m2 m3 m4 r1 r2 r3 r4 g1 g2 g3 g4)); clear hbx))
     exact ret_val2 Tryz.results82 rfl rfl rfl (HT2.out.2.1.stored ⟨0, 0, 0, ⟨#[]⟩⟩) ⟨rfl, below_val HT2.out.below (by omega) _ _ _ _⟩
    ·have e0' : (k' == 0) = false := by simp; exact h0'
     rw [if_neg (by omega)] at hr
     by_cases hkk : k = k'
     ·subst hkk
      rw [if_neg (by simp)] at hr
      unfold truthV at hr
      by_cases h7' : op = 7
      ·subst h7'
       rw [if_pos rfl] at hr
       have ec : (c == 0) = decide (c = 0) := rfl
       subst hr
       go_enter Tryz.func82, Tryz.ntmps82
       go_wp2_with (first | (go_at_call 60; refine (Right_exp _ _ _ _ (by assumption) _).mono ?_; (try rw [HN.out]); (try rw [HQ.out]); rintro e wx ⟨rfl, hbx⟩; (first | (have HT2 := hdq (HT1.out.later hbx); obtain ⟨⟨⟨⟨l1, l2, l3, l4⟩, _⟩, ⟨⟨m1, m2, m3, m4⟩, _⟩, _⟩, ⟨⟨r1, r2, r3, r4⟩, g1, g2, g3, g4⟩, hsx⟩ := HT2.out; simp only [Nat.zero_add] at l1 l2 l3 l4 m1 m2 m3 m4 r1 r2 r3 r4 g1 g2 g3 g4) | (have HT1 := hdq (HT.out.later hbx); obtain ⟨⟨⟨⟨l1, l2, l3, l4⟩, _⟩, ⟨⟨m1, m2, m3, m4⟩, _⟩, _⟩, ⟨⟨r1, r2, r3, r4⟩, g1, g2, g3, g4⟩, hsx⟩ := HT1.out; simp only [Nat.zero_add] at l1 l2 l3 l4 m1 m2 m3 m4 r1 r2 r3 r4 g1 g2 g3 g4)); clear hbx) | (go_at_call 55; refine (HC.out _).mono ?_; rintro e wy ⟨rfl, hby⟩; have HT3 := hdq (HT2.out.later hby); obtain ⟨⟨⟨⟨l1, l2, l3, l4⟩, _⟩, ⟨⟨m1, m2, m3, m4⟩, _⟩, _⟩, ⟨⟨r1, r2, r3, r4⟩, g1, g2, g3, g4⟩, hsx⟩ := HT3.out; simp only [Nat.zero_add] at l1 l2 l3 l4 m1 m2 m3 m4 r1 r2 r3 r4 g1 g2 g3 g4; clear hby) | (go_at_call 84; refine (Truth_exp _ _).mono ?_; rintro e wy ⟨rfl, hby⟩; have HT4 := hdq (HT3.out.later hby); obtain ⟨⟨⟨⟨l1, l2, l3, l4⟩, _⟩, ⟨⟨m1, m2, m3, m4⟩, _⟩, _⟩, ⟨⟨r1, r2, r3, r4⟩, g1, g2, g3, g4⟩, hsx⟩ := HT4.out; simp only [Nat.zero_add] at l1 l2 l3 l4 m1 m2 m3 m4 r1 r2 r3 r4 g1 g2 g3 g4; clear hby))
       exact ret_val2 Tryz.results82 rfl rfl rfl (HT4.out.2.1.stored ⟨1, tI (decide (c = 0)), 0, ⟨#[]⟩⟩) ⟨rfl, below_val HT4.out.below (by omega) _ _ _ _⟩
      ·rw [if_neg h7'] at hr
       have e7 : (op == 7) = false := by simp; exact h7'
       by_cases h8' : op = 8
       ·subst h8'
        rw [if_pos rfl] at hr
        subst hr
        go_enter Tryz.func82, Tryz.ntmps82
        go_wp2_with (first | (go_at_call 60; refine (Right_exp _ _ _ _ (by assumption) _).mono ?_; (try rw [HN.out]); (try rw [HQ.out]); rintro e wx ⟨rfl, hbx⟩; (first | (have HT2 := hdq (HT1.out.later hbx); obtain ⟨⟨⟨⟨l1, l2, l3, l4⟩, _⟩, ⟨⟨m1, m2, m3, m4⟩, _⟩, _⟩, ⟨⟨r1, r2, r3, r4⟩, g1, g2, g3, g4⟩, hsx⟩ := HT2.out; simp only [Nat.zero_add] at l1 l2 l3 l4 m1 m2 m3 m4 r1 r2 r3 r4 g1 g2 g3 g4) | (have HT1 := hdq (HT.out.later hbx); obtain ⟨⟨⟨⟨l1, l2, l3, l4⟩, _⟩, ⟨⟨m1, m2, m3, m4⟩, _⟩, _⟩, ⟨⟨r1, r2, r3, r4⟩, g1, g2, g3, g4⟩, hsx⟩ := HT1.out; simp only [Nat.zero_add] at l1 l2 l3 l4 m1 m2 m3 m4 r1 r2 r3 r4 g1 g2 g3 g4)); clear hbx) | (go_at_call 55; refine (HC.out _).mono ?_; rintro e wy ⟨rfl, hby⟩; have HT3 := hdq (HT2.out.later hby); obtain ⟨⟨⟨⟨l1, l2, l3, l4⟩, _⟩, ⟨⟨m1, m2, m3, m4⟩, _⟩, _⟩, ⟨⟨r1, r2, r3, r4⟩, g1, g2, g3, g4⟩, hsx⟩ := HT3.out; simp only [Nat.zero_add] at l1 l2 l3 l4 m1 m2 m3 m4 r1 r2 r3 r4 g1 g2 g3 g4; clear hby) | (go_at_call 84; refine (Truth_exp _ _).mono ?_; rintro e wy ⟨rfl, hby⟩; have HT4 := hdq (HT3.out.later hby); obtain ⟨⟨⟨⟨l1, l2, l3, l4⟩, _⟩, ⟨⟨m1, m2, m3, m4⟩, _⟩, _⟩, ⟨⟨r1, r2, r3, r4⟩, g1, g2, g3, g4⟩, hsx⟩ := HT4.out; simp only [Nat.zero_add] at l1 l2 l3 l4 m1 m2 m3 m4 r1 r2 r3 r4 g1 g2 g3 g4; clear hby))
        exact ret_val2 Tryz.results82 rfl rfl rfl (HT4.out.2.1.stored ⟨1, tI (decide (c < 0)), 0, ⟨#[]⟩⟩) ⟨rfl, below_val HT4.out.below (by omega) _ _ _ _⟩
       ·rw [if_neg h8'] at hr
        have e8 : (op == 8) = false := by simp; exact h8'
        subst hr
        go_enter Tryz.func82, Tryz.ntmps82
        go_wp2_with (first | (go_at_call 60; refine (Right_exp _ _ _ _ (by assumption) _).mono ?_; (try rw [HN.out]); (try rw [HQ.out]); rintro e wx ⟨rfl, hbx⟩; (first | (have HT2 := hdq (HT1.out.later hbx); obtain ⟨⟨⟨⟨l1, l2, l3, l4⟩, _⟩, ⟨⟨m1, m2, m3, m4⟩, _⟩, _⟩, ⟨⟨r1, r2, r3, r4⟩, g1, g2, g3, g4⟩, hsx⟩ := HT2.out; simp only [Nat.zero_add] at l1 l2 l3 l4 m1 m2 m3 m4 r1 r2 r3 r4 g1 g2 g3 g4) | (have HT1 := hdq (HT.out.later hbx); obtain ⟨⟨⟨⟨l1, l2, l3, l4⟩, _⟩, ⟨⟨m1, m2, m3, m4⟩, _⟩, _⟩, ⟨⟨r1, r2, r3, r4⟩, g1, g2, g3, g4⟩, hsx⟩ := HT1.out; simp only [Nat.zero_add] at l1 l2 l3 l4 m1 m2 m3 m4 r1 r2 r3 r4 g1 g2 g3 g4)); clear hbx) | (go_at_call 55; refine (HC.out _).mono ?_; rintro e wy ⟨rfl, hby⟩; have HT3 := hdq (HT2.out.later hby); obtain ⟨⟨⟨⟨l1, l2, l3, l4⟩, _⟩, ⟨⟨m1, m2, m3, m4⟩, _⟩, _⟩, ⟨⟨r1, r2, r3, r4⟩, g1, g2, g3, g4⟩, hsx⟩ := HT3.out; simp only [Nat.zero_add] at l1 l2 l3 l4 m1 m2 m3 m4 r1 r2 r3 r4 g1 g2 g3 g4; clear hby) | (go_at_call 84; refine (Truth_exp _ _).mono ?_; rintro e wy ⟨rfl, hby⟩; have HT4 := hdq (HT3.out.later hby); obtain ⟨⟨⟨⟨l1, l2, l3, l4⟩, _⟩, ⟨⟨m1, m2, m3, m4⟩, _⟩, _⟩, ⟨⟨r1, r2, r3, r4⟩, g1, g2, g3, g4⟩, hsx⟩ := HT4.out; simp only [Nat.zero_add] at l1 l2 l3 l4 m1 m2 m3 m4 r1 r2 r3 r4 g1 g2 g3 g4; clear hby))
        exact ret_val2 Tryz.results82 rfl rfl rfl (HT4.out.2.1.stored ⟨1, tI (decide (c ≤ 0)), 0, ⟨#[]⟩⟩) ⟨rfl, below_val HT4.out.below (by omega) _ _ _ _⟩
     ·rw [if_pos hkk] at hr
      have ekk : (k != k') = true := by simp; exact hkk
      subst hr
      go_enter Tryz.func82, Tryz.ntmps82
      go_wp2_with (first | (go_at_call 60; refine (Right_exp _ _ _ _ (by assumption) _).mono ?_; (try rw [HN.out]); (try rw [HQ.out]); rintro e wx ⟨rfl, hbx⟩; (first | (have HT2 := hdq (HT1.out.later hbx); obtain ⟨⟨⟨⟨l1, l2, l3, l4⟩, _⟩, ⟨⟨m1, m2, m3, m4⟩, _⟩, _⟩, ⟨⟨r1, r2, r3, r4⟩, g1, g2, g3, g4⟩, hsx⟩ := HT2.out; simp only [Nat.zero_add] at l1 l2 l3 l4 m1 m2 m3 m4 r1 r2 r3 r4 g1 g2 g3 g4) | (have HT1 := hdq (HT.out.later hbx); obtain ⟨⟨⟨⟨l1, l2, l3, l4⟩, _⟩, ⟨⟨m1, m2, m3, m4⟩, _⟩, _⟩, ⟨⟨r1, r2, r3, r4⟩, g1, g2, g3, g4⟩, hsx⟩ := HT1.out; simp only [Nat.zero_add] at l1 l2 l3 l4 m1 m2 m3 m4 r1 r2 r3 r4 g1 g2 g3 g4)); clear hbx))
      exact ret_val2 Tryz.results82 rfl rfl rfl (HT2.out.2.1.stored ⟨0, 0, 0, ⟨#[]⟩⟩) ⟨rfl, below_val HT2.out.below (by omega) _ _ _ _⟩
theorem Test_any (op : Int) (a b : Val) (ha : a.wf) (hb : b.wf) (w : World) : Calls Tryz.prog 82 #[.int .i64 op, a.agg, b.agg] w
 fun e w' => e = .returned (.tuple #[(testV op a b).1.agg, .int .i64 (testV op a b).2]) ∧ Below w.heap.size w w' := by
 by_cases hop : op < 7 ∨ 9 < op
 ·have HT := hdq (Three.start w a b Val.null 39 39 39)
  have e : testV op a b = (Val.null, 2) := by unfold testV; rw [if_pos hop]
  rw [e]
  clear e ha hb
  obtain ⟨k, n, f, s⟩ := a
  obtain ⟨k', n', f', s'⟩ := b
  unfold Val.agg Val.null at *
  simp only at *
  rcases hop with h | h
  ·go_enter Tryz.func82, Tryz.ntmps82
   go_wp2
   exact ret_val2 Tryz.results82 rfl rfl rfl HT.out.2.1 ⟨rfl, HT.out.below⟩
  ·have h' : ¬ op < 7 := by omega
   go_enter Tryz.func82, Tryz.ntmps82
   go_wp2
   exact ret_val2 Tryz.results82 rfl rfl rfl HT.out.2.1 ⟨rfl, HT.out.below⟩
 ·exact Test_in op a b ha hb (by omega) (by omega) w
theorem truth_any (v : Val) (hv : v.wf) (w : World) : Calls Tryz.prog 116 #[v.agg] w fun e w' => e = .returned (.bool (truthOk v)) ∧ Below w.heap.size w w' := by
 have HRI := hdq (fun W => Right_any v hv W)
 unfold truthOk
 obtain ⟨r, hr⟩ : ∃ r, r = rightV v := ⟨_, rfl⟩
 rw [← hr] at HRI
 rw [← hr]
 clear hr hv
 have HL := hdq (LiesV.new w v 39)
 have HB0 := hdq ((Below.refl _ w).alloc (Nat.le_refl _) (.cells #[.int .i64 v.kind, .int .i64 v.int, .float .f64 v.flt, .string v.text] 39))
 obtain ⟨k, n, f, s⟩ := v
 unfold Val.agg at *
 simp only at *
 cases r
 all_goals go_enter Tryz.func116, Tryz.ntmps116
 all_goals go_wp2_with (go_at_call 60; refine (HRI.out _).mono ?_; rintro e w1 ⟨rfl, hb⟩; have HB1 := hdq (HB0.out.trans (hb.mono HB0.out.size)); obtain ⟨⟨l1, _, _, _⟩, _⟩ := HL.out.below hb (by simp); clear hb)
 all_goals go_ret
 all_goals exact ⟨by by_cases h1 : k = 1 <;> simp_all, HB1.out⟩
theorem truth_exp (k n : Int) (f : Nat) (s : ByteArray) (hv : Val.wf ⟨k, n, f, s⟩) (w : World) : Calls Tryz.prog 116 #[.agg #[.int .i64 k, .int .i64 n, .float .f64 f, .string s]] w
 fun e w' => e = .returned (.bool (truthOk ⟨k, n, f, s⟩)) ∧ Below w.heap.size w w' := truth_any _ hv w
theorem is_any (m k n k' n' : Int) (b c : Nat) (w : World) (h1 : w.cell? ⟨b, 0, none⟩ = some (.int .i64 k)) (h2 : w.cell? ⟨b, 1, none⟩ = some (.int .i64 n)) (h3 : w.cell? ⟨c, 0, none⟩ = some (.int .i64 k')) (h4 : w.cell? ⟨c, 1, none⟩ = some (.int .i64 n')) :
 Calls Tryz.prog 117 #[.int .i64 m, .pointer (some ⟨b, 0, none⟩), .pointer (some ⟨c, 0, none⟩)] w
 fun e w' => e = .returned (.bool ((decide (k = 1) && decide (n = m)) || (decide (k' = 1) && decide (n' = m)))) ∧ w = w' := by
 by_cases hk : k = 1
 ·by_cases hn : n = m
  ·subst hk hn
   go_enter Tryz.func117, Tryz.ntmps117
   go_wp2
   go_ret
   exact ⟨by simp, rfl⟩
  ·have en : (n == m) = false := by simp; exact hn
   subst hk
   by_cases hk' : k' = 1
   ·subst hk'
    go_enter Tryz.func117, Tryz.ntmps117
    go_wp2
    go_ret
    exact ⟨by simp [hn]; rfl, rfl⟩
   ·have ek' : (k' == 1) = false := by simp; exact hk'
    go_enter Tryz.func117, Tryz.ntmps117
    go_wp2
    go_ret
    exact ⟨by simp [hn, hk'], rfl⟩
 ·have ek : (k == 1) = false := by simp; exact hk
  by_cases hk' : k' = 1
  ·subst hk'
   go_enter Tryz.func117, Tryz.ntmps117
   go_wp2
   go_ret
   exact ⟨by simp [hk]; rfl, rfl⟩
  ·have ek' : (k' == 1) = false := by simp; exact hk'
   go_enter Tryz.func117, Tryz.ntmps117
   go_wp2
   go_ret
   exact ⟨by simp [hk, hk'], rfl⟩
end Go.Proofs.YtgmolmpfihkolaaGreat
