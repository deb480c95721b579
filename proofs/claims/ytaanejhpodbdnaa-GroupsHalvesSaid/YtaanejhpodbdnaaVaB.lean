/- The walks of Signbit, IsNaN, value.Right. -/
import Derived.Test.YtaanejhpodbdnaaVaA
namespace Go.Proofs.Ytaanejhpodbdnaa
open Go.RowKit
set_option maxRecDepth 100000

/-- May a value be? -/
def rightV (v : Val) : Bool :=
  (v.kind == 0 && (v.int == 0 && (v.flt == 0 && v.text.toList.isEmpty))) || (v.kind == 1 && ((v.int == 0 || v.int == 1) && (v.flt == 0 && v.text.toList.isEmpty))) || (v.kind == 2 && (v.flt == 0 && v.text.toList.isEmpty)) ||
  (v.kind == 3 && (v.int == 0 && v.text.toList.isEmpty)) || (v.kind == 4 && (v.int == 0 && (v.flt == 0 && decide (v.text.size ≤ 64))))

theorem isNaN_any (f : Nat) (w : World) : Calls Try.prog 58 #[.float .f64 f] w fun e w' => e = .returned (.bool (nanB f)) ∧ w = w' := by
  have h := order_self f
  have h' : (FloatKind.f64.format.order f f != some .eq) = nanB f := by rw [bne, h, Bool.not_not]
  clear h
  go_enter Try.func58, Try.ntmps58
  go_wp2
  go_ret
  exact ⟨rfl, rfl⟩

theorem run_f64bits (f : Nat) (w : World) : (callFunc 41 #[.float .f64 f]).run Try.prog w = .ok (.value (.int .u64 (f : Int))) w := by
  rw [run_callFunc_extern (e := Extern.MathFloatBits.float64bits) Try.func41 (by kernel_rfl) (by kernel_rfl) (by kernel_rfl) (by kernel_rfl)]; rfl
theorem run_f64from (n : Int) (w : World) : (callFunc 59 #[.int .u64 n]).run Try.prog w = .ok (.value (.float .f64 n.toNat)) w := by
  rw [run_callFunc_extern (e := Extern.MathFloatBits.float64frombits) Try.func59 (by kernel_rfl) (by kernel_rfl) (by kernel_rfl) (by kernel_rfl)]; rfl
attribute [local go_sem] run_f64bits run_f64from

theorem signbit_any (f : Nat) (hf : f < 2 ^ 64) (w : World) : Calls Try.prog 38 #[.float .f64 f] w fun e w' => e = .returned (.bool (decide (9223372036854775808 ≤ f))) ∧ w = w' := by
  obtain ⟨z, hz⟩ : ∃ z, z = IntKind.i64.wrap (f : Int) := ⟨_, rfl⟩
  have hb : decide (z < 0) = decide (9223372036854775808 ≤ f) := by
    rw [hz, decide_eq_decide]
    simp [IntKind.wrap, IntKind.signed, IntKind.bits]
    omega
  have hw : IntKind.i64.wrap (f : Int) = z := hz.symm
  have hw2 : wrap64 (f : Int) = z := by rw [hz]; unfold wrap64; simp [IntKind.wrap, IntKind.signed, IntKind.bits]; omega
  rw [← hb]
  clear hz hb hf
  go_enter Try.func38, Try.ntmps38
  go_wp2
  go_ret
  exact ⟨rfl, rfl⟩

set_option maxHeartbeats 1000000 in
theorem Right_any (v : Val) (hv : v.wf) (w : World) : Calls Try.prog 21 #[v.agg] w fun e w' => e = .returned (.bool (rightV v)) ∧ Below w.heap.size w w' := by
  obtain ⟨k, n, f, s⟩ := v
  have hz := order_zero f
  have hf : f < 2 ^ 64 := hv.2.2.1
  unfold Val.agg rightV
  simp only
  have hS := Lib.hid (fun W => signbit_any f hf W)
  obtain ⟨q, hq⟩ : ∃ q, q = decide (f % 9223372036854775808 = 0) := ⟨_, rfl⟩
  obtain ⟨g, hg⟩ : ∃ g, g = decide (9223372036854775808 ≤ f) := ⟨_, rfl⟩
  have hfz : (f == 0) = (q && !g) := by
    rw [hq, hg, Bool.eq_iff_iff]
    simp only [beq_iff_eq, Bool.and_eq_true, decide_eq_true_eq, Bool.not_eq_true', decide_eq_false_iff_not]
    omega
  rw [← hg] at hS
  rw [← hq] at hz
  have HF := Lib.hid hfz
  rw [hfz]
  clear hq hg hfz hf hv
  cases q
  · go_enter Try.func21, Try.ntmps21
    go_wp2_with (go_at_call 38; refine (hS.out _).mono ?_; rintro e w' ⟨rfl, rfl⟩)
    all_goals go_ret
    all_goals refine ⟨?_, (Below.refl _ w).alloc (Nat.le_refl _) _⟩
    all_goals (simp_all <;> omega)
  · cases g
    · go_enter Try.func21, Try.ntmps21
      go_wp2_with (go_at_call 38; refine (hS.out _).mono ?_; rintro e w' ⟨rfl, rfl⟩)
      all_goals go_ret
      all_goals refine ⟨?_, (Below.refl _ w).alloc (Nat.le_refl _) _⟩
      all_goals (simp_all <;> omega)
    · go_enter Try.func21, Try.ntmps21
      go_wp2_with (go_at_call 38; refine (hS.out _).mono ?_; rintro e w' ⟨rfl, rfl⟩)
      all_goals go_ret
      all_goals refine ⟨?_, (Below.refl _ w).alloc (Nat.le_refl _) _⟩
      all_goals (simp_all <;> omega)
end Go.Proofs.Ytaanejhpodbdnaa
