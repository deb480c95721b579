/- The reference's Bits and Exact. -/
import Derived.Test.YtaanejhpodbdnaaVaL
import Derived.Deep.QuietTactic
import Derived.BigQuiet
namespace Go.Proofs.Ytaanejhpodbdnaa
open Go.RowKit
set_option maxRecDepth 100000
set_option linter.unusedVariables false
attribute [local go_sem] run_store_float run_f64bits run_f64from

/-- A float's bits, as the document puts them. -/
def bitsF (f : Nat) : Nat := if nanB f then 9221120237041090561 else if f % 9223372036854775808 = 0 then 0 else f

theorem Bits_any (f : Nat) (w : World) : Calls Try.prog 25 #[.float .f64 f] w fun e w' => e = .returned (.int .u64 ((bitsF f : Nat) : Int)) ∧ w = w' := by
  have n1 : (FloatKind.f64.format.order f f != some .eq) = nanB f := by rw [bne, order_self, Bool.not_not]
  have hz := order_zero f
  unfold bitsF
  cases hn : nanB f with
  | true =>
    rw [hn] at n1
    clear hz hn
    go_enter Try.func25, Try.ntmps25
    go_wp2
    go_ret
    exact ⟨rfl, rfl⟩
  | false =>
    rw [hn] at n1
    by_cases h0 : f % 9223372036854775808 = 0
    · rw [decide_eq_true h0] at hz
      rw [if_neg (by simp), if_pos h0]
      clear hn h0
      go_enter Try.func25, Try.ntmps25
      go_wp2
      go_ret
      exact ⟨rfl, rfl⟩
    · rw [decide_eq_false h0] at hz
      rw [if_neg (by simp), if_neg h0]
      clear hn h0
      go_enter Try.func25, Try.ntmps25
      go_wp2
      go_ret
      exact ⟨rfl, rfl⟩

/-- Alike in all fields, each NaN like each other one. -/
def Alike (a b : Val) : Prop := a.kind = b.kind ∧ a.int = b.int ∧ a.text = b.text ∧ bitsF a.flt = bitsF b.flt ∧ (a.flt == 0) = (b.flt == 0)

set_option maxHeartbeats 2000000 in
theorem Exact_true (a b : Val) (ha : a.wf) (hb : b.wf) (h : Alike a b) (w : World) : Calls Try.prog 10 #[a.agg, b.agg] w fun e w' => e = .returned (.bool true) ∧ Below w.heap.size w w' := by
  have HT := Lib.hid (Two.start w a b 28 28)
  have hfa : a.flt < 2 ^ 64 := ha.2.2.1
  have hfb : b.flt < 2 ^ 64 := hb.2.2.1
  obtain ⟨k, n, f, s⟩ := a
  obtain ⟨k', n', f', s'⟩ := b
  obtain ⟨e1, e2, e3, e4, e5⟩ := h
  simp only at e1 e2 e3 e4 e5 hfa hfb
  subst e1 e2 e3
  clear ha hb
  obtain ⟨b1, hb1⟩ : ∃ b1, b1 = bitsF f := ⟨_, rfl⟩
  have hb2 : b1 = bitsF f' := by rw [hb1, e4]
  obtain ⟨z1, hz1⟩ : ∃ z1, z1 = (f == 0) := ⟨_, rfl⟩
  have hz2 : z1 = (f' == 0) := by rw [hz1, e5]
  have HB : Hid (∀ g W, (g = f ∨ g = f') → Calls Try.prog 25 #[.float .f64 g] W fun e w' => e = .returned (.int .u64 (b1 : Int)) ∧ W = w') := Lib.hid (fun g W hg => by
    rcases hg with rfl | rfl
    · rw [hb1]; exact Bits_any _ W
    · rw [hb2]; exact Bits_any _ W)
  have HZ : Hid (∀ g W, (g = f ∨ g = f') → Calls Try.prog 26 #[.float .f64 g] W fun e w' => e = .returned (.bool z1) ∧ W = w') := Lib.hid (fun g W hg => by
    rcases hg with rfl | rfl
    · rw [hz1]; exact zero_any _ hfa W
    · rw [hz2]; exact zero_any _ hfb W)
  clear e4 e5 hfa hfb hb1 hb2 hz1 hz2
  unfold Val.agg
  simp only
  obtain ⟨⟨⟨l1, l2, l3, l4⟩, _⟩, ⟨⟨m1, m2, m3, m4⟩, _⟩, _, _⟩ := HT.out
  simp only [Nat.zero_add] at l1 l2 l3 l4 m1 m2 m3 m4
  go_enter Try.func10, Try.ntmps10
  go_upto_region 1 with fail
  go_quiet (first | (go_at_call 25; exact Calls.quiet_of_same ((HB.out _ _ (by simp)).mono fun e w' h => ⟨h.1, h.2.symm⟩)) | (go_at_call 26; exact Calls.quiet_of_same ((HZ.out _ _ (by simp)).mono fun e w' h => ⟨h.1, h.2.symm⟩)))
  go_wp2
  go_ret
  exact ⟨rfl, HT.out.2.2.1.trans ⟨rfl, rfl, rfl, Nat.le_refl _, fun _ _ => rfl⟩⟩
end Go.Proofs.Ytaanejhpodbdnaa
