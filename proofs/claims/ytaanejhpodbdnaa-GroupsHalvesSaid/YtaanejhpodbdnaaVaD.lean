/- The walk of value.Cmp. -/
import Derived.Test.YtaanejhpodbdnaaVaC
import Derived.Deep.DeepCutAuto
import Derived.Deep.CutBlock
import Derived.Deep.RegionWith
namespace Go.Proofs.Ytaanejhpodbdnaa
open Go.RowKit
set_option maxRecDepth 100000
attribute [local go_sem] run_store_float

/-- How two values stand to one another. -/
def cmpP (a b : Val) : Int := if a.kind ≠ b.kind then cmpI a.kind b.kind else if a.kind = 3 then cmpF a.flt b.flt else if a.kind = 4 then cmpS a.text b.text else cmpI a.int b.int
def cmpV (a b : Val) : Int := cmpP (plainV a) (plainV b)

theorem Plain_exp (k n : Int) (f : Nat) (s : ByteArray) (hv : Val.wf ⟨k, n, f, s⟩) (w : World) : Calls Try.prog 42 #[.agg #[.int .i64 k, .int .i64 n, .float .f64 f, .string s]] w
    fun e w' => e = .returned (.agg #[.int .i64 (plainV ⟨k, n, f, s⟩).kind, .int .i64 (plainV ⟨k, n, f, s⟩).int, .float .f64 (plainV ⟨k, n, f, s⟩).flt, .string (plainV ⟨k, n, f, s⟩).text]) ∧ Below w.heap.size w w' := Plain_any _ hv w

/-- Two boxes of values. -/
def Two (w : World) (a b : Val) (W : World) : Prop := LiesV W w.heap.size 0 a ∧ LiesV W (w.heap.size + 1) 0 b ∧ Below w.heap.size w W ∧ w.heap.size + 1 < W.heap.size
theorem Two.start (w : World) (a b : Val) (t u : TypeId) : Two w a b ((w.alloc (.cells #[.int .i64 a.kind, .int .i64 a.int, .float .f64 a.flt, .string a.text] t)).alloc (.cells #[.int .i64 b.kind, .int .i64 b.int, .float .f64 b.flt, .string b.text] u)) := by
  refine ⟨((LiesV.new w a t).below (B := w.heap.size + 1) ((Below.refl _ _).alloc (by simp) _) (Nat.lt_succ_self _)), ?_, ((Below.refl _ w).alloc (Nat.le_refl _) _).alloc (by simp) _, by simp⟩
  have := LiesV.new (w.alloc (.cells #[.int .i64 a.kind, .int .i64 a.int, .float .f64 a.flt, .string a.text] t)) b u
  rw [World.size_alloc] at this
  exact this
theorem Two.later {w W W' : World} {a b : Val} (h : Two w a b W) (hb : Below W.heap.size W W') : Two w a b W' :=
  ⟨h.1.below hb (by have := h.2.2.2; omega), h.2.1.below hb h.2.2.2, h.2.2.1.trans (hb.mono h.2.2.1.size), Nat.lt_of_lt_of_le h.2.2.2 hb.size⟩
theorem Two.drew {w W : World} {a b : Val} (h : Two w a b W) : Two w a b W.drew := h.later (Below.refl _ W).drew
theorem Two.set1 {w W : World} {a b : Val} (h : Two w a b W) (a' : Val) : Two w a' b ((((W.setCell ⟨w.heap.size, 0, none⟩ (.int .i64 a'.kind)).setCell ⟨w.heap.size, 1, none⟩ (.int .i64 a'.int)).setCell ⟨w.heap.size, 2, none⟩ (.float .f64 a'.flt)).setCell ⟨w.heap.size, 3, none⟩ (.string a'.text)) :=
  ⟨h.1.stored a', (((h.2.1.other (by simp)).other (by simp)).other (by simp)).other (by simp), below_val h.2.2.1 (Nat.le_refl _) _ _ _ _, by simpa using h.2.2.2⟩
theorem Two.set2 {w W : World} {a b : Val} (h : Two w a b W) (b' : Val) : Two w a b' ((((W.setCell ⟨w.heap.size + 1, 0, none⟩ (.int .i64 b'.kind)).setCell ⟨w.heap.size + 1, 1, none⟩ (.int .i64 b'.int)).setCell ⟨w.heap.size + 1, 2, none⟩ (.float .f64 b'.flt)).setCell ⟨w.heap.size + 1, 3, none⟩ (.string b'.text)) :=
  ⟨(((h.1.other (by simp)).other (by simp)).other (by simp)).other (by simp), h.2.1.stored b', below_val h.2.2.1 (by omega) _ _ _ _, by simpa using h.2.2.2⟩

set_option maxHeartbeats 2000000 in
theorem Cmp_any (a b : Val) (ha : a.wf) (hb : b.wf) (w : World) : Calls Try.prog 27 #[a.agg, b.agg] w fun e w' => e = .returned (.int .i64 (cmpV a b)) ∧ Below w.heap.size w w' := by
  have HT := Lib.hid (Two.start w a b 28 28)
  obtain ⟨r, hr⟩ : ∃ r, r = cmpV a b := ⟨_, rfl⟩
  rw [← hr]
  unfold cmpV at hr
  obtain ⟨k, n, f, s⟩ := a
  obtain ⟨k', n', f', s'⟩ := b
  obtain ⟨p, hp⟩ : ∃ p, p = plainV ⟨k, n, f, s⟩ := ⟨_, rfl⟩
  obtain ⟨q, hq⟩ : ∃ q, q = plainV ⟨k', n', f', s'⟩ := ⟨_, rfl⟩
  rw [← hp, ← hq] at hr
  obtain ⟨pk, pn, pf, ps⟩ := p
  obtain ⟨qk, qn, qf, qs⟩ := q
  have HP := Lib.hid hp.symm
  have HQ := Lib.hid hq.symm
  have HR := Lib.hid hr
  clear hp hq hr
  unfold Val.agg
  simp only
  go_enter Try.func27, Try.ntmps27
  go_upto_region 1 with fail
  go_cut [4] from 5 to 8 (fun v W => v = .int .i64 0 ∧ Two w ⟨pk, pn, pf, ps⟩ ⟨qk, qn, qf, qs⟩ W)
  case first =>
    go_region_with (go_at_call 42; refine (Plain_exp _ _ _ _ (by assumption) _).mono ?_; (try rw [HP.out]); (try rw [HQ.out]); rintro e wx ⟨rfl, hbx⟩; (first | (have HT1 := Lib.hid (HT.out.drew.later hbx); obtain ⟨⟨⟨l1, l2, l3, l4⟩, g1, g2, g3, g4⟩, ⟨⟨m1, m2, m3, m4⟩, q1, q2, q3, q4⟩, _, hsx⟩ := HT1.out) | (have HT2 := Lib.hid (HT1.out.later hbx); obtain ⟨⟨⟨l1, l2, l3, l4⟩, g1, g2, g3, g4⟩, ⟨⟨m1, m2, m3, m4⟩, q1, q2, q3, q4⟩, _, hsx⟩ := HT2.out)); simp only [Nat.zero_add] at l1 l2 l3 l4 g1 g2 g3 g4 m1 m2 m3 m4 q1 q2 q3 q4; clear hbx)
    all_goals go_wp2_with fail
    all_goals go_meet
    all_goals exact ⟨rfl, (HT2.out.set1 ⟨pk, pn, pf, ps⟩).set2 ⟨qk, qn, qf, qs⟩⟩
  case rest =>
    clear HT HP HQ ha hb
    obtain ⟨rfl, hcut⟩ := hcut
    obtain ⟨⟨⟨l1, l2, l3, l4⟩, _⟩, ⟨⟨m1, m2, m3, m4⟩, _⟩, hbl, _⟩ := hcut
    simp only [Nat.zero_add] at l1 l2 l3 l4 m1 m2 m3 m4
    have HBL := Lib.hid hbl
    have HC1 := Lib.hid cmpInt_any
    have HC2 := Lib.hid cmpInt64_any
    have HC3 := Lib.hid cmpStr_any
    have HC4 := Lib.hid floats_any
    clear hbl
    go_wp2_with (first | (go_at_call 43; refine (HC1.out _ _ _).mono ?_; rintro e w' ⟨rfl, rfl⟩) | (go_at_call 46; refine (HC2.out _ _ _).mono ?_; rintro e w' ⟨rfl, rfl⟩) | (go_at_call 45; refine (HC3.out _ _ _).mono ?_; rintro e w' ⟨rfl, rfl⟩) | (go_at_call 44; refine (HC4.out _ _ _).mono ?_; rintro e w' ⟨rfl, rfl⟩))
    all_goals go_ret
    all_goals refine ⟨?_, HBL.out⟩
    all_goals rw [HR.out]
    all_goals unfold cmpP
    all_goals simp_all
end Go.Proofs.Ytaanejhpodbdnaa
