/- The reference's number, Cmp. -/
import Derived.Test.YtaanejhpodbdnaaVaK
namespace Go.Proofs.Ytaanejhpodbdnaa
open Go.RowKit
set_option maxRecDepth 100000
set_option linter.unusedVariables false
attribute [local go_sem] run_store_float

theorem RPlain_exp (k n : Int) (f : Nat) (s : ByteArray) (hv : Val.wf ⟨k, n, f, s⟩) (w : World) : Calls Try.prog 22 #[.agg #[.int .i64 k, .int .i64 n, .float .f64 f, .string s]] w
    fun e w' => e = .returned (.agg #[.int .i64 (rplainV ⟨k, n, f, s⟩).kind, .int .i64 (rplainV ⟨k, n, f, s⟩).int, .float .f64 (rplainV ⟨k, n, f, s⟩).flt, .string (rplainV ⟨k, n, f, s⟩).text]) ∧ Below w.heap.size w w' := RPlain_any _ hv w

theorem right_kind (v : Val) (h : rightV v = true) : v.kind = 0 ∨ v.kind = 1 ∨ v.kind = 2 ∨ v.kind = 3 ∨ v.kind = 4 := by
  unfold rightV at h
  simp only [Bool.or_eq_true, Bool.and_eq_true, beq_iff_eq] at h
  omega

theorem rnumber_any (v : Val) (hv : v.wf) (w : World) : Calls Try.prog 40 #[v.agg] w fun e w' => e = .returned (.bool (numV v)) ∧ Below w.heap.size w w' := by
  have HRI := Lib.hid (fun W => RRight_any v hv W)
  have hk := right_kind v
  unfold numV
  obtain ⟨r, hr⟩ : ∃ r, r = rightV v := ⟨_, rfl⟩
  rw [← hr] at HRI hk
  rw [← hr]
  clear hr hv
  have HL := Lib.hid (LiesV.new w v 28)
  have HB0 := Lib.hid ((Below.refl _ w).alloc (Nat.le_refl _) (.cells #[.int .i64 v.kind, .int .i64 v.int, .float .f64 v.flt, .string v.text] 28))
  obtain ⟨k, n, f, s⟩ := v
  unfold Val.agg at *
  simp only at *
  cases r with
  | false =>
    clear hk
    go_enter Try.func40, Try.ntmps40
    go_wp2_with (go_at_call 39; refine (HRI.out _).mono ?_; rintro e w1 ⟨rfl, hb⟩; have HB1 := Lib.hid (HB0.out.trans (hb.mono HB0.out.size)); obtain ⟨⟨l1, _, _, _⟩, _⟩ := HL.out.below hb (by simp); clear hb)
    go_ret
    exact ⟨rfl, HB1.out⟩
  | true =>
    rcases hk rfl with rfl | rfl | rfl | rfl | rfl
    all_goals go_enter Try.func40, Try.ntmps40
    all_goals go_wp2_with (go_at_call 39; refine (HRI.out _).mono ?_; rintro e w1 ⟨rfl, hb⟩; have HB1 := Lib.hid (HB0.out.trans (hb.mono HB0.out.size)); obtain ⟨⟨l1, _, _, _⟩, _⟩ := HL.out.below hb (by simp); clear hb)
    all_goals go_ret
    all_goals exact ⟨rfl, HB1.out⟩

/-- How the reference has two plain values stand. -/
def lessR (a b : Val) : Bool := if a.kind = 3 then (FloatKind.f64.format.order a.flt b.flt == some .lt || (!nanB a.flt && nanB b.flt)) else if a.kind = 4 then Op.bytesLess a.text.toList b.text.toList else decide (a.int < b.int)
def moreR (a b : Val) : Bool := if a.kind = 3 then (FloatKind.f64.format.order a.flt b.flt == some .gt || (nanB a.flt && !nanB b.flt)) else if a.kind = 4 then (!Op.bytesLess a.text.toList b.text.toList && !(a.text.toList == b.text.toList)) else decide (b.int < a.int)
def rcmpP (a b : Val) : Int := if a.kind ≠ b.kind then (if a.kind < b.kind then -1 else 1) else if lessR a b then -1 else if moreR a b then 1 else 0

set_option maxHeartbeats 4000000 in
theorem RCmp_plain (a b : Val) (ha : a.wf) (hb : b.wf) (w : World) : Calls Try.prog 24 #[a.agg, b.agg] w fun e w' => e = .returned (.int .i64 (rcmpP (rplainV a) (rplainV b))) ∧ Below w.heap.size w w' := by
  have HT := Lib.hid (Two.start w a b 28 28)
  obtain ⟨r, hr⟩ : ∃ r, r = rcmpP (rplainV a) (rplainV b) := ⟨_, rfl⟩
  rw [← hr]
  obtain ⟨k, n, f, s⟩ := a
  obtain ⟨k', n', f', s'⟩ := b
  obtain ⟨p, hp⟩ : ∃ p, p = rplainV ⟨k, n, f, s⟩ := ⟨_, rfl⟩
  obtain ⟨q, hq⟩ : ∃ q, q = rplainV ⟨k', n', f', s'⟩ := ⟨_, rfl⟩
  rw [← hp, ← hq] at hr
  obtain ⟨pk, pn, pf, ps⟩ := p
  obtain ⟨qk, qn, qf, qs⟩ := q
  have HP := Lib.hid hp.symm
  have HQ := Lib.hid hq.symm
  have HR := Lib.hid hr
  have n1 : (FloatKind.f64.format.order pf pf != some .eq) = nanB pf := by rw [bne, order_self, Bool.not_not]
  have n2 : (FloatKind.f64.format.order qf qf != some .eq) = nanB qf := by rw [bne, order_self, Bool.not_not]
  clear hp hq hr
  unfold Val.agg
  simp only
  go_enter Try.func24, Try.ntmps24
  go_upto_region 3 with (first | (go_at_call 22; refine (RPlain_exp _ _ _ _ (by assumption) _).mono ?_; (try rw [HP.out]); (try rw [HQ.out]); rintro e wx ⟨rfl, hbx⟩; (first | (have HT1 := Lib.hid (HT.out.later hbx); obtain ⟨⟨⟨l1, l2, l3, l4⟩, g1, g2, g3, g4⟩, ⟨⟨m1, m2, m3, m4⟩, q1, q2, q3, q4⟩, _, hsx⟩ := HT1.out) | (have HT2 := Lib.hid ((HT1.out.set1 ⟨pk, pn, pf, ps⟩).later hbx); obtain ⟨⟨⟨l1, l2, l3, l4⟩, g1, g2, g3, g4⟩, ⟨⟨m1, m2, m3, m4⟩, q1, q2, q3, q4⟩, _, hsx⟩ := HT2.out)); simp only [Nat.zero_add] at l1 l2 l3 l4 g1 g2 g3 g4 m1 m2 m3 m4 q1 q2 q3 q4; clear hbx))
  obtain ⟨W3, hW3⟩ : ∃ W3, ((((wx.setCell ⟨w.heap.size + 1, 0, none⟩ (.int .i64 qk)).setCell ⟨w.heap.size + 1, 1, none⟩ (.int .i64 qn)).setCell ⟨w.heap.size + 1, 2, none⟩ (.float .f64 qf)).setCell ⟨w.heap.size + 1, 3, none⟩ (.string qs)) = W3 := ⟨_, rfl⟩
  have HT3 := Lib.hid (show Two w ⟨pk, pn, pf, ps⟩ ⟨qk, qn, qf, qs⟩ W3 by rw [← hW3]; exact HT2.out.set2 ⟨qk, qn, qf, qs⟩)
  rw [hW3]
  clear hW3 l1 l2 l3 l4 g1 g2 g3 g4 m1 m2 m3 m4 q1 q2 q3 q4 hsx
  obtain ⟨⟨⟨l1, l2, l3, l4⟩, _⟩, ⟨⟨m1, m2, m3, m4⟩, _⟩, _, _⟩ := HT3.out
  simp only [Nat.zero_add] at l1 l2 l3 l4 m1 m2 m3 m4
  have hnan := order_nan pf qf
  obtain ⟨O, hO⟩ : ∃ O, FloatKind.f64.format.order pf qf = O := ⟨_, rfl⟩
  rw [hO] at hnan
  have HB := Lib.hid HT3.out.2.2.1
  clear HT HT1 HT2 HT3 HP HQ ha hb
  unfold rcmpP lessR moreR at HR
  simp only at HR
  rw [hO] at HR
  by_cases hpq : pk = qk
  · subst hpq
    rw [if_neg (by simp)] at HR
    by_cases h3 : pk = 3
    · subst h3
      rw [if_pos rfl, if_pos rfl] at HR
      cases hn1 : nanB pf <;> cases hn2 : nanB qf <;> rw [hn1, hn2] at HR hnan <;> rw [hn1] at n1 <;> rw [hn2] at n2
      case false.false =>
        clear hnan hn1 hn2
        cases O with
        | none =>
          go_wp2
          all_goals go_ret
          all_goals exact ⟨by rw [HR.out]; rfl, HB.out⟩
        | some o =>
          cases o
          all_goals go_wp2
          all_goals go_ret
          all_goals exact ⟨by rw [HR.out]; rfl, HB.out⟩
      all_goals (obtain rfl : O = none := hnan (by simp))
      all_goals clear hnan hn1 hn2
      all_goals go_wp2
      all_goals go_ret
      all_goals exact ⟨by rw [HR.out]; rfl, HB.out⟩
    · rw [if_neg h3, if_neg h3] at HR
      have h3z : ((pk : Int) == 3) = false := by simp; exact h3
      by_cases h4 : pk = 4
      · subst h4
        rw [if_pos rfl, if_pos rfl] at HR
        clear h3 h3z hO hnan n1 n2
        go_wp2
        all_goals go_ret
        all_goals refine ⟨?_, HB.out⟩
        all_goals rw [HR.out]
        all_goals simp_all
      · rw [if_neg h4, if_neg h4] at HR
        have h4z : ((pk : Int) == 4) = false := by simp; exact h4
        clear h3 h4 hO hnan n1 n2
        go_wp2
        all_goals go_ret
        all_goals refine ⟨?_, HB.out⟩
        all_goals rw [HR.out]
        all_goals (simp_all <;> omega)
  · rw [if_pos hpq] at HR
    clear hO hnan n1 n2
    go_wp2
    all_goals go_ret
    all_goals refine ⟨?_, HB.out⟩
    all_goals rw [HR.out]
    all_goals (simp_all <;> omega)
end Go.Proofs.Ytaanejhpodbdnaa
