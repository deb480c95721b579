/- Plain: what the splits of a set are. -/
import Derived.Test.YtmjpdknnglblcaaDoorGrG
import Derived.Test.YtmjpdknnglblcaaDoorGrT
namespace Go.Proofs.YtmjpdknnglblcaaDoor
namespace Gr
set_option linter.unusedVariables false

/-- Nothing left out is next to a part with the least: then it is all. -/
theorem near_part (n : Nat) (A : Nat → Nat → Bool) (s a : Nat) (hn : n ≤ 12) (hs : s < 2 ^ n) (hc : connB n A s = true) (hsub : ∀ i, a.testBit i = true → s.testBit i = true) (hl : a.testBit (lowB s) = true) (hz : nearB n A a &&& dif s a = 0) : a = s := by
  have hp : 2 ^ n ≤ 2 ^ 32 := Nat.pow_le_pow_right (by omega) (by omega)
  have ha : a ≤ s := testBit_ext_le _ _ hsub
  have hall : ∀ j i, (itB n A s (2 ^ lowB s) j).testBit i = true → a.testBit i = true := by
    intro j
    induction j with
    | zero =>
      intro i hi
      simp only [itB, Nat.testBit_two_pow, decide_eq_true_eq] at hi
      rw [← hi]; exact hl
    | succ j ih =>
      intro i hi
      simp only [itB, stepB, Nat.testBit_or, Nat.testBit_and, Bool.or_eq_true, Bool.and_eq_true] at hi
      rcases hi with hi | ⟨hi, his⟩
      · exact ih i hi
      · cases hai : a.testBit i with
        | true => rfl
        | false =>
          exfalso
          have : (nearB n A a &&& dif s a).testBit i = true := by
            rw [testBit_nearB] at hi
            simp only [Bool.and_eq_true, decide_eq_true_eq] at hi
            obtain ⟨h1, h2, h3⟩ := hi
            obtain ⟨x, hx, hx2⟩ := List.any_eq_true.1 h3
            simp only [Bool.and_eq_true] at hx2
            rw [Nat.testBit_and, testBit_nearB, testBit_dif s a i (by omega) (by omega), his, hai]
            simp only [h1, decide_true, Bool.not_false, Bool.true_and, Bool.and_true]
            exact List.any_eq_true.2 ⟨x, hx, by rw [ih x hx2.1, hx2.2]; rfl⟩
          rw [hz] at this; simp at this
  unfold connB at hc
  simp only [Bool.and_eq_true, decide_eq_true_eq] at hc
  apply Nat.le_antisymm ha
  apply testBit_ext_le
  intro i hi
  have := hall n i
  rw [show itB n A s (2 ^ lowB s) n = s from hc.2] at this
  exact this hi

/-- In a set all of whose relations are next to one another, each part hangs together. -/
theorem full_conn (n : Nat) (A : Nat → Nat → Bool) (s a : Nat) (hn : n ≤ 12) (hs : s < 2 ^ n) (hfull : ∀ i j, s.testBit i = true → s.testBit j = true → i ≠ j → A i j = true) (hsub : ∀ i, a.testBit i = true → s.testBit i = true) (h0 : a ≠ 0) : connB n A a = true := by
  have hp : 2 ^ n ≤ 2 ^ 32 := Nat.pow_le_pow_right (by omega) (by omega)
  have ha : a ≤ s := testBit_ext_le _ _ hsub
  have hat := testBit_at a h0 (by omega)
  have hw : ∀ i, (growB n A a (lowB a)).testBit i = true → a.testBit i = true := fun i hi => grow_within n A a (lowB a) i hat hi
  unfold connB
  simp only [Bool.and_eq_true, decide_eq_true_eq]
  refine ⟨⟨h0, by omega⟩, Nat.le_antisymm (testBit_ext_le _ _ hw) (testBit_ext_le _ _ fun j hj => ?_)⟩
  cases hjc : (growB n A a (lowB a)).testBit j with
  | true => rfl
  | false =>
    have h1 := grow_shut n A a (lowB a) j hn h0 (by omega) (grow_has n A a _) hj hjc
    have hne : lowB a ≠ j := by intro e; rw [← e, grow_has] at hjc; cases hjc
    rw [hfull (lowB a) j (hsub _ hat) (hsub _ hj) hne] at h1; cases h1

def popB (n s : Nat) : Nat := (List.range n).countP s.testBit
def cntOk (s : Nat) : Bool := s == 0 || ((partsL s).length == 2 ^ (popB 8 s - 1) - 1 && decide (1 ≤ popB 8 s)) && (partsL s).all fun a => (a ||| dif s a == s) && (a &&& dif s a == 0) && (a &&& 2 ^ lowB s != 0) && a.testBit (lowB s) && (a &&& s == a) && (a != 0) && (dif s a != 0) && (dif s a &&& s == dif s a)
set_option maxRecDepth 100000 in
theorem cnt_all : ((List.range 256).all cntOk) = true := by decide +kernel
theorem cnt_spec (s : Nat) (h0 : s ≠ 0) (hs : s < 256) : (partsL s).length = 2 ^ (popB 8 s - 1) - 1 ∧ 1 ≤ popB 8 s ∧ ∀ a ∈ partsL s, a ||| dif s a = s ∧ a &&& dif s a = 0 ∧ a &&& 2 ^ lowB s ≠ 0 ∧ a.testBit (lowB s) = true ∧ a &&& s = a ∧ a ≠ 0 ∧ dif s a ≠ 0 ∧ dif s a &&& s = dif s a := by
  have h := List.all_eq_true.1 cnt_all s (List.mem_range.2 hs)
  unfold cntOk at h
  simp only [Bool.or_eq_true, beq_iff_eq, h0, false_or, Bool.and_eq_true, decide_eq_true_eq] at h
  refine ⟨h.1.1, h.1.2, fun a ha => ?_⟩
  have := List.all_eq_true.1 h.2 a ha
  simp only [Bool.and_eq_true, beq_iff_eq, bne_iff_ne, ne_eq] at this
  obtain ⟨⟨⟨⟨⟨⟨⟨h1, h2⟩, h3⟩, h4⟩, h5⟩, h6⟩, h7⟩, h8⟩ := this
  exact ⟨h1, h2, h3, h4, h5, h6, h7, h8⟩

theorem sub_of_and (a s : Nat) (h : a &&& s = a) : ∀ i, a.testBit i = true → s.testBit i = true := by
  intro i hi
  rw [← h, Nat.testBit_and, Bool.and_eq_true] at hi
  exact hi.2

theorem parts_sorted (s : Nat) : (partsL s).Pairwise (· < ·) := by
  unfold partsL
  exact List.Pairwise.filter _ List.pairwise_lt_range

/-- Each split, as the law asks. -/
theorem split_spec (n : Nat) (A : Nat → Nat → Bool) (s a : Nat) (hn : n ≤ 8) (hs : s < 2 ^ n) (hc : connB n A s = true) (ha : a ∈ (partsL s).filter (both n A s)) :
    a ||| dif s a = s ∧ a &&& dif s a = 0 ∧ a &&& 2 ^ lowB s ≠ 0 ∧ connB n A a = true ∧ connB n A (dif s a) = true ∧ nearB n A a &&& dif s a ≠ 0 ∧ a ≠ 0 := by
  have hp : 2 ^ n ≤ 2 ^ 8 := Nat.pow_le_pow_right (by omega) hn
  have h0 : s ≠ 0 := by intro e; subst e; simp [connB] at hc
  obtain ⟨h1, h2⟩ := List.mem_filter.1 ha
  obtain ⟨e1, e2, e3⟩ := cnt_spec s h0 (by omega)
  obtain ⟨q1, q2, q3, q4, q5, q6, q7, q8⟩ := e3 a h1
  unfold both at h2
  rw [Bool.and_eq_true] at h2
  refine ⟨q1, q2, q3, h2.1, h2.2, fun hz => q7 ?_, q6⟩
  have := near_part n A s a (by omega) hs hc (sub_of_and a s q5) q4 hz
  rw [← this]
  have := (dif_zero a a (by omega) (by omega) (fun _ h => h)).2 rfl
  exact this

/-- As many as there may be. -/
theorem split_full (n : Nat) (A : Nat → Nat → Bool) (s : Nat) (hn : n ≤ 8) (hs : s < 2 ^ n) (hc : connB n A s = true) (hfull : ∀ i j, s.testBit i = true → s.testBit j = true → i ≠ j → A i j = true) :
    (splitsL n A s).length = 2 ^ (popB 8 s - 1) - 1 ∧ 1 ≤ popB 8 s := by
  have hp : 2 ^ n ≤ 2 ^ 8 := Nat.pow_le_pow_right (by omega) hn
  have h0 : s ≠ 0 := by intro e; subst e; simp [connB] at hc
  obtain ⟨e1, e2, e3⟩ := cnt_spec s h0 (by omega)
  refine ⟨?_, e2⟩
  unfold splitsL
  rw [if_pos hc, List.length_map, List.filter_eq_self.2, e1]
  intro a ha
  obtain ⟨q1, q2, q3, q4, q5, q6, q7, q8⟩ := e3 a ha
  unfold both
  rw [full_conn n A s a (by omega) hs hfull (sub_of_and a s q5) q6, full_conn n A s (dif s a) (by omega) hs hfull (sub_of_and _ s q8) q7]; rfl
end Gr
end Go.Proofs.YtmjpdknnglblcaaDoor
