/- Plain: what the components of a set are. -/
import Derived.Test.YtmjpdknnglblcaaDoorGrP
namespace Go.Proofs.YtmjpdknnglblcaaDoor
namespace Gr
set_option linter.unusedVariables false

theorem low_least (s j : Nat) (h0 : s ≠ 0) (h : s < 4294967296) (hj : j < lowB s) : s.testBit j = false := by
  obtain ⟨m, hm⟩ := ctz_form s h0 h
  have hj' : j < Lib.ctz 32 s := hj
  generalize Lib.ctz 32 s = c at *
  rw [hm, Nat.testBit_two_pow_mul]
  simp; omega
theorem low_le (s j : Nat) (h0 : s ≠ 0) (h : s < 4294967296) (hj : s.testBit j = true) : lowB s ≤ j := by
  apply Nat.le_of_not_lt
  intro hlt
  rw [low_least s j h0 h hlt] at hj; cases hj
theorem ne_zero_of (s j : Nat) (h : s.testBit j = true) : s ≠ 0 := by intro e; rw [e] at h; simp at h

/-- A part that has the least has it for its least. -/
theorem low_sub (t c : Nat) (h0 : t ≠ 0) (h : t < 4294967296) (hsub : ∀ i, c.testBit i = true → t.testBit i = true) (hl : c.testBit (lowB t) = true) : lowB c = lowB t := by
  have hc : c ≤ t := testBit_ext_le c t hsub
  have hc0 := ne_zero_of c _ hl
  have h1 := low_le c _ hc0 (by omega) hl
  have h2 := low_le t _ h0 h (hsub _ (testBit_at c hc0 (by omega)))
  exact Nat.le_antisymm h1 h2

theorem it_mono (n : Nat) (A : Nat → Nat → Bool) (within s : Nat) (i x : Nat) (h : (itB n A within s i).testBit x = true) : ∀ d, (itB n A within s (i + d)).testBit x = true
  | 0 => h
  | d + 1 => by
    rw [show i + (d + 1) = (i + d) + 1 by omega]
    simp only [itB, stepB]
    rw [Nat.testBit_or, it_mono n A within s i x h d]; rfl

/-- What grows within a set grows alike within what it comes to. -/
theorem it_inner (n : Nat) (A : Nat → Nat → Bool) (t s c N : Nat) (hc : c = itB n A t s N) (hct : ∀ i, c.testBit i = true → t.testBit i = true) : ∀ j, j ≤ N → itB n A c s j = itB n A t s j
  | 0, _ => rfl
  | j + 1, hj => by
    simp only [itB]
    rw [it_inner n A t s c N hc hct j (by omega)]
    apply Nat.eq_of_testBit_eq
    intro x
    simp only [stepB, Nat.testBit_or, Nat.testBit_and]
    cases hx : (nearB n A (itB n A t s j)).testBit x with
    | false => simp
    | true =>
      cases ht : t.testBit x with
      | false =>
        cases hcx : c.testBit x with
        | false => simp
        | true => rw [hct x hcx] at ht; cases ht
      | true =>
        have h1 : (itB n A t s (j + 1)).testBit x = true := by
          simp only [itB, stepB, Nat.testBit_or, Nat.testBit_and, hx, ht]; simp
        obtain ⟨d, hd⟩ : ∃ d, N = (j + 1) + d := ⟨N - (j + 1), by omega⟩
        have h2 := it_mono n A t s (j + 1) x h1 d
        rw [← hd, ← hc] at h2
        rw [h2]

theorem grow_conn (n : Nat) (A : Nat → Nat → Bool) (t : Nat) (hn : n ≤ 12) (h0 : t ≠ 0) (ht : t < 2 ^ n) : connB n A (growB n A t (lowB t)) = true := by
  have hp : 2 ^ n ≤ 2 ^ 32 := Nat.pow_le_pow_right (by omega) (by omega)
  have hat := testBit_at t h0 (by omega)
  have hsub : ∀ i, (growB n A t (lowB t)).testBit i = true → t.testBit i = true := fun i h => grow_within n A t (lowB t) i hat h
  have hlow := low_sub t _ h0 (by omega) hsub (grow_has n A t _)
  have hle := testBit_ext_le _ _ hsub
  unfold connB
  rw [hlow]
  have h1 : growB n A (growB n A t (lowB t)) (lowB t) = growB n A t (lowB t) := it_inner n A t (2 ^ lowB t) (growB n A t (lowB t)) n rfl hsub n (Nat.le_refl _)
  simp only [h1, decide_true, Bool.and_true, Bool.and_eq_true, decide_eq_true_eq]
  exact ⟨ne_zero_of _ _ (grow_has n A t (lowB t)), by omega⟩

/-- Nothing of the set that is left out is next to what it comes to. -/
theorem grow_shut (n : Nat) (A : Nat → Nat → Bool) (t i j : Nat) (hn : n ≤ 12) (h0 : t ≠ 0) (ht : t < 2 ^ n) (hi : (growB n A t (lowB t)).testBit i = true) (hj : t.testBit j = true) (hjc : (growB n A t (lowB t)).testBit j = false) : A i j = false := by
  have hp : 2 ^ n ≤ 2 ^ 32 := Nat.pow_le_pow_right (by omega) (by omega)
  have hl := low_lt' t n h0 (by omega) ht
  have hat := testBit_at t h0 (by omega)
  have hfix := (near_and_zero n A t (growB n A t (lowB t))).2 (it_fix n A t (2 ^ lowB t) (card_one n _ hl))
  cases hA : A i j with
  | false => rfl
  | true =>
    have hin : i < n := by
      apply Nat.lt_of_not_le; intro hle
      rw [Nat.testBit_lt_two_pow (Nat.lt_of_lt_of_le (Nat.lt_of_le_of_lt (testBit_ext_le _ _ (fun x => grow_within n A t (lowB t) x hat)) ht) (Nat.pow_le_pow_right (by omega) hle))] at hi; cases hi
    have hjn : j < n := by
      apply Nat.lt_of_not_le; intro hle
      rw [Nat.testBit_lt_two_pow (Nat.lt_of_lt_of_le ht (Nat.pow_le_pow_right (by omega) hle))] at hj; cases hj
    have : (nearB n A (growB n A t (lowB t)) &&& t).testBit j = true := by
      rw [Nat.testBit_and, testBit_nearB, hj, hjc]
      simp only [hjn, decide_true, Bool.not_false, Bool.true_and, Bool.and_true]
      exact List.any_eq_true.2 ⟨i, List.mem_range.2 hin, by rw [hi, hA]; rfl⟩
    rw [hfix] at this; simp at this

/-- What stands ahead of a component: t is left, seen has been told. -/
structure PartI (n : Nat) (A : Nat → Nat → Bool) (all t seen last : Nat) : Prop where
  sub : ∀ i, t.testBit i = true → all.testBit i = true
  told : ∀ i, seen.testBit i = (all.testBit i && !t.testBit i)
  last : t ≠ 0 → last < 2 ^ lowB t
  shut : ∀ i j, seen.testBit i = true → t.testBit j = true → A i j = false

theorem PartI.start (n : Nat) (A : Nat → Nat → Bool) (all : Nat) : PartI n A all all 0 0 where
  sub := fun _ h => h
  told := fun i => by simp
  last := fun _ => Nat.pow_pos (by omega)
  shut := fun i j h => by simp at h

theorem PartI.step {n : Nat} {A : Nat → Nat → Bool} {all t seen last : Nat} (h : PartI n A all t seen last) (hn : n ≤ 12) (hA : ∀ i j, A i j = A j i) (hall : all < 2 ^ n) (h0 : t ≠ 0) (c : Nat) (hc : c = growB n A t (lowB t)) :
    c &&& seen = 0 ∧ connB n A c = true ∧ nearB n A c &&& all = 0 ∧ last < 2 ^ lowB c ∧ PartI n A all (dif t c) (seen ||| c) (2 ^ lowB c) ∧ c ≤ t ∧ c ≠ 0 ∧ t < 2 ^ n := by
  have hp : 2 ^ n ≤ 2 ^ 32 := Nat.pow_le_pow_right (by omega) (by omega)
  have htl : t ≤ all := testBit_ext_le _ _ h.sub
  have ht : t < 2 ^ n := by omega
  have hat := testBit_at t h0 (by omega)
  have hsub : ∀ i, c.testBit i = true → t.testBit i = true := fun i hi => by rw [hc] at hi; exact grow_within n A t (lowB t) i hat hi
  have hcl : c.testBit (lowB t) = true := by rw [hc]; exact grow_has n A t _
  have hlow := low_sub t c h0 (by omega) hsub hcl
  have hct := testBit_ext_le c t hsub
  have hbit : ∀ i, (dif t c).testBit i = (t.testBit i && !c.testBit i) := fun i => testBit_dif t c i (by omega) (by omega)
  refine ⟨?_, by rw [hc]; exact grow_conn n A t hn h0 ht, ?_, by rw [hlow]; exact h.last h0, ?_, hct, ne_zero_of c _ hcl, ht⟩
  · apply Nat.eq_of_testBit_eq
    intro i
    rw [Nat.testBit_and, h.told]
    cases hi : c.testBit i with
    | false => simp
    | true => rw [hsub i hi]; simp
  · apply Nat.eq_of_testBit_eq
    intro k
    rw [Nat.testBit_and, testBit_nearB, Nat.zero_testBit]
    cases hk : all.testBit k with
    | false => simp
    | true =>
      rw [Bool.and_true]
      cases hck : c.testBit k with
      | true => simp
      | false =>
        rw [Bool.not_false, Bool.true_and]
        have : ((List.range n).any fun i => c.testBit i && A i k) = false := by
          apply Bool.eq_false_iff.2
          intro hany
          obtain ⟨i, _, hi⟩ := List.any_eq_true.1 hany
          simp only [Bool.and_eq_true] at hi
          cases htk : t.testBit k with
          | true =>
            have := grow_shut n A t i k hn h0 ht (by rw [← hc]; exact hi.1) htk (by rw [← hc]; exact hck)
            rw [this] at hi; cases hi.2
          | false =>
            have hs : seen.testBit k = true := by rw [h.told, hk, htk]; rfl
            have := h.shut k i hs (hsub i hi.1)
            rw [hA, this] at hi; cases hi.2
        rw [this]; simp
  · refine ⟨fun i hi => ?_, fun i => ?_, fun hd => ?_, fun i j hi hj => ?_⟩
    · rw [hbit] at hi; simp at hi; exact h.sub i hi.1
    · rw [Nat.testBit_or, h.told, hbit]
      cases hci : c.testBit i with
      | false => simp
      | true => rw [h.sub i (hsub i hci)]; simp
    · rw [hlow]
      have hdl : dif t c ≤ t := dif_le t c
      have hd1 := testBit_at (dif t c) hd (by omega)
      rw [hbit] at hd1
      simp only [Bool.and_eq_true, Bool.not_eq_true'] at hd1
      have h1 : lowB t ≤ Lib.ctz 32 (dif t c) := low_le t _ h0 (by omega) hd1.1
      have h2 : lowB t ≠ Lib.ctz 32 (dif t c) := by intro e; rw [← e, hcl] at hd1; cases hd1.2
      exact Nat.pow_lt_pow_right (by omega) (show lowB t < lowB (dif t c) from by unfold lowB at *; omega)
    · rw [hbit] at hj
      simp only [Bool.and_eq_true, Bool.not_eq_true'] at hj
      rw [Nat.testBit_or, Bool.or_eq_true] at hi
      rcases hi with hi | hi
      · exact h.shut i j hi hj.1
      · exact grow_shut n A t i j hn h0 ht (by rw [← hc]; exact hi) hj.1 (by rw [← hc]; exact hj.2)

theorem PartI.done {n : Nat} {A : Nat → Nat → Bool} {all seen last : Nat} (h : PartI n A all 0 seen last) : seen = all := by
  apply Nat.eq_of_testBit_eq
  intro i
  rw [h.told]; simp

theorem dif_zero (a c : Nat) (ha : a < 4294967296) (hc : c < 4294967296) (hsub : ∀ i, c.testBit i = true → a.testBit i = true) : dif a c = 0 ↔ c = a := by
  constructor
  · intro h
    apply Nat.eq_of_testBit_eq
    intro i
    have hb := testBit_dif a c i ha hc
    rw [h, Nat.zero_testBit] at hb
    cases h1 : c.testBit i with
    | true => rw [hsub i h1]
    | false => rw [h1] at hb; simpa using hb
  · intro h
    subst h
    apply Nat.eq_of_testBit_eq
    intro i
    rw [testBit_dif c c i ha hc]; simp

/-- A set is connected if it has one component. -/
theorem conn_one (n : Nat) (A : Nat → Nat → Bool) (all : Nat) (hn : n ≤ 12) (hall : all < 2 ^ n) : connB n A all = decide ((compsL n A all).length = 1) := by
  have hp : 2 ^ n ≤ 2 ^ 32 := Nat.pow_le_pow_right (by omega) (by omega)
  by_cases h0 : all = 0
  · subst h0; rw [compsL_zero]; simp [connB]
  · have hat := testBit_at all h0 (by omega)
    have hsub : ∀ i, (growB n A all (lowB all)).testBit i = true → all.testBit i = true := fun i hi => grow_within n A all (lowB all) i hat hi
    have hcl := testBit_ext_le _ _ hsub
    have hz := dif_zero all _ (by omega) (by omega) hsub
    rw [compsL_step n A all hn h0 hall]
    have hd : dif all (growB n A all (lowB all)) ≤ all := dif_le _ _
    unfold connB
    by_cases he : growB n A all (lowB all) = all
    · rw [hz.2 he, compsL_zero]
      simp [h0, hall, he]
    · have hne : dif all (growB n A all (lowB all)) ≠ 0 := fun e => he (hz.1 e)
      rw [compsL_step n A _ hn hne (by omega)]
      simp [he]
end Gr
end Go.Proofs.YtmjpdknnglblcaaDoor
