/- Plain sets of relations as numbers: what is next to a set, what hangs together. -/
import Derived.Lib.TrailingZeros
namespace Go.Proofs.YtmjpdknnglblcaaDoor
namespace Gr
set_option linter.unusedVariables false

/-- The number whose bits below n are told by p. -/
def ofB (n : Nat) (p : Nat → Bool) : Nat := match n with
  | 0 => 0
  | n + 1 => ofB n p + (if p n then 2 ^ n else 0)
theorem ofB_lt (n : Nat) (p : Nat → Bool) : ofB n p < 2 ^ n := by
  induction n with
  | zero => simp [ofB]
  | succ n ih => simp only [ofB]; rw [Nat.pow_succ]; split <;> omega
theorem testBit_ofB (n : Nat) (p : Nat → Bool) (j : Nat) : (ofB n p).testBit j = (decide (j < n) && p j) := by
  induction n with
  | zero => simp [ofB]
  | succ n ih =>
    simp only [ofB]
    have hlt := ofB_lt n p
    split
    · rename_i h
      rw [Nat.add_comm]
      by_cases hj : j = n
      · subst hj
        rw [Nat.testBit_two_pow_add_eq, Nat.testBit_lt_two_pow hlt]; simp [h]
      · by_cases hjn : j < n
        · rw [Nat.testBit_two_pow_add_gt hjn, ih]; simp [hjn]; omega
        · rw [Nat.testBit_lt_two_pow]
          · simp; omega
          · have : 2 ^ (n + 1) ≤ 2 ^ j := Nat.pow_le_pow_right (by omega) (by omega)
            rw [Nat.pow_succ] at this; omega
    · rename_i h
      rw [Nat.add_zero, ih]
      by_cases hj : j = n
      · subst hj; simp [h]
      · by_cases hjn : j < n
        · simp [hjn]; omega
        · simp [hjn]; omega
theorem ofB_of (n x : Nat) (h : x < 2 ^ n) : ofB n x.testBit = x := by
  apply Nat.eq_of_testBit_eq
  intro i
  rw [testBit_ofB]
  by_cases hi : i < n
  · simp [hi]
  · simp [hi]
    exact Nat.testBit_lt_two_pow (Nat.lt_of_lt_of_le h (Nat.pow_le_pow_right (by omega) (by omega)))

/-- a without b. -/
def dif (a b : Nat) : Nat := a &&& (4294967295 - b)
theorem testBit_dif (a b i : Nat) (ha : a < 4294967296) (hb : b < 4294967296) : (dif a b).testBit i = (a.testBit i && !b.testBit i) := by
  unfold dif
  rw [Nat.testBit_and]
  have e : 4294967295 - b = 2 ^ 32 - (b + 1) := by omega
  rw [e, Nat.testBit_two_pow_sub_succ hb]
  by_cases hi : i < 32
  · simp [hi]
  · have : a.testBit i = false := Nat.testBit_lt_two_pow (Nat.lt_of_lt_of_le ha (show 2 ^ 32 ≤ 2 ^ i from Nat.pow_le_pow_right (by omega) (by omega)))
    simp [this]
theorem dif_le (a b : Nat) : dif a b ≤ a := Nat.and_le_left

/-- What is next to a set, by what is next to what. -/
def nearB (n : Nat) (A : Nat → Nat → Bool) (s : Nat) : Nat := ofB n fun k => !s.testBit k && (List.range n).any fun i => s.testBit i && A i k
theorem testBit_nearB (n : Nat) (A : Nat → Nat → Bool) (s k : Nat) : (nearB n A s).testBit k = (decide (k < n) && (!s.testBit k && (List.range n).any fun i => s.testBit i && A i k)) := testBit_ofB _ _ _
theorem nearB_lt (n : Nat) (A : Nat → Nat → Bool) (s : Nat) : nearB n A s < 2 ^ n := ofB_lt _ _

def stepB (n : Nat) (A : Nat → Nat → Bool) (within s : Nat) : Nat := s ||| (nearB n A s &&& within)
def itB (n : Nat) (A : Nat → Nat → Bool) (within s : Nat) : Nat → Nat
  | 0 => s
  | j + 1 => stepB n A within (itB n A within s j)

theorem count_le (p q : Nat → Bool) (l : List Nat) (h : ∀ x ∈ l, p x = true → q x = true) : l.countP p ≤ l.countP q := List.countP_mono_left h
theorem count_lt (p q : Nat → Bool) : ∀ (l : List Nat) (h : ∀ x ∈ l, p x = true → q x = true) (x : Nat), x ∈ l → p x = false → q x = true → l.countP p < l.countP q
  | [], _, x, hx, _, _ => by cases hx
  | y :: l, h, x, hx, hp, hq => by
    rw [List.countP_cons, List.countP_cons]
    have hle : l.countP p ≤ l.countP q := List.countP_mono_left (fun z hz => h z (by simp [hz]))
    rcases List.mem_cons.1 hx with e | hx'
    · subst e; rw [hp, hq]; simp; omega
    · have := count_lt p q l (fun z hz => h z (by simp [hz])) x hx' hp hq
      have hy := h y (by simp)
      cases hpy : p y with
      | false => simp; omega
      | true => rw [hy hpy]; simp; omega

/-- How many relations are in a set. -/
def cardB (n s : Nat) : Nat := (List.range n).countP s.testBit
theorem cardB_le (n s : Nat) : cardB n s ≤ n := by
  unfold cardB; have := List.countP_le_length (p := s.testBit) (l := List.range n); simpa using this

theorem step_grows (n : Nat) (A : Nat → Nat → Bool) (within s : Nat) (h : stepB n A within s ≠ s) : cardB n s + 1 ≤ cardB n (stepB n A within s) := by
  have : ∃ k, (nearB n A s &&& within).testBit k = true ∧ s.testBit k = false := by
    apply Classical.byContradiction
    intro hno
    apply h
    apply Nat.eq_of_testBit_eq
    intro i
    unfold stepB
    rw [Nat.testBit_or]
    cases hb : (nearB n A s &&& within).testBit i with
    | false => simp
    | true =>
      cases hs : s.testBit i with
      | true => rfl
      | false => exact absurd ⟨i, hb, hs⟩ hno
  obtain ⟨k, hk, hs⟩ := this
  have hkn : k < n := by
    rw [Nat.testBit_and, testBit_nearB] at hk
    simp at hk; exact hk.1.1
  apply count_lt
  · intro x _ hx; unfold stepB; rw [Nat.testBit_or, hx]; rfl
  · exact List.mem_range.2 hkn
  · exact hs
  · unfold stepB; rw [Nat.testBit_or, hk]; simp

theorem it_or (n : Nat) (A : Nat → Nat → Bool) (within s : Nat) (h1 : 1 ≤ cardB n s) : ∀ j, (∃ i, i ≤ j ∧ stepB n A within (itB n A within s i) = itB n A within s i) ∨ j + 1 ≤ cardB n (itB n A within s j)
  | 0 => by right; simpa [itB] using h1
  | j + 1 => by
    rcases it_or n A within s h1 j with ⟨i, hi, he⟩ | h
    · exact .inl ⟨i, by omega, he⟩
    · by_cases e : stepB n A within (itB n A within s j) = itB n A within s j
      · exact .inl ⟨j, by omega, e⟩
      · right
        have := step_grows n A within _ e
        simp only [itB]; omega

theorem it_stay (n : Nat) (A : Nat → Nat → Bool) (within s i : Nat) (h : stepB n A within (itB n A within s i) = itB n A within s i) : ∀ d, itB n A within s (i + d) = itB n A within s i
  | 0 => rfl
  | d + 1 => by
    have e : i + (d + 1) = (i + d) + 1 := by omega
    rw [e, itB, it_stay n A within s i h d, h]

/-- Behind as many rounds as there are relations nothing more comes. -/
theorem it_fix (n : Nat) (A : Nat → Nat → Bool) (within s : Nat) (h1 : 1 ≤ cardB n s) : stepB n A within (itB n A within s n) = itB n A within s n := by
  rcases it_or n A within s h1 n with ⟨i, hi, he⟩ | h
  · obtain ⟨d, rfl⟩ : ∃ d, n = i + d := ⟨n - i, by omega⟩
    rw [it_stay _ A within s i he d, he]
  · have := cardB_le n (itB n A within s n); omega
theorem it_end (n : Nat) (A : Nat → Nat → Bool) (within s : Nat) (h1 : 1 ≤ cardB n s) (j : Nat) (h : stepB n A within (itB n A within s j) = itB n A within s j) : itB n A within s j = itB n A within s n := by
  by_cases hj : j ≤ n
  · obtain ⟨d, rfl⟩ : ∃ d, n = j + d := ⟨n - j, by omega⟩
    rw [it_stay _ A within s j h d]
  · obtain ⟨d, rfl⟩ : ∃ d, j = n + d := ⟨j - n, by omega⟩
    rw [it_stay _ A within s n (it_fix n A within s h1) d]

theorem or_le_fix (s m : Nat) (h : m = 0 ∨ s ||| m ≠ s) : True := trivial
theorem near_and_zero (n : Nat) (A : Nat → Nat → Bool) (within s : Nat) : (nearB n A s &&& within = 0) ↔ stepB n A within s = s := by
  constructor
  · intro h; unfold stepB; rw [h, Nat.or_zero]
  · intro h
    apply Nat.eq_of_testBit_eq
    intro i
    rw [Nat.zero_testBit]
    cases hb : (nearB n A s &&& within).testBit i with
    | false => rfl
    | true =>
      have hs : s.testBit i = false := by
        rw [Nat.testBit_and, testBit_nearB] at hb
        simp at hb; exact hb.1.2.1
      have : (stepB n A within s).testBit i = true := by unfold stepB; rw [Nat.testBit_or, hb]; simp
      rw [h, hs] at this; cases this

theorem card_one (n i : Nat) (h : i < n) : 1 ≤ cardB n (2 ^ i) := by
  have := count_lt (fun _ => false) (2 ^ i).testBit (List.range n) (fun _ _ h => by cases h) i (List.mem_range.2 h) rfl (by simp)
  unfold cardB; omega

theorem step_lt (n : Nat) (A : Nat → Nat → Bool) (within s m : Nat) (hs : s < 2 ^ m) (hw : within < 2 ^ m) : stepB n A within s < 2 ^ m := by
  unfold stepB
  exact Nat.or_lt_two_pow hs (Nat.lt_of_le_of_lt Nat.and_le_right hw)
theorem it_lt (n : Nat) (A : Nat → Nat → Bool) (within s m : Nat) (hs : s < 2 ^ m) (hw : within < 2 ^ m) : ∀ j, itB n A within s j < 2 ^ m
  | 0 => hs
  | j + 1 => step_lt n A within _ m (it_lt n A within s m hs hw j) hw

/-- What hangs together with a relation, within a set. -/
def growB (n : Nat) (A : Nat → Nat → Bool) (within i : Nat) : Nat := itB n A within (2 ^ i) n

/-- The least relation of a set (of one that is not empty). -/
def lowB (s : Nat) : Nat := Lib.ctz 32 s

def connB (n : Nat) (A : Nat → Nat → Bool) (s : Nat) : Bool := decide (s ≠ 0) && decide (s < 2 ^ n) && decide (growB n A s (lowB s) = s)
end Gr
end Go.Proofs.YtmjpdknnglblcaaDoor
