/- Plain: the components of a set, one behind the other. -/
import Derived.Test.YtmjpdknnglblcaaDoorGrN
namespace Go.Proofs.YtmjpdknnglblcaaDoor
namespace Gr
set_option linter.unusedVariables false

def compsF (n : Nat) (A : Nat → Nat → Bool) : Nat → Nat → List Nat
  | 0, _ => []
  | f + 1, s => if s = 0 then [] else growB n A s (lowB s) :: compsF n A f (dif s (growB n A s (lowB s)))
def compsL (n : Nat) (A : Nat → Nat → Bool) (s : Nat) : List Nat := compsF n A (s + 1) s

theorem low_lt' (s n : Nat) (h0 : s ≠ 0) (hs : s < 4294967296) (h : s < 2 ^ n) : lowB s < n := by
  apply Nat.lt_of_not_le
  intro hle
  have : s.testBit (lowB s) = true := testBit_at s h0 hs
  rw [Nat.testBit_lt_two_pow (Nat.lt_of_lt_of_le h (Nat.pow_le_pow_right (by omega) hle))] at this
  cases this

theorem it_has (n : Nat) (A : Nat → Nat → Bool) (within s i : Nat) (h : s.testBit i = true) : ∀ j, (itB n A within s j).testBit i = true
  | 0 => h
  | j + 1 => by
    simp only [itB, stepB]
    rw [Nat.testBit_or, it_has n A within s i h j]; rfl
theorem grow_has (n : Nat) (A : Nat → Nat → Bool) (within i : Nat) : (growB n A within i).testBit i = true := it_has n A within _ i (by simp) n
theorem it_within (n : Nat) (A : Nat → Nat → Bool) (within s i : Nat) (hs : s.testBit i = true → within.testBit i = true) : ∀ j, (itB n A within s j).testBit i = true → within.testBit i = true
  | 0, h => hs h
  | j + 1, h => by
    simp only [itB, stepB] at h
    rw [Nat.testBit_or, Nat.testBit_and] at h
    simp at h
    rcases h with h | h
    · exact it_within n A within s i hs j h
    · exact h.2
theorem grow_within (n : Nat) (A : Nat → Nat → Bool) (within i x : Nat) (hi : within.testBit i = true) (h : (growB n A within i).testBit x = true) : within.testBit x = true := by
  refine it_within n A within _ x (fun h => ?_) n h
  rw [Nat.testBit_two_pow] at h
  simp at h
  rw [← h]; exact hi

theorem testBit_ext_le (a b : Nat) (h : ∀ i, a.testBit i = true → b.testBit i = true) : a ≤ b := by
  have : a ||| b = b := by
    apply Nat.eq_of_testBit_eq
    intro i
    rw [Nat.testBit_or]
    cases ha : a.testBit i with
    | false => simp
    | true => rw [h i ha]; rfl
  rw [← this]; exact Nat.left_le_or

theorem dif_lt_of (s c i : Nat) (hs : s < 4294967296) (hc : c < 4294967296) (h1 : s.testBit i = true) (h2 : c.testBit i = true) : dif s c < s := by
  have hle := dif_le s c
  have hne : dif s c ≠ s := by
    intro e
    have : (dif s c).testBit i = false := by rw [testBit_dif s c i hs hc, h1, h2]; rfl
    rw [e, h1] at this; cases this
  omega

theorem grow_lt (n : Nat) (A : Nat → Nat → Bool) (s : Nat) (hn : n ≤ 12) (h0 : s ≠ 0) (hs : s < 2 ^ n) : growB n A s (lowB s) < 4294967296 := by
  have hp : 2 ^ n ≤ 2 ^ 32 := Nat.pow_le_pow_right (by omega) (by omega)
  have hl := low_lt' s n h0 (by omega) hs
  exact Nat.lt_of_lt_of_le (it_lt n A s _ n (Nat.pow_lt_pow_right (by omega) hl) hs n) hp
theorem comp_less (n : Nat) (A : Nat → Nat → Bool) (s : Nat) (hn : n ≤ 12) (h0 : s ≠ 0) (hs : s < 2 ^ n) : dif s (growB n A s (lowB s)) < s := by
  have hp : 2 ^ n ≤ 2 ^ 32 := Nat.pow_le_pow_right (by omega) (by omega)
  exact dif_lt_of s _ (lowB s) (by omega) (grow_lt n A s hn h0 hs) (testBit_at s h0 (by omega)) (grow_has n A s _)

theorem compsF_more (n : Nat) (A : Nat → Nat → Bool) (hn : n ≤ 12) : ∀ (f g s : Nat), s < f → f ≤ g → s < 2 ^ n → compsF n A g s = compsF n A f s
  | 0, _, _, h, _, _ => absurd h (by omega)
  | f + 1, g, s, h, hg, hs => by
    obtain ⟨g', rfl⟩ : ∃ g', g = g' + 1 := ⟨g - 1, by omega⟩
    simp only [compsF]
    by_cases h0 : s = 0
    · rw [if_pos h0, if_pos h0]
    · have hl := comp_less n A s hn h0 hs
      rw [if_neg h0, if_neg h0, compsF_more n A hn f g' _ (by omega) (by omega) (by omega)]
theorem compsL_step (n : Nat) (A : Nat → Nat → Bool) (s : Nat) (hn : n ≤ 12) (h0 : s ≠ 0) (hs : s < 2 ^ n) :
    compsL n A s = growB n A s (lowB s) :: compsL n A (dif s (growB n A s (lowB s))) := by
  have hl := comp_less n A s hn h0 hs
  show compsF n A (s + 1) s = _
  simp only [compsF]
  rw [if_neg h0]
  congr 1
  exact compsF_more n A hn _ s _ (by omega) (by omega) (by omega)
theorem compsL_zero (n : Nat) (A : Nat → Nat → Bool) : compsL n A 0 = [] := by simp [compsL, compsF]
end Gr
end Go.Proofs.YtmjpdknnglblcaaDoor
