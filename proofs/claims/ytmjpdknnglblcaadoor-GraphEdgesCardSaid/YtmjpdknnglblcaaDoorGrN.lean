/- Plain: what the rows of even edges are, row by row and bit by bit. -/
import Derived.Test.YtmjpdknnglblcaaDoorGrM
namespace Go.Proofs.YtmjpdknnglblcaaDoor
namespace Gr
set_option linter.unusedVariables false

theorem ctz_form (x : Nat) (h0 : x ≠ 0) (h : x < 4294967296) : ∃ m, x = 2 ^ Lib.ctz 32 x * (2 * m + 1) := by
  obtain ⟨m, hm, _⟩ := Lib.ctzFrom_spec 32 x (by omega) h
  exact ⟨m, by rw [show Lib.ctz 32 x = Lib.ctzFrom 32 x by simp [Lib.ctz, h0]]; exact hm⟩

theorem testBit_odd (m d : Nat) : (2 * m + 1).testBit d = (decide (d = 0) || (2 * m).testBit d) := by
  cases d with
  | zero => simp
  | succ d => simp [Nat.testBit_succ]; congr 1; omega
theorem testBit_even0 (m : Nat) : (2 * m).testBit 0 = false := by simp

theorem testBit_low (x j : Nat) (h0 : x ≠ 0) (h : x < 4294967296) (hj : j < Lib.ctz 32 x) : x.testBit j = false := by
  obtain ⟨m, hm⟩ := ctz_form x h0 h
  generalize Lib.ctz 32 x = c at *
  subst hm
  have := Nat.testBit_two_pow_mul_add (2 * m + 1) (b := 0) (i := c) (Nat.pow_pos (by omega)) j
  rw [Nat.add_zero] at this
  rw [this, if_pos hj]; simp
theorem testBit_at (x : Nat) (h0 : x ≠ 0) (h : x < 4294967296) : x.testBit (Lib.ctz 32 x) = true := by
  obtain ⟨m, hm⟩ := ctz_form x h0 h
  generalize Lib.ctz 32 x = c at *
  subst hm
  have := Nat.testBit_two_pow_mul_add (2 * m + 1) (b := 0) (i := c) (Nat.pow_pos (by omega)) c
  rw [Nat.add_zero] at this
  rw [this, if_neg (by omega), Nat.sub_self]; simp

/-- The lowest bit struck. -/
theorem testBit_strike (x j : Nat) (h0 : x ≠ 0) (h : x < 4294967296) : (x &&& (x - 1)).testBit j = (x.testBit j && decide (j ≠ Lib.ctz 32 x)) := by
  obtain ⟨m, hm⟩ := ctz_form x h0 h
  generalize Lib.ctz 32 x = c at *
  have hp : 0 < 2 ^ c := Nat.pow_pos (by omega)
  have h1 := Nat.testBit_two_pow_mul_add (2 * m + 1) (b := 0) (i := c) hp j
  have h2 := Nat.testBit_two_pow_mul_add (2 * m) (b := 2 ^ c - 1) (i := c) (by omega) j
  rw [Nat.add_zero] at h1
  have e : x - 1 = 2 ^ c * (2 * m) + (2 ^ c - 1) := by rw [hm, Nat.mul_add, Nat.mul_one]; omega
  rw [Nat.testBit_and, e, h2, hm, h1]
  by_cases hj : j < c
  · rw [if_pos hj, if_pos hj]; simp
  · rw [if_neg hj, if_neg hj, testBit_odd]
    by_cases hd : j = c
    · subst hd; simp
    · have : j - c ≠ 0 := by omega
      simp [this, hd]

/-- Row a of the edges, made clean: relations there are, other than a. -/
def rowE (es : List Nat) (n a b : Nat) : Bool := decide (b < n) && (decide (a ≠ b) && (es.getD a 0).testBit b)
/-- Are two relations next to one another? -/
def adj (es : List Nat) (n a b : Nat) : Bool := rowE es n a b || rowE es n b a
/-- What the first k rows give. -/
def fillC (es : List Nat) (n k j b : Nat) : Bool := (decide (j < k) && rowE es n j b) || (decide (b < k) && rowE es n b j)
/-- In the midst of row k, s being left of it. -/
def fillD (es : List Nat) (n k s j b : Nat) : Bool := fillC es n k j b || ((decide (j = k) && rowE es n k b) || (decide (b = k) && (rowE es n k j && !s.testBit j)))

def listOf (n : Nat) (p : Nat → Nat → Bool) : List Nat := (List.range n).map fun j => ofB n (p j)
theorem listOf_length (n : Nat) (p : Nat → Nat → Bool) : (listOf n p).length = n := by simp [listOf]
theorem listOf_getD (n : Nat) (p : Nat → Nat → Bool) (j : Nat) (h : j < n) : (listOf n p).getD j 0 = ofB n (p j) := by simp [listOf, List.getD, h]
theorem ofB_congr (n : Nat) (p q : Nat → Bool) (h : ∀ b, b < n → p b = q b) : ofB n p = ofB n q := by
  apply Nat.eq_of_testBit_eq
  intro i
  rw [testBit_ofB, testBit_ofB]
  by_cases hi : i < n
  · rw [h i hi]
  · simp [hi]
theorem listOf_congr (n : Nat) (p q : Nat → Nat → Bool) (h : ∀ j b, j < n → b < n → p j b = q j b) : listOf n p = listOf n q := by
  unfold listOf
  apply List.map_congr_left
  intro j hj
  exact ofB_congr n _ _ (fun b hb => h j b (List.mem_range.1 hj) hb)
theorem listOf_set (n : Nat) (p q : Nat → Nat → Bool) (x v : Nat) (hx : x < n) (hv : v < 2 ^ n) (h : ∀ j b, j < n → b < n → q j b = if j = x then v.testBit b else p j b) : (listOf n p).set x v = listOf n q := by
  apply List.ext_getElem
  · simp [listOf]
  · intro j h1 h2
    have hj : j < n := by simpa [listOf] using h2
    rw [List.getElem_set]
    simp only [listOf, List.getElem_map, List.getElem_range]
    by_cases e : x = j
    · subst e
      rw [if_pos rfl, ← ofB_of n v hv]
      exact ofB_congr n _ _ (fun b hb => by rw [h x b hx hb, if_pos rfl])
    · rw [if_neg e]
      exact ofB_congr n _ _ (fun b hb => by rw [h j b hj hb, if_neg (fun e' => e e'.symm)])

theorem fillC_zero (es : List Nat) (n j b : Nat) : fillC es n 0 j b = false := by simp [fillC]
theorem fillC_full (es : List Nat) (n j b : Nat) (hj : j < n) (hb : b < n) : fillC es n n j b = adj es n j b := by simp [fillC, adj, hj, hb]
theorem fillD_start (es : List Nat) (n k j b : Nat) (hj : j < n) : fillD es n k (ofB n (rowE es n k)) j b = (fillC es n k j b || (decide (j = k) && rowE es n k b)) := by
  unfold fillD
  rw [testBit_ofB]
  cases rowE es n k j <;> simp [hj]
theorem fillD_end (es : List Nat) (n k j b : Nat) : fillD es n k 0 j b = fillC es n (k + 1) j b := by
  unfold fillD fillC
  rw [Nat.zero_testBit]
  by_cases h1 : j = k
  · subst h1
    by_cases h2 : b = j
    · subst h2; simp
    · have e : decide (b < j + 1) = decide (b < j) := by rw [decide_eq_decide]; omega
      rw [e]
      simp [h2]
      cases rowE es n j b <;> cases decide (b < j) <;> simp
  · have e1 : decide (j < k + 1) = decide (j < k) := by rw [decide_eq_decide]; omega
    rw [e1]
    by_cases h2 : b = k
    · subst h2; simp [h1]
    · have e2 : decide (b < k + 1) = decide (b < k) := by rw [decide_eq_decide]; omega
      rw [e2]; simp [h1, h2]
theorem fillD_step (es : List Nat) (n k s j b : Nat) (h0 : s ≠ 0) (h : s < 4294967296) (hs : ∀ x, s.testBit x = true → rowE es n k x = true) :
    fillD es n k (s &&& (s - 1)) j b = if j = Lib.ctz 32 s then (fillD es n k s j b || decide (b = k)) else fillD es n k s j b := by
  unfold fillD
  rw [testBit_strike s j h0 h]
  by_cases hj : j = Lib.ctz 32 s
  · have hat := hs _ (testBit_at s h0 h)
    rw [← hj] at hat
    rw [if_pos hj, hat]
    simp [hj]
    cases decide (b = k) <;> simp
  · rw [if_neg hj]
    simp [hj]
end Gr
end Go.Proofs.YtmjpdknnglblcaaDoor
