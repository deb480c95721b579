/- Rows of values that a call makes itself. -/
import Derived.Test.YtaanejhpodbdnaaVaU
namespace Go.Proofs.Ytaanejhpodbdnaa
open Go.RowKit
set_option maxRecDepth 100000
set_option linter.unusedVariables false

theorem ownsRow_block {w : World} {b : Nat} {e : TypeId} {size : Nat} {v : Value} {n : Nat} {xs : List Value} (h : w.ownsRow b e size v n xs) (j : Nat) (hj : v.ownBlock = some j) : b ≤ j := by
  obtain ⟨h1, ⟨h2, _⟩ | ⟨g, cap, cur, h3, h4, h5⟩⟩ := h
  · rw [h2] at hj; cases hj
  · rw [h3] at hj; cases hj; exact h4
theorem ownsRow_cells {w : World} {b : Nat} {e : TypeId} {size : Nat} {v : Value} {n : Nat} {xs : List Value} (h : w.ownsRow b e size v n xs) (hn : n ≠ 0) :
    ∃ g cap, v = .slice (some ⟨g, 0, none⟩) n cap ∧ b ≤ g ∧ g < w.heap.size ∧ n ≤ cap ∧ cap ≤ maxLen ∧ ∀ j x, xs[j]? = some x → w.cell? ⟨g, j, none⟩ = some x := by
  obtain ⟨h1, ⟨_, h2⟩ | ⟨g, cap, cur, h3, h4, h5, h6, h7, h8, h9⟩⟩ := h
  · exact absurd h2 hn
  · refine ⟨g, cap, h3, h4, (Array.getElem?_eq_some_iff.1 h5).1, h6, h7, fun j x hj => ?_⟩
    rw [← h9, List.getElem?_take] at hj
    split at hj
    · simp only [World.cell?, h5]; simpa using hj
    · cases hj
theorem ownsRow_later {w w' : World} {b : Nat} {e : TypeId} {size : Nat} {v : Value} {n : Nat} {xs : List Value} (h : w.ownsRow b e size v n xs) (hb : Below w.heap.size w w') : w'.ownsRow b e size v n xs := by
  obtain ⟨h1, h2 | ⟨g, cap, cur, h3, h4, h5, h6⟩⟩ := h
  · exact ⟨h1, .inl h2⟩
  · have hg := (Array.getElem?_eq_some_iff.1 h5).1
    exact ⟨h1, .inr ⟨g, cap, cur, h3, h4, (hb.block g hg).trans h5, h6⟩⟩

/-- The cells of values, one behind the other. -/
def flatV : List Val → List Value
  | [] => []
  | v :: l => v.cells ++ flatV l
theorem flatV_append : ∀ a b, flatV (a ++ b) = flatV a ++ flatV b
  | [], b => rfl
  | v :: a, b => by simp only [List.cons_append, flatV, flatV_append a b, List.append_assoc]
theorem flatV_one (v : Val) : flatV [v] = [.int .i64 v.kind, .int .i64 v.int, .float .f64 v.flt, .string v.text] := rfl
theorem flatV_at : ∀ (l : List Val) (i : Nat) (v : Val), l[i]? = some v → ∀ j, j < 4 → (flatV l)[i * 4 + j]? = v.cells[j]?
  | [], i, v, h => by simp at h
  | u :: l, 0, v, h => by
    intro j hj
    obtain rfl : u = v := by simpa using h
    simp only [flatV, Nat.zero_mul, Nat.zero_add]
    rw [List.getElem?_append_left (by simpa [Val.cells] using hj)]
  | u :: l, i + 1, v, h => by
    intro j hj
    have ih := flatV_at l i v (by simpa using h) j hj
    simp only [flatV]
    rw [List.getElem?_append_right (by simp [Val.cells]; omega), show (i + 1) * 4 + j - u.cells.length = i * 4 + j by simp [Val.cells]; omega]
    exact ih
theorem RowV.own {w : World} {b : Nat} {e : TypeId} {v : Value} {n : Nat} {l : List Val} (h : w.ownsRow b e 4 v n (flatV l)) (hl : l.length = n) (hw : ∀ x ∈ l, x.wf) : ∃ a cap, v = .slice a n cap ∧ RowV w a n cap l := by
  by_cases hn : n = 0
  · subst hn
    obtain ⟨h1, ⟨h2, _⟩ | ⟨g, cap, cur, h3, h4, h5, h6, h7, h8, h9⟩⟩ := h
    · exact ⟨none, 0, h2, hl, Nat.le_refl _, by unfold maxLen; omega, hw, .inl rfl⟩
    · exact ⟨_, cap, h3, hl, h6, h7, hw, .inl rfl⟩
  · obtain ⟨g, cap, h1, h2, h3, h4, h5, h6⟩ := ownsRow_cells h hn
    refine ⟨_, cap, h1, hl, h4, h5, hw, .inr ⟨g, 0, rfl, h3, fun i x hi => ?_⟩⟩
    have := flatV_at l i x hi
    simp only [Nat.zero_add]
    refine ⟨h6 _ _ (this 0 (by omega)), h6 _ _ (this 1 (by omega)), h6 _ _ (this 2 (by omega)), h6 _ _ (this 3 (by omega))⟩
end Go.Proofs.Ytaanejhpodbdnaa
