/- Plain: the subsets of a set below 256, one behind the other; splits. -/
import Derived.Test.YtmjpdknnglblcaaDoorGrP
namespace Go.Proofs.YtmjpdknnglblcaaDoor
namespace Gr
set_option linter.unusedVariables false

/-- The next subset. -/
def nxt (rest sub : Nat) : Nat := ((sub + 4294967296 - rest) % 4294967296) &&& rest
def nxtOk (rest sub : Nat) : Bool :=
  (sub &&& rest != sub) || sub == rest || (decide (sub < nxt rest sub) && (nxt rest sub &&& rest == nxt rest sub) && (List.range (nxt rest sub - sub - 1)).all fun d => (sub + 1 + d) &&& rest != sub + 1 + d)
set_option maxRecDepth 100000 in
theorem nxt_all : ((List.range 256).all fun rest => (List.range 256).all fun sub => nxtOk rest sub) = true := by decide +kernel
theorem nxt_spec (rest sub : Nat) (hr : rest < 256) (hs : sub &&& rest = sub) (hne : sub ≠ rest) :
    sub < nxt rest sub ∧ nxt rest sub &&& rest = nxt rest sub ∧ ∀ t, sub < t → t < nxt rest sub → ¬ t &&& rest = t := by
  have hsl : sub < 256 := Nat.lt_of_le_of_lt (hs ▸ Nat.and_le_right) hr
  have h := List.all_eq_true.1 (List.all_eq_true.1 nxt_all rest (List.mem_range.2 hr)) sub (List.mem_range.2 hsl)
  unfold nxtOk at h
  simp only [hs, bne_self_eq_false, Bool.false_or, Bool.or_eq_true, beq_iff_eq, hne, false_or, Bool.and_eq_true, decide_eq_true_eq] at h
  obtain ⟨⟨h1, h2⟩, h3⟩ := h
  refine ⟨h1, h2, fun t ht1 ht2 => ?_⟩
  have := List.all_eq_true.1 h3 (t - sub - 1) (List.mem_range.2 (by omega))
  rw [show sub + 1 + (t - sub - 1) = t by omega] at this
  simpa using this

/-- The parts of a set that have its least relation, of subsets of the rest below k. -/
def subsTo (rest k : Nat) : List Nat := (List.range k).filter fun s => s &&& rest == s
theorem subsTo_next (rest sub : Nat) (hr : rest < 256) (hs : sub &&& rest = sub) (hne : sub ≠ rest) : subsTo rest (nxt rest sub) = subsTo rest sub ++ [sub] := by
  obtain ⟨h1, h2, h3⟩ := nxt_spec rest sub hr hs hne
  have key : ∀ d, sub + 1 + d ≤ nxt rest sub → subsTo rest (sub + 1 + d) = subsTo rest sub ++ [sub] := by
    intro d
    induction d with
    | zero =>
      intro _
      unfold subsTo
      rw [Nat.add_zero, List.range_succ, List.filter_append]
      simp [hs]
    | succ d ih =>
      intro hd
      have := ih (by omega)
      unfold subsTo at this ⊢
      rw [show sub + 1 + (d + 1) = (sub + 1 + d) + 1 by omega, List.range_succ, List.filter_append, this]
      have h4 := h3 (sub + 1 + d) (by omega) (by omega)
      simp [h4]
  have := key (nxt rest sub - sub - 1) (by omega)
  rwa [show sub + 1 + (nxt rest sub - sub - 1) = nxt rest sub by omega] at this

/-- The proper parts of a set that have its least relation. -/
def partsL (s : Nat) : List Nat := (List.range s).filter fun a => (a ||| s == s) && a.testBit (lowB s)
def partsOk (s : Nat) : Bool := s == 0 || (((subsTo (dif s (2 ^ lowB s)) (dif s (2 ^ lowB s))).map (· ||| 2 ^ lowB s) == partsL s) && (partsL s).all fun a => dif s a == s - a)
set_option maxRecDepth 100000 in
theorem parts_all : ((List.range 256).all partsOk) = true := by decide +kernel
theorem parts_spec (s : Nat) (h0 : s ≠ 0) (hs : s < 256) : (subsTo (dif s (2 ^ lowB s)) (dif s (2 ^ lowB s))).map (· ||| 2 ^ lowB s) = partsL s ∧ ∀ a ∈ partsL s, dif s a = s - a := by
  have h := List.all_eq_true.1 parts_all s (List.mem_range.2 hs)
  unfold partsOk at h
  simp only [Bool.or_eq_true, beq_iff_eq, h0, false_or, Bool.and_eq_true] at h
  refine ⟨h.1, fun a ha => ?_⟩
  have := List.all_eq_true.1 h.2 a ha
  simpa using this

/-- Both parts hang together. -/
def both (n : Nat) (A : Nat → Nat → Bool) (s a : Nat) : Bool := connB n A a && connB n A (dif s a)
def pairOf (s a : Nat) : Nat × Nat := (a, dif s a)
/-- The splits of a set. -/
def splitsL (n : Nat) (A : Nat → Nat → Bool) (s : Nat) : List (Nat × Nat) := if connB n A s then ((partsL s).filter (both n A s)).map (pairOf s) else []
/-- .. those of subsets of the rest below k. -/
def splitsTo (n : Nat) (A : Nat → Nat → Bool) (s k : Nat) : List (Nat × Nat) := ((((subsTo (dif s (2 ^ lowB s)) k).map (· ||| 2 ^ lowB s))).filter (both n A s)).map (pairOf s)
theorem splitsTo_zero (n : Nat) (A : Nat → Nat → Bool) (s : Nat) : splitsTo n A s 0 = [] := rfl
theorem splitsTo_next (n : Nat) (A : Nat → Nat → Bool) (s sub : Nat) (hs : s < 256) (hsub : sub &&& dif s (2 ^ lowB s) = sub) (hne : sub ≠ dif s (2 ^ lowB s)) :
    splitsTo n A s (nxt (dif s (2 ^ lowB s)) sub) = if both n A s (sub ||| 2 ^ lowB s) then splitsTo n A s sub ++ [pairOf s (sub ||| 2 ^ lowB s)] else splitsTo n A s sub := by
  have hr : dif s (2 ^ lowB s) < 256 := Nat.lt_of_le_of_lt (dif_le _ _) hs
  unfold splitsTo
  rw [subsTo_next _ _ hr hsub hne]
  simp only [List.map_append, List.filter_append, List.map_cons, List.map_nil]
  cases h : both n A s (sub ||| 2 ^ lowB s) <;> simp [h]
theorem splitsTo_end (n : Nat) (A : Nat → Nat → Bool) (s : Nat) (h0 : s ≠ 0) (hs : s < 256) (hc : connB n A s = true) : splitsTo n A s (dif s (2 ^ lowB s)) = splitsL n A s := by
  unfold splitsTo splitsL
  rw [(parts_spec s h0 hs).1, hc]; rfl
theorem subsTo_len (rest k : Nat) : (subsTo rest k).length ≤ k := by
  have := List.length_filter_le (fun s => s &&& rest == s) (List.range k); simpa [subsTo] using this
theorem splitsTo_len (n : Nat) (A : Nat → Nat → Bool) (s k : Nat) : (splitsTo n A s k).length ≤ k := by
  unfold splitsTo
  rw [List.length_map]
  refine Nat.le_trans (List.length_filter_le _ _) ?_
  rw [List.length_map]; exact subsTo_len _ _
end Gr
end Go.Proofs.YtmjpdknnglblcaaDoor
