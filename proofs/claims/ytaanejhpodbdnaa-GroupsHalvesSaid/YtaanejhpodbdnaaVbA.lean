/- Plain: an aggregate of a list is that of its parts', and of the list turned about: the law. -/
import Derived.Test.YtaanejhpodbdnaaVaZ
namespace Go.Proofs.Ytaanejhpodbdnaa
open Go.RowKit
set_option linter.unusedVariables false

theorem cmpV_self (a : Val) : cmpV a a = 0 := by
  unfold cmpV
  have := cmpP_neg (plainV a) (plainV a)
  omega

/-- How many are counted; what they add up to; whether there is one. -/
def cnt : List Val → Int
  | [] => 0
  | v :: l => (if skipV v then 0 else 1) + cnt l
def sm : List Val → Int
  | [] => 0
  | v :: l => (if skipV v then 0 else v.int) + sm l
def has : List Val → Bool
  | [] => false
  | v :: l => !skipV v || has l
theorem cnt_append : ∀ a b, cnt (a ++ b) = cnt a + cnt b
  | [], b => by simp [cnt]
  | v :: a, b => by simp only [List.cons_append, cnt, cnt_append a b]; omega
theorem sm_append : ∀ a b, sm (a ++ b) = sm a + sm b
  | [], b => by simp [sm]
  | v :: a, b => by simp only [List.cons_append, sm, sm_append a b]; omega
theorem has_append : ∀ a b, has (a ++ b) = (has a || has b)
  | [], b => by simp [has]
  | v :: a, b => by simp only [List.cons_append, has, has_append a b, Bool.or_assoc]
theorem cnt_rev : ∀ l, cnt l.reverse = cnt l
  | [] => rfl
  | v :: l => by rw [List.reverse_cons, cnt_append, cnt_rev l]; simp only [cnt]; omega
theorem sm_rev : ∀ l, sm l.reverse = sm l
  | [] => rfl
  | v :: l => by rw [List.reverse_cons, sm_append, sm_rev l]; simp only [sm]; omega
theorem has_rev : ∀ l, has l.reverse = has l
  | [] => rfl
  | v :: l => by rw [List.reverse_cons, has_append, has_rev l]; simp only [has, Bool.or_false]; rw [Bool.or_comm]
theorem has_not : ∀ l, has l = false → sm l = 0
  | [], _ => rfl
  | v :: l, h => by
    simp only [has, Bool.or_eq_false_iff, Bool.not_eq_false'] at h
    simp only [sm, h.1, if_true, has_not l h.2]; rfl

theorem goCount_val : ∀ (l : List Val) (n : Int), (Lit.int .i64 n).wf = true → goCount n l = wrap64 (n + cnt l)
  | [], n, h => by
    have := i64_bounds h
    unfold goCount cnt wrap64; omega
  | v :: l, n, h => by
    rw [goCount_cons]
    cases hs : skipV v with
    | true =>
      rw [if_pos rfl, goCount_val l n h]
      simp only [cnt, hs, if_true]; rw [Int.zero_add]
    | false =>
      simp only [Bool.false_eq_true, if_false]
      rw [goCount_val l _ (wrap_wf _)]
      simp only [cnt, hs, Bool.false_eq_true, if_false]
      unfold wrap64; omega
def hv (h : Val) : Int := if h.kind = 0 then 0 else h.int
theorem goAdd_bad (l : List Val) : ∀ h, (goAdd h l).2 = 0 → ∀ v ∈ l, skipV v = false → numV v = true ∧ v.kind = 2 := by
  induction l with
  | nil => intro h _ v hv; cases hv
  | cons u l ih =>
    intro h he v hv hs
    rw [goAdd_cons] at he
    cases hu : skipV u with
    | true =>
      rw [hu, if_pos rfl] at he
      rcases List.mem_cons.1 hv with rfl | hv
      · rw [hu] at hs; cases hs
      · exact ih h he v hv hs
    | false =>
      rw [hu] at he
      simp only [Bool.false_eq_true, if_false] at he
      by_cases h0 : (addV h u).2 = 0
      · rw [if_pos h0] at he
        rcases List.mem_cons.1 hv with rfl | hv
        · unfold addV calcAdd at h0
          have hk : v.kind ≠ 0 := (skip_right v hu).2.1
          cases hn : numV v with
          | false => rw [hn] at h0; simp at h0
          | true =>
            rw [hn, if_pos rfl, if_neg hk] at h0
            by_cases h2 : v.kind = 2
            · exact ⟨rfl, h2⟩
            · rw [if_neg h2] at h0; cases h0
        · exact ih _ he v hv hs
      · rw [if_neg h0] at he; exact absurd he h0
theorem goAdd_good (l : List Val) : ∀ h, (∀ v ∈ l, skipV v = false → numV v = true ∧ v.kind = 2) → (goAdd h l).2 = 0 ∧ (goAdd h l).1 = if has l then Val.num (wrap64 (hv h + sm l)) else h := by
  induction l with
  | nil => intro h _; exact ⟨rfl, rfl⟩
  | cons u l ih =>
    intro h hl
    have hl' : ∀ v ∈ l, skipV v = false → numV v = true ∧ v.kind = 2 := fun v hv => hl v (List.mem_cons_of_mem _ hv)
    rw [goAdd_cons]
    cases hu : skipV u with
    | true =>
      rw [if_pos rfl]
      obtain ⟨e1, e2⟩ := ih h hl'
      refine ⟨e1, ?_⟩
      rw [e2]
      simp only [has, sm, hu, if_true, Bool.not_true, Bool.false_or, Int.zero_add]
    | false =>
      obtain ⟨hn, h2⟩ := hl u (List.mem_cons_self ..) hu
      have ea : addV h u = (Val.num (wrap64 (hv h + u.int)), 0) := by
        unfold addV calcAdd hv
        rw [hn, if_pos rfl, if_neg (by omega), if_pos h2]
      simp only [Bool.false_eq_true, if_false, ea, if_true]
      obtain ⟨e1, e2⟩ := ih (Val.num (wrap64 (hv h + u.int))) hl'
      refine ⟨e1, ?_⟩
      rw [e2]
      have hh : hv (Val.num (wrap64 (hv h + u.int))) = wrap64 (hv h + u.int) := rfl
      simp only [has, sm, hu, Bool.false_eq_true, if_false, Bool.not_false, Bool.true_or, if_true]
      rw [hh]
      cases hl2 : has l with
      | true =>
        rw [if_pos rfl]
        congr 1
        unfold wrap64; omega
      | false =>
        simp only [Bool.false_eq_true, if_false]
        rw [has_not l hl2, Int.add_zero]

theorem turn_same (kind : Int) (l : List Val) (h : (foldV kind l).2 = 0) : (foldV kind l.reverse).2 = 0 ∧ cmpV (foldV kind l).1 (foldV kind l.reverse).1 = 0 := by
  unfold foldV at *
  by_cases h1 : kind = 1
  · simp only [h1, if_true]
    rw [goCount_val _ _ (by decide), goCount_val _ _ (by decide), cnt_rev]
    exact ⟨trivial, cmpV_self _⟩
  · simp only [h1, if_false] at h ⊢
    by_cases h2 : kind = 2
    · simp only [h2, if_true] at h ⊢
      have hb := goAdd_bad l _ h
      obtain ⟨_, e⟩ := goAdd_good l Val.null hb
      obtain ⟨e1, e2⟩ := goAdd_good l.reverse Val.null (fun v hv => hb v (List.mem_reverse.1 hv))
      refine ⟨e1, ?_⟩
      rw [e, e2, has_rev, sm_rev]
      exact cmpV_self _
    · simp only [h2, if_false] at h ⊢
      by_cases h3 : kind = 3
      · simp only [h3, if_true]
        exact ⟨trivial, best_same (-1) (.inl rfl) l l.reverse (fun v => List.mem_reverse.symm) _ _ (best_all _ (.inl rfl) l) (best_all _ (.inl rfl) _)⟩
      · simp only [h3, if_false] at h ⊢
        by_cases h4 : kind = 4
        · simp only [h4, if_true]
          exact ⟨trivial, best_same 1 (.inr rfl) l l.reverse (fun v => List.mem_reverse.symm) _ _ (best_all _ (.inr rfl) l) (best_all _ (.inr rfl) _)⟩
        · simp only [h4, if_false] at h; cases h

theorem num_skip (n : Int) : skipV (Val.num n) = false := by unfold skipV; rw [num_right]; rfl
theorem null_no : skipV Val.null = true := null_skip
theorem has_form (b : Bool) (n : Int) : skipV (if b then Val.num n else Val.null) = !b := by
  cases b
  · exact null_skip
  · exact num_skip n
theorem halves_same (kind : Int) (a b : List Val) (h : (foldV kind (a ++ b)).2 = 0) : (halvesV kind a b).2 = 0 ∧ cmpV (foldV kind (a ++ b)).1 (halvesV kind a b).1 = 0 := by
  by_cases h1 : kind = 1
  · subst h1
    have e1 := (rfold_1 a).2
    have e2 := (rfold_1 b).2
    unfold halvesV
    rw [e1, e2, if_neg (by simp), if_neg (by simp), if_pos rfl, add_two _ _ (goCount_wf a 0 (by decide)), (rfold_1 (a ++ b)).2]
    refine ⟨rfl, ?_⟩
    rw [goCount_val _ _ (by decide), goCount_val _ _ (by decide), goCount_val _ _ (by decide), cnt_append]
    have : wrap64 (0 + (cnt a + cnt b)) = wrap64 (wrap64 (0 + cnt a) + wrap64 (0 + cnt b)) := by unfold wrap64; omega
    rw [this]; exact cmpV_self _
  by_cases h2 : kind = 2
  · subst h2
    have ef : ∀ l, foldV 2 l = goAdd Val.null l := fun l => by unfold foldV; rw [if_neg (by omega), if_pos rfl]
    rw [ef] at h
    have hb := goAdd_bad _ _ h
    obtain ⟨a1, a2⟩ := goAdd_good a Val.null (fun v hv => hb v (List.mem_append.2 (.inl hv)))
    obtain ⟨b1, b2⟩ := goAdd_good b Val.null (fun v hv => hb v (List.mem_append.2 (.inr hv)))
    obtain ⟨_, c2⟩ := goAdd_good (a ++ b) Val.null hb
    unfold halvesV
    rw [ef, ef, ef, a1, b1, if_neg (show ¬ (0 : Int) ≠ 0 by omega), if_neg (show ¬ (0 : Int) ≠ 0 by omega), if_neg (show ¬ (2 : Int) = 1 by omega), ef, a2, b2, c2]
    have hz : hv Val.null = 0 := rfl
    rw [hz]
    have fine : ∀ v ∈ [(if has a then Val.num (wrap64 (0 + sm a)) else Val.null), (if has b then Val.num (wrap64 (0 + sm b)) else Val.null)], skipV v = false → numV v = true ∧ v.kind = 2 := by
      intro v hv hs
      have one : ∀ (c : Bool) (n : Int), skipV (if c then Val.num n else Val.null) = false → numV (if c then Val.num n else Val.null) = true ∧ (if c then Val.num n else Val.null).kind = 2 := by
        intro c n hc
        cases c
        · rw [if_neg (by simp), null_skip] at hc; cases hc
        · rw [if_pos rfl]; exact ⟨numV_num n, rfl⟩
      rcases List.mem_cons.1 hv with rfl | hv
      · exact one _ _ hs
      · rcases List.mem_cons.1 hv with rfl | hv
        · exact one _ _ hs
        · cases hv
    obtain ⟨d1, d2⟩ := goAdd_good _ Val.null fine
    refine ⟨d1, ?_⟩
    rw [d2, hz]
    simp only [has, sm, has_form, Bool.not_not, Bool.or_false, has_append, sm_append]
    have int : ∀ (c : Bool) (n : Int), (if (!c) = true then 0 else (if c then Val.num n else Val.null).int) = if c then n else 0 := by
      intro c n; cases c <;> rfl
    rw [int, int]
    have e : (if (has a || has b) = true then Val.num (wrap64 (0 + (sm a + sm b))) else Val.null) = (if (has a || has b) = true then Val.num (wrap64 (0 + ((if has a = true then wrap64 (0 + sm a) else 0) + ((if has b = true then wrap64 (0 + sm b) else 0) + 0)))) else Val.null) := by
      congr 1
      congr 1
      cases ha : has a <;> cases hb : has b
      · rw [has_not a ha, has_not b hb]; rfl
      · rw [has_not a ha]; simp only [Bool.false_eq_true, if_false, if_true]; unfold wrap64; omega
      · rw [has_not b hb]; simp only [Bool.false_eq_true, if_false, if_true]; unfold wrap64; omega
      · simp only [if_true]; unfold wrap64; omega
    rw [e]
    exact cmpV_self _
  have g34 : ∀ g, (g = -1 ∨ g = 1) → (∀ l, foldV kind l = (goChoose g Val.null l, 0)) → (halvesV kind a b).2 = 0 ∧ cmpV (foldV kind (a ++ b)).1 (halvesV kind a b).1 = 0 := by
    intro g hg ef
    unfold halvesV
    rw [ef, ef, ef, if_neg (by simp), if_neg (by simp), if_neg h1, ef]
    exact ⟨rfl, best_same g hg (a ++ b) (a ++ b) (fun v => Iff.rfl) _ _ (best_all g hg _) (best_two g hg a b _ _ _ (best_all g hg a) (best_all g hg b) (best_all g hg _))⟩
  by_cases h3 : kind = 3
  · subst h3
    exact g34 (-1) (.inl rfl) (fun l => by unfold foldV; rw [if_neg (by omega), if_neg (by omega), if_pos rfl])
  by_cases h4 : kind = 4
  · subst h4
    exact g34 1 (.inr rfl) (fun l => by unfold foldV; rw [if_neg (by omega), if_neg (by omega), if_neg (by omega), if_pos rfl])
  · rw [foldV_no kind (by omega)] at h; cases h
end Go.Proofs.Ytaanejhpodbdnaa
