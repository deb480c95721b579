/- Plain: the program's and the reference's aggregates are alike. -/
import Derived.Test.YtaanejhpodbdnaaVaO
import Derived.Test.YtaanejhpodbdnaaVaN
namespace Go.Proofs.Ytaanejhpodbdnaa
open Go.RowKit
set_option linter.unusedVariables false

theorem right_not (v : Val) (h : rightV v = false) : skipV v = true ∧ (rplainV v).kind = 0 := by
  unfold skipV rplainV
  rw [h]; exact ⟨rfl, rfl⟩
theorem rplain_kind (v : Val) (h : rightV v = true) : (rplainV v).kind = v.kind := by
  unfold rplainV
  rw [h, if_pos rfl]
  split
  · rename_i hk
    split
    · exact hk.symm
    · rfl
  · rfl
theorem skip_iff (v : Val) : skipV v = decide ((rplainV v).kind = 0) := by
  cases h : rightV v with
  | false => rw [(right_not v h).1, decide_eq_true (right_not v h).2]
  | true =>
    rw [rplain_kind v h]
    unfold skipV
    rw [h]
    by_cases hk : v.kind = 0 <;> simp [hk]
theorem plain_kind (v : Val) : (plainV v).kind = (rplainV v).kind := by
  unfold plainV rplainV
  split
  · split
    · rename_i hk
      split
      · split <;> first | rfl | exact hk
      · split <;> first | rfl | exact hk
    · rfl
  · rfl

/-- The canonical bits of a float; the reference's. -/
def canF (f : Nat) : Nat := if nanB f then 9221120237041090561 else if f % 9223372036854775808 = 0 then 0 else f
def zrF (f : Nat) : Nat := if f % 9223372036854775808 = 0 then 0 else f
theorem nan_zr (f : Nat) : nanB (zrF f) = nanB f := by
  unfold zrF
  split
  · rename_i h
    unfold nanB; rw [h]
  · rfl
theorem nan_can (f : Nat) : nanB (canF f) = nanB f := by
  unfold canF
  cases h : nanB f with
  | true => rfl
  | false =>
    rw [if_neg (by simp)]
    split
    · rfl
    · exact h
theorem can_of (f : Nat) (h : nanB f = false) : canF f = zrF f := by
  unfold canF zrF; rw [h, if_neg (by simp)]
def rcF (a b : Nat) : Int := if (FloatKind.f64.format.order a b == some .lt || (!nanB a && nanB b)) then -1 else if (FloatKind.f64.format.order a b == some .gt || (nanB a && !nanB b)) then 1 else 0
theorem cmpF_eq (f g : Nat) : cmpF (canF f) (canF g) = rcF (zrF f) (zrF g) := by
  unfold cmpF rcF
  rw [nan_can, nan_can, nan_zr, nan_zr]
  cases hf : nanB f <;> cases hg : nanB g
  · rw [can_of f hf, can_of g hg]
    simp
  · rw [order_nan (zrF f) (zrF g) (.inr (by rw [nan_zr]; exact hg))]; rfl
  · rw [order_nan (zrF f) (zrF g) (.inl (by rw [nan_zr]; exact hf))]; rfl
  · rw [order_nan (zrF f) (zrF g) (.inl (by rw [nan_zr]; exact hf))]; rfl

theorem plain_flt (v : Val) (h : rightV v = true) (hk : v.kind = 3) : plainV v = { v with flt := canF v.flt } ∧ rplainV v = { v with flt := zrF v.flt } := by
  have hr := h
  unfold rightV at hr
  simp [hk] at hr
  obtain ⟨hi, ht⟩ := hr
  constructor
  · unfold plainV canF
    rw [h, if_pos rfl, if_pos hk]
    split
    · rfl
    · split <;> rfl
  · unfold rplainV zrF
    rw [h, if_pos rfl, if_pos hk]
    split
    · obtain ⟨k, n, f, s⟩ := v
      simp only at hk hi ht ⊢
      subst hk hi
      have hl : s.toList.isEmpty = true := by rw [ht]; rfl
      have : s = ByteArray.empty := of_decide_eq_true (by rw [decide_eq_emptyBytes]; exact hl)
      rw [this]; rfl
    · rfl
theorem plain_else (v : Val) (h : rightV v = true) (hk : v.kind ≠ 3) : plainV v = v ∧ rplainV v = v := by
  unfold plainV rplainV
  rw [h, if_pos rfl, if_neg hk]; exact ⟨rfl, by rw [if_pos rfl, if_neg hk]⟩

theorem cmp_eq (a b : Val) (ha : rightV a = true) (hb : rightV b = true) : cmpP (plainV a) (plainV b) = rcmpP (rplainV a) (rplainV b) := by
  unfold cmpP rcmpP lessR moreR
  simp only [plain_kind, rplain_kind a ha, rplain_kind b hb]
  by_cases hk : a.kind = b.kind
  · simp only [hk, ne_eq, not_true_eq_false, if_false]
    by_cases h3 : b.kind = 3
    · simp only [h3, if_true]
      rw [(plain_flt a ha (hk.trans h3)).1, (plain_flt a ha (hk.trans h3)).2, (plain_flt b hb h3).1, (plain_flt b hb h3).2]
      exact cmpF_eq a.flt b.flt
    · simp only [h3, if_false]
      rw [(plain_else a ha (fun e => h3 (hk ▸ e))).1, (plain_else a ha (fun e => h3 (hk ▸ e))).2, (plain_else b hb h3).1, (plain_else b hb h3).2]
      by_cases h4 : b.kind = 4
      · simp only [h4, if_true]
        unfold cmpS
        cases Op.bytesLess a.text.toList b.text.toList <;> cases (a.text.toList == b.text.toList) <;> rfl
      · simp only [h4, if_false]
        unfold cmpI
        by_cases h1 : a.int < b.int <;> by_cases h2 : b.int < a.int <;> simp [h1, h2]
  · simp only [hk, ne_eq, not_false_eq_true, if_true]
    unfold cmpI
    by_cases h1 : a.kind < b.kind
    · rw [if_pos h1, if_pos h1]
    · rw [if_neg h1, if_neg h1, if_pos (by omega)]

theorem right_flt (v : Val) (f : Nat) (hk : v.kind = 3) : rightV { v with flt := f } = rightV v := by
  unfold rightV
  simp [hk]
theorem zr_zr (f : Nat) : zrF (zrF f) = zrF f := by
  by_cases h : f % 9223372036854775808 = 0
  · have e : zrF f = 0 := by unfold zrF; rw [if_pos h]
    rw [e]; rfl
  · have e : zrF f = f := by unfold zrF; rw [if_neg h]
    rw [e, e]
theorem can_can (f : Nat) : canF (canF f) = canF f := by
  cases h : nanB f with
  | true =>
    have e : canF f = 9221120237041090561 := by unfold canF; rw [h, if_pos rfl]
    rw [e]; rfl
  | false =>
    rw [can_of f h, can_of _ (by rw [nan_zr]; exact h), zr_zr]
theorem plain_plain (v : Val) (h : rightV v = true) : plainV (plainV v) = plainV v ∧ rplainV (rplainV v) = rplainV v := by
  by_cases hk : v.kind = 3
  · rw [(plain_flt v h hk).1, (plain_flt v h hk).2]
    have h1 := plain_flt { v with flt := canF v.flt } (by rw [right_flt v _ hk]; exact h) hk
    have h2 := plain_flt { v with flt := zrF v.flt } (by rw [right_flt v _ hk]; exact h) hk
    rw [h1.1, h2.2]
    simp only [can_can, zr_zr]
    exact ⟨trivial, trivial⟩
  · rw [(plain_else v h hk).1, (plain_else v h hk).1, (plain_else v h hk).2, (plain_else v h hk).2]
    exact ⟨rfl, rfl⟩
theorem rcmp_vals (a b : Val) : rcmpP a b = -1 ∨ rcmpP a b = 0 ∨ rcmpP a b = 1 := by
  unfold rcmpP
  split
  · split
    · exact .inl rfl
    · exact .inr (.inr rfl)
  · split
    · exact .inl rfl
    · split
      · exact .inr (.inr rfl)
      · exact .inr (.inl rfl)
theorem skip_right (v : Val) (h : skipV v = false) : rightV v = true ∧ v.kind ≠ 0 ∧ (rplainV v).kind ≠ 0 := by
  unfold skipV at h
  simp at h
  exact ⟨h.1, h.2, by rw [rplain_kind v h.1]; exact h.2⟩
theorem skip_zero (v : Val) (h : skipV v = true) : (rplainV v).kind = 0 := by
  rw [skip_iff] at h
  exact of_decide_eq_true h

/-- What the two choosers have. -/
def RelC (h h' : Val) : Prop := (h = Val.null ∧ h' = Val.null) ∨ ∃ x, rightV x = true ∧ x.kind ≠ 0 ∧ h = plainV x ∧ h' = rplainV x
theorem choose_rel (g kind : Int) (hg : (kind = 3 ∧ g = -1) ∨ (kind = 4 ∧ g = 1)) (h h' v : Val) (hr : RelC h h') (hv : rightV v = true) (hv0 : v.kind ≠ 0) : RelC (chooseV g h v) (chooseR kind h' (rplainV v)) := by
  unfold chooseV chooseR
  rcases hr with ⟨rfl, rfl⟩ | ⟨x, hx, hx0, rfl, rfl⟩
  · exact .inr ⟨v, hv, hv0, rfl, rfl⟩
  · have hk : (rplainV x).kind ≠ 0 := by rw [rplain_kind x hx]; exact hx0
    have hk' : (plainV x).kind ≠ 0 := by rw [plain_kind]; exact hk
    rw [if_neg hk', if_neg hk]
    unfold cmpV
    rw [(plain_plain x hx).1, (plain_plain x hx).2, (plain_plain v hv).2, cmp_eq v x hv hx]
    rcases hg with ⟨rfl, rfl⟩ | ⟨rfl, rfl⟩
    · rw [if_pos rfl]
      rcases rcmp_vals (rplainV v) (rplainV x) with e | e | e <;> rw [e]
      · exact .inr ⟨v, hv, hv0, rfl, rfl⟩
      · exact .inr ⟨x, hx, hx0, rfl, rfl⟩
      · exact .inr ⟨x, hx, hx0, rfl, rfl⟩
    · rw [if_neg (show ¬ (4 : Int) = 3 by omega)]
      rcases rcmp_vals (rplainV v) (rplainV x) with e | e | e <;> rw [e]
      · exact .inr ⟨x, hx, hx0, rfl, rfl⟩
      · exact .inr ⟨x, hx, hx0, rfl, rfl⟩
      · exact .inr ⟨v, hv, hv0, rfl, rfl⟩
theorem go_choose (g kind : Int) (hg : (kind = 3 ∧ g = -1) ∨ (kind = 4 ∧ g = 1)) : ∀ (l : List Val) (n : Int) (h h' : Val), RelC h h' → ∃ r, rgo kind n h' l = (r, 0) ∧ RelC (goChoose g h l) r
  | [], n, h, h', hr => ⟨h', by unfold rgo; rw [if_neg (by omega)], hr⟩
  | v :: l, n, h, h', hr => by
    rw [rgo_cons, goChoose_cons]
    cases hs : skipV v with
    | true =>
      rw [if_pos (skip_zero v hs), if_pos rfl]
      exact go_choose g kind hg l n h h' hr
    | false =>
      obtain ⟨h1, h2, h3⟩ := skip_right v hs
      have k2 : ¬ kind = 2 := by omega
      have k1 : ¬ kind = 1 := by omega
      simp only [h3, k1, k2, if_false, Bool.false_eq_true]
      exact go_choose g kind hg l _ _ _ (choose_rel g kind hg h h' v hr h1 h2)
theorem go_count : ∀ (l : List Val) (n : Int), rgo 1 n Val.null l = (Val.num (goCount n l), 0)
  | [], n => by unfold rgo goCount; rw [if_pos rfl]
  | v :: l, n => by
    rw [rgo_cons, goCount_cons]
    cases hs : skipV v with
    | true =>
      rw [if_pos (skip_zero v hs), if_pos rfl]
      exact go_count l n
    | false =>
      obtain ⟨h1, h2, h3⟩ := skip_right v hs
      have k2 : ¬ (1 : Int) = 2 := by omega
      simp only [h3, k2, if_false, if_true, Bool.false_eq_true]
      exact go_count l _
theorem calc_plain (n : Int) (v : Val) (h : rightV v = true) : calcAdd n (rplainV v) = calcAdd n v := by
  by_cases hk : v.kind = 3
  · rw [(plain_flt v h hk).2]
    unfold calcAdd numV
    rw [right_flt v _ hk]
  · rw [(plain_else v h hk).2]
theorem go_add : ∀ (l : List Val) (n : Int) (h : Val), rgo 2 n h l = goAdd h l
  | [], n, h => by unfold rgo goAdd; rfl
  | v :: l, n, h => by
    rw [rgo_cons, goAdd_cons]
    cases hs : skipV v with
    | true =>
      simp only [skip_zero v hs, if_true]
      exact go_add l n h
    | false =>
      obtain ⟨h1, h2, h3⟩ := skip_right v hs
      simp only [h3, if_false, if_true, Bool.false_eq_true, calc_plain _ v h1]
      have ea : ∀ q : Val × Int, (if q.2 = 0 then rgo 2 (wrap64 (n + 1)) q.1 l else (Val.null, q.2)) = if q.2 = 0 then goAdd q.1 l else (Val.null, q.2) := fun q => by rw [go_add l]
      unfold addV
      by_cases hz : h.kind = 0
      · simp only [hz, if_true]; exact ea _
      · simp only [hz, if_false]; exact ea _

/-- The reference's aggregate. -/
def rfoldV (kind : Int) (l : List Val) : Val × Int := if 1 ≤ kind ∧ kind ≤ 4 then rgo kind 0 Val.null l else (Val.null, 2)
theorem bits_alike (f : Nat) : bitsF (canF f) = bitsF (zrF f) ∧ (canF f == 0) = (zrF f == 0) := by
  unfold bitsF
  rw [nan_can, nan_zr]
  cases h : nanB f with
  | true =>
    refine ⟨rfl, ?_⟩
    have h0 : ¬ f % 9223372036854775808 = 0 := by
      intro e
      unfold nanB at h; rw [e] at h; cases h
    have e1 : canF f = 9221120237041090561 := by unfold canF; rw [h, if_pos rfl]
    have e2 : zrF f = f := by unfold zrF; rw [if_neg h0]
    rw [e1, e2]
    have : (f == 0) = false := by simp; intro e; subst e; exact h0 rfl
    rw [this]; rfl
  | false => rw [can_of f h]; exact ⟨rfl, rfl⟩
theorem relC_alike (h h' : Val) (hr : RelC h h') : Alike h h' := by
  rcases hr with ⟨rfl, rfl⟩ | ⟨x, hx, _, rfl, rfl⟩
  · exact ⟨rfl, rfl, rfl, rfl, rfl⟩
  · by_cases hk : x.kind = 3
    · rw [(plain_flt x hx hk).1, (plain_flt x hx hk).2]
      exact ⟨rfl, rfl, rfl, (bits_alike x.flt).1, (bits_alike x.flt).2⟩
    · rw [(plain_else x hx hk).1, (plain_else x hx hk).2]
      exact ⟨rfl, rfl, rfl, rfl, rfl⟩
theorem fold_alike (kind : Int) (l : List Val) : Alike (foldV kind l).1 (rfoldV kind l).1 ∧ (foldV kind l).2 = (rfoldV kind l).2 := by
  have al : ∀ v, Alike v v := fun v => ⟨rfl, rfl, rfl, rfl, rfl⟩
  unfold foldV rfoldV
  by_cases h1 : kind = 1
  · subst h1
    rw [if_pos rfl, if_pos (by omega), go_count]
    exact ⟨al _, rfl⟩
  by_cases h2 : kind = 2
  · subst h2
    rw [if_neg (by omega), if_pos rfl, if_pos (by omega), go_add]
    exact ⟨al _, rfl⟩
  by_cases h3 : kind = 3
  · subst h3
    rw [if_neg (by omega), if_neg (by omega), if_pos rfl, if_pos (by omega)]
    obtain ⟨r, e, hr⟩ := go_choose (-1) 3 (.inl ⟨rfl, rfl⟩) l 0 Val.null Val.null (.inl ⟨rfl, rfl⟩)
    rw [e]
    exact ⟨relC_alike _ _ hr, rfl⟩
  by_cases h4 : kind = 4
  · subst h4
    rw [if_neg (by omega), if_neg (by omega), if_neg (by omega), if_pos rfl, if_pos (by omega)]
    obtain ⟨r, e, hr⟩ := go_choose 1 4 (.inr ⟨rfl, rfl⟩) l 0 Val.null Val.null (.inl ⟨rfl, rfl⟩)
    rw [e]
    exact ⟨relC_alike _ _ hr, rfl⟩
  · rw [if_neg h1, if_neg h2, if_neg h3, if_neg h4, if_neg (by omega)]
    exact ⟨al _, rfl⟩
end Go.Proofs.Ytaanejhpodbdnaa
