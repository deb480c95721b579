/- tabularylaw27.JoinsTurn returns true and leaves what came in as it was, whatever came in, where what it reads is of bulk at most 1048576. -/
import Derived.Test.YtgmolmpfihkolaaGreatR29
import Derived.ShutString
import Derived.ChangeOld
import Derived.JoinedCond
namespace Go.Proofs.YtgmolmpfihkolaaGreat
open Go.RowKit Go.Proofs.YtgmolmpfihkolaaGreatW.PrintWords Go.Proofs.YtgmolmpfihkolaaGreatW.PrintMore Go.Proofs.YtgmolmpfihkolaaGreat.Pj
set_option linter.unusedVariables false
set_option maxRecDepth 100000
theorem zip_range {β : Type} (a : List Tup) (F : Tup → Nat → List β) : (a.zipIdx 0).flatMap (fun x => F x.1 x.2) = (List.range a.length).flatMap (fun i => F (a.getD i []) i) := by
 have e : a.zipIdx 0 = (List.range a.length).map (fun i => (a.getD i [], i)) := by
  refine List.ext_getElem (by simp) (fun i h1 h2 => ?_)
  have hi : i < a.length := by simpa using h1
  rw [List.getElem_zipIdx, List.getElem_map, List.getElem_range, getD_at _ _ _ hi, Nat.zero_add]
 rw [e, List.flatMap_map]
theorem filter_map_flat {α β : Type} (l : List α) (f : α → β) (p : β → Bool) : (l.map f).filter p = l.flatMap (fun k => if p (f k) then [f k] else []) := by
 induction l with
 | nil => rfl
 | cons a l ih =>
  rw [List.map_cons, List.filter_cons, List.flatMap_cons, ih]
  split <;> rfl
def meets (a b : List Tup) (l2 l3 : List PE) (p : PP) : Bool := (keysP l2 (a.getD p.f0.toNat [])).2.1 && ((keysP l3 (b.getD p.f1.toNat [])).2.1 && decide (cmpRow (rOf (keysP l2 (a.getD p.f0.toNat [])).1) (rOf (keysP l3 (b.getD p.f1.toNat [])).1) = 0))
theorem pairs_filter (a b : List Tup) (l2 l3 : List PE) (h2 : kerr l2 a = 0) (h3 : kerr l3 b = 0) : pairsOf (kgo l2 a 0 []).1 (kgo l3 b 0 []).1 = (prows 0 a.length b.length).filter (meets a b l2 l3) := by
 have e2 := kgo_list l2 a 0 [] (by rw [kgo_err]; exact h2)
 have e3 := kgo_list l3 b 0 [] (by rw [kgo_err]; exact h3)
 rw [List.nil_append, zip_range a (kAt l2)] at e2
 rw [List.nil_append, zip_range b (kAt l3)] at e3
 unfold pairsOf prows
 rw [e2, List.flatMap_assoc, List.drop_zero, List.filter_flatMap]
 congr 1
 funext i
 unfold prow
 rw [List.drop_zero, filter_map_flat]
 by_cases hs : (keysP l2 (a.getD i [])).2.1 = true
 ·have ek : kAt l2 (a.getD i []) i = [⟨(i : Int), (keysP l2 (a.getD i [])).1⟩] := by unfold kAt; rw [if_pos hs]
  rw [ek, List.flatMap_cons, List.flatMap_nil, List.append_nil]
  unfold meetOf
  rw [e3, List.filter_flatMap, List.map_flatMap]
  congr 1
  funext k
  have em : meets a b l2 l3 (mkP i k) = ((keysP l3 (b.getD k [])).2.1 && decide (cmpRow (rOf (keysP l2 (a.getD i [])).1) (rOf (keysP l3 (b.getD k [])).1) = 0)) := by
   unfold meets mkP
   simp only [Int.toNat_natCast]
   rw [hs, Bool.true_and]
  rw [em]
  unfold kAt
  by_cases ht : (keysP l3 (b.getD k [])).2.1 = true
  ·rw [if_pos ht, ht, Bool.true_and, List.filter_cons, List.filter_nil]
   unfold kc
   by_cases hc : cmpRow (rOf (keysP l2 (a.getD i [])).1) (rOf (keysP l3 (b.getD k [])).1) = 0
   ·rw [decide_eq_true hc, if_pos (by simpa using hc), if_pos rfl]; rfl
   ·rw [decide_eq_false hc, if_neg (by simpa using hc), if_neg (by simp)]; rfl
  ·rw [if_neg ht, Bool.eq_false_iff.2 ht, Bool.false_and, if_neg (by simp)]; rfl
 ·have ek : kAt l2 (a.getD i []) i = [] := by unfold kAt; rw [if_neg hs]
  rw [ek, List.flatMap_nil]
  symm
  rw [List.flatMap_eq_nil_iff]
  intro k _
  have em : meets a b l2 l3 (mkP i k) = false := by
   unfold meets mkP
   simp only [Int.toNat_natCast]
   rw [Bool.eq_false_iff.2 hs, Bool.false_and]
  rw [em, if_neg (by simp)]
def uP (a b : List Tup) (p : PP) : Tup := unionP (a.getD p.f0.toNat []) (b.getD p.f1.toNat [])
theorem told_all (a b : List Tup) (L : List PE) : ∀ (ps : List PP) (out : List Tup), (∀ p ∈ ps, (holdsP L (uP a b p)).2 = 0) → toldGo a b L ps out = (out ++ (ps.filter (fun p => (holdsP L (uP a b p)).1)).map (uP a b), 0)
 | [], out, _ => by simp [toldGo]
 | p :: ps, out, h => by
  have h0 : (holdsP L (unionP (a.getD p.f0.toNat []) (b.getD p.f1.toNat []))).2 = 0 := h p List.mem_cons_self
  rw [toldGo, if_neg (fun h => h h0), told_all a b L ps _ (fun q hq => h q (List.mem_cons_of_mem _ hq)), List.filter_cons]
  unfold uP
  split
  ·simp
  ·rfl
theorem prows_mem {na nb : Nat} {p : PP} (h : p ∈ prows 0 na nb) : p.f0.toNat < na ∧ p.f1.toNat < nb := by
 unfold prows at h
 obtain ⟨i, hi, hp⟩ := List.mem_flatMap.1 h
 unfold prow at hp
 obtain ⟨k, hk, rfl⟩ := List.mem_map.1 hp
 have h1 := List.mem_range.1 (List.mem_of_mem_drop hi)
 have h2 := List.mem_range.1 (List.mem_of_mem_drop hk)
 unfold mkP
 simp only [Int.toNat_natCast]
 exact ⟨h1, h2⟩
theorem keyedR_ok2 (a b : List Tup) (l2 l3 l4 : List PE) (ha : okTups a) (hb : okTups b) (h2 : okLs l2) (h3 : okLs l3) (na : a.length ≤ 30) (nb : b.length ≤ 30) : (∀ t ∈ (keyedR a b l2 l3 l4).1, wfRs t = true ∧ okTup t) ∧ (keyedR a b l2 l3 l4).1.length ≤ 900 := by
 unfold keyedR
 split
 ·exact ⟨fun t ht => (by cases ht), by simp⟩
 ·split
  ·exact ⟨fun t ht => (by cases ht), by simp⟩
  ·rename_i e2
   split
   ·exact ⟨fun t ht => (by cases ht), by simp⟩
   ·rename_i e3
    refine ⟨toldGo_ok a b l4 ha hb _ _ (fun t ht => by cases ht), ?_⟩
    have h := toldGo_length a b l4 (pairsOf (kgo l2 a 0 []).1 (kgo l3 b 0 []).1) []
    have z2 : (kgo l2 a 0 []).2 = 0 := by rw [kgo_err]; simpa using e2
    have z3 : (kgo l3 b 0 []).2 = 0 := by rw [kgo_err]; simpa using e3
    have := Nat.le_trans (pairs_length (kgo l2 a 0 []).1 (kgo l3 b 0 []).1) (Nat.mul_le_mul (Nat.le_trans (kgo_length l2 a z2) na) (Nat.le_trans (kgo_length l3 b z3) nb))
    simp only [List.length_nil] at h
    omega
def flatT (t : Tup) : List PV := t.flatMap (fun r => (⟨2, (r.length : Int), 0, ⟨#[]⟩⟩ : PV) :: r)
theorem flat_row (x3 : List (List PV)) (x9 : List Tup) (x10 x11 : Int) (t : Tup) (ht : okTup t) : ∀ (m i : Nat) (x6 : List PV) (K : Nat), t.length - i = m → i ≤ t.length → x6.length ≤ i * 1001 → m + 1 ≤ K →
 a27_flat.l1 K x3 x6 x9 x10 x11 t (t.length : Int) (i : Int) = if x3.length < 5864062014805 then a27_flat.l0 (K - m - 1) (x3 ++ [x6 ++ flatT (t.drop i)]) x9 x10 (wrap64 (x11 + 1)) else none
 | m, i, x6, 0, hm, hi, h6, hK => by omega
 | 0, i, x6, K + 1, hm, hi, h6, hK => by
  rw [a27_flat.l1, if_neg (by omega), List.drop_of_length_le (by omega)]
  unfold flatT
  rw [List.flatMap_nil, List.append_nil, Nat.sub_zero, Nat.add_sub_cancel]
 | m + 1, i, x6, K + 1, hm, hi, h6, hK => by
  have hil : i < t.length := by omega
  have h1000 := ht.1
  have hr := ht.2 _ (List.getElem_mem hil)
  rw [a27_flat.l1, if_pos (by omega), if_pos (by omega), if_pos (by omega), value_Number.f, Option.bind_some, if_pos (by omega), Option.bind_some, rd5, getD_at _ _ _ hil, if_pos (by rw [List.length_append, List.length_singleton]; omega), w64 (by omega),
   flat_row x3 x9 x10 x11 t ht m (i + 1) _ K (by omega) (by omega) (by rw [List.length_append, List.length_append, List.length_singleton]; omega) (by omega)]
  have e : x6 ++ [(⟨2, (t[i].length : Int), 0, ⟨#[]⟩⟩ : PV)] ++ t[i] ++ flatT (t.drop (i + 1)) = x6 ++ flatT (t.drop i) := by
   rw [List.drop_eq_getElem_cons hil]
   unfold flatT
   rw [List.flatMap_cons, List.append_assoc, List.append_assoc]
   rfl
  rw [e, show K + 1 - (m + 1) - 1 = K - m - 1 by omega]
theorem flat_go (x : List Tup) (hx : ∀ t ∈ x, okTup t) (hn : x.length ≤ 1000000) : ∀ (m i : Nat) (acc : List (List PV)) (K : Nat), x.length - i = m → i ≤ x.length → acc.length ≤ i → m * 1003 + 1 ≤ K →
 a27_flat.l0 K acc x (x.length : Int) (i : Int) = some (acc ++ (x.drop i).map flatT) := by
 intro m
 induction m with
 | zero =>
  intro i acc K hm hi ha hK
  obtain ⟨K, rfl⟩ : ∃ K', K = K' + 1 := ⟨K - 1, by omega⟩
  rw [a27_flat.l0, if_neg (by omega), List.drop_of_length_le (by omega), List.map_nil, List.append_nil]
 | succ m ih =>
  intro i acc K hm hi ha hK
  obtain ⟨K, rfl⟩ : ∃ K', K = K' + 1 := ⟨K - 1, by omega⟩
  have hil : i < x.length := by omega
  have ht := hx _ (List.getElem_mem hil)
  obtain ⟨t, hte⟩ : ∃ t, t = x[i] := ⟨_, rfl⟩
  rw [← hte] at ht
  have h1000 := ht.1
  rw [a27_flat.l0, if_pos (by omega), if_pos (by omega), if_pos (by omega), rd6, getD_at _ _ _ hil, ← hte]
  have h := flat_row acc x (x.length : Int) (i : Int) t ht t.length 0 [] K (by omega) (Nat.zero_le _) (Nat.zero_le _) (by omega)
  rw [if_pos (by omega), w64 (by omega), List.drop_zero, List.nil_append, ih (i + 1) (acc ++ [flatT t]) (K - t.length - 1) (by omega) (by omega) (by rw [List.length_append, List.length_singleton]; omega) (by omega)] at h
  rw [List.drop_eq_getElem_cons hil, List.map_cons, ← hte]
  refine h.trans ?_
  rw [List.append_assoc]; rfl
theorem flat_f (x : List Tup) (hx : ∀ t ∈ x, okTup t) (hn : x.length ≤ 900) (K : Nat) (hK : 903000 ≤ K) : a27_flat.f K x = some (x.map flatT) := by
 unfold a27_flat.f
 have h := flat_go x hx (by omega) x.length 0 [] K (by omega) (Nat.zero_le _) (by simp) (by omega)
 rw [List.drop_zero, List.nil_append] at h
 exact h
def NoClash (s t : Tup) : Prop := ∀ j, (s.getD j []).length = 0 ∨ (t.getD j []).length = 0
theorem len0 {s : Tup} {j : Nat} (h : s.length ≤ j) : (s.getD j []).length = 0 := by rw [getD_no _ _ _ h]; rfl
section
variable (a b : List Tup) (l2 l3 l4 : List PE)
theorem turn_l2 (s t : Tup) (x29 x35 : List Tup) (x30 x31 x36 x37 : Int) (F : Nat) (hs : s.length ≤ 1000000)
 (H : ∀ K, F ≤ K → NoClash s t → a27_JoinsTurn.l1 K a b l2 l3 l4 s x29 x30 x31 x35 x36 (wrap64 (x37 + 1)) = some true) :
 ∀ (m j K : Nat), s.length - j = m → j ≤ s.length → (∀ j', j' < j → (s.getD j' []).length = 0 ∨ (t.getD j' []).length = 0) → F + m + 1 ≤ K →
 a27_JoinsTurn.l2 K a b l2 l3 l4 s t x29 x30 x31 x35 x36 x37 (s.length : Int) (j : Int) = some true
 | m, j, 0, hm, hj, hc, hK => by omega
 | 0, j, K + 1, hm, hj, hc, hK => by
  rw [a27_JoinsTurn.l2, if_neg (by omega)]
  exact H K (by omega) (fun j' => by
   by_cases h : j' < j
   ·exact hc j' h
   ·exact Or.inl (len0 (by omega)))
 | m + 1, j, K + 1, hm, hj, hc, hK => by
  have next : ((s.getD j []).length = 0 ∨ (t.getD j []).length = 0) → a27_JoinsTurn.l2 K a b l2 l3 l4 s t x29 x30 x31 x35 x36 x37 (s.length : Int) (wrap64 ((j : Int) + 1)) = some true := fun hq => by
   rw [w64 (by omega)]
   exact turn_l2 s t x29 x35 x30 x31 x36 x37 F hs H m (j + 1) K (by omega) (by omega) (fun j' h => by
    by_cases h' : j' < j
    ·exact hc j' h'
    ·obtain rfl : j' = j := by omega
     exact hq) (by omega)
  rw [a27_JoinsTurn.l2, if_pos (by omega), if_pos (by omega), if_pos (by omega), rd5, rd5]
  split
  ·split
   ·split
    ·rfl
    ·exact next (Or.inr (by omega))
   ·exact next (Or.inr (len0 (by omega)))
  ·exact next (Or.inl (by omega))
theorem turn_l1 (s : Tup) (x29 : List Tup) (x30 x31 : Int) (F : Nat) (hs : s.length ≤ 1000) (hb : b.length ≤ 1000000)
 (H : ∀ K, F ≤ K → (∀ k, k < b.length → NoClash s (b.getD k [])) → a27_JoinsTurn.l0 K a b l2 l3 l4 x29 x30 (wrap64 (x31 + 1)) = some true) :
 ∀ (m k K : Nat), b.length - k = m → k ≤ b.length → (∀ k', k' < k → NoClash s (b.getD k' [])) → F + m * 1002 + 1 ≤ K →
 a27_JoinsTurn.l1 K a b l2 l3 l4 s x29 x30 x31 b (b.length : Int) (k : Int) = some true
 | m, k, 0, hm, hk, hc, hK => by omega
 | 0, k, K + 1, hm, hk, hc, hK => by
  rw [a27_JoinsTurn.l1, if_neg (by omega)]
  exact H K (by omega) (fun k' h => hc k' (by omega))
 | m + 1, k, K + 1, hm, hk, hc, hK => by
  have h0 : ((0 : Nat) : Int) = 0 := rfl
  rw [a27_JoinsTurn.l1, if_pos (by omega), if_pos (by omega), if_pos (by omega), rd6, ← h0]
  refine turn_l2 a b l2 l3 l4 s (b.getD k []) x29 b x30 x31 _ _ (F + m * 1002 + 1) (by omega) (fun K' hK' hn => ?_) s.length 0 K (by omega) (Nat.zero_le _) (fun j' h => by omega) (by omega)
  rw [w64 (by omega)]
  exact turn_l1 s x29 x30 x31 F hs hb H m (k + 1) K' (by omega) (by omega) (fun k' h => by
   by_cases h' : k' < k
   ·exact hc k' h'
   ·obtain rfl : k' = k := by omega
    exact hn) hK'
noncomputable def turnEnd (k : Nat) : Option Bool := (joins_Hash.f a b l2 l3 l4).bind fun bt160 => ((joins_Hash.f b a l3 l2 l4).bind fun bt164 => (if bt160.2 = 0 then (a27_JoinsTurn.j3 k bt160.1 bt160.2 bt164.1 bt164.2 (bt164.2 != 0)) else (a27_JoinsTurn.j3 k bt160.1 bt160.2 bt164.1 bt164.2 true)))
theorem turn_l0 (F : Nat) (hs : ∀ s ∈ a, okTup s) (ha : a.length ≤ 1000000) (hb : b.length ≤ 30)
 (H : ∀ K, F ≤ K → (∀ i k, i < a.length → k < b.length → NoClash (a.getD i []) (b.getD k [])) → turnEnd a b l2 l3 l4 K = some true) :
 ∀ (m i K : Nat), a.length - i = m → i ≤ a.length → (∀ i' k', i' < i → k' < b.length → NoClash (a.getD i' []) (b.getD k' [])) → F + m * 30062 + 1 ≤ K →
 a27_JoinsTurn.l0 K a b l2 l3 l4 a (a.length : Int) (i : Int) = some true
 | m, i, 0, hm, hi, hc, hK => by omega
 | 0, i, K + 1, hm, hi, hc, hK => by
  rw [a27_JoinsTurn.l0, if_neg (by omega)]
  exact H K (by omega) (fun i' k' h h' => hc i' k' (by omega) h')
 | m + 1, i, K + 1, hm, hi, hc, hK => by
  have hil : i < a.length := by omega
  have h0 : ((0 : Nat) : Int) = 0 := rfl
  have ho : okTup (a.getD i []) := by rw [getD_at _ _ _ hil]; exact hs _ (List.getElem_mem hil)
  rw [a27_JoinsTurn.l0, if_pos (by omega), if_pos (by omega), if_pos (by omega), rd6, ← h0]
  refine turn_l1 a b l2 l3 l4 (a.getD i []) a _ _ (F + m * 30062 + 1) ho.1 (by omega) (fun K' hK' hn => ?_) b.length 0 K (by omega) (Nat.zero_le _) (fun k' h => by omega) (by omega)
  rw [w64 (by omega)]
  exact turn_l0 F hs ha hb H m (i + 1) K' (by omega) (by omega) (fun i' k' h hk' => by
   by_cases h' : i' < i
   ·exact hc i' k' h' hk'
   ·obtain rfl : i' = i := by omega
    exact hn k' hk') hK'
end
theorem union_turn {s t : Tup} (h : NoClash s t) : unionP s t = unionP t s := by
 unfold unionP
 rw [Nat.max_comm]
 refine List.map_congr_left (fun i _ => ?_)
 unfold uAt
 have hn : ∀ l : List PV, l.length = 0 → l = [] := fun l h => List.eq_nil_of_length_eq_zero h
 rcases h i with h | h
 ·rw [if_pos h]
  split
  ·rename_i h2
   rw [hn _ h, hn _ h2]
  ·rfl
 ·rw [if_pos h]
  split
  ·rename_i h2
   rw [hn _ h, hn _ h2]
  ·rfl
theorem flat_cons {α γ : Type} (m : List α) (x : α → γ) (g : α → List γ) : (m.flatMap fun b => x b :: g b).Perm (m.map x ++ m.flatMap g) := by
 induction m with
 | nil => exact List.Perm.refl _
 | cons b m ih =>
  rw [List.flatMap_cons, List.flatMap_cons, List.map_cons, List.cons_append, List.cons_append]
  refine List.Perm.cons _ ?_
  refine (List.Perm.append_left (g b) ih).trans ?_
  rw [← List.append_assoc, ← List.append_assoc]
  exact List.Perm.append_right _ List.perm_append_comm
theorem flat_swap {α β γ : Type} (l : List α) (m : List β) (f : α → β → γ) : (l.flatMap fun a => m.map (f a)).Perm (m.flatMap fun b => l.map (fun a => f a b)) := by
 induction l with
 | nil =>
  rw [List.flatMap_nil]
  have : (m.flatMap fun b => ([] : List α).map (fun a => f a b)) = [] := by rw [List.flatMap_eq_nil_iff]; intro _ _; rfl
  rw [this]
 | cons a l ih =>
  rw [List.flatMap_cons]
  exact (List.Perm.append_left _ ih).trans (flat_cons m (f a) (fun b => l.map (fun a => f a b))).symm
def swapP (p : PP) : PP := ⟨p.f1, p.f0⟩
theorem prows_turn (na nb : Nat) : ((prows 0 nb na).map swapP).Perm (prows 0 na nb) := by
 unfold prows prow
 rw [List.map_flatMap]
 simp only [List.drop_zero, List.map_map]
 exact flat_swap (List.range nb) (List.range na) (fun k i => mkP i k)
theorem meets_turn (a b : List Tup) (l2 l3 : List PE) (p : PP) : meets b a l3 l2 p = meets a b l2 l3 (swapP p) := by
 unfold meets swapP
 simp only
 have n := cmpRow_neg (rOf (keysP l2 (a.getD p.f1.toNat [])).1) (rOf (keysP l3 (b.getD p.f0.toNat [])).1)
 have e : decide (cmpRow (rOf (keysP l3 (b.getD p.f0.toNat [])).1) (rOf (keysP l2 (a.getD p.f1.toNat [])).1) = 0) = decide (cmpRow (rOf (keysP l2 (a.getD p.f1.toNat [])).1) (rOf (keysP l3 (b.getD p.f0.toNat [])).1) = 0) := by
  rw [decide_eq_decide]; omega
 rw [e]
 cases (keysP l3 (b.getD p.f0.toNat [])).2.1 <;> cases (keysP l2 (a.getD p.f1.toNat [])).2.1 <;> simp
theorem told_err (a b : List Tup) (L : List PE) : ∀ (ps : List PP) (out : List Tup), (toldGo a b L ps out).2 = 0 ↔ ∀ p ∈ ps, (holdsP L (uP a b p)).2 = 0
 | [], out => by simp [toldGo]
 | p :: ps, out => by
  rw [toldGo]
  by_cases h : (holdsP L (unionP (a.getD p.f0.toNat []) (b.getD p.f1.toNat []))).2 = 0
  ·rw [if_neg (fun q => q h), told_err a b L ps]
   constructor
   ·intro hq q hm
    rcases List.mem_cons.1 hm with rfl | hm
    ·exact h
    ·exact hq q hm
   ·exact fun hq q hm => hq q (List.mem_cons_of_mem _ hm)
  ·rw [if_pos h]
   constructor
   ·exact fun e => absurd e h
   ·exact fun hq => absurd (hq p List.mem_cons_self) h
theorem turn_main (a b : List Tup) (l2 l3 l4 : List PE) (hN : ∀ i k, i < a.length → k < b.length → NoClash (a.getD i []) (b.getD k [])) :
 ((keyedR a b l2 l3 l4).2 = 0 ↔ (keyedR b a l3 l2 l4).2 = 0) ∧ ((keyedR a b l2 l3 l4).2 = 0 → (keyedR a b l2 l3 l4).1.Perm (keyedR b a l3 l2 l4).1) := by
 by_cases hl : l2.length ≠ l3.length ∨ l2.length = 0
 ·have e1 : keyedR a b l2 l3 l4 = ([], 2) := by unfold keyedR; rw [if_pos hl]
  have e2 : keyedR b a l3 l2 l4 = ([], 2) := by unfold keyedR; rw [if_pos (by omega)]
  rw [e1, e2]
  exact ⟨Iff.rfl, fun _ => List.Perm.refl _⟩
 ·by_cases k2 : kerr l2 a = 0
  ·by_cases k3 : kerr l3 b = 0
   ·have e1 : keyedR a b l2 l3 l4 = toldGo a b l4 ((prows 0 a.length b.length).filter (meets a b l2 l3)) [] := by
     unfold keyedR
     rw [if_neg hl, if_neg (fun h => h k2), if_neg (fun h => h k3), pairs_filter a b l2 l3 k2 k3]
    have e2 : keyedR b a l3 l2 l4 = toldGo b a l4 ((prows 0 b.length a.length).filter (meets b a l3 l2)) [] := by
     unfold keyedR
     rw [if_neg (by omega), if_neg (fun h => h k3), if_neg (fun h => h k2), pairs_filter b a l3 l2 k3 k2]
    rw [e1, e2, told_err, told_err]
    have hu : ∀ p ∈ prows 0 b.length a.length, uP b a p = uP a b (swapP p) := by
     intro p hp
     obtain ⟨h1, h2⟩ := prows_mem hp
     unfold uP swapP
     exact (union_turn (hN p.f1.toNat p.f0.toNat h2 h1)).symm
    have hperm : (((prows 0 b.length a.length).filter (meets b a l3 l2)).map swapP).Perm ((prows 0 a.length b.length).filter (meets a b l2 l3)) := by
     have e : ((prows 0 b.length a.length).filter (meets b a l3 l2)).map swapP = ((prows 0 b.length a.length).map swapP).filter (meets a b l2 l3) := by
      rw [List.filter_map]
      congr 1
      refine List.filter_congr (fun p _ => ?_)
      exact meets_turn a b l2 l3 p
     rw [e]
     exact (prows_turn a.length b.length).filter _
    have herr : (∀ p ∈ (prows 0 a.length b.length).filter (meets a b l2 l3), (holdsP l4 (uP a b p)).2 = 0) ↔ ∀ p ∈ (prows 0 b.length a.length).filter (meets b a l3 l2), (holdsP l4 (uP b a p)).2 = 0 := by
     constructor
     ·intro h p hp
      rw [hu p (List.mem_filter.1 hp).1]
      exact h _ (hperm.mem_iff.1 (List.mem_map_of_mem hp))
     ·intro h p hp
      obtain ⟨q, hq, rfl⟩ := List.mem_map.1 (hperm.mem_iff.2 hp)
      rw [← hu q (List.mem_filter.1 hq).1]
      exact h q hq
    refine ⟨herr, fun h => ?_⟩
    rw [told_all a b l4 _ [] h, told_all b a l4 _ [] (herr.1 h), List.nil_append, List.nil_append]
    have e : (((prows 0 b.length a.length).filter (meets b a l3 l2)).filter (fun p => (holdsP l4 (uP b a p)).1)).map (uP b a) = ((((prows 0 b.length a.length).filter (meets b a l3 l2)).map swapP).filter (fun p => (holdsP l4 (uP a b p)).1)).map (uP a b) := by
     rw [List.filter_map, List.map_map]
     have f1 : ((prows 0 b.length a.length).filter (meets b a l3 l2)).filter (fun p => (holdsP l4 (uP b a p)).1) = ((prows 0 b.length a.length).filter (meets b a l3 l2)).filter ((fun p => (holdsP l4 (uP a b p)).1) ∘ swapP) := by
      refine List.filter_congr (fun p hp => ?_)
      rw [hu p (List.mem_filter.1 hp).1]; rfl
     rw [f1]
     refine List.map_congr_left (fun p hp => ?_)
     exact hu p (List.mem_filter.1 (List.mem_filter.1 hp).1).1
    rw [e]
    exact ((hperm.filter _).map _).symm
   ·have e1 : keyedR a b l2 l3 l4 = ([], kerr l3 b) := by
     unfold keyedR
     rw [if_neg hl, if_neg (fun h => h k2), if_pos k3]
    have e2 : keyedR b a l3 l2 l4 = ([], kerr l3 b) := by
     unfold keyedR
     rw [if_neg (by omega), if_pos k3]
    rw [e1, e2]
    exact ⟨Iff.rfl, fun _ => List.Perm.refl _⟩
  ·have e1 : (keyedR a b l2 l3 l4).2 ≠ 0 := by
    unfold keyedR
    rw [if_neg hl, if_pos k2]
    exact k2
   have e2 : (keyedR b a l3 l2 l4).2 ≠ 0 := by
    unfold keyedR
    rw [if_neg (by omega)]
    by_cases k3 : kerr l3 b = 0
    ·rw [if_neg (fun h => h k3), if_pos k2]; exact k2
    ·rw [if_pos k3]; exact k3
   exact ⟨⟨fun h => absurd h e1, fun h => absurd h e2⟩, fun h => absurd h e1⟩
theorem flat_wf {x : List Tup} (hx : ∀ t ∈ x, wfRs t = true ∧ okTup t) : wfRs (x.map flatT) = true := by
 unfold wfRs
 rw [List.all_eq_true]
 intro r hr
 obtain ⟨t, ht, rfl⟩ := List.mem_map.1 hr
 obtain ⟨hw, ho⟩ := hx t ht
 unfold wfR flatT
 rw [List.all_eq_true]
 intro v hv
 obtain ⟨s, hs, hv⟩ := List.mem_flatMap.1 hv
 rcases List.mem_cons.1 hv with rfl | hv
 ·have := ho.2 s hs
  refine decide_eq_true ⟨by kernel_rfl, ?_, by show 0 < 2 ^ 64; decide, by show 0 ≤ _; exact Nat.zero_le _⟩
  show (Lit.int .i64 (s.length : Int)).wf = true
  simp [Lit.wf, IntKind.min, IntKind.max, IntKind.signed, IntKind.bits]
  omega
 ·have h1 := List.all_eq_true.1 hw s hs
  exact List.all_eq_true.1 h1 v hv
theorem all_f3 (l2 l3 l4 : List PE) (h : l2.length + l3.length + l4.length ≤ 1000000000) : a27_all.f l2 l3 l4 = some (l2 ++ l3 ++ l4) := by
 unfold a27_all.f
 rw [Option.bind_some, if_pos (by rw [List.length_nil]; omega), Option.bind_some, if_pos (by rw [List.nil_append]; omega), Option.bind_some, if_pos (by rw [List.nil_append, List.length_append]; omega), List.nil_append]
theorem turn_plain (l0 l1 : List Tup) (l2 l3 l4 : List PE) (h0 : ∀ t ∈ l0, wfRs t = true) (h1 : ∀ t ∈ l1, wfRs t = true) (h2 : wfEs l2 = true) (h3 : wfEs l3 = true) (h4 : wfEs l4 = true) (hn : l2.length + l3.length + l4.length ≤ 1000000000) :
 a27_JoinsTurn.f 2000000 l0 l1 l2 l3 l4 = some true := by
 unfold a27_JoinsTurn.f
 have g200 : gB 200 ≤ 42000 := by decide
 rw [show a27_works.f = some true from rfl, Option.bind_some, if_pos rfl, all_f3 l2 l3 l4 hn, Option.bind_some]
 obtain ⟨g, hg, hg2⟩ := great_f l0 l1 (l2 ++ l3 ++ l4) 2000000 (by omega)
 rw [hg, Option.bind_some]
 cases g with
 | true => rw [if_pos rfl]
 | false =>
  obtain ⟨na, nb, nl, ta, tb⟩ := hg2 rfl
  rw [List.length_append, List.length_append] at nl
  rw [if_neg (by simp)]
  have ha : okTups l0 := ⟨by omega, fun t ht => ⟨h0 t ht, ta t ht⟩⟩
  have hb : okTups l1 := ⟨by omega, fun t ht => ⟨h1 t ht, tb t ht⟩⟩
  have o2 : okLs l2 := ⟨h2, by omega⟩
  have o3 : okLs l3 := ⟨h3, by omega⟩
  have o4 : okLs l4 := ⟨h4, by omega⟩
  have e0 : ((0 : Nat) : Int) = 0 := rfl
  rw [← e0]
  refine turn_l0 l0 l1 l2 l3 l4 1000000 ta (by omega) nb (fun K hK hN => ?_) l0.length 0 2000000 (by omega) (Nat.zero_le _) (fun i' k' h => by omega) (by omega)
  have hm := turn_main l0 l1 l2 l3 l4 hN
  have k1 := keyedR_ok2 l0 l1 l2 l3 l4 ha hb o2 o3 na nb
  have k2 := keyedR_ok2 l1 l0 l3 l2 l4 hb ha o3 o2 nb na
  obtain ⟨_, q1⟩ := keyed_both l0 l1 l2 l3 l4 ha hb o2 o3 o4 na nb
  obtain ⟨_, q2⟩ := keyed_both l1 l0 l3 l2 l4 hb ha o3 o2 o4 nb na
  unfold turnEnd
  rw [joins_Hash.f, q1, q2, Option.bind_some, Option.bind_some]
  obtain ⟨⟨x, e⟩, hx⟩ : ∃ r, r = keyedR l0 l1 l2 l3 l4 := ⟨_, rfl⟩
  obtain ⟨⟨y, f⟩, hy⟩ : ∃ r, r = keyedR l1 l0 l3 l2 l4 := ⟨_, rfl⟩
  rw [← hx, ← hy] at hm ⊢
  rw [← hx] at k1
  rw [← hy] at k2
  simp only at hm k1 k2 ⊢
  obtain ⟨K, rfl⟩ : ∃ K', K = K' + 1 := ⟨K - 1, by omega⟩
  by_cases he : e = 0
  ·have hf : f = 0 := hm.1.1 he
   rw [if_pos he, hf, he, a27_JoinsTurn.j3, if_neg (by simp), flat_f x (fun t ht => (k1.1 t ht).2) k1.2 K (by omega), Option.bind_some, flat_f y (fun t ht => (k2.1 t ht).2) k2.2 K (by omega), Option.bind_some]
   have hb : row_Bag.f (x.map flatT) (y.map flatT) = some true := by
    unfold row_Bag.f bagF
    rw [if_pos]
    exact ⟨⟨flat_wf k1.1, flat_wf k2.1, by rw [List.length_map]; omega⟩, (hm.2 he).map _⟩
   rw [hb]; rfl
  ·have hf : ¬ f = 0 := fun h => he (hm.1.2 h)
   rw [if_neg he, a27_JoinsTurn.j3, if_pos rfl]
   have b1 : (e == 0) = false := beq_eq_false_iff_ne.2 he
   have b2 : (f == 0) = false := beq_eq_false_iff_ne.2 hf
   rw [b1, b2]; rfl
end Go.Proofs.YtgmolmpfihkolaaGreat
namespace Go.Proofs.YtgmolmpfihkolaaGreat.joinsTurn
open Go.ChangeShapes Go.WideShapes Go.ChangeAt Go.RowKit Go.Proofs.YtgmolmpfihkolaaGreat.Pj
set_option linter.unusedVariables false
theorem own : ownKnob Tryz.prog.godebug = none := by kernel_rfl
theorem laidOut : laidOutB Tryz.prog = true := by kernel_rfl
set_option maxRecDepth 100000 in
theorem lifted (os : Os) (started : os.Started) (H : Type) (enc : TypeId × Value → H) (F : Stop.Interp) :
 ReturnsInHanded {} Tryz.checked os 6 .any ((Rows.OpenSpec.upto Rows.joinsTurnSpec).pre6 enc Tryz.prog Tryz.f6 Rows.joinsTurnUptoRow.domain false) (((Rows.OpenSpec.upto Rows.joinsTurnSpec).at F).post enc Tryz.prog Tryz.f6 false true false false) := by
 refine returnsInHanded_of_cond (C := Tryz.checked) (s := Rows.OpenSpec.upto Rows.joinsTurnSpec) (k := Rows.uptoSmall) rfl own started (by kernel_rfl) Tryz.func6
  (OpenSpec.witness (enc := enc) (C := Tryz.checked) (s := Rows.OpenSpec.upto Rows.joinsTurnSpec) (k := Rows.uptoSmall) rfl false ⟨#[], #[.slice none 0 0, .slice none 0 0, .slice none 0 0, .slice none 0 0, .slice none 0 0], []⟩ 8 (by kernel_rfl) (by kernel_rfl) (by kernel_rfl)
   (x := ([.nil, .nil, .nil, .nil, .nil], [], [])) (by kernel_rfl) rfl (by kernel_rfl)) ?_
 intro W base args ds gs before hval0 hW hcnd hk _
 have hval : ∀ (j : Nat) t v, Tryz.f6.params[j]? = some t → args[j]? = some v → Value.okWide Tryz.prog W .any base t v := hval0
 have hW' := hW
 obtain ⟨p, q, hA0, hV, rfl, hfz, hnd⟩ := hW
 have hA : DataW.TrodAll enc Tryz.prog W 0 (fun _ => true) true Tryz.f6.params.toList args.toList ds p := hA0
 rw [Tryz.params6] at hA hval
 obtain ⟨v0, vs0, d0, ds0, p0, q0, hargs, rfl, rfl, h0, r0⟩ := trodAll_cons hA
 obtain ⟨v1, vs1, d1, ds1, p1, q1, rfl, rfl, rfl, h1, r1⟩ := trodAll_cons r0
 obtain ⟨v2, vs2, d2, ds2, p2, q2, rfl, rfl, rfl, h2, r2⟩ := trodAll_cons r1
 obtain ⟨v3, vs3, d3, ds3, p3, q3, rfl, rfl, rfl, h3, r3⟩ := trodAll_cons r2
 obtain ⟨v4, vs4, d4, ds4, p4, q4, rfl, rfl, rfl, h4, r4⟩ := trodAll_cons r3
 obtain ⟨rfl, rfl, rfl⟩ := trodAll_nil r4
 obtain rfl : args = #[v0, v1, v2, v3, v4] := by cases args; simp_all
 obtain ⟨rfl, rfl⟩ := trodVars_none hV
 obtain ⟨a0, len0, cap0, rfl⟩ := okWide_slice Tryz.underlying25 (hval 0 25 v0 rfl rfl)
 obtain ⟨a1, len1, cap1, rfl⟩ := okWide_slice Tryz.underlying25 (hval 1 25 v1 rfl rfl)
 obtain ⟨a2, len2, cap2, rfl⟩ := okWide_slice Tryz.underlying23 (hval 2 23 v2 rfl rfl)
 obtain ⟨a3, len3, cap3, rfl⟩ := okWide_slice Tryz.underlying23 (hval 3 23 v3 rfl rfl)
 obtain ⟨a4, len4, cap4, rfl⟩ := okWide_slice Tryz.underlying23 (hval 4 23 v4 rfl rfl)
 have k0 := h0
 have k1 := h1
 have k2 := h2
 have k3 := h3
 have k4 := h4
 have lt0 : ∀ x ∈ p0, x.block < W.heap.size := by obtain ⟨m, hm⟩ := k0; exact DataW.trod_lt m _ _ _ hm
 have lt1 : ∀ x ∈ p1, x.block < W.heap.size := by obtain ⟨m, hm⟩ := k1; exact DataW.trod_lt m _ _ _ hm
 have lt2 : ∀ x ∈ p2, x.block < W.heap.size := by obtain ⟨m, hm⟩ := k2; exact DataW.trod_lt m _ _ _ hm
 have lt3 : ∀ x ∈ p3, x.block < W.heap.size := by obtain ⟨m, hm⟩ := k3; exact DataW.trod_lt m _ _ _ hm
 have lt4 : ∀ x ∈ p4, x.block < W.heap.size := by obtain ⟨m, hm⟩ := k4; exact DataW.trod_lt m _ _ _ hm
 have hbound : Rows.uptoBulkAll [d0, d1, d2, d3, d4] ≤ 1048576 := of_decide_eq_true hk
 obtain ⟨f0, e0⟩ := h0
 obtain ⟨f1, e1⟩ := h1
 obtain ⟨f2, e2⟩ := h2
 obtain ⟨f3, e3⟩ := h3
 obtain ⟨f4, e4⟩ := h4
 obtain ⟨l0, ⟨A0, c0, g0, hc0, C0⟩, w0, -⟩ := open_tuples e0
 obtain ⟨l1, ⟨A1, c1, g1, hc1, C1⟩, w1, -⟩ := open_tuples e1
 obtain ⟨l2, ⟨A2, c2, g2, hc2, C2⟩, w2, n2⟩ := open_exprs e2
 obtain ⟨l3, ⟨A3, c3, g3, hc3, C3⟩, w3, n3⟩ := open_exprs e3
 obtain ⟨l4, ⟨A4, c4, g4, hc4, C4⟩, w4, n4⟩ := open_exprs e4
 simp [Value.cells] at g0 g1 g2 g3 g4
 obtain ⟨rfl, rfl, rfl⟩ := g0
 obtain ⟨rfl, rfl, rfl⟩ := g1
 obtain ⟨rfl, rfl, rfl⟩ := g2
 obtain ⟨rfl, rfl, rfl⟩ := g3
 obtain ⟨rfl, rfl, rfl⟩ := g4
 have hn : l2.length + l3.length + l4.length ≤ 1000000000 := by
  simp only [Rows.uptoBulkAll] at hbound
  have m2 : l2.length ≤ Rows.uptoBulk d2 := n2
  have m3 : l3.length ≤ Rows.uptoBulk d3 := n3
  have m4 : l4.length ≤ Rows.uptoBulk d4 := n4
  omega
 clear hA0 hval0
 refine (a27_JoinsTurn.calls 2000000 a0 cap0 l0 a1 cap1 l1 a2 cap2 l2 a3 cap3 l3 a4 cap4 l4 true W C0 hc0 C1 hc1 C2 hc2 C3 hc3 C4 hc4 (turn_plain l0 l1 l2 l3 l4 w0 w1 w2 w3 w4 hn)).mono fun e W' ⟨he, bel⟩ => ?_
 subst he
 exact ⟨_, rfl, _, _, _, [], _, [], hW', trodAll_mk1 (shut_bool Tryz.underlying4 _), (trodAll_cons_mk (Below.trod laidOut (by kernel_rfl) (of_decide_eq_true (by kernel_rfl)) k0 bel lt0) (trodAll_cons_mk (Below.trod laidOut (by kernel_rfl) (of_decide_eq_true (by kernel_rfl)) k1 bel lt1) (trodAll_cons_mk (Below.trod laidOut (by kernel_rfl) (of_decide_eq_true (by kernel_rfl)) k2 bel lt2) (trodAll_cons_mk (Below.trod laidOut (by kernel_rfl) (of_decide_eq_true (by kernel_rfl)) k3 bel lt3) (trodAll_cons_mk (Below.trod laidOut (by kernel_rfl) (of_decide_eq_true (by kernel_rfl)) k4 bel lt4) trodAll_mk0))))), rfl, bel.frame _, fun h => by cases h⟩
theorem over : Rows.joinsTurnUptoRow.holds Tryz.pinned (Rows.OpenSpec.upto Rows.joinsTurnSpec) :=
 OpenClaim.holds_of_cond 6 Tryz.f6 rfl rfl rfl rfl rfl rfl rfl ⟨rfl, rfl, rfl, rfl, rfl⟩ rfl rfl rfl rfl rfl (by kernel_rfl) Tryz.func6 (by kernel_rfl)
  (of_decide_eq_true (by kernel_rfl)) (by unfold Func.isWrapper; first | (rw [if_pos (by decide +kernel)]; kernel_rfl) | (rw [if_neg (by decide +kernel)]; exact ⟨rfl, rfl⟩))
  (fun os started H enc _ F => lifted os started H enc F)
theorem proved : Rows.JoinsTurnUptoSaid := over
#print axioms proved
end Go.Proofs.YtgmolmpfihkolaaGreat.joinsTurn
