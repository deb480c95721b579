/- Part of the proof. -/
import Derived.Test.YtgmolmpfihkolaaGreatD28
import Derived.Shelf.SlSortCmp.NoneTotal
namespace Go.Proofs.YtgmolmpfihkolaaGreat
open Go.RowKit Go.Proofs.YtgmolmpfihkolaaGreatW.PrintWords Go.Proofs.YtgmolmpfihkolaaGreatW.PrintMore Go.Proofs.YtgmolmpfihkolaaGreat.Pj
set_option linter.unusedVariables false
set_option maxRecDepth 100000
theorem zip_range {β : Type} (a : List Tup) (F : Tup → Nat → List β) : (a.zipIdx 0).flatMap (fun x => F x.1 x.2) = (List.range a.length).flatMap (fun i => F (a.getD i []) i) := by
 have e : a.zipIdx 0 = (List.range a.length).map (fun i => (a.getD i [], i)) := by
  refine List.ext_getElem (by simp) (fun i h1 h2 => ?_)
  have hi : i < a.length := by simpa using h1
  rw [List.getElem_zipIdx, List.getElem_map, List.getElem_range, getD_at _ _ _ hi, Nat.zero_add]
 rw [e, List.flatMap_map]
theorem filter_map_flat {α β : Type} (l : List α) (f : α → β) (p : β → Bool) : (l.map f).filter p = l.flatMap (fun k => if p (f k) then [f k] else []) := by
 induction l with
 | nil => rfl
 | cons a l ih =>
  rw [List.map_cons, List.filter_cons, List.flatMap_cons, ih]
  split <;> rfl
def meets (a b : List Tup) (l2 l3 : List PE) (p : PP) : Bool := (keysP l2 (a.getD p.f0.toNat [])).2.1 && ((keysP l3 (b.getD p.f1.toNat [])).2.1 && decide (cmpRow (rOf (keysP l2 (a.getD p.f0.toNat [])).1) (rOf (keysP l3 (b.getD p.f1.toNat [])).1) = 0))
theorem pairs_filter (a b : List Tup) (l2 l3 : List PE) (h2 : kerr l2 a = 0) (h3 : kerr l3 b = 0) : pairsOf (kgo l2 a 0 []).1 (kgo l3 b 0 []).1 = (prows 0 a.length b.length).filter (meets a b l2 l3) := by
 have e2 := kgo_list l2 a 0 [] (by rw [kgo_err]; exact h2)
 have e3 := kgo_list l3 b 0 [] (by rw [kgo_err]; exact h3)
 rw [List.nil_append, zip_range a (kAt l2)] at e2
 rw [List.nil_append, zip_range b (kAt l3)] at e3
 unfold pairsOf prows
 rw [e2, List.flatMap_assoc, List.drop_zero, List.filter_flatMap]
 congr 1
 funext i
 unfold prow
 rw [List.drop_zero, filter_map_flat]
 by_cases hs : (keysP l2 (a.getD i [])).2.1 = true
 ·have ek : kAt l2 (a.getD i []) i = [⟨(i : Int), (keysP l2 (a.getD i [])).1⟩] := by unfold kAt; rw [if_pos hs]
  rw [ek, List.flatMap_cons, List.flatMap_nil, List.append_nil]
  unfold meetOf
  rw [e3, List.filter_flatMap, List.map_flatMap]
  congr 1
  funext k
  have em : meets a b l2 l3 (mkP i k) = ((keysP l3 (b.getD k [])).2.1 && decide (cmpRow (rOf (keysP l2 (a.getD i [])).1) (rOf (keysP l3 (b.getD k [])).1) = 0)) := by
   unfold meets mkP
   simp only [Int.toNat_natCast]
   rw [hs, Bool.true_and]
  rw [em]
  unfold kAt
  by_cases ht : (keysP l3 (b.getD k [])).2.1 = true
  ·rw [if_pos ht, ht, Bool.true_and, List.filter_cons, List.filter_nil]
   unfold kc
   by_cases hc : cmpRow (rOf (keysP l2 (a.getD i [])).1) (rOf (keysP l3 (b.getD k [])).1) = 0
   ·rw [decide_eq_true hc, if_pos (by simpa using hc), if_pos rfl]; rfl
   ·rw [decide_eq_false hc, if_neg (by simpa using hc), if_neg (by simp)]; rfl
  ·rw [if_neg ht, Bool.eq_false_iff.2 ht, Bool.false_and, if_neg (by simp)]; rfl
 ·have ek : kAt l2 (a.getD i []) i = [] := by unfold kAt; rw [if_neg hs]
  rw [ek, List.flatMap_nil]
  symm
  rw [List.flatMap_eq_nil_iff]
  intro k _
  have em : meets a b l2 l3 (mkP i k) = false := by
   unfold meets mkP
   simp only [Int.toNat_natCast]
   rw [Bool.eq_false_iff.2 hs, Bool.false_and]
  rw [em, if_neg (by simp)]
def uP (a b : List Tup) (p : PP) : Tup := unionP (a.getD p.f0.toNat []) (b.getD p.f1.toNat [])
theorem told_all (a b : List Tup) (L : List PE) : ∀ (ps : List PP) (out : List Tup), (∀ p ∈ ps, (holdsP L (uP a b p)).2 = 0) → toldGo a b L ps out = (out ++ (ps.filter (fun p => (holdsP L (uP a b p)).1)).map (uP a b), 0)
 | [], out, _ => by simp [toldGo]
 | p :: ps, out, h => by
  have h0 : (holdsP L (unionP (a.getD p.f0.toNat []) (b.getD p.f1.toNat []))).2 = 0 := h p List.mem_cons_self
  rw [toldGo, if_neg (fun h => h h0), told_all a b L ps _ (fun q hq => h q (List.mem_cons_of_mem _ hq)), List.filter_cons]
  unfold uP
  split
  ·simp
  ·rfl
def CP (l2 l3 l4 : List PE) (s t : Tup) : Prop := cpEs (rsOf s) (rsOf t) (rsOf (unionP s t)) (tsOf l2) (tsOf l3) ∧ (holdsP l4 (unionP s t)).2 = 0
theorem rOf_pOf (l : List Val) : rOf (l.map pOf) = l := by
 unfold rOf
 rw [List.map_map]
 have : (vOf ∘ pOf) = id := by funext v; exact vOf_pOf v
 rw [this, List.map_id]
theorem keysP_ok (l : List PE) (s : Tup) (h : ∀ t ∈ tsOf l, (tellV (rsOf s) t).2 = 0) : keysP l s = (((tsOf l).map (fun t => plainV (tellV (rsOf s) t).1)).map pOf, (tsOf l).all (fun t => decide ((tellV (rsOf s) t).1.kind ≠ 0)), 0) := by
 unfold keysP
 rw [keysGo_ok (rsOf s) (tsOf l) [] true h]
 simp
theorem kerr_zero (l : List PE) : ∀ (ts : List Tup), (∀ t ∈ ts, (keysP l t).2.2 = 0) → kerr l ts = 0
 | [], _ => rfl
 | t :: ts, h => by rw [kerr, if_neg (fun e => e (h t List.mem_cons_self))]; exact kerr_zero l ts (fun t ht => h t (List.mem_cons_of_mem _ ht))
theorem tsOf_len (l : List PE) : (tsOf l).length = l.length := by rw [tsOf_map, List.length_map]
theorem tsOf_eqs (l m n : List PE) : tsOf (eqsP l m ++ n) = List.zipWith eqT (tsOf l) (tsOf m) ++ tsOf n := by
 rw [tsOf_map, tsOf_map, tsOf_map, tsOf_map, List.map_append]
 congr 1
 unfold eqsP
 rw [List.map_zipWith, List.zipWith_map]
 have : (fun x y => tOf (eqE x y)) = (fun x y => eqT (tOf x) (tOf y)) := by funext x y; exact tOf_eq x y
 rw [this]
theorem tell_wf_in {l : List PE} {s : Tup} (hs : wfRs s = true) (hl : wfEs l = true) : ∀ x ∈ tsOf l, (tellV (rsOf s) x).1.wf := by
 intro x hx
 rw [tsOf_map] at hx
 obtain ⟨e, he, rfl⟩ := List.mem_map.1 hx
 obtain ⟨i, hi, rfl⟩ := List.getElem_of_mem he
 exact tellE_wf hs (wfEs_at hl i hi)
theorem meets_eqs {l2 l3 l4 : List PE} {s t : Tup} (hs : wfRs s = true) (ht : wfRs t = true) (h2 : wfEs l2 = true) (h3 : wfEs l3 = true) (hl : l2.length = l3.length) (h : CP l2 l3 l4 s t) :
 (keysP l2 s).2.2 = 0 ∧ (keysP l3 t).2.2 = 0 ∧ holdsP (eqsP l2 l3 ++ l4) (unionP s t) = if (keysP l2 s).2.1 && ((keysP l3 t).2.1 && decide (cmpRow (rOf (keysP l2 s).1) (rOf (keysP l3 t).1) = 0)) then holdsP l4 (unionP s t) else (false, 0) := by
 have hl2 : (tsOf l2).length = (tsOf l3).length := by rw [tsOf_len, tsOf_len, hl]
 have z2 : ∀ x ∈ tsOf l2, (tellV (rsOf s) x).2 = 0 := by
  intro x hx
  obtain ⟨i, hi, rfl⟩ := List.getElem_of_mem hx
  exact (h.1 i _ _ (List.getElem?_eq_getElem hi) (List.getElem?_eq_getElem (by omega))).1
 have z3 : ∀ x ∈ tsOf l3, (tellV (rsOf t) x).2 = 0 := by
  intro x hx
  obtain ⟨i, hi, rfl⟩ := List.getElem_of_mem hx
  exact (h.1 i _ _ (List.getElem?_eq_getElem (by omega)) (List.getElem?_eq_getElem hi)).2.1
 have hu := unionP_wf hs ht
 rw [keysP_ok l2 s z2, keysP_ok l3 t z3]
 refine ⟨rfl, rfl, ?_⟩
 unfold holdsP
 rw [tsOf_eqs, holds_eqs _ _ _ h.1, ← keys_eqs (tsOf l2) (tsOf l3) hl2 (fun x hx rows hr => ?_) (fun y hy rows hr => ?_) h.1]
 ·simp only [rOf_pOf]
 ·rcases List.mem_cons.1 hr with rfl | hr
  ·exact tell_wf_in hs h2 x hx
  ·obtain rfl := List.mem_singleton.1 hr
   exact tell_wf_in hu h2 x hx
 ·rcases List.mem_cons.1 hr with rfl | hr
  ·exact tell_wf_in ht h3 y hy
  ·obtain rfl := List.mem_singleton.1 hr
   exact tell_wf_in hu h3 y hy
theorem prows_mem {na nb : Nat} {p : PP} (h : p ∈ prows 0 na nb) : p.f0.toNat < na ∧ p.f1.toNat < nb := by
 unfold prows at h
 obtain ⟨i, hi, hp⟩ := List.mem_flatMap.1 h
 unfold prow at hp
 obtain ⟨k, hk, rfl⟩ := List.mem_map.1 hp
 have h1 := List.mem_range.1 (List.mem_of_mem_drop hi)
 have h2 := List.mem_range.1 (List.mem_of_mem_drop hk)
 unfold mkP
 simp only [Int.toNat_natCast]
 exact ⟨h1, h2⟩
theorem alike_main (a b : List Tup) (l2 l3 l4 : List PE) (ha : okTups a) (hb : okTups b) (h2 : okLs l2) (h3 : okLs l3) (hl : l2.length = l3.length) (h0 : l2.length ≠ 0) (na : 0 < a.length) (nb : 0 < b.length) (hC : ∀ i k, i < a.length → k < b.length → CP l2 l3 l4 (a.getD i []) (b.getD k [])) :
 (keyedR a b l2 l3 l4).2 = 0 ∧ toldGo a b (eqsP l2 l3 ++ l4) (prows 0 a.length b.length) [] = keyedR a b l2 l3 l4 := by
 have hm := fun i k hi hk => meets_eqs (ha.get i).1 (hb.get k).1 h2.1 h3.1 hl (hC i k hi hk)
 have k2 : kerr l2 a = 0 := kerr_zero l2 a (fun t ht => by
  obtain ⟨i, hi, rfl⟩ := List.getElem_of_mem ht
  have := (hm i 0 hi nb).1
  rwa [getD_at _ _ _ hi] at this)
 have k3 : kerr l3 b = 0 := kerr_zero l3 b (fun t ht => by
  obtain ⟨k, hk, rfl⟩ := List.getElem_of_mem ht
  have := (hm 0 k na hk).2.1
  rwa [getD_at _ _ _ hk] at this)
 have e : keyedR a b l2 l3 l4 = toldGo a b l4 (pairsOf (kgo l2 a 0 []).1 (kgo l3 b 0 []).1) [] := by
  unfold keyedR
  rw [if_neg (by rintro (h | h); exact h hl; exact h0 h), if_neg (fun h => h k2), if_neg (fun h => h k3)]
 have each : ∀ p ∈ prows 0 a.length b.length, (holdsP l4 (uP a b p)).2 = 0 ∧ holdsP (eqsP l2 l3 ++ l4) (uP a b p) = if meets a b l2 l3 p then holdsP l4 (uP a b p) else (false, 0) := by
  intro p hp
  obtain ⟨hi, hk⟩ := prows_mem hp
  exact ⟨(hC _ _ hi hk).2, (hm _ _ hi hk).2.2⟩
 rw [e, pairs_filter a b l2 l3 k2 k3, told_all a b l4 _ [] (fun p hp => (each p (List.mem_filter.1 hp).1).1), told_all a b _ _ [] (fun p hp => by
  rw [(each p hp).2]
  split
  ·exact (each p hp).1
  ·rfl)]
 refine ⟨rfl, ?_⟩
 congr 3
 rw [List.filter_filter]
 refine List.filter_congr (fun p hp => ?_)
 rw [(each p hp).2]
 cases meets a b l2 l3 p <;> simp
theorem keyedR_ok2 (a b : List Tup) (l2 l3 l4 : List PE) (ha : okTups a) (hb : okTups b) (h2 : okLs l2) (h3 : okLs l3) (na : a.length ≤ 30) (nb : b.length ≤ 30) : (∀ t ∈ (keyedR a b l2 l3 l4).1, wfRs t = true ∧ okTup t) ∧ (keyedR a b l2 l3 l4).1.length ≤ 900 := by
 unfold keyedR
 split
 ·exact ⟨fun t ht => (by cases ht), by simp⟩
 ·split
  ·exact ⟨fun t ht => (by cases ht), by simp⟩
  ·rename_i e2
   split
   ·exact ⟨fun t ht => (by cases ht), by simp⟩
   ·rename_i e3
    refine ⟨toldGo_ok a b l4 ha hb _ _ (fun t ht => by cases ht), ?_⟩
    have h := toldGo_length a b l4 (pairsOf (kgo l2 a 0 []).1 (kgo l3 b 0 []).1) []
    have z2 : (kgo l2 a 0 []).2 = 0 := by rw [kgo_err]; simpa using e2
    have z3 : (kgo l3 b 0 []).2 = 0 := by rw [kgo_err]; simpa using e3
    have := Nat.le_trans (pairs_length (kgo l2 a 0 []).1 (kgo l3 b 0 []).1) (Nat.mul_le_mul (Nat.le_trans (kgo_length l2 a z2) na) (Nat.le_trans (kgo_length l3 b z3) nb))
    simp only [List.length_nil] at h
    omega
theorem wfE_eq {p q : PE} (hp : wfE p = true) (hq : wfE q = true) : wfE (eqE p q) = true := by
 unfold eqE
 simp [wfE, wfEs, hp, hq]
 try decide
theorem wfEs_append (m : List PE) : ∀ l : List PE, wfEs (l ++ m) = (wfEs l && wfEs m)
 | [] => by rw [List.nil_append, wfEs, Bool.true_and]
 | x :: l => by rw [List.cons_append, wfEs, wfEs, wfEs_append m l, Bool.and_assoc]
theorem eqs_wf : ∀ {l m : List PE}, wfEs l = true → wfEs m = true → wfEs (eqsP l m) = true
 | [], m, _, _ => by unfold eqsP; rw [List.zipWith_nil_left]; rfl
 | x :: l, [], _, _ => by unfold eqsP; rw [List.zipWith_nil_right]; rfl
 | x :: l, y :: m, h, h2 => by
  rw [wfEs, Bool.and_eq_true] at h h2
  have ih := eqs_wf h.2 h2.2
  unfold eqsP at ih ⊢
  rw [List.zipWith_cons_cons, wfEs, wfE_eq h.1 h2.1, ih]; rfl
theorem prows_none {na nb : Nat} (h : na = 0 ∨ nb = 0) : prows 0 na nb = [] := by
 unfold prows
 rcases h with rfl | rfl
 ·rfl
 ·rw [List.flatMap_eq_nil_iff]; intro i _; exact prow_nil (Nat.le_refl 0)
theorem pairs_none {xs ys : List PK} (h : xs = [] ∨ ys = []) : pairsOf xs ys = [] := by
 unfold pairsOf
 rcases h with rfl | rfl
 ·rfl
 ·rw [List.flatMap_eq_nil_iff]; intro i _; rfl
theorem alike_none (a b : List Tup) (l2 l3 l4 : List PE) (h : a.length = 0 ∨ b.length = 0) : (toldGo a b (eqsP l2 l3 ++ l4) (prows 0 a.length b.length) []).1 = [] ∧ (toldGo a b (eqsP l2 l3 ++ l4) (prows 0 a.length b.length) []).2 = 0 ∧ (keyedR a b l2 l3 l4).1 = [] := by
 rw [prows_none h]
 refine ⟨rfl, rfl, ?_⟩
 have hp : pairsOf (kgo l2 a 0 []).1 (kgo l3 b 0 []).1 = [] := pairs_none (by
  rcases h with h | h
  ·exact Or.inl (by rw [List.eq_nil_of_length_eq_zero h]; rfl)
  ·exact Or.inr (by rw [List.eq_nil_of_length_eq_zero h]; rfl))
 unfold keyedR
 rw [hp]
 split
 ·rfl
 ·split
  ·rfl
  ·split
   ·rfl
   ·rfl
end Go.Proofs.YtgmolmpfihkolaaGreat
namespace Go.Proofs.YtgmolmpfihkolaaGreat.Pj
open Go.RowKit Go.Proofs.YtgmolmpfihkolaaGreatW.PrintWords Go.Proofs.YtgmolmpfihkolaaGreatW.PrintLast Go.Proofs.YtgmolmpfihkolaaGreatW.PrintMore
attribute [local go_sem] run_store_flt max2_int min2_int max_two min_two max_three min_three max_four min_four
set_option linter.unusedVariables false
set_option linter.unusedSimpArgs false
def a27_eqs.l0 : Nat → List (S53) → List (S53) → List (S53) → Int → Int → Option ((List (S53)))
 | 0, _, _, _, _, _ => none
 | k + 1, x0, x1, x5, x8, x9 => if x9 < x8 then (if 0 ≤ x9 then (if x9 < (x0.length : Int) then (if x9 < (x1.length : Int) then (if x5.length < 1599289640401 then (a27_eqs.l0 k x0 x1 (x5 ++ [(⟨7, 0, 0, (⟨0, 0, 0, (⟨#[]⟩ : ByteArray)⟩ : S39), (([(⟨(rd_T53 x0 x9).f0, (rd_T53 x0 x9).f1, (rd_T53 x0 x9).f2, (⟨(rd_T53 x0 x9).f3.f0, (rd_T53 x0 x9).f3.f1, (rd_T53 x0 x9).f3.f2, (rd_T53 x0 x9).f3.f3⟩ : S39), (rd_T53 x0 x9).f4⟩ : S53), (⟨(rd_T53 x1 x9).f0, (rd_T53 x1 x9).f1, (rd_T53 x1 x9).f2, (⟨(rd_T53 x1 x9).f3.f0, (rd_T53 x1 x9).f3.f1, (rd_T53 x1 x9).f3.f2, (rd_T53 x1 x9).f3.f3⟩ : S39), (rd_T53 x1 x9).f4⟩ : S53)] : List (S53)))⟩ : S53)]) x8 (wrap64 (x9 + 1))) else (none)) else (none)) else (none)) else (none)) else (some x5)
def a27_eqs.f (k : Nat) (l0 : List (S53)) (l1 : List (S53)) : Option ((List (S53))) := a27_eqs.l0 k l0 l1 ([] : List (S53)) (l0.length : Int) 0
def a27_eqs.T5 : Bool × List (List Nat × List Nat) := (true, [([], []), ([], []), ([], []), ([1, 2], [1, 2]), ([3], [3]), ([], []), ([], []), ([5, 6], [5, 6]), ([7], [7]), ([4, 8], [4, 8]), ([9], [9]), ([10], [10]), ([0, 11], [0, 11]), ([12, 12, 0, 1, 2, 3, 4, 5, 6, 7, 8, 9, 10, 11, 12], [0, 12])])
def a27_eqs.B5 : List Nat := [0, 0, 0, 6, 14, 0, 0, 96, 224, 510, 1022, 2046, 4095, 8191]
theorem a27_eqs.tab5 : rtab .any (opsOf Tryz.f23 5) = a27_eqs.T5 := by kernel_rfl
theorem a27_eqs.bits5 : waitsOk a27_eqs.T5.2 a27_eqs.B5 = true := by kernel_rfl
set_option maxHeartbeats 8000000 in
set_option maxRecDepth 100000 in
theorem a27_eqs.calls (k : Nat) (P0_ : Nat → Prop) (A0 : Option Addr) (c0 : Nat) (l0 : List (S53)) (P1_ : Nat → Prop) (A1 : Option Addr) (c1 : Nat) (l1 : List (S53)) (r : List (S53)) (w : World) (hs0 : Kd.V k53 53 w w.heap.size (fun k_ => P0_ k_) (.slice A0 l0.length c0) l0) (hs1 : Kd.V k53 53 w w.heap.size (fun k_ => P1_ k_) (.slice A1 l1.length c1) l1) (h : a27_eqs.f k l0 l1 = some r) :
 Calls Tryz.prog 23 #[.slice A0 l0.length c0, .slice A1 l1.length c1] w fun e w' => ∃ v0_ : Value, e = .returned (v0_) ∧ Kd.N k53 53 w' w.heap.size (fun k_ => ((P0_ k_ ∨ P1_ k_) ∨ w.heap.size ≤ k_)) v0_ r ∧ Below w.heap.size w w' := by
 have hu53 := Tryz.underlying53
 have HO0 := akk (show Kd.V k53 53 w w.heap.size (fun k_ => ((P0_ k_ ∨ P1_ k_) ∨ w.heap.size ≤ k_)) (.slice A0 l0.length c0) l0 from Kd.V_mono hs0 (fun k_ hk => .inl (.inl hk)))
 have HO1 := akk (show Kd.V k53 53 w w.heap.size (fun k_ => ((P0_ k_ ∨ P1_ k_) ∨ w.heap.size ≤ k_)) (.slice A1 l1.length c1) l1 from Kd.V_mono hs1 (fun k_ hk => .inl (.inr hk)))
 have HB := akk (Below.refl w.heap.size w)
 have H : (a27_eqs.l0 k l0 l1 ([] : List (S53)) (l0.length : Int) 0) = some r := h
 clear h
 have H' := akk H
 clear H
 go_enter Tryz.func23, Tryz.ntmps23
 go_wp2
 go_loopg [5, 9] k (fun kq v5 v9 w' => ∃ (x5_1 : List (S53)) (x9_1 : Int), v9 = .int .i64 x9_1 ∧ Aside0 (a27_eqs.l0 kq l0 l1 x5_1 (l0.length : Int) x9_1 = some r) ∧ Aside0 (kq ≤ k) ∧ Aside0 (Kd.V k53 53 w' w.heap.size (fun k_ => ((P0_ k_ ∨ P1_ k_) ∨ w.heap.size ≤ k_) ∧ some k_ ≠ (v5 : Value).ownBlock) (.slice A0 l0.length c0) l0) ∧ Aside0 (Kd.V k53 53 w' w.heap.size (fun k_ => ((P0_ k_ ∨ P1_ k_) ∨ w.heap.size ≤ k_) ∧ some k_ ≠ (v5 : Value).ownBlock) (.slice A1 l1.length c1) l1) ∧ Aside0 (Kd.N k53 53 w' w.heap.size (fun k_ => ((P0_ k_ ∨ P1_ k_) ∨ w.heap.size ≤ k_)) v5 x5_1) ∧ Aside0 (Below w.heap.size w w'))
 case atStart => exact ⟨(([] : List (S53))), (0), eT, H', ⟨Nat.le_refl _⟩, ⟨vT' (Kd.V_mono HO0.out (fun _ hk => ⟨hk, (by simp [Value.ownBlock])⟩))⟩, ⟨vT' (Kd.V_mono HO1.out (fun _ hk => ⟨hk, (by simp [Value.ownBlock])⟩))⟩, ⟨zT⟩, ⟨bT⟩⟩
 case round =>
  clear H'
  try clear c1
  obtain ⟨x5_1, x9_1, rfl, HA, HK1, HO_0, HO_1, HO_5, HB⟩ := hrel
  cases gk with
  | zero => exact absurd HA.out (by simp [a27_eqs.l0])
  | succ k1 =>
   have H := HA.out
   clear HA
   simp only [a27_eqs.l0] at H
   by_cases c3 : x9_1 < (l0.length : Int)
   ·rw [if_pos c3] at H
    have c3b0 := decide_eq_true c3
    clear c3
    by_cases c4 : 0 ≤ x9_1
    ·rw [if_pos c4] at H
     have c4b0 := decide_eq_true c4
     clear c4
     by_cases c5 : x9_1 < (l0.length : Int)
     ·rw [if_pos c5] at H
      have c5b0 := decide_eq_true c5
      clear c5
      by_cases c6 : x9_1 < (l1.length : Int)
      ·rw [if_pos c6] at H
       have c6b0 := decide_eq_true c6
       clear c6
       obtain ⟨y204, hy204⟩ : ∃ y_ : List (S53), y_ = (([(⟨(rd_T53 l0 x9_1).f0, (rd_T53 l0 x9_1).f1, (rd_T53 l0 x9_1).f2, (⟨(rd_T53 l0 x9_1).f3.f0, (rd_T53 l0 x9_1).f3.f1, (rd_T53 l0 x9_1).f3.f2, (rd_T53 l0 x9_1).f3.f3⟩ : S39), (rd_T53 l0 x9_1).f4⟩ : S53), (⟨(rd_T53 l1 x9_1).f0, (rd_T53 l1 x9_1).f1, (rd_T53 l1 x9_1).f2, (⟨(rd_T53 l1 x9_1).f3.f0, (rd_T53 l1 x9_1).f3.f1, (rd_T53 l1 x9_1).f3.f2, (rd_T53 l1 x9_1).f3.f3⟩ : S39), (rd_T53 l1 x9_1).f4⟩ : S53)] : List (S53))) := ⟨_, rfl⟩
       replace H : (if x5_1.length < 1599289640401 then (a27_eqs.l0 k1 l0 l1 (x5_1 ++ [(⟨7, 0, 0, (⟨0, 0, 0, (⟨#[]⟩ : ByteArray)⟩ : S39), y204⟩ : S53)]) (l0.length : Int) (wrap64 (x9_1 + 1))) else (none)) = some r := jT hy204 H
       have Ny204 := akk hy204
       clear hy204
       by_cases c7 : x5_1.length < 1599289640401
       ·rw [if_pos c7] at H
        have LMc7 := akk c7
        clear c7
        obtain ⟨y207, hy207⟩ : ∃ y_ : List (S53), y_ = (x5_1 ++ [(⟨7, 0, 0, (⟨0, 0, 0, (⟨#[]⟩ : ByteArray)⟩ : S39), y204⟩ : S53)]) := ⟨_, rfl⟩
        replace H : (a27_eqs.l0 k1 l0 l1 y207 (l0.length : Int) (wrap64 (x9_1 + 1))) = some r := jT hy207 H
        have Ny207 := akk hy207
        clear hy207
        have H' := akk H
        clear H
        try go_wp2
        replace HO_0 := akk (Kd.V_drew HO_0.out)
        replace HO_1 := akk (Kd.V_drew HO_1.out)
        replace HO_5 := akk (Kd.N_drew HO_5.out)
        replace HB := akk (below_drew1 HB.out)
        have p202 : 0 ≤ (x9_1 : Int) := of_decide_eq_true aT
        have q202 : x9_1 < (l0.length : Int) := of_decide_eq_true aT
        obtain ⟨ad202, A202_7, c202_7, e202, hx202_0, hx202_1, hx202_2, hx202_3, hx202_4, hx202_5, hx202_6, hx202_7, hl202_7, hi202_7⟩ := at_T53 (Kd.V_reads' HO_0.out).2.2 x9_1 p202 q202
        cases e202
        obtain ⟨ce202, hce202, hMe202, hcc202⟩ := Kd.V_get HO_0.out z53 x9_1 p202 (by first | exact q202 | exact of_decide_eq_true aT | (have e_ := (Kd.V_reads' HO_0.out).1; omega))
        obtain ⟨ua202_7, uc202_7, rfl, ul202_7, ge202_7⟩ := k53_openF hMe202
        have hv202_7 := hcc202 7 _ rfl
        rw [add_field _ _ 7 (by omega)] at hv202_7
        replace hv202_7 := Option.some.inj (hv202_7.symm.trans hx202_7)
        injection hv202_7 with hva_ hvn_ hvc_
        rw [hva_] at ge202_7
        rw [hvc_] at ul202_7
        have HL202_7 := akk (show Kd.V k53 53 _ w.heap.size _ _ ((rd_T53 l0 x9_1).f4) from Kd.V_mk ul202_7 ge202_7)
        clear hva_ hvn_ hvc_ ge202_7 ul202_7
        clear hcc202 hce202
        have HR202_7 := akk hi202_7
        have HC202_7 := akk hl202_7
        clear hi202_7 hl202_7
        replace p202 := eq_true p202
        replace q202 := eq_true q202
        have p203 : 0 ≤ (x9_1 : Int) := of_decide_eq_true aT
        have q203 : x9_1 < (l1.length : Int) := of_decide_eq_true aT
        obtain ⟨ad203, A203_7, c203_7, e203, hx203_0, hx203_1, hx203_2, hx203_3, hx203_4, hx203_5, hx203_6, hx203_7, hl203_7, hi203_7⟩ := at_T53 (Kd.V_reads' HO_1.out).2.2 x9_1 p203 q203
        cases e203
        obtain ⟨ce203, hce203, hMe203, hcc203⟩ := Kd.V_get HO_1.out z53 x9_1 p203 (by first | exact q203 | exact of_decide_eq_true aT | (have e_ := (Kd.V_reads' HO_1.out).1; omega))
        obtain ⟨ua203_7, uc203_7, rfl, ul203_7, ge203_7⟩ := k53_openF hMe203
        have hv203_7 := hcc203 7 _ rfl
        rw [add_field _ _ 7 (by omega)] at hv203_7
        replace hv203_7 := Option.some.inj (hv203_7.symm.trans hx203_7)
        injection hv203_7 with hva_ hvn_ hvc_
        rw [hva_] at ge203_7
        rw [hvc_] at ul203_7
        have HL203_7 := akk (show Kd.V k53 53 _ w.heap.size _ _ ((rd_T53 l1 x9_1).f4) from Kd.V_mk ul203_7 ge203_7)
        clear hva_ hvn_ hvc_ ge203_7 ul203_7
        clear hcc203 hce203
        have HR203_7 := akk hi203_7
        have HC203_7 := akk hl203_7
        clear hi203_7 hl203_7
        replace p203 := eq_true p203
        replace q203 := eq_true q203
        refine start_ (n := 14) (S := fun w' => w'.cell? (ad202.add ((x9_1).toNat * 8)) = some (.int .i64 ((rd_T53 l0 x9_1).f0)) ∧ w'.cell? ⟨(ad202.add ((x9_1).toNat * 8)).block, (ad202.add ((x9_1).toNat * 8)).off + 1, none⟩ = some (.int .i64 ((rd_T53 l0 x9_1).f1)) ∧ w'.cell? ⟨(ad202.add ((x9_1).toNat * 8)).block, (ad202.add ((x9_1).toNat * 8)).off + 2, none⟩ = some (.int .i64 ((rd_T53 l0 x9_1).f2)) ∧ w'.cell? ⟨(ad202.add ((x9_1).toNat * 8)).block, (ad202.add ((x9_1).toNat * 8)).off + 3, none⟩ = some (.int .i64 ((rd_T53 l0 x9_1).f3.f0)) ∧ w'.cell? ⟨(ad202.add ((x9_1).toNat * 8)).block, (ad202.add ((x9_1).toNat * 8)).off + 4, none⟩ = some (.int .i64 ((rd_T53 l0 x9_1).f3.f1)) ∧ w'.cell? ⟨(ad202.add ((x9_1).toNat * 8)).block, (ad202.add ((x9_1).toNat * 8)).off + 5, none⟩ = some (.float .f64 ((rd_T53 l0 x9_1).f3.f2)) ∧ w'.cell? ⟨(ad202.add ((x9_1).toNat * 8)).block, (ad202.add ((x9_1).toNat * 8)).off + 6, none⟩ = some (.string ((rd_T53 l0 x9_1).f3.f3)) ∧ w'.cell? ⟨(ad202.add ((x9_1).toNat * 8)).block, (ad202.add ((x9_1).toNat * 8)).off + 7, none⟩ = some (.slice A202_7 ((rd_T53 l0 x9_1).f4).length c202_7) ∧ w'.cell? (ad203.add ((x9_1).toNat * 8)) = some (.int .i64 ((rd_T53 l1 x9_1).f0)) ∧ w'.cell? ⟨(ad203.add ((x9_1).toNat * 8)).block, (ad203.add ((x9_1).toNat * 8)).off + 1, none⟩ = some (.int .i64 ((rd_T53 l1 x9_1).f1)) ∧ w'.cell? ⟨(ad203.add ((x9_1).toNat * 8)).block, (ad203.add ((x9_1).toNat * 8)).off + 2, none⟩ = some (.int .i64 ((rd_T53 l1 x9_1).f2)) ∧ w'.cell? ⟨(ad203.add ((x9_1).toNat * 8)).block, (ad203.add ((x9_1).toNat * 8)).off + 3, none⟩ = some (.int .i64 ((rd_T53 l1 x9_1).f3.f0)) ∧ w'.cell? ⟨(ad203.add ((x9_1).toNat * 8)).block, (ad203.add ((x9_1).toNat * 8)).off + 4, none⟩ = some (.int .i64 ((rd_T53 l1 x9_1).f3.f1)) ∧ w'.cell? ⟨(ad203.add ((x9_1).toNat * 8)).block, (ad203.add ((x9_1).toNat * 8)).off + 5, none⟩ = some (.float .f64 ((rd_T53 l1 x9_1).f3.f2)) ∧ w'.cell? ⟨(ad203.add ((x9_1).toNat * 8)).block, (ad203.add ((x9_1).toNat * 8)).off + 6, none⟩ = some (.string ((rd_T53 l1 x9_1).f3.f3)) ∧ w'.cell? ⟨(ad203.add ((x9_1).toNat * 8)).block, (ad203.add ((x9_1).toNat * 8)).off + 7, none⟩ = some (.slice A203_7 ((rd_T53 l1 x9_1).f4).length c203_7)) (ds := [11, 12]) #[false, false, false, false, false, false, false, false, false, false, false, false, false, false] (by kernel_rfl) rfl rfl ⟨hx202_0, hx202_1, hx202_2, hx202_3, hx202_4, hx202_5, hx202_6, hx202_7, hx203_0, hx203_1, hx203_2, hx203_3, hx203_4, hx203_5, hx203_6, hx203_7⟩ (fun hHeld => ?_); refine with_tabW a27_eqs.tab5 a27_eqs.bits5 (fun HT_ HW_ => ?_)
        generalize wr.drew = w8 at HO_0 HO_1 HO_5 HB HL202_7 HL203_7 HR202_7 HR203_7 hx202_0 hx202_1 hx202_2 hx202_3 hx202_4 hx202_5 hx202_6 hx202_7 hx203_0 hx203_1 hx203_2 hx203_3 hx203_4 hx203_5 hx203_6 hx203_7 hHeld ⊢
        refine pT 0 12 (bm 14 1) ?_
        refine pT 1 13 (bm 14 3) ?_
        refine pT 2 14 (bm 14 7) ?_
        refine pT 3 15 (bm 14 15) ?_
        refine pT 5 17 (bm 14 47) ?_
        refine pT 6 18 (bm 14 111) ?_
        refine pT 7 19 (bm 14 239) ?_
        refine take_ (i := 4) (N := some 16) (v := ?_) (a' := ?_) #[true, true, true, true, true, true, true, true, false, false, false, false, false, false] rfl rfl (take_ofW HT_.out HW_.out (by kernel_rfl)) (fun _ _ _ h => h) (Or.inl ⟨by rfl, ?_⟩) hHeld ?_ ?_
        rotate_left
        ·rintro w' ⟨s0, s1, s2, s3, s4, s5, s6, s7, s8, s9, s10, s11, s12, s13, s14, s15⟩
         go_simp
         with_reducible rfl
        rotate_left
        ·simp only [Act.put, List.setIfInBounds_toArray, List.set_cons_zero, List.set_cons_succ, i64_w, i32_w]
         rfl
        refine take_ (i := 8) (N := some 20) (v := ?_) (a' := ?_) #[true, true, true, true, true, true, true, true, true, false, false, false, false, false] rfl rfl (take_ofW HT_.out HW_.out (by kernel_rfl)) (fun _ _ _ h => h) (Or.inl ⟨by rfl, ?_⟩) hHeld ?_ ?_
        rotate_left
        ·rintro w' ⟨s0, s1, s2, s3, s4, s5, s6, s7, s8, s9, s10, s11, s12, s13, s14, s15⟩
         go_simp
         with_reducible rfl
        rotate_left
        ·simp only [Act.put, List.setIfInBounds_toArray, List.set_cons_zero, List.set_cons_succ, i64_w, i32_w]
         rfl
        refine one_ (i := 9) (N := some 21) #[true, true, true, true, true, true, true, true, true, true, false, false, false, false] rfl rfl (one_of HT_.out (by kernel_rfl)) (by decide) (fun K hK => ?_)
        refine Kd.N_lit_step k53 _ 53 ?hg (N' := 21) ?hd (xs := ([(⟨(rd_T53 l0 x9_1).f0, (rd_T53 l0 x9_1).f1, (rd_T53 l0 x9_1).f2, (⟨(rd_T53 l0 x9_1).f3.f0, (rd_T53 l0 x9_1).f3.f1, (rd_T53 l0 x9_1).f3.f2, (rd_T53 l0 x9_1).f3.f3⟩ : S39), (rd_T53 l0 x9_1).f4⟩ : S53), (⟨(rd_T53 l1 x9_1).f0, (rd_T53 l1 x9_1).f1, (rd_T53 l1 x9_1).f2, (⟨(rd_T53 l1 x9_1).f3.f0, (rd_T53 l1 x9_1).f3.f1, (rd_T53 l1 x9_1).f3.f2, (rd_T53 l1 x9_1).f3.f3⟩ : S39), (rd_T53 l1 x9_1).f4⟩ : S53)] : List (S53))) (inner := [.int .i64 ((rd_T53 l0 x9_1).f0), .int .i64 ((rd_T53 l0 x9_1).f1), .int .i64 ((rd_T53 l0 x9_1).f2), .int .i64 ((rd_T53 l0 x9_1).f3.f0), .int .i64 ((rd_T53 l0 x9_1).f3.f1), .float .f64 ((rd_T53 l0 x9_1).f3.f2), .string ((rd_T53 l0 x9_1).f3.f3), .slice A202_7 ((rd_T53 l0 x9_1).f4).length c202_7, .int .i64 ((rd_T53 l1 x9_1).f0), .int .i64 ((rd_T53 l1 x9_1).f1), .int .i64 ((rd_T53 l1 x9_1).f2), .int .i64 ((rd_T53 l1 x9_1).f3.f0), .int .i64 ((rd_T53 l1 x9_1).f3.f1), .float .f64 ((rd_T53 l1 x9_1).f3.f2), .string ((rd_T53 l1 x9_1).f3.f3), .slice A203_7 ((rd_T53 l1 x9_1).f4).length c203_7]) (ok := (fun k_ => ((P0_ k_ ∨ P1_ k_) ∨ w.heap.size ≤ k_) ∧ some k_ ≠ (u5 : Value).ownBlock)) (okp := (fun k_ => ((P0_ k_ ∨ P1_ k_) ∨ w.heap.size ≤ k_) ∧ some k_ ≠ (u5 : Value).ownBlock)) ?hr ?hp (fun _ hk => hk) ((show ∀ k_, w8.heap.size ≤ k_ → (fun k_ => ((P0_ k_ ∨ P1_ k_) ∨ w.heap.size ≤ k_) ∧ some k_ ≠ (u5 : Value).ownBlock) k_ from fun k_ hk => ⟨(.inr (Nat.le_trans (below_size bT) hk)), Kd.fresh' (Kd.N_lt (nT HO_5.out)) k_ hk⟩) _ (Nat.le_refl _)) (Below.refl _ _) (Nat.le_refl _) (by simp) ?_; (case hd => rfl); (case hg => rfl); (case hr => first | (go_simp; done) | (go_simp; rfl)); (case hp => exact (Reps.c8 (show Kd.FK k53 _ _ (⟨(rd_T53 l0 x9_1).f0, (rd_T53 l0 x9_1).f1, (rd_T53 l0 x9_1).f2, (⟨(rd_T53 l0 x9_1).f3.f0, (rd_T53 l0 x9_1).f3.f1, (rd_T53 l0 x9_1).f3.f2, (rd_T53 l0 x9_1).f3.f3⟩ : S39), (rd_T53 l0 x9_1).f4⟩ : S53) [.int .i64 ((rd_T53 l0 x9_1).f0), .int .i64 ((rd_T53 l0 x9_1).f1), .int .i64 ((rd_T53 l0 x9_1).f2), .int .i64 ((rd_T53 l0 x9_1).f3.f0), .int .i64 ((rd_T53 l0 x9_1).f3.f1), .float .f64 ((rd_T53 l0 x9_1).f3.f2), .string ((rd_T53 l0 x9_1).f3.f3), .slice A202_7 ((rd_T53 l0 x9_1).f4).length c202_7] from (k53_mkF _ _ (⟨(rd_T53 l0 x9_1).f0, (rd_T53 l0 x9_1).f1, (rd_T53 l0 x9_1).f2, (⟨(rd_T53 l0 x9_1).f3.f0, (rd_T53 l0 x9_1).f3.f1, (rd_T53 l0 x9_1).f3.f2, (rd_T53 l0 x9_1).f3.f3⟩ : S39), (rd_T53 l0 x9_1).f4⟩ : S53) (Kd.V_reads' (Kd.V_mono (ok' := (fun k_ => ((P0_ k_ ∨ P1_ k_) ∨ w.heap.size ≤ k_) ∧ some k_ ≠ (u5 : Value).ownBlock)) (HL202_7.out) (fun k_ hk => ⟨hk.1, hk.2⟩))).2.1 (Kd.V_F (Kd.V_mono (ok' := (fun k_ => ((P0_ k_ ∨ P1_ k_) ∨ w.heap.size ≤ k_) ∧ some k_ ≠ (u5 : Value).ownBlock)) (HL202_7.out) (fun k_ hk => ⟨hk.1, hk.2⟩))))) (Reps.c8 (show Kd.FK k53 _ _ (⟨(rd_T53 l1 x9_1).f0, (rd_T53 l1 x9_1).f1, (rd_T53 l1 x9_1).f2, (⟨(rd_T53 l1 x9_1).f3.f0, (rd_T53 l1 x9_1).f3.f1, (rd_T53 l1 x9_1).f3.f2, (rd_T53 l1 x9_1).f3.f3⟩ : S39), (rd_T53 l1 x9_1).f4⟩ : S53) [.int .i64 ((rd_T53 l1 x9_1).f0), .int .i64 ((rd_T53 l1 x9_1).f1), .int .i64 ((rd_T53 l1 x9_1).f2), .int .i64 ((rd_T53 l1 x9_1).f3.f0), .int .i64 ((rd_T53 l1 x9_1).f3.f1), .float .f64 ((rd_T53 l1 x9_1).f3.f2), .string ((rd_T53 l1 x9_1).f3.f3), .slice A203_7 ((rd_T53 l1 x9_1).f4).length c203_7] from (k53_mkF _ _ (⟨(rd_T53 l1 x9_1).f0, (rd_T53 l1 x9_1).f1, (rd_T53 l1 x9_1).f2, (⟨(rd_T53 l1 x9_1).f3.f0, (rd_T53 l1 x9_1).f3.f1, (rd_T53 l1 x9_1).f3.f2, (rd_T53 l1 x9_1).f3.f3⟩ : S39), (rd_T53 l1 x9_1).f4⟩ : S53) (Kd.V_reads' (Kd.V_mono (ok' := (fun k_ => ((P0_ k_ ∨ P1_ k_) ∨ w.heap.size ≤ k_) ∧ some k_ ≠ (u5 : Value).ownBlock)) (HL203_7.out) (fun k_ hk => ⟨hk.1, hk.2⟩))).2.1 (Kd.V_F (Kd.V_mono (ok' := (fun k_ => ((P0_ k_ ∨ P1_ k_) ∨ w.heap.size ≤ k_) ∧ some k_ ≠ (u5 : Value).ownBlock)) (HL203_7.out) (fun k_ hk => ⟨hk.1, hk.2⟩))))) (Reps.none _ _))))
        intro v205 w9 ho10 hb hg_ hnew_
        have HS0_ := (hb.cell (World.block_lt_of_cell? _ _ (hHeld.1))).trans (hHeld.1)
        have HS1_ := (hb.cell (World.block_lt_of_cell? _ _ (hHeld.2.1))).trans (hHeld.2.1)
        have HS2_ := (hb.cell (World.block_lt_of_cell? _ _ (hHeld.2.2.1))).trans (hHeld.2.2.1)
        have HS3_ := (hb.cell (World.block_lt_of_cell? _ _ (hHeld.2.2.2.1))).trans (hHeld.2.2.2.1)
        have HS4_ := (hb.cell (World.block_lt_of_cell? _ _ (hHeld.2.2.2.2.1))).trans (hHeld.2.2.2.2.1)
        have HS5_ := (hb.cell (World.block_lt_of_cell? _ _ (hHeld.2.2.2.2.2.1))).trans (hHeld.2.2.2.2.2.1)
        have HS6_ := (hb.cell (World.block_lt_of_cell? _ _ (hHeld.2.2.2.2.2.2.1))).trans (hHeld.2.2.2.2.2.2.1)
        have HS7_ := (hb.cell (World.block_lt_of_cell? _ _ (hHeld.2.2.2.2.2.2.2.1))).trans (hHeld.2.2.2.2.2.2.2.1)
        have HS8_ := (hb.cell (World.block_lt_of_cell? _ _ (hHeld.2.2.2.2.2.2.2.2.1))).trans (hHeld.2.2.2.2.2.2.2.2.1)
        have HS9_ := (hb.cell (World.block_lt_of_cell? _ _ (hHeld.2.2.2.2.2.2.2.2.2.1))).trans (hHeld.2.2.2.2.2.2.2.2.2.1)
        have HS10_ := (hb.cell (World.block_lt_of_cell? _ _ (hHeld.2.2.2.2.2.2.2.2.2.2.1))).trans (hHeld.2.2.2.2.2.2.2.2.2.2.1)
        have HS11_ := (hb.cell (World.block_lt_of_cell? _ _ (hHeld.2.2.2.2.2.2.2.2.2.2.2.1))).trans (hHeld.2.2.2.2.2.2.2.2.2.2.2.1)
        have HS12_ := (hb.cell (World.block_lt_of_cell? _ _ (hHeld.2.2.2.2.2.2.2.2.2.2.2.2.1))).trans (hHeld.2.2.2.2.2.2.2.2.2.2.2.2.1)
        have HS13_ := (hb.cell (World.block_lt_of_cell? _ _ (hHeld.2.2.2.2.2.2.2.2.2.2.2.2.2.1))).trans (hHeld.2.2.2.2.2.2.2.2.2.2.2.2.2.1)
        have HS14_ := (hb.cell (World.block_lt_of_cell? _ _ (hHeld.2.2.2.2.2.2.2.2.2.2.2.2.2.2.1))).trans (hHeld.2.2.2.2.2.2.2.2.2.2.2.2.2.2.1)
        have HS15_ := (hb.cell (World.block_lt_of_cell? _ _ (hHeld.2.2.2.2.2.2.2.2.2.2.2.2.2.2.2))).trans (hHeld.2.2.2.2.2.2.2.2.2.2.2.2.2.2.2)
        clear hg_ hnew_
        (first | rw [← Ny204.out] at ho10 | (simp only [Int.reduceToNat] at ho10; rw [← Ny204.out] at ho10))
        replace HO_0 := ve HO_0 ho10 hb
        replace HO_1 := ve HO_1 ho10 hb
        replace HO_5 := ne HO_5 ho10 hb
        replace HL202_7 := ve HL202_7 ho10 hb
        replace HL203_7 := ve HL203_7 ho10 hb
        have HO206 := akk (Kd.N_lower ho10 (below_size bT))
        replace HR202_7 := cb HR202_7 hb
        replace HR203_7 := cb HR203_7 hb
        replace HB := bb HB hb
        clear hb ho10
        obtain ⟨Ao11, co11, eo11⟩ := Kd.N_slice HO206.out
        (first | subst eo11 | (injection eo11 with f1_ f2_ f3_; have f4_ := f1_.symm; have f5_ := f3_.symm; clear f1_ f2_ f3_; subst f4_; subst f5_))
        refine hK.out _ _ ⟨HS0_, HS1_, HS2_, HS3_, HS4_, HS5_, HS6_, HS7_, HS8_, HS9_, HS10_, HS11_, HS12_, HS13_, HS14_, HS15_⟩ (fun hHeld => ?_)
        clear hK K
        refine norm_ (a' := ?_) ?_ ?_
        rotate_left
        ·show Act.put _ (some 21) _ = _
         simp only [Act.put, List.setIfInBounds_toArray, List.set_cons_zero, List.set_cons_succ, i64_w, i32_w]
         rfl
        refine pT 10 22 (bm 14 2047) ?_
        refine last_ (i := 11) (N := some 23) #[true, true, true, true, true, true, true, true, true, true, true, true, false, false] rfl rfl (one_of HT_.out (by kernel_rfl)) (by decide) (fun K hK => ?_)
        refine value_ (w1 := ?_) (v := ?_) (by rfl) rfl ?_ ?_
        rotate_left 2
        ·go_simp
         constructor
         ·rfl
         ·rfl
        refine hK.out _ _ ?_
        clear hK K
        refine norm_ (a' := ?_) ?_ ?_
        rotate_left
        ·show Act.put _ (some 23) _ = _
         simp only [Act.put, List.setIfInBounds_toArray, List.set_cons_zero, List.set_cons_succ, i64_w, i32_w]
         rfl
        refine last_ (i := 12) (N := some 24) #[true, true, true, true, true, true, true, true, true, true, true, true, true, false] rfl rfl (one_of HT_.out (by kernel_rfl)) (by decide) (fun K hK => ?_)
        refine Kd.N_append_step k53 (w0 := w) w.heap.size (by rfl) (.tmp 12) (.tmp 23) 23 53 (.agg #[(.int .i64 0), (.int .i64 0), (.int .i64 0), (.int .i64 0), (.int .i64 0), (.float .f64 0), (.string ⟨#[]⟩), (.slice none 0 0)]) 88 rfl Tryz.underlying23 info53 rfl (by decide) (by omega) u5 x5_1 (⟨7, 0, 0, (⟨0, 0, 0, (⟨#[]⟩ : ByteArray)⟩ : S39), y204⟩ : S53) [.int .i64 7, .int .i64 0, .int .i64 0, .int .i64 0, .int .i64 0, .float .f64 0, .string (⟨#[]⟩ : ByteArray), .slice Ao11 y204.length co11] (fun k_ => ((P0_ k_ ∨ P1_ k_) ∨ w.heap.size ≤ k_)) (fun k_ => ((fun k_ => ((P0_ k_ ∨ P1_ k_) ∨ w.heap.size ≤ k_))) k_ ∧ some k_ ≠ (u5 : Value).ownBlock) rfl rfl ?aP (fun _ hk => hk) ?aF ?aO ?aB ?aS ?aL ?_
        (case aP => exact (k53_mkF _ _ (⟨7, 0, 0, (⟨0, 0, 0, (⟨#[]⟩ : ByteArray)⟩ : S39), y204⟩ : S53) (Kd.N_reads' (Kd.N_mono (ok' := (fun k_ => ((fun k_ => ((P0_ k_ ∨ P1_ k_) ∨ w.heap.size ≤ k_))) k_ ∧ some k_ ≠ (u5 : Value).ownBlock)) (HO206.out) (fun k_ hk => ⟨hk.1, hk.2⟩))).2.1 (Kd.N_F (Kd.N_mono (ok' := (fun k_ => ((fun k_ => ((P0_ k_ ∨ P1_ k_) ∨ w.heap.size ≤ k_))) k_ ∧ some k_ ≠ (u5 : Value).ownBlock)) (HO206.out) (fun k_ hk => ⟨hk.1, hk.2⟩)))))
        (case aB => exact bT)
        (case aF => exact (fun k_ hk => (.inr (Nat.le_trans (below_size bT) hk))))
        (case aO => exact (nT' (Kd.N_mono HO_5.out (fun _ hk => hk.1))))
        (case aS => exact (below_size bT))
        (case aL => have := LMc7.out; omega)
        intro v208 w12 ho hb hg hat
        rw [← Ny207.out] at ho
        have n0_ := akk (Kd.V_afterv (ok := (fun k_ => ((P0_ k_ ∨ P1_ k_) ∨ w.heap.size ≤ k_) ∧ some k_ ≠ (.slice Ao11 y204.length co11 : Value).ownBlock)) (vT' (Kd.V_mono HO_0.out (fun _ hk => ⟨⟨hk.1.1, hk.2⟩, hk.1.2⟩))) hg hat)
        have n1_ := akk (Kd.V_afterv (ok := (fun k_ => ((P0_ k_ ∨ P1_ k_) ∨ w.heap.size ≤ k_) ∧ some k_ ≠ (.slice Ao11 y204.length co11 : Value).ownBlock)) (vT' (Kd.V_mono HO_1.out (fun _ hk => ⟨⟨hk.1.1, hk.2⟩, hk.1.2⟩))) hg hat)
        have n2_ := akk (Kd.V_afterv (ok := (fun k_ => ((P0_ k_ ∨ P1_ k_) ∨ w.heap.size ≤ k_) ∧ some k_ ≠ (.slice Ao11 y204.length co11 : Value).ownBlock)) (vT' (Kd.V_mono HL202_7.out (fun _ hk => ⟨⟨hk.1.1, hk.2⟩, hk.1.2⟩))) hg hat)
        have n3_ := akk (Kd.V_afterv (ok := (fun k_ => ((P0_ k_ ∨ P1_ k_) ∨ w.heap.size ≤ k_) ∧ some k_ ≠ (.slice Ao11 y204.length co11 : Value).ownBlock)) (vT' (Kd.V_mono HL203_7.out (fun _ hk => ⟨⟨hk.1.1, hk.2⟩, hk.1.2⟩))) hg hat)
        have n4_ := akk (hb)
        have n5_ := akk (ho)
        clear HO_0
        clear HO_1
        clear HL202_7
        clear HL203_7
        clear HB
        clear HO_5
        clear HO206
        have HO_0 := n0_
        have HO_1 := n1_
        have HL202_7 := n2_
        have HL203_7 := n3_
        have HB := n4_
        have HO209 := n5_
        clear n0_ n1_ n2_ n3_ n4_ n5_
        clear ho hb hg hat
        refine hK.out _ _ ?_
        clear hK K
        refine norm_ (a' := ?_) ?_ ?_
        rotate_left
        ·show Act.put _ (some 24) _ = _
         simp only [Act.put, List.setIfInBounds_toArray, List.set_cons_zero, List.set_cons_succ, i64_w, i32_w]
         rfl
        refine pT 13 5 (bm 14 16383) ?_
        refine done_ (done_of HT_.out (by kernel_rfl)) ?_
        try go_wp2
        go_roundg k1
        case measure => have := HK1.out; omega
        case rel => exact ⟨(y207), (wrap64 (x9_1 + 1)), eT, H', ⟨by have := HK1.out; omega⟩, ⟨vT' (Kd.V_mono HO_0.out (fun _ hk => ⟨hk.1.1, hk.2⟩))⟩, ⟨vT' (Kd.V_mono HO_1.out (fun _ hk => ⟨hk.1.1, hk.2⟩))⟩, ⟨nT HO209.out⟩, ⟨bT⟩⟩
       ·rw [if_neg c7] at H
        exact absurd H (by simp)
      ·rw [if_neg c6] at H
       exact absurd H (by simp)
     ·rw [if_neg c5] at H
      exact absurd H (by simp)
    ·rw [if_neg c4] at H
     exact absurd H (by simp)
   ·rw [if_neg c3] at H
    have c3b0 := decide_eq_false c3
    clear c3
    obtain rfl := Option.some.inj H
    go_wp2
    go_ret
    exact ⟨_, fT, nT' HO_5.out, bT⟩
end Go.Proofs.YtgmolmpfihkolaaGreat.Pj
namespace Go.Proofs
open Go.Shelf
def Tryz.sortPairs_ren : Go.Shelf.Ren := ⟨fun | 6 => 48 | 15 => 76 | 14 => 75 | 28 => 109 | 29 => 110 | 20 => 101 | 21 => 102 | 22 => 103 | 23 => 104 | 24 => 105 | 25 => 106 | 26 => 107 | 27 => 108 | 46 => 126 | 47 => 127 | 48 => 128 | 49 => 129 | 50 => 130 | 57 => 141 | n => n, fun | 22 => 69 | 24 => 71 | 25 => 89 | 3 => 3 | 39 => 110 | 0 => 0 | 53 => 137 | 55 => 97 | 4 => 4 | 46 => 130 | 45 => 129 | 50 => 134 | 5 => 5 | 9 => 9 | 66 => 146 | 70 => 150 | 76 => 158 | 77 => 159 | n => n, fun | n => n⟩
theorem Tryz.sortPairs : Go.Proofs.SlLaysF0.n6 Tryz.prog Tryz.sortPairs_ren := {
 mixed := by kernel_rfl
 f6 := ⟨Tryz.f48.name, by decide, Tryz.func48.trans (congrArg some (by kernel_rfl))⟩
 f14 := ⟨Tryz.f75.name, by decide, Tryz.func75.trans (congrArg some (by kernel_rfl))⟩
 f15 := Tryz.func76.trans (congrArg some (by kernel_rfl))
 f20 := ⟨Tryz.f101.name, by decide, Tryz.func101.trans (congrArg some (by kernel_rfl))⟩
 f21 := ⟨Tryz.f102.name, by decide, Tryz.func102.trans (congrArg some (by kernel_rfl))⟩
 f22 := ⟨Tryz.f103.name, by decide, Tryz.func103.trans (congrArg some (by kernel_rfl))⟩
 f23 := ⟨Tryz.f104.name, by decide, Tryz.func104.trans (congrArg some (by kernel_rfl))⟩
 f24 := ⟨Tryz.f105.name, by decide, Tryz.func105.trans (congrArg some (by kernel_rfl))⟩
 f25 := ⟨Tryz.f106.name, by decide, Tryz.func106.trans (congrArg some (by kernel_rfl))⟩
 f26 := ⟨Tryz.f107.name, by decide, Tryz.func107.trans (congrArg some (by kernel_rfl))⟩
 f27 := ⟨Tryz.f108.name, by decide, Tryz.func108.trans (congrArg some (by kernel_rfl))⟩
 f28 := Tryz.func109.trans (congrArg some (by kernel_rfl))
 f29 := Tryz.func110.trans (congrArg some (by kernel_rfl))
 f46 := ⟨Tryz.f126.name, by decide, Tryz.func126.trans (congrArg some (by kernel_rfl))⟩
 f47 := Tryz.func127.trans (congrArg some (by kernel_rfl))
 f48 := Tryz.func128.trans (congrArg some (by kernel_rfl))
 f49 := ⟨Tryz.f129.name, by decide, Tryz.func129.trans (congrArg some (by kernel_rfl))⟩
 f50 := ⟨Tryz.f130.name, by decide, Tryz.func130.trans (congrArg some (by kernel_rfl))⟩
 f57 := ⟨Tryz.f141.name, by decide, Tryz.func141.trans (congrArg some (by kernel_rfl))⟩
 t0 := Tryz.underlying0
 a0 := Tryz.isAgg0
 z0 := Tryz.sizeOf0
 v0 := Tryz.zeroValue0
 t3 := Tryz.underlying3
 a3 := Tryz.isAgg3
 z3 := Tryz.sizeOf3
 v3 := Tryz.zeroValue3
 t4 := Tryz.underlying4
 a4 := Tryz.isAgg4
 z4 := Tryz.sizeOf4
 v4 := Tryz.zeroValue4
 t5 := Tryz.underlying5
 a5 := Tryz.isAgg5
 z5 := Tryz.sizeOf5
 v5 := Tryz.zeroValue5
 t9 := Tryz.underlying9
 a9 := Tryz.isAgg9
 z9 := Tryz.sizeOf9
 v9 := Tryz.zeroValue9
 t22 := Tryz.underlying69
 a22 := Tryz.isAgg69
 z22 := Tryz.sizeOf69
 v22 := Tryz.zeroValue69
 t25 := Tryz.underlying89
 a25 := Tryz.isAgg89
 z25 := Tryz.sizeOf89
 v25 := Tryz.zeroValue89
 t39 := Tryz.underlying110
 a39 := Tryz.isAgg110
 z39 := Tryz.sizeOf110
 v39 := Tryz.zeroValue110
 t45 := Tryz.underlying129
 a45 := Tryz.isAgg129
 z45 := Tryz.sizeOf129
 v45 := Tryz.zeroValue129
 t46 := Tryz.underlying130
 a46 := Tryz.isAgg130
 z46 := Tryz.sizeOf130
 v46 := Tryz.zeroValue130
 t50 := Tryz.underlying134
 a50 := Tryz.isAgg134
 z50 := Tryz.sizeOf134
 v50 := Tryz.zeroValue134
 t53 := Tryz.underlying137
 a53 := Tryz.isAgg137
 z53 := Tryz.sizeOf137
 v53 := Tryz.zeroValue137
 t55 := Tryz.underlying97
 a55 := Tryz.isAgg97
 z55 := Tryz.sizeOf97
 v55 := Tryz.zeroValue97
 t66 := Tryz.underlying146
 a66 := Tryz.isAgg146
 z66 := Tryz.sizeOf146
 v66 := Tryz.zeroValue146
 t70 := Tryz.underlying150
 a70 := Tryz.isAgg150
 z70 := Tryz.sizeOf150
 v70 := Tryz.zeroValue150
 t76 := Tryz.underlying158
 a76 := Tryz.isAgg158
 z76 := Tryz.sizeOf158
 v76 := Tryz.zeroValue158
 t77 := Tryz.underlying159
 a77 := Tryz.isAgg159
 z77 := Tryz.sizeOf159
 v77 := Tryz.zeroValue159 }
end Go.Proofs
namespace Go.Proofs.YtgmolmpfihkolaaGreat
open Go.RowKit Go.Lib Go.Sort Go.Proofs.YtgmolmpfihkolaaGreatW.PrintWords Go.Proofs.YtgmolmpfihkolaaGreat.Pj
set_option linter.unusedVariables false
set_option maxRecDepth 100000
def encPP (x : PP) : List Value := [.int .i64 x.f0, .int .i64 x.f1]
theorem cfP_swo : SWO (ltOf cfP) where
 irrefl x := by unfold ltOf; rw [decide_eq_false_iff_not, cfP_lt]; omega
 trans x y z h1 h2 := by unfold ltOf at *; rw [decide_eq_true_iff, cfP_lt] at *; omega
 ntrans x y z h1 h2 := by unfold ltOf at *; rw [decide_eq_false_iff_not, cfP_lt] at *; omega
set_option maxHeartbeats 1000000 in
theorem byP_any (x y : PP) (W : World) : Calls Tryz.prog 49 #[.agg #[.int .i64 x.f0, .int .i64 x.f1], .agg #[.int .i64 y.f0, .int .i64 y.f1]] W fun e w' => e = .returned (.int .i64 (cfP x y)) ∧ ∃ q os', w' = grow (W.drewN q) os' := by
 obtain ⟨a, b⟩ := x
 obtain ⟨c, d⟩ := y
 obtain ⟨r, hr⟩ : ∃ r, r = cfP ⟨a, b⟩ ⟨c, d⟩ := ⟨_, rfl⟩
 rw [← hr]
 unfold cfP at hr
 simp only at hr ⊢
 by_cases h : a = c
 ·subst h
  rw [if_neg (by simp)] at hr
  have hb : ((a : Int) != a) = false := by simp
  have C : Hid (∀ W, Calls Tryz.prog 50 #[.int .i64 b, .int .i64 d] W fun e w' => e = .returned (.int .i64 r) ∧ W = w') := hdq (fun W => by rw [hr]; exact cmpInt_any b d W)
  clear hr
  go_enter Tryz.func49, Tryz.ntmps49
  go_wp2_with (go_at_call 50; refine (C.out _).mono ?_; rintro e w' ⟨rfl, rfl⟩)
  go_ret
  exact ⟨rfl, 0, _, by rw [alloc_eq_grow, alloc_eq_grow, grow_grow]; rfl⟩
 ·rw [if_pos h] at hr
  have hb : ((a : Int) != c) = true := by simp [h]
  have C : Hid (∀ W, Calls Tryz.prog 50 #[.int .i64 a, .int .i64 c] W fun e w' => e = .returned (.int .i64 r) ∧ W = w') := hdq (fun W => by rw [hr]; exact cmpInt_any a c W)
  clear hr
  go_enter Tryz.func49, Tryz.ntmps49
  go_wp2_with (go_at_call 50; refine (C.out _).mono ?_; rintro e w' ⟨rfl, rfl⟩)
  go_ret
  exact ⟨rfl, 0, _, by rw [alloc_eq_grow, alloc_eq_grow, grow_grow]; rfl⟩
theorem putRow_heap (w : World) (g : Nat) (F : Array Value) {cur : Array Value} {t : TypeId} (h : w.heap[g]? = some (.cells cur t (0, 0))) : (putRow id w g 0 F).heap[g]? = some (.cells (putCells id 0 F cur) t (0, 0)) := by
 simp [putRow, mapBlock, Array.getElem?_modify, h, onCells]
theorem sortWorld_heap (w : World) (g n : Nat) (d : Array PP) (os : Array Obj) {cur : Array Value} {t : TypeId} (h : w.heap[g]? = some (.cells cur t (0, 0))) : ∃ cur' : Array Value, (sortWorldK encPP 2 w g 0 n d os).heap[g]? = some (.cells cur' t (0, 0)) ∧ cur'.size = cur.size := by
 refine ⟨putCells id 0 (flatK encPP 2 d) cur, ?_, by simp [putCells]⟩
 have hp := putRow_heap (Go.Sort.ahead w n) g (flatK encPP 2 d) (cur := cur) (t := t) h
 unfold sortWorldK grow putRowK
 simp only
 rw [Array.getElem?_append_left]
 ·exact hp
 ·exact (Array.getElem?_eq_some_iff.1 hp).1
theorem sortWorld_grown (w : World) (g n : Nat) (d : Array PP) (os : Array Obj) : w.grownBy (sortWorldK encPP 2 w g 0 n d os) (some g) where
 os := rfl
 tape := rfl
 output := rfl
 size := by unfold sortWorldK grow putRowK putRow mapBlock Go.Sort.ahead; simp
 block := fun k hk hn => by
  unfold sortWorldK grow putRowK putRow mapBlock Go.Sort.ahead
  simp only
  rw [Array.getElem?_append_left (by simpa using hk), Array.getElem?_modify, if_neg (fun e => hn (by rw [e]))]
theorem sortsP : SortsP := by
 intro w base ok v ps h hl
 by_cases h0 : ps.length = 0
 ·obtain ⟨A, c, rfl⟩ := Kd.R_slice h
  obtain rfl : ps = [] := List.eq_nil_of_length_eq_zero h0
  have hcon := AnyF.slices_SortFunc_none (L := Tryz.sortPairs) A c byP w
  change Calls Tryz.prog 48 _ _ _ at hcon
  refine hcon.mono ?_
  rintro e w' ⟨rfl, rfl⟩
  exact ⟨rfl, by unfold sortP; rw [List.mergeSort_nil]; exact h, ⟨rfl, rfl, rfl, Nat.le_refl _, fun k _ _ => rfl⟩⟩
 ·obtain ⟨hk, inner, ⟨hil, ho⟩, hr⟩ := h
  rcases ho with ⟨_, e⟩ | ⟨g, cap, cur, rfl, hb, hh, hnc, hmax, hcs, hin⟩
  ·omega
  ·have ch : ∀ (i : Nat) (p : PP), ps[i]? = some p → cur[i * 2]? = some (.int .i64 p.f0) ∧ cur[i * 2 + 1]? = some (.int .i64 p.f1) := by
    intro i p hp
    have e1 := k71_openM (hr.2 i p hp)
    have e1 : (inner.drop (i * 2)).take 2 = [.int .i64 p.f0, .int .i64 p.f1] := e1
    have a0 : inner[i * 2]? = some (.int .i64 p.f0) := by
     have := congrArg (fun l => l[0]?) e1
     simpa [List.getElem?_take, List.getElem?_drop] using this
    have a1 : inner[i * 2 + 1]? = some (.int .i64 p.f1) := by
     have := congrArg (fun l => l[1]?) e1
     simpa [List.getElem?_take, List.getElem?_drop] using this
    rw [← hin, List.getElem?_take] at a0 a1
    split at a0
    ·split at a1
     ·rw [Array.getElem?_toList] at a0 a1
      exact ⟨a0, a1⟩
     ·cases a1
    ·cases a0
   have hH : HoldsK encPP 2 w g 0 ps.toArray := by
    intro j hj
    rw [size_flatK, List.size_toArray] at hj
    rw [get_flatK _ _ _ _ (by rw [List.size_toArray]; exact hj)]
    have hjp : j / 2 < ps.length := by omega
    obtain ⟨p, hp⟩ : ∃ p, ps[j / 2]? = some p := ⟨_, List.getElem?_eq_getElem hjp⟩
    obtain ⟨q0, q1⟩ := ch (j / 2) _ hp
    have e : (ps.toArray)[j / 2]! = p := by
     rw [getElem!_pos _ _ (by simpa using hjp)]
     simpa using (List.getElem?_eq_some_iff.1 hp).2
    rw [e, Nat.zero_add]
    have hc : w.cell? ⟨g, j, none⟩ = cur[j]? := by simp [World.cell?, hh]
    have hf : w.frozen? ⟨g, j, none⟩ = false := by simp only [World.frozen?]; rw [hh]; simp
    refine ⟨?_, hf⟩
    rw [hc]
    rcases Nat.mod_two_eq_zero_or_one j with hm | hm
    ·rw [hm, show j = j / 2 * 2 by omega, q0]
     rfl
    ·rw [hm, show j = j / 2 * 2 + 1 by omega, q1]
     rfl
   have hblk : g < w.heap.size := blk_lt hh
   have hcmp : CmpLays Tryz.prog 49 #[] encPP 2 cfP g 0 ps.toArray.size w := fun _ _ _ _ x y => byP_any x y _
   have eg : ∀ args w, (callFunc 49 args).run Tryz.prog w = .ok (.enter 49 args) w := enters_of Tryz.func49 (by kernel_rfl) rfl
   have hcon := AnyQ.slices_SortFunc_total Tryz.sortPairs 2 Tryz.isAgg71 Tryz.sizeOf71 encPP (fun _ => rfl) (fun x v hv => by simp [encPP] at hv; rcases hv with rfl | rfl <;> rfl) cfP cfP_swo 49 #[] g 0 cap ps.toArray w eg hcmp hH hblk (by simp; omega) ltP_one
   change Calls Tryz.prog 48 _ _ _ at hcon
   rw [List.size_toArray] at hcon
   refine hcon.mono ?_
   rintro e w' ⟨rfl, n, os, rfl⟩
   have es : (ps.mergeSort fun x y => !(ltOf cfP) y x) = sortP ps := rfl
   rw [es]
   have lsp : (sortP ps).length = ps.length := (List.mergeSort_perm ps _).length_eq
   obtain ⟨cur', hh', hcs'⟩ := sortWorld_heap w g n (sortP ps).toArray os hh
   have hH' := holdsK_sortWorldK encPP 2 w g 0 n ps.toArray (sortP ps).toArray os hblk hH (by simp [lsp])
   refine ⟨rfl, ⟨hk, cur'.toList.take (ps.length * 2), ⟨?_, .inr ⟨g, cap, cur', by rw [lsp], hb, hh', by rw [lsp]; exact hnc, hmax, by rw [hcs', hcs], by rw [lsp]; rfl⟩⟩, ?_, fun j p hj => ?_⟩, sortWorld_grown w g n _ os⟩
   ·rw [lsp, List.length_take, show cur'.toList.length = cap * 2 from by rw [Array.length_toList, hcs', hcs]; rfl]
    show min (ps.length * 2) (cap * 2) = ps.length * 2
    omega
   ·rw [lsp, List.length_take, show cur'.toList.length = cap * 2 from by rw [Array.length_toList, hcs', hcs]; rfl]
    show min (ps.length * 2) (cap * 2) = ps.length * 2
    omega
   ·have hjl := (List.getElem?_eq_some_iff.1 hj).1
    have c0 := (hH'.cell (i := j) (c := 0) (by simpa using hjl) (by omega)).1
    have c1 := (hH'.cell (i := j) (c := 1) (by simpa using hjl) (by omega)).1
    have ep : ((sortP ps).toArray)[j]! = p := by
     rw [getElem!_pos _ _ (by simpa using hjl)]
     simpa using (List.getElem?_eq_some_iff.1 hj).2
    rw [ep] at c0 c1
    simp only [World.cell?] at c0 c1
    rw [hh'] at c0 c1
    simp only [Nat.zero_add, Nat.add_zero] at c0 c1
    have hchk : ((cur'.toList.take (ps.length * 2)).drop (j * 2)).take 2 = [.int .i64 p.f0, .int .i64 p.f1] := by
     apply List.ext_getElem?
     intro t
     rw [List.getElem?_take, List.getElem?_drop, List.getElem?_take, Array.getElem?_toList]
     rcases t with _ | _ | t
     ·rw [if_pos (by omega), if_pos (by omega), Nat.add_zero]; exact c0
     ·rw [if_pos (by omega), if_pos (by omega)]; exact c1
     ·rw [if_neg (by omega)]; simp
    show Kd.M k71 _ base _ p (((cur'.toList.take (ps.length * 2)).drop (j * 2)).take 2)
    rw [hchk]
    exact k71_mkM _ _ _ p
end Go.Proofs.YtgmolmpfihkolaaGreat
namespace Go.Proofs.YtgmolmpfihkolaaGreat.Pj
open Go.RowKit Go.Proofs.YtgmolmpfihkolaaGreatW.PrintWords
set_option linter.unusedVariables false
def joins_Merge.f := keyedF
theorem joins_Merge.calls (A0 : Option Addr) (c0 : Nat) (l0 : List (List (List (S39)))) (A1 : Option Addr) (c1 : Nat) (l1 : List (List (List (S39)))) (A2 : Option Addr) (c2 : Nat) (l2 : List (S53)) (A3 : Option Addr) (c3 : Nat) (l3 : List (S53)) (A4 : Option Addr) (c4 : Nat) (l4 : List (S53)) (r1 : List (List (List (S39)))) (r2 : Int) (w : World) (hr0 : Kd.C (Kd.slice 29 (Kd.slice 39 k39)) w A0 l0.length l0) (hc0 : l0.length ≤ c0) (hr1 : Kd.C (Kd.slice 29 (Kd.slice 39 k39)) w A1 l1.length l1) (hc1 : l1.length ≤ c1) (hr2 : Kd.C k53 w A2 l2.length l2) (hc2 : l2.length ≤ c2) (hr3 : Kd.C k53 w A3 l3.length l3) (hc3 : l3.length ≤ c3) (hr4 : Kd.C k53 w A4 l4.length l4) (hc4 : l4.length ≤ c4) (h : joins_Merge.f l0 l1 l2 l3 l4 = some (r1, r2)) :
 Calls Tryz.prog 21 #[.slice A0 l0.length c0, .slice A1 l1.length c1, .slice A2 l2.length c2, .slice A3 l3.length c3, .slice A4 l4.length c4] w fun e w' => ∃ v0_ : Value, e = .returned (.tuple #[v0_, .int .i64 r2]) ∧ Kd.R (Kd.slice 29 (Kd.slice 39 k39)) 22 w' w.heap.size (fun _ => True) v0_ r1 ∧ Below w.heap.size w w' :=
 Merge_any sortsP A0 c0 l0 A1 c1 l1 A2 c2 l2 A3 c3 l3 A4 c4 l4 r1 r2 w hr0 hc0 hr1 hc1 hr2 hc2 hr3 hc3 hr4 hc4 h
def joins_Hash.f := hashF
theorem joins_Hash.calls (A0 : Option Addr) (c0 : Nat) (l0 : List (List (List (S39)))) (A1 : Option Addr) (c1 : Nat) (l1 : List (List (List (S39)))) (A2 : Option Addr) (c2 : Nat) (l2 : List (S53)) (A3 : Option Addr) (c3 : Nat) (l3 : List (S53)) (A4 : Option Addr) (c4 : Nat) (l4 : List (S53)) (r1 : List (List (List (S39)))) (r2 : Int) (w : World) (hr0 : Kd.C (Kd.slice 29 (Kd.slice 39 k39)) w A0 l0.length l0) (hc0 : l0.length ≤ c0) (hr1 : Kd.C (Kd.slice 29 (Kd.slice 39 k39)) w A1 l1.length l1) (hc1 : l1.length ≤ c1) (hr2 : Kd.C k53 w A2 l2.length l2) (hc2 : l2.length ≤ c2) (hr3 : Kd.C k53 w A3 l3.length l3) (hc3 : l3.length ≤ c3) (hr4 : Kd.C k53 w A4 l4.length l4) (hc4 : l4.length ≤ c4) (h : joins_Hash.f l0 l1 l2 l3 l4 = some (r1, r2)) :
 Calls Tryz.prog 19 #[.slice A0 l0.length c0, .slice A1 l1.length c1, .slice A2 l2.length c2, .slice A3 l3.length c3, .slice A4 l4.length c4] w fun e w' => ∃ v0_ : Value, e = .returned (.tuple #[v0_, .int .i64 r2]) ∧ Kd.R (Kd.slice 29 (Kd.slice 39 k39)) 22 w' w.heap.size (fun _ => True) v0_ r1 ∧ Below w.heap.size w w' :=
 Hash_any A0 c0 l0 A1 c1 l1 A2 c2 l2 A3 c3 l3 A4 c4 l4 r1 r2 w hr0 hc0 hr1 hc1 hr2 hc2 hr3 hc3 hr4 hc4 h
end Go.Proofs.YtgmolmpfihkolaaGreat.Pj
namespace Go.Proofs.YtgmolmpfihkolaaGreat
open Go.RowKit Go.Proofs.YtgmolmpfihkolaaGreat.Pj Go.Proofs.YtgmolmpfihkolaaGreatW.PrintWords
set_option linter.unusedVariables false
set_option maxRecDepth 100000
theorem C_block {α : Type} {d : Kd α} {W : World} {g : Nat} {cs : Array Value} {e : TypeId} {xs : List α} {inner : List Value} (hb : W.heap[g]? = some (.cells cs e (0, 0))) (hi : cs.toList = inner) (hr : Reps (d.K W) d.sz xs inner) (hm : xs.length ≤ 9223372036854775807) : d.C W (some ⟨g, 0, none⟩) xs.length xs := by
 refine ⟨rfl, hm, fun _ => ⟨⟨g, 0, none⟩, rfl, fun j p hj => ⟨_, d.K_len (hr.2 j p hj), hr.2 j p hj, fun i u hu => ?_⟩⟩⟩
 rw [List.getElem?_take] at hu
 split at hu
 ·rw [List.getElem?_drop] at hu
  rw [add_plain, blk_cell hb, ← Array.getElem?_toList, hi]
  exact hu
 ·cases hu
theorem run_make2 (W : World) : (Instr.makeSlice 22 (.int .i64 2) (.int .i64 2)).run Tryz.prog W = .ok (.slice (some ⟨W.heap.size, 0, none⟩) 2 2) (W.alloc (.cells #[.slice none 0 0, .slice none 0 0] 29)) := by
 have h := print_make_of 22 29 _ 24 Tryz.underlying22 info29 rfl (by decide) 2 (by decide) W
 have e : madeCells #[Value.slice none 0 0] 2 = #[.slice none 0 0, .slice none 0 0] := by kernel_rfl
 rw [e] at h
 exact h
attribute [local go_sem] run_make2 run_f64bits run_f64from run_store_float
theorem blk_newAt (W : World) (o : Obj) {g : Nat} (h : g = W.heap.size) : (W.alloc o).heap[g]? = some o := by rw [h]; exact blk_new W o
theorem Reps.c1 {α : Type} {R : α → List Value → Prop} {ps : List α} {cs : List Value} {p : α} {v : Value} (hp : R p [v]) (h : Reps R 1 ps cs) : Reps R 1 (p :: ps) (v :: cs) := Reps.front hp rfl h rfl
abbrev KT : Kd (List (List PV)) := Kd.slice 29 (Kd.slice 39 k39)
def tupT (rel : Int) (v : PV) : List (List PV) := if rel = 0 then [[v], []] else [[], [v]]
theorem tuple_any (rel : Int) (hr : rel = 0 ∨ rel = 1) (a b : Int) (c : Nat) (d : ByteArray) (w : World) : Calls Tryz.prog 31 #[.int .i64 rel, .agg #[.int .i64 a, .int .i64 b, .float .f64 c, .string d]] w fun e w' => ∃ g, e = .returned (.slice (some ⟨g, 0, none⟩) 2 2) ∧ KT.K w' (tupT rel ⟨a, b, c, d⟩) [.slice (some ⟨g, 0, none⟩) 2 2] ∧ Below w.heap.size w w' := by
 rcases hr with rfl | rfl
 ·go_enter Tryz.func31, Tryz.ntmps31
  go_wp2
  go_ret
  refine ⟨_, rfl, ⟨_, _, rfl, Nat.le_refl _, ?_⟩, ?_⟩
  ·refine C_block (d := Kd.slice 39 k39) (xs := [[(⟨a, b, c, d⟩ : PV)], []]) (blk_alloc (blk_newAt _ _ (by simp)) _) rfl (Reps.c1 ⟨_, _, rfl, Nat.le_refl _, ?_⟩ (Reps.c1 ⟨_, _, rfl, Nat.le_refl _, Kd.C_nil _ _⟩ (Reps.none _ _))) (by simp)
   exact C_block (d := k39) (xs := [(⟨a, b, c, d⟩ : PV)]) (blk_newAt _ _ (by simp)) rfl (Reps.c4 (k39_mk _ (⟨a, b, c, d⟩ : PV)) (Reps.none _ _)) (by simp)
  ·exact below_alloc (below_alloc (below_alloc (Below.refl _ _) _) _) _
 ·go_enter Tryz.func31, Tryz.ntmps31
  go_wp2
  go_ret
  refine ⟨_, rfl, ⟨_, _, rfl, Nat.le_refl _, ?_⟩, ?_⟩
  ·refine C_block (d := Kd.slice 39 k39) (xs := [[], [(⟨a, b, c, d⟩ : PV)]]) (blk_alloc (blk_newAt _ _ (by simp)) _) rfl (Reps.c1 ⟨_, _, rfl, Nat.le_refl _, Kd.C_nil _ _⟩ (Reps.c1 ⟨_, _, rfl, Nat.le_refl _, ?_⟩ (Reps.none _ _))) (by simp)
   exact C_block (d := k39) (xs := [(⟨a, b, c, d⟩ : PV)]) (blk_newAt _ _ (by simp)) rfl (Reps.c4 (k39_mk _ (⟨a, b, c, d⟩ : PV)) (Reps.none _ _)) (by simp)
  ·exact below_alloc (below_alloc (below_alloc (Below.refl _ _) _) _) _
theorem f_exp (c : Nat) (w : World) : Calls Tryz.prog 32 #[.float .f64 c] w fun e w' => e = .returned (.agg #[.int .i64 3, .int .i64 0, .float .f64 c, .string ⟨#[]⟩]) ∧ Below w.heap.size w w' := by
 have HB := hdq ((Boxes.nil w).alloc (by simp) Val.null 39)
 go_enter Tryz.func32, Tryz.ntmps32
 go_wp2
 exact ret_val Tryz.results32 rfl rfl (LiesV.new w (⟨3, 0, c, ⟨#[]⟩⟩ : Val) _) ⟨rfl, (Below.refl _ w).alloc (Nat.le_refl _) _⟩
theorem NaN_any (w : World) : Calls Tryz.prog 34 #[] w fun e w' => e = .returned (.float .f64 9221120237041090561) ∧ w = w' := by
 go_enter Tryz.func34, Tryz.ntmps34
 go_wp2
 go_ret
 exact ⟨rfl, rfl⟩
theorem Copysign_zero (w : World) : Calls Tryz.prog 33 #[.float .f64 0, .float .f64 13830554455654793216] w fun e w' => e = .returned (.float .f64 9223372036854775808) ∧ w = w' := by
 go_enter Tryz.func33, Tryz.ntmps33
 go_wp2
 go_ret
 exact ⟨rfl, rfl⟩
end Go.Proofs.YtgmolmpfihkolaaGreat
namespace Go.Proofs.YtgmolmpfihkolaaGreat
open Go.RowKit Go.Proofs.YtgmolmpfihkolaaGreat.Pj
set_option maxRecDepth 100000
abbrev eV : ByteArray := ⟨#[]⟩
abbrev v1 : PV := ⟨2, 1, 0, eV⟩
abbrev v2 : PV := ⟨2, 2, 0, eV⟩
abbrev v3 : PV := ⟨2, 3, 0, eV⟩
abbrev vN : PV := ⟨0, 0, 0, eV⟩
abbrev vP : PV := ⟨3, 0, 0, eV⟩
abbrev vM : PV := ⟨3, 0, 9223372036854775808, eV⟩
abbrev vX : PV := ⟨3, 0, 9221120237041090561, eV⟩
abbrev TA : List (List (List PV)) := [tupT 0 v1, tupT 0 v2, tupT 0 v2, tupT 0 vN, tupT 0 vM, tupT 0 vX]
abbrev TB : List (List (List PV)) := [tupT 1 v2, tupT 1 v3, tupT 1 vN, tupT 1 vP, tupT 1 vX]
abbrev LA : List PE := [⟨1, 0, 0, vN, []⟩]
abbrev LB : List PE := [⟨1, 1, 0, vN, []⟩]
abbrev TX : List (List (List PV)) := [[[v2], [v2]], [[v2], [v2]], [[vM], [vP]], [[vX], [vX]]]
theorem little : keyedR TA TB LA LB [] = (TX, 0) := by kernel_rfl
end Go.Proofs.YtgmolmpfihkolaaGreat
