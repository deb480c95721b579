/- Part of the proof. -/
import Derived.Test.YtgmolmpfihkolaaGreatK25
import Derived.Test.YtgmolmpfihkolaaGreatK26
namespace Go.Proofs.YtgmolmpfihkolaaGreat.Pj
open Go.RowKit Go.Proofs.YtgmolmpfihkolaaGreatW.PrintWords Go.Proofs.YtgmolmpfihkolaaGreatW.PrintLast Go.Proofs.YtgmolmpfihkolaaGreatW.PrintMore
attribute [local go_sem] run_store_flt max2_int min2_int max_two min_two max_three min_three max_four min_four
set_option linter.unusedVariables false
set_option linter.unusedSimpArgs false
def r26_Same.l0 : Nat → T3 → T3 → Int → Option (Bool)
 | 0, _, _, _ => none
 | k + 1, x0, x1, x5 => if x5 < (x0.length : Int) then (if 0 ≤ x5 then (if x5 < (x1.length : Int) then ((r05_Lists.f k (rd_L6 x0 x5) (rd_L6 x1 x5)).bind fun t234 => (if t234 = true then (r26_Same.l0 k x0 x1 (wrap64 (x5 + 1))) else (some false))) else (none)) else (none)) else (some true)
def r26_Same.f (k : Nat) (l0 : T3) (l1 : T3) : Option (Bool) := if (l0.length : Int) = (l1.length : Int) then (r26_Same.l0 k l0 l1 0) else (some false)
def r26_Same.T6 : Bool × List (List Nat × List Nat) := (true, [([], []), ([], []), ([0, 1], [0, 1]), ([2], [2]), ([], []), ([], []), ([4, 5], [4, 5]), ([6], [6]), ([3, 7], [3, 7]), ([8], [8])])
def r26_Same.B6 : List Nat := [0, 0, 3, 7, 0, 0, 48, 112, 255, 511]
theorem r26_Same.tab6 : rtab .any (opsOf Tryz.f18 6) = r26_Same.T6 := by kernel_rfl
theorem r26_Same.bits6 : waitsOk r26_Same.T6.2 r26_Same.B6 = true := by kernel_rfl
set_option maxHeartbeats 8000000 in
set_option maxRecDepth 100000 in
theorem r26_Same.calls (k : Nat) (A0 : Option Addr) (c0 : Nat) (l0 : T3) (A1 : Option Addr) (c1 : Nat) (l1 : T3) (r : Bool) (w : World) (hr0 : Kd.C (Kd.slice 29 (Kd.slice 39 k39)) w A0 l0.length l0) (hc0 : l0.length ≤ c0) (hr1 : Kd.C (Kd.slice 29 (Kd.slice 39 k39)) w A1 l1.length l1) (hc1 : l1.length ≤ c1) (h : r26_Same.f k l0 l1 = some r) :
 Calls Tryz.prog 18 #[.slice A0 l0.length c0, .slice A1 l1.length c1] w fun e w' => e = .returned (.bool r) ∧ Below w.heap.size w w' := by
 have HR0 := akk hr0
 have HC0 := akk hc0
 clear hr0 hc0
 have HR1 := akk hr1
 have HC1 := akk hc1
 clear hr1 hc1
 have HB := akk (Below.refl w.heap.size w)
 have H : (if (l0.length : Int) = (l1.length : Int) then (r26_Same.l0 k l0 l1 0) else (some false)) = some r := h
 clear h
 by_cases c3 : (l0.length : Int) = (l1.length : Int)
 ·rw [if_pos c3] at H
  have c3b0 : ((l0.length : Int) == (l1.length : Int)) = true := beq_iff_eq.mpr c3
  have c3b1 : ((l0.length : Int) != (l1.length : Int)) = false := bne_eq_false_iff_eq.mpr c3
  have c3b2 : (l0.length == l1.length) = true := by first | simpa using c3 | (simp at c3 ⊢; omega)
  clear c3
  have H' := akk H
  clear H
  go_enter Tryz.func18, Tryz.ntmps18
  go_wp2
  go_loopg [5] k (fun kq v5 w' => ∃ (x5_1 : Int), v5 = .int .i64 x5_1 ∧ Aside0 (r26_Same.l0 kq l0 l1 x5_1 = some r) ∧ Aside0 (kq ≤ k) ∧ Aside0 (Below w.heap.size w w'))
  case atStart => exact ⟨(0), eT, H', ⟨Nat.le_refl _⟩, ⟨bT⟩⟩
  case round =>
   clear H'
   try clear c3b0
   try clear c3b1
   try clear c3b2
   obtain ⟨x5_1, rfl, HA, HK1, HB⟩ := hrel
   cases gk with
   | zero => exact absurd HA.out (by simp [r26_Same.l0])
   | succ k1 =>
    have H := HA.out
    clear HA
    simp only [r26_Same.l0] at H
    by_cases c4 : x5_1 < (l0.length : Int)
    ·rw [if_pos c4] at H
     have c4b0 := decide_eq_true c4
     clear c4
     by_cases c5 : 0 ≤ x5_1
     ·rw [if_pos c5] at H
      have c5b0 := decide_eq_true c5
      clear c5
      by_cases c6 : x5_1 < (l1.length : Int)
      ·rw [if_pos c6] at H
       have c6b0 := decide_eq_true c6
       clear c6
       obtain ⟨t234, A7, H⟩ := bi H
       try dsimp only at H
       by_cases c8 : t234 = true
       ·subst c8
        rw [if_pos rfl] at H
        have H' := akk H
        clear H
        try go_wp2
        replace HB := akk (below_drew1 HB.out)
        obtain ⟨ad232, A232_0, c232_0, e232, hx232_0, HR232_0, HC232_0, p232, q232⟩ := gC6 HR0 x5_1
        have hw232_0 := hx232_0
        cases e232
        replace hx232_0 := hxT HB.out hx232_0
        obtain ⟨ad233, A233_0, c233_0, e233, hx233_0, HR233_0, HC233_0, p233, q233⟩ := gC6 HR1 x5_1
        have hw233_0 := hx233_0
        cases e233
        replace hx233_0 := hxT HB.out hx233_0
        refine start_ (n := 10) (S := fun w' => w'.cell? (ad232.add (x5_1).toNat) = some (.slice A232_0 (rd_L6 l0 x5_1).length c232_0) ∧ w'.cell? (ad233.add (x5_1).toNat) = some (.slice A233_0 (rd_L6 l1 x5_1).length c233_0)) (ds := []) #[false, false, false, false, false, false, false, false, false, false] (by kernel_rfl) rfl rfl ⟨((HB.out.cell (World.block_lt_of_cell? w _ hw232_0)).trans hw232_0), ((HB.out.cell (World.block_lt_of_cell? w _ hw233_0)).trans hw233_0)⟩ (fun hHeld => ?_); refine with_tabW r26_Same.tab6 r26_Same.bits6 (fun HT_ HW_ => ?_)
        generalize wr.drew = w9 at HB HR232_0 HR233_0 hx232_0 hx233_0 hHeld ⊢
        refine pT 0 17 (bm 10 1) ?_
        refine pT 1 18 (bm 10 3) ?_
        refine pT 2 19 (bm 10 7) ?_
        refine pT 4 21 (bm 10 23) ?_
        refine pT 5 22 (bm 10 55) ?_
        refine pT 6 23 (bm 10 119) ?_
        refine tT2 3 20 (bm 10 127) hHeld ?_
        refine tT2 7 24 (bm 10 255) hHeld ?_
        refine one_ (i := 8) (N := some 25) #[true, true, true, true, true, true, true, true, true, false] rfl rfl (one_of HT_.out (by kernel_rfl)) (by decide) (fun K hK => ?_)
        refine goes_ Tryz.func10 (by kernel_rfl) rfl #[.slice A232_0 (rd_L6 l0 x5_1).length c232_0, .slice A233_0 (rd_L6 l1 x5_1).length c233_0] (by rfl) rfl rfl mT ?_
        with_reducible refine (r05_Lists.calls k1 _ _ (rd_L6 l0 x5_1) _ _ (rd_L6 l1 x5_1) true _ ?side1 ?side2 ?side3 ?side4 A7.out).mono ?_
        (case side1 => exact cT HR232_0.out)
        (case side2 => exact HC232_0.out)
        (case side3 => exact cT HR233_0.out)
        (case side4 => exact HC233_0.out)
        rintro e w10 ⟨rfl, hb⟩
        refine ⟨_, rfl, ?_⟩
        replace HB := bb HB hb
        (try clear hb)
        (try clear hb2)
        (try clear hk)
        (try clear hi)
        refine hK.out _ _ ⟨((HB.out.cell (World.block_lt_of_cell? w _ hw232_0)).trans hw232_0), ((HB.out.cell (World.block_lt_of_cell? w _ hw233_0)).trans hw233_0)⟩ (fun hHeld => ?_)
        clear hK K
        refine norm_ (a' := ?_) ?_ ?_
        rotate_left
        ·show Act.put _ (some 25) _ = _
         simp only [Act.put, List.setIfInBounds_toArray, List.set_cons_zero, List.set_cons_succ, i64_w, i32_w]
         rfl
        refine pT 9 26 (bm 10 1023) ?_
        refine done_ (done_of HT_.out (by kernel_rfl)) ?_
        try go_wp2
        go_roundg k1
        case measure => have := HK1.out; omega
        case rel => exact ⟨(wrap64 (x5_1 + 1)), eT, H', ⟨by have := HK1.out; omega⟩, ⟨bT⟩⟩
       ·replace c8 := Bool.eq_false_iff.mpr c8
        subst c8
        rw [if_neg (show ¬ (false = true) by decide)] at H
        obtain rfl := Option.some.inj H
        try go_wp2
        replace HB := akk (below_drew1 HB.out)
        obtain ⟨ad232, A232_0, c232_0, e232, hx232_0, HR232_0, HC232_0, p232, q232⟩ := gC6 HR0 x5_1
        have hw232_0 := hx232_0
        cases e232
        replace hx232_0 := hxT HB.out hx232_0
        obtain ⟨ad233, A233_0, c233_0, e233, hx233_0, HR233_0, HC233_0, p233, q233⟩ := gC6 HR1 x5_1
        have hw233_0 := hx233_0
        cases e233
        replace hx233_0 := hxT HB.out hx233_0
        refine start_ (n := 10) (S := fun w' => w'.cell? (ad232.add (x5_1).toNat) = some (.slice A232_0 (rd_L6 l0 x5_1).length c232_0) ∧ w'.cell? (ad233.add (x5_1).toNat) = some (.slice A233_0 (rd_L6 l1 x5_1).length c233_0)) (ds := []) #[false, false, false, false, false, false, false, false, false, false] (by kernel_rfl) rfl rfl ⟨((HB.out.cell (World.block_lt_of_cell? w _ hw232_0)).trans hw232_0), ((HB.out.cell (World.block_lt_of_cell? w _ hw233_0)).trans hw233_0)⟩ (fun hHeld => ?_); refine with_tabW r26_Same.tab6 r26_Same.bits6 (fun HT_ HW_ => ?_)
        generalize wr.drew = w11 at HB HR232_0 HR233_0 hx232_0 hx233_0 hHeld ⊢
        refine pT 0 17 (bm 10 1) ?_
        refine pT 1 18 (bm 10 3) ?_
        refine pT 2 19 (bm 10 7) ?_
        refine pT 4 21 (bm 10 23) ?_
        refine pT 5 22 (bm 10 55) ?_
        refine pT 6 23 (bm 10 119) ?_
        refine tT2 3 20 (bm 10 127) hHeld ?_
        refine tT2 7 24 (bm 10 255) hHeld ?_
        refine one_ (i := 8) (N := some 25) #[true, true, true, true, true, true, true, true, true, false] rfl rfl (one_of HT_.out (by kernel_rfl)) (by decide) (fun K hK => ?_)
        refine goes_ Tryz.func10 (by kernel_rfl) rfl #[.slice A232_0 (rd_L6 l0 x5_1).length c232_0, .slice A233_0 (rd_L6 l1 x5_1).length c233_0] (by rfl) rfl rfl mT ?_
        with_reducible refine (r05_Lists.calls k1 _ _ (rd_L6 l0 x5_1) _ _ (rd_L6 l1 x5_1) false _ ?side1 ?side2 ?side3 ?side4 A7.out).mono ?_
        (case side1 => exact cT HR232_0.out)
        (case side2 => exact HC232_0.out)
        (case side3 => exact cT HR233_0.out)
        (case side4 => exact HC233_0.out)
        rintro e w12 ⟨rfl, hb⟩
        refine ⟨_, rfl, ?_⟩
        replace HB := bb HB hb
        (try clear hb)
        (try clear hb2)
        (try clear hk)
        (try clear hi)
        refine hK.out _ _ ⟨((HB.out.cell (World.block_lt_of_cell? w _ hw232_0)).trans hw232_0), ((HB.out.cell (World.block_lt_of_cell? w _ hw233_0)).trans hw233_0)⟩ (fun hHeld => ?_)
        clear hK K
        refine norm_ (a' := ?_) ?_ ?_
        rotate_left
        ·show Act.put _ (some 25) _ = _
         simp only [Act.put, List.setIfInBounds_toArray, List.set_cons_zero, List.set_cons_succ, i64_w, i32_w]
         rfl
        refine pT 9 26 (bm 10 1023) ?_
        refine done_ (done_of HT_.out (by kernel_rfl)) ?_
        try go_wp2
        go_ret
        exact ⟨fT, bT⟩
      ·rw [if_neg c6] at H
       exact absurd H (by simp)
     ·rw [if_neg c5] at H
      exact absurd H (by simp)
    ·rw [if_neg c4] at H
     have c4b0 := decide_eq_false c4
     clear c4
     obtain rfl := Option.some.inj H
     go_wp2
     go_ret
     exact ⟨fT, bT⟩
 ·rw [if_neg c3] at H
  have c3b0 : ((l0.length : Int) == (l1.length : Int)) = false := beq_eq_false_iff_ne.mpr c3
  have c3b1 : ((l0.length : Int) != (l1.length : Int)) = true := bne_iff_ne.mpr c3
  have c3b2 : (l0.length == l1.length) = false := by first | simpa using c3 | (simp at c3 ⊢; omega)
  obtain rfl := Option.some.inj H
  go_enter Tryz.func18, Tryz.ntmps18
  go_wp2
  go_ret
  exact ⟨fT, bT⟩
end Go.Proofs.YtgmolmpfihkolaaGreat.Pj
namespace Go.Proofs.YtgmolmpfihkolaaGreat
open Go.RowKit Go.Proofs.YtgmolmpfihkolaaGreatW.PrintWords Go.Proofs.YtgmolmpfihkolaaGreatW.PrintMore Go.Proofs.YtgmolmpfihkolaaGreat.Pj
set_option linter.unusedVariables false
set_option maxRecDepth 100000
abbrev Tup := List (List PV)
theorem w64 {i : Nat} (h : i < 4611686018427387904) : wrap64 ((i : Int) + 1) = ((i + 1 : Nat) : Int) := by unfold wrap64; omega
theorem rd5 (t : Tup) (i : Nat) : rd_L5 t (i : Int) = t.getD i [] := rfl
theorem rd6 (t : List Tup) (i : Nat) : rd_L6 t (i : Int) = t.getD i [] := rfl
theorem rd53 (t : List PE) (i : Nat) (h : i < t.length) : rd_T53 t (i : Int) = t[i] := by
 unfold rd_T53
 rw [List.getD_eq_getElem?_getD, Int.toNat_natCast, List.getElem?_eq_getElem h]; rfl
theorem rd39 (t : List PV) (i : Nat) (h : i < t.length) : rd_T39 t (i : Int) = t[i] := by
 unfold rd_T39
 rw [List.getD_eq_getElem?_getD, Int.toNat_natCast, List.getElem?_eq_getElem h]; rfl
theorem getD_at {α : Type} (t : List α) (d : α) (i : Nat) (h : i < t.length) : t.getD i d = t[i] := by
 rw [List.getD_eq_getElem?_getD, List.getElem?_eq_getElem h]; rfl
theorem getD_no {α : Type} (t : List α) (d : α) (i : Nat) (h : t.length ≤ i) : t.getD i d = d := by
 rw [List.getD_eq_getElem?_getD, List.getElem?_eq_none h]; rfl
def uAt (a b : Tup) (i : Nat) : List PV := if (a.getD i []).length = 0 then b.getD i [] else a.getD i []
def unionP (a b : Tup) : Tup := (List.range (max a.length b.length)).map (uAt a b)
def okTup (t : Tup) : Prop := t.length ≤ 1000 ∧ ∀ r ∈ t, r.length ≤ 1000
theorem okTup.row {t : Tup} (h : okTup t) (i : Nat) : (t.getD i []).length ≤ 1000 := by
 by_cases hi : i < t.length
 ·rw [getD_at _ _ _ hi]; exact h.2 _ (List.getElem_mem hi)
 ·rw [getD_no _ _ _ (by omega)]; simp
theorem union_go (a b : Tup) (ha : okTup a) (hb : okTup b) (n : Nat) (hn : n = max a.length b.length) : ∀ (m i : Nat), n - i = m → i ≤ n → ∀ K, 2 * m + 1 ≤ K → joins_Union.l0 K a b ((List.range i).map (uAt a b)) (n : Int) (i : Int) = some ((List.range n).map (uAt a b))
 | m, i, hm, hi, 0, hK => by omega
 | 0, i, hm, hi, K + 1, hK => by
  obtain rfl : i = n := by omega
  rw [joins_Union.l0, if_neg (by omega)]
 | m + 1, i, hm, hi, K + 1, hK => by
  have hn2 : n ≤ 1000 := by have := ha.1; have := hb.1; omega
  have ra := ha.row i
  have rb := hb.row i
  have hlen : ((List.range i).map (uAt a b)).length = i := by simp
  have hs : (List.range (i + 1)).map (uAt a b) = (List.range i).map (uAt a b) ++ [uAt a b i] := by rw [List.range_succ, List.map_append]; rfl
  obtain ⟨K, rfl⟩ : ∃ K', K = K' + 1 := ⟨K - 1, by omega⟩
  have ih := union_go a b ha hb n hn m (i + 1) (by omega) (by omega) K (by omega)
  rw [hs] at ih
  rw [joins_Union.l0, if_pos (by omega)]
  have second : joins_Union.j1 (K + 1) a b ((List.range i).map (uAt a b)) (i : Int) ([] : List PV) (n : Int) (i : Int) false = some ((List.range n).map (uAt a b)) ∨ (a.getD i []).length ≠ 0 := by
   by_cases h0 : (a.getD i []).length = 0
   ·refine .inl ?_
    have hu : uAt a b i = b.getD i [] := by unfold uAt; rw [if_pos h0]
    rw [hu] at ih
    rw [joins_Union.j1, if_neg (by simp)]
    by_cases h1 : i < b.length
    ·rw [if_pos (by omega), if_pos (by omega), rd5]
     by_cases h2 : 0 < (b.getD i []).length
     ·rw [if_pos (by omega), Option.bind_some, if_pos (by (try rw [rd5]); rw [List.length_nil]; omega), if_pos (by rw [hlen]; omega), List.nil_append, w64 (by omega)]
      exact ih
     ·rw [if_neg (by omega), if_pos (by rw [hlen]; omega), w64 (by omega)]
      rw [List.eq_nil_of_length_eq_zero (show (b.getD i []).length = 0 by omega)] at ih
      exact ih
    ·rw [if_neg (by omega), if_pos (by rw [hlen]; omega), w64 (by omega)]
     rw [getD_no _ _ _ (by omega)] at ih
     exact ih
   ·exact .inr h0
  by_cases h1 : i < a.length
  ·rw [if_pos (by omega), if_pos (by omega), rd5]
   by_cases h2 : 0 < (a.getD i []).length
   ·have hu : uAt a b i = a.getD i [] := by unfold uAt; rw [if_neg (by omega)]
    rw [hu] at ih
    rw [show decide (((a.getD i []).length : Int) > 0) = true from decide_eq_true (by omega)]
    rw [joins_Union.j1, if_pos rfl, Option.bind_some, if_pos (by omega), if_pos (by omega), rd5, if_pos (by (try rw [rd5]); rw [List.length_nil]; omega), if_pos (by rw [hlen]; omega), List.nil_append, w64 (by omega)]
    exact ih
   ·rw [show decide (((a.getD i []).length : Int) > 0) = false from decide_eq_false (by omega)]
    rcases second with h | h
    ·exact h
    ·omega
  ·rw [if_neg (by omega)]
   rcases second with h | h
   ·exact h
   ·rw [getD_no _ _ _ (by omega)] at h
    simp at h
theorem union_f (K : Nat) (hK : 2100 ≤ K) (a b : Tup) (ha : okTup a) (hb : okTup b) : joins_Union.f K a b = some (unionP a b) := by
 unfold joins_Union.f
 have e : mx (a.length : Int) (b.length : Int) = ((max a.length b.length : Nat) : Int) := by unfold mx; split <;> omega
 rw [e]
 have h1 := ha.1
 have h2 := hb.1
 exact union_go a b ha hb _ rfl _ 0 rfl (Nat.zero_le _) K (by omega)
theorem runion_go (a b : Tup) (ha : okTup a) (hb : okTup b) (n : Nat) (hn : n = max a.length b.length) : ∀ (m i : Nat), n - i = m → i ≤ n → ∀ K, m + 1 ≤ K → r27_Union.l0 K a b (n : Int) ((List.range i).map (uAt a b)) (i : Int) = some ((List.range n).map (uAt a b))
 | m, i, hm, hi, 0, hK => by omega
 | 0, i, hm, hi, K + 1, hK => by
  obtain rfl : i = n := by omega
  rw [r27_Union.l0, if_neg (by omega)]
 | m + 1, i, hm, hi, K + 1, hK => by
  have hn2 : n ≤ 1000 := by have := ha.1; have := hb.1; omega
  have hlen : ((List.range i).map (uAt a b)).length = i := by simp
  have hs : (List.range (i + 1)).map (uAt a b) = (List.range i).map (uAt a b) ++ [uAt a b i] := by rw [List.range_succ, List.map_append]; rfl
  have ih := runion_go a b ha hb n hn m (i + 1) (by omega) (by omega) K (by omega)
  rw [hs] at ih
  rw [r27_Union.l0, if_pos (by omega)]
  by_cases h0 : (a.getD i []).length = 0
  ·have hu : uAt a b i = b.getD i [] := by unfold uAt; rw [if_pos h0]
   rw [hu] at ih
   by_cases h1 : i < b.length
   ·rw [if_pos (by omega), if_pos (by omega)]
    by_cases h2 : i < a.length
    ·rw [if_pos (by omega), rd5, if_neg (by omega), if_pos (by rw [hlen]; omega), rd5, w64 (by omega)]; exact ih
    ·rw [if_neg (by omega), if_pos (by rw [hlen]; omega), rd5, w64 (by omega)]; exact ih
   ·rw [getD_no _ _ _ (by omega)] at ih
    rw [if_neg (by omega)]
    by_cases h2 : i < a.length
    ·rw [if_pos (by omega), if_pos (by omega), rd5, if_neg (by omega), if_pos (by rw [hlen]; omega), w64 (by omega)]; exact ih
    ·rw [if_neg (by omega), if_pos (by rw [hlen]; omega), w64 (by omega)]; exact ih
  ·have hu : uAt a b i = a.getD i [] := by unfold uAt; rw [if_neg h0]
   rw [hu] at ih
   have h2 : i < a.length := by
    refine Decidable.byContradiction fun h => h0 ?_
    rw [getD_no _ _ _ (by omega)]; rfl
   by_cases h1 : i < b.length
   ·rw [if_pos (by omega), if_pos (by omega), if_pos (by omega), rd5, if_pos (by omega), if_pos (by rw [hlen]; omega), w64 (by omega)]; exact ih
   ·rw [if_neg (by omega), if_pos (by omega), if_pos (by omega), rd5, if_pos (by omega), if_pos (by rw [hlen]; omega), w64 (by omega)]; exact ih
theorem runion_f (K : Nat) (hK : 2100 ≤ K) (a b : Tup) (ha : okTup a) (hb : okTup b) : r27_Union.f K a b = some (unionP a b) := by
 have h1 := ha.1
 have h2 := hb.1
 have go : ∀ n : Nat, n = max a.length b.length → r27_Union.j0 K a b (n : Int) = some (unionP a b) := by
  intro n hn
  obtain ⟨K, rfl⟩ : ∃ K', K = K' + 1 := ⟨K - 1, by omega⟩
  rw [r27_Union.j0]
  have := runion_go a b ha hb n hn n 0 (by omega) (Nat.zero_le _) K (by omega)
  unfold unionP
  rw [← hn]
  exact this
 unfold r27_Union.f
 by_cases h : a.length < b.length
 ·rw [if_pos (by omega)]; exact go _ (by omega)
 ·rw [if_neg (by omega)]; exact go _ (by omega)
theorem uAt_wf {a b : Tup} (ha : wfRs a = true) (hb : wfRs b = true) (i : Nat) : wfR (uAt a b i) = true := by
 have row : ∀ t : Tup, wfRs t = true → wfR (t.getD i []) = true := by
  intro t ht
  by_cases hi : i < t.length
  ·rw [getD_at _ _ _ hi]; exact List.all_eq_true.1 ht _ (List.getElem_mem hi)
  ·rw [getD_no _ _ _ (by omega)]; rfl
 unfold uAt
 split
 ·exact row b hb
 ·exact row a ha
theorem unionP_wf {a b : Tup} (ha : wfRs a = true) (hb : wfRs b = true) : wfRs (unionP a b) = true := by
 refine List.all_eq_true.2 (fun r hr => ?_)
 unfold unionP at hr
 obtain ⟨i, _, rfl⟩ := List.mem_map.1 hr
 exact uAt_wf ha hb i
theorem unionP_ok {a b : Tup} (ha : okTup a) (hb : okTup b) : okTup (unionP a b) := by
 refine ⟨by unfold unionP; rw [List.length_map, List.length_range]; have := ha.1; have := hb.1; omega, fun r hr => ?_⟩
 unfold unionP at hr
 obtain ⟨i, _, rfl⟩ := List.mem_map.1 hr
 have := ha.row i
 have := hb.row i
 unfold uAt
 split <;> omega
def holdsP (l : List PE) (t : Tup) : Bool × Int := holdsV (rsOf t) (tsOf l)
theorem tsOf_drop (l : List PE) (i : Nat) (h : i < l.length) : tsOf (l.drop i) = tOf l[i] :: tsOf (l.drop (i + 1)) := by rw [List.drop_eq_getElem_cons h, tsOf]
theorem wfEs_at {l : List PE} (h : wfEs l = true) (i : Nat) (hi : i < l.length) : wfE l[i] = true := wfEs_get h (List.getElem?_eq_getElem hi)
theorem pe_eta (e : PE) : (⟨e.f0, e.f1, e.f2, ⟨e.f3.f0, e.f3.f1, e.f3.f2, e.f3.f3⟩, e.f4⟩ : PE) = e := by
 obtain ⟨k, r, c, ⟨a, b, d, f⟩, ks⟩ := e
 rfl
theorem eval_f {e : PE} {t : Tup} (he : wfE e = true) (ht : wfRs t = true) : expr_Eval.f e.f0 e.f1 e.f2 e.f3.f0 e.f3.f1 e.f3.f2 e.f3.f3 e.f4 t = some ((tellV (rsOf t) (tOf e)).1.kind, (tellV (rsOf t) (tOf e)).1.int, (tellV (rsOf t) (tOf e)).1.flt, (tellV (rsOf t) (tOf e)).1.text, (tellV (rsOf t) (tOf e)).2) := by
 unfold expr_Eval.f
 rw [pe_eta]
 unfold evalF
 rw [he, ht]; rfl
theorem holds_go (l : List PE) (t : Tup) (hl : wfEs l = true) (ht : wfRs t = true) (hn : l.length ≤ 1000000) : ∀ (m i : Nat), l.length - i = m → i ≤ l.length → ∀ K, m + 1 ≤ K → expr_Holds.l0 K t l (l.length : Int) (i : Int) = some (holdsV (rsOf t) (tsOf (l.drop i)))
 | m, i, hm, hi, 0, hK => by omega
 | 0, i, hm, hi, K + 1, hK => by
  rw [expr_Holds.l0, if_neg (by omega), List.drop_of_length_le (by omega)]; rfl
 | m + 1, i, hm, hi, K + 1, hK => by
  have hil : i < l.length := by omega
  have ih := holds_go l t hl ht hn m (i + 1) (by omega) (by omega) K (by omega)
  rw [expr_Holds.l0, if_pos (by omega), if_pos (by omega), if_pos (by omega), rd53 l i hil, eval_f (wfEs_at hl i hil) ht, Option.bind_some, tsOf_drop l i hil]
  obtain ⟨x, hx⟩ : ∃ x, x = tellV (rsOf t) (tOf l[i]) := ⟨_, rfl⟩
  simp only [holdsV]
  rw [← hx]
  (try simp only)
  by_cases h1 : x.2 = 0
  ·rw [if_pos h1, if_neg (show ¬ x.2 ≠ 0 from fun h => h h1)]
   unfold isTrue
   by_cases h2 : x.1.kind = 1
   ·rw [if_pos h2]
    by_cases h3 : x.1.int = 1
    ·rw [if_pos h3, if_pos (show (x.1.kind == 1 && x.1.int == 1) = true by simp [h2, h3]), w64 (by omega)]; exact ih
    ·rw [if_neg h3, if_neg (show ¬ (x.1.kind == 1 && x.1.int == 1) = true by simp [h3])]
   ·rw [if_neg h2, if_neg (show ¬ (x.1.kind == 1 && x.1.int == 1) = true by simp [h2])]
  ·rw [if_neg h1, if_pos (show x.2 ≠ 0 from h1)]
theorem holds_f (K : Nat) (l : List PE) (t : Tup) (hl : wfEs l = true) (ht : wfRs t = true) (hn : l.length ≤ 1000000) (hK : l.length + 1 ≤ K) : expr_Holds.f K l t = some (holdsP l t) := by
 unfold expr_Holds.f
 exact holds_go l t hl ht hn l.length 0 (by omega) (Nat.zero_le _) K hK
def toldGo (a b : List Tup) (l : List PE) : List PP → List Tup → List Tup × Int
 | [], out => (out, 0)
 | p :: ps, out => if (holdsP l (unionP (a.getD p.f0.toNat []) (b.getD p.f1.toNat []))).2 ≠ 0 then ([], (holdsP l (unionP (a.getD p.f0.toNat []) (b.getD p.f1.toNat []))).2) else toldGo a b l ps (if (holdsP l (unionP (a.getD p.f0.toNat []) (b.getD p.f1.toNat []))).1 then out ++ [unionP (a.getD p.f0.toNat []) (b.getD p.f1.toNat [])] else out)
def okTups (a : List Tup) : Prop := a.length ≤ 1000 ∧ ∀ t ∈ a, wfRs t = true ∧ okTup t
theorem okTups.get {a : List Tup} (h : okTups a) (i : Nat) : wfRs (a.getD i []) = true ∧ okTup (a.getD i []) := by
 by_cases hi : i < a.length
 ·rw [getD_at _ _ _ hi]; exact h.2 _ (List.getElem_mem hi)
 ·rw [getD_no _ _ _ (by omega)]; exact ⟨rfl, by simp [okTup]⟩
def okLs (l : List PE) : Prop := wfEs l = true ∧ l.length ≤ 1000
def inAB (a b : List Tup) (p : PP) : Prop := 0 ≤ p.f0 ∧ p.f0 < (a.length : Int) ∧ 0 ≤ p.f1 ∧ p.f1 < (b.length : Int)
theorem told_go (a b : List Tup) (l : List PE) (ha : okTups a) (hb : okTups b) (hl : okLs l) (ps : List PP) (hp : ∀ p ∈ ps, inAB a b p) (hn : ps.length ≤ 1000000000) : ∀ (m i : Nat) (out : List Tup), ps.length - i = m → i ≤ ps.length → out.length + m ≤ 2000000000 → ∀ K, m + 3000 ≤ K → joins_told.l0 K a b l out ps (ps.length : Int) (i : Int) = some (toldGo a b l (ps.drop i) out)
 | m, i, out, hm, hi, ho, 0, hK => by omega
 | 0, i, out, hm, hi, ho, K + 1, hK => by
  rw [joins_told.l0, if_neg (by omega), List.drop_of_length_le (by omega)]; rfl
 | m + 1, i, out, hm, hi, ho, K + 1, hK => by
  have hil : i < ps.length := by omega
  obtain ⟨p, hpe⟩ : ∃ p, p = ps[i] := ⟨_, rfl⟩
  have hpi : inAB a b p := by rw [hpe]; exact hp _ (List.getElem_mem hil)
  have e : rd_T71 ps (i : Int) = p := by
   unfold rd_T71
   rw [hpe, List.getD_eq_getElem?_getD, Int.toNat_natCast, List.getElem?_eq_getElem hil]; rfl
  obtain ⟨q1, q2, q3, q4⟩ := hpi
  have wa := ha.get p.f0.toNat
  have wb := hb.get p.f1.toNat
  rw [joins_told.l0, if_pos (by omega), if_pos (by omega), if_pos (by omega), e, if_pos q1, if_pos q2, if_pos q3, if_pos q4]
  have ea : rd_L6 a p.f0 = a.getD p.f0.toNat [] := rfl
  have eb : rd_L6 b p.f1 = b.getD p.f1.toNat [] := rfl
  rw [ea, eb, union_f K (by omega) _ _ wa.2 wb.2, Option.bind_some, holds_f K l _ hl.1 (unionP_wf wa.1 wb.1) (by have := hl.2; omega) (by have := hl.2; omega), Option.bind_some]
  rw [List.drop_eq_getElem_cons hil, ← hpe, toldGo]
  obtain ⟨t, ht⟩ : ∃ t, t = unionP (a.getD p.f0.toNat []) (b.getD p.f1.toNat []) := ⟨_, rfl⟩
  rw [← ht]
  obtain ⟨x, hx⟩ : ∃ x, x = holdsP l t := ⟨_, rfl⟩
  rw [← hx]
  by_cases h1 : x.2 = 0
  ·rw [if_pos h1, if_neg (show ¬ x.2 ≠ 0 from fun h => h h1)]
   by_cases h2 : x.1 = true
   ·rw [if_pos h2, if_pos (by omega), if_pos h2, w64 (by omega)]
    exact told_go a b l ha hb hl ps hp hn m (i + 1) _ (by omega) (by omega) (by rw [List.length_append, List.length_singleton]; omega) K (by omega)
   ·rw [if_neg h2, if_neg h2, w64 (by omega)]
    exact told_go a b l ha hb hl ps hp hn m (i + 1) _ (by omega) (by omega) (by omega) K (by omega)
  ·rw [if_neg h1, if_pos (show x.2 ≠ 0 from h1)]
theorem told_f (a b : List Tup) (l : List PE) (ha : okTups a) (hb : okTups b) (hl : okLs l) (ps : List PP) (hp : ∀ p ∈ ps, inAB a b p) (K : Nat) (hn : ps.length + 3000 ≤ K) (hk : K ≤ 1000000) : joins_told.f K a b ps l = some (toldGo a b l ps []) := by
 unfold joins_told.f
 exact told_go a b l ha hb hl ps hp (by omega) ps.length 0 [] (by omega) (Nat.zero_le _) (by simp; omega) K hn
end Go.Proofs.YtgmolmpfihkolaaGreat
namespace Go.Proofs.YtgmolmpfihkolaaGreat.Pj
open Go.RowKit Go.Proofs.YtgmolmpfihkolaaGreatW.PrintWords Go.Proofs.YtgmolmpfihkolaaGreatW.PrintLast Go.Proofs.YtgmolmpfihkolaaGreatW.PrintMore
attribute [local go_sem] run_store_flt max2_int min2_int max_two min_two max_three min_three max_four min_four
set_option linter.unusedVariables false
set_option linter.unusedSimpArgs false
def r27_Keys.f (l0 : List (S53)) (l1 : T2) : Option ((List (S39)) × Bool × Int) := keysF l0 l1
theorem r27_Keys.calls (A0 : Option Addr) (c0 : Nat) (l0 : List (S53)) (A1 : Option Addr) (c1 : Nat) (l1 : T2) (r1 : List (S39)) (r2 : Bool) (r3 : Int) (w : World) (hr0 : Kd.C k53 w A0 l0.length l0) (hc0 : l0.length ≤ c0) (hr1 : Kd.C (Kd.slice 39 k39) w A1 l1.length l1) (hc1 : l1.length ≤ c1) (h : r27_Keys.f l0 l1 = some (r1, r2, r3)) :
 Calls Tryz.prog 13 #[.slice A0 l0.length c0, .slice A1 l1.length c1] w fun e w' => ∃ v0_ : Value, e = .returned (.tuple #[v0_, .bool r2, .int .i64 r3]) ∧ Kd.R kAl 39 w' w.heap.size (fun _ => True) v0_ r1 ∧ Below w.heap.size w w' := by
 unfold r27_Keys.f keysF at h
 split at h
 ·rename_i hc
  simp only [Bool.and_eq_true, decide_eq_true_eq] at hc
  obtain ⟨D, hx⟩ := exs_of hr0 hc0 hc.1
  obtain ⟨R, hR, hRl⟩ := rows_of hr1 hc1 hc.2.1
  have hE := RKeys_any D _ _ _ _ A1 _ c1 R w hx hR hc.2.2
  rw [hRl] at hE
  simp only [Option.some.injEq, Prod.mk.injEq] at h
  obtain ⟨rfl, rfl, rfl⟩ := h
  refine hE.mono ?_
  rintro e w' ⟨⟨v, he, hk⟩, hb⟩
  exact ⟨v, he, hk, hb⟩
 ·cases h
end Go.Proofs.YtgmolmpfihkolaaGreat.Pj
namespace Go.Proofs.YtgmolmpfihkolaaGreat
open Go.RowKit Go.Proofs.YtgmolmpfihkolaaGreatW.PrintWords Go.Proofs.YtgmolmpfihkolaaGreatW.PrintMore Go.Proofs.YtgmolmpfihkolaaGreat.Pj
set_option linter.unusedVariables false
set_option maxRecDepth 100000
theorem rowsWf_of {t : Tup} (h : wfRs t = true) : rowsWf (rsOf t) := by
 intro l hl v hv
 unfold rsOf at hl
 obtain ⟨r, hr, rfl⟩ := List.mem_map.1 hl
 obtain ⟨x, hx, rfl⟩ := List.mem_map.1 hv
 exact of_decide_eq_true (List.all_eq_true.1 (List.all_eq_true.1 h r hr) x hx)
mutual
theorem evalE_wf {rows : List (List Val)} (h : rowsWf rows) : ∀ e : PE, wfE e = true → (evalV rows (tOf e)).1.wf
 | ⟨k, r, c, v, ks⟩, hw => by
  simp only [wfE, Bool.and_eq_true] at hw
  rw [tOf]
  simp only [evalV]
  unfold combV
  split
  ·exact null_wf
  ·split
   ·exact null_wf
   ·refine opV_wf h _ _ _ _ _ _ (of_decide_eq_true hw.2.2.2.1) ?_
    have hk := evalEs_wf h ks hw.2.2.2.2
    cases ks with
    | nil => exact null_wf
    | cons t ts => exact hk t List.mem_cons_self
theorem evalEs_wf {rows : List (List Val)} (h : rowsWf rows) : ∀ l : List PE, wfEs l = true → ∀ e ∈ l, (evalV rows (tOf e)).1.wf
 | [], _, e, he => by cases he
 | x :: l, hw, e, he => by
  simp only [wfEs, Bool.and_eq_true] at hw
  rcases List.mem_cons.1 he with e1 | he
  ·rw [e1]; exact evalE_wf h x hw.1
  ·exact evalEs_wf h l hw.2 e he
end
theorem tellE_wf {t : Tup} (ht : wfRs t = true) {e : PE} (he : wfE e = true) : (tellV (rsOf t) (tOf e)).1.wf := by
 unfold tellV
 split
 ·exact evalE_wf (rowsWf_of ht) e he
 ·exact null_wf
theorem canon_wf {p : Val} (h : Canon p) : p.wf :=
 ⟨WalkArith.wf_i64 (by have := h.kind; omega), h.iwf, by simpa using h.fwf, by have := h.size; unfold maxLen; omega⟩
theorem plain_wfV {v : Val} (h : v.wf) : wfV (pOf (plainV v)) = true := decide_eq_true (by rw [vOf_pOf]; exact canon_wf (plain_canon h))
def keysP (l : List PE) (t : Tup) : List PV × Bool × Int := ((keysGo (rsOf t) [] true (tsOf l)).1.map pOf, (keysGo (rsOf t) [] true (tsOf l)).2.1, (keysGo (rsOf t) [] true (tsOf l)).2.2)
theorem keys_go (l : List PE) (t : Tup) (hl : wfEs l = true) (ht : wfRs t = true) (hn : l.length ≤ 1000000) : ∀ (m i : Nat) (acc : List Val) (sm : Bool), l.length - i = m → i ≤ l.length → acc.length + m ≤ 2000000 → ∀ K, m + 1 ≤ K →
 joins_Keys.l0 K t (acc.map pOf) sm l (l.length : Int) (i : Int) = some ((keysGo (rsOf t) acc sm (tsOf (l.drop i))).1.map pOf, (keysGo (rsOf t) acc sm (tsOf (l.drop i))).2.1, (keysGo (rsOf t) acc sm (tsOf (l.drop i))).2.2) := by
 intro m
 induction m with
 | zero =>
  intro i acc sm hm hi ha K hK
  obtain ⟨K, rfl⟩ : ∃ K', K = K' + 1 := ⟨K - 1, by omega⟩
  rw [joins_Keys.l0, if_neg (by omega), List.drop_of_length_le (by omega)]; rfl
 | succ m ih =>
  intro i acc sm hm hi ha K hK
  obtain ⟨K, rfl⟩ : ∃ K', K = K' + 1 := ⟨K - 1, by omega⟩
  have hil : i < l.length := by omega
  have he := wfEs_at hl i hil
  have hw := tellE_wf ht he
  rw [joins_Keys.l0, if_pos (by omega), if_pos (by omega), if_pos (by omega), rd53 l i hil, eval_f he ht, Option.bind_some, tsOf_drop l i hil]
  obtain ⟨x, hx⟩ : ∃ x, x = tellV (rsOf t) (tOf l[i]) := ⟨_, rfl⟩
  simp only [keysGo]
  rw [← hx] at hw ⊢
  (try simp only)
  by_cases h1 : x.2 = 0
  ·rw [if_pos h1, if_neg (show ¬ x.2 ≠ 0 from fun h => h h1)]
   have hp : value_Plain.f x.1.kind x.1.int x.1.flt x.1.text = some ((plainV x.1).kind, (plainV x.1).int, (plainV x.1).flt, (plainV x.1).text) := by
    unfold value_Plain.f plainF
    rw [if_pos (show wfV ⟨x.1.kind, x.1.int, x.1.flt, x.1.text⟩ = true from decide_eq_true hw)]; rfl
   have hm2 : (acc ++ [plainV x.1]).map pOf = acc.map pOf ++ [pOf (plainV x.1)] := by rw [List.map_append]; rfl
   cases sm with
   | true =>
    rw [if_pos rfl, hp, Option.bind_some, if_pos (by rw [List.length_map]; omega), w64 (by omega)]
    have := ih (i + 1) (acc ++ [plainV x.1]) (x.1.kind != 0) (by omega) (by omega) (by rw [List.length_append, List.length_singleton]; omega) K (by omega)
    rw [hm2] at this
    have e : (true && decide (x.1.kind ≠ 0)) = (x.1.kind != 0) := by
     rw [Bool.true_and]
     by_cases h : x.1.kind = 0 <;> simp [h]
    rw [e]
    exact this
   | false =>
    rw [if_neg (by simp), hp, Option.bind_some, if_pos (by rw [List.length_map]; omega), w64 (by omega)]
    have := ih (i + 1) (acc ++ [plainV x.1]) false (by omega) (by omega) (by rw [List.length_append, List.length_singleton]; omega) K (by omega)
    rw [hm2] at this
    rw [Bool.false_and]
    exact this
  ·rw [if_neg h1, if_pos (show x.2 ≠ 0 from h1)]; rfl
theorem keys_f (K : Nat) (l : List PE) (t : Tup) (hl : okLs l) (ht : wfRs t = true) (hK : 2000 ≤ K) : joins_Keys.f K l t = some (keysP l t) := by
 unfold joins_Keys.f
 have := hl.2
 exact keys_go l t hl.1 ht (by omega) l.length 0 [] true (by omega) (Nat.zero_le _) (by simp; omega) K (by omega)
theorem rkeys_f (l : List PE) (t : Tup) (hl : okLs l) (ht : wfRs t = true) : r27_Keys.f l t = some (keysP l t) := by
 unfold r27_Keys.f keysF
 have := hl.2
 rw [hl.1, ht, decide_eq_true (show (l.length + 1) * 40 ≤ 140737488355328 by omega)]; rfl
theorem keysGo_wf {t : Tup} (ht : wfRs t = true) : ∀ (l : List PE) (acc : List Val) (sm : Bool), wfEs l = true → (∀ v ∈ acc, wfV (pOf v) = true) → (∀ v ∈ (keysGo (rsOf t) acc sm (tsOf l)).1, wfV (pOf v) = true) ∧ (keysGo (rsOf t) acc sm (tsOf l)).1.length ≤ acc.length + l.length
 | [], acc, sm, _, ha => ⟨by rw [tsOf]; exact ha, by rw [tsOf]; simp [keysGo]⟩
 | e :: l, acc, sm, hl, ha => by
  simp only [wfEs, Bool.and_eq_true] at hl
  rw [tsOf]
  simp only [keysGo]
  split
  ·exact ⟨fun v hv => (by cases hv), by simp⟩
  ·have := keysGo_wf ht l (acc ++ [plainV (tellV (rsOf t) (tOf e)).1]) (sm && decide ((tellV (rsOf t) (tOf e)).1.kind ≠ 0)) hl.2 (fun v hv => by
    rcases List.mem_append.1 hv with hv | hv
    ·exact ha v hv
    ·rw [List.mem_singleton.1 hv]; exact plain_wfV (tellE_wf ht hl.1))
   exact ⟨this.1, by have := this.2; rw [List.length_append, List.length_singleton] at this; rw [List.length_cons]; omega⟩
theorem keysP_wf {t : Tup} (ht : wfRs t = true) {l : List PE} (hl : okLs l) : wfR (keysP l t).1 = true ∧ (keysP l t).1.length ≤ 1000 := by
 have h := keysGo_wf ht l [] true hl.1 (fun v hv => by cases hv)
 refine ⟨List.all_eq_true.2 (fun x hx => ?_), ?_⟩
 ·obtain ⟨v, hv, rfl⟩ := List.mem_map.1 hx
  exact h.1 v hv
 ·show (List.map pOf _).length ≤ 1000
  rw [List.length_map]
  have := h.2
  have := hl.2
  have : ([] : List Val).length = 0 := rfl
  omega
def kgo (l : List PE) : List Tup → Nat → List PK → List PK × Int
 | [], _, acc => (acc, 0)
 | t :: ts, i, acc => if (keysP l t).2.2 ≠ 0 then ([], (keysP l t).2.2) else kgo l ts (i + 1) (if (keysP l t).2.1 then acc ++ [⟨(i : Int), (keysP l t).1⟩] else acc)
theorem keyedAll_go (l : List PE) (ts : List Tup) (hl : okLs l) (ht : okTups ts) : ∀ (m i : Nat) (acc : List PK), ts.length - i = m → i ≤ ts.length → acc.length + m ≤ 2000000 → ∀ K, m + 2001 ≤ K → joins_keyedAll.l0 K l acc ts (ts.length : Int) (i : Int) = some (kgo l (ts.drop i) i acc) := by
 intro m
 induction m with
 | zero =>
  intro i acc hm hi ha K hK
  obtain ⟨K, rfl⟩ : ∃ K', K = K' + 1 := ⟨K - 1, by omega⟩
  rw [joins_keyedAll.l0, if_neg (by omega), List.drop_of_length_le (by omega)]; rfl
 | succ m ih =>
  intro i acc hm hi ha K hK
  obtain ⟨K, rfl⟩ : ∃ K', K = K' + 1 := ⟨K - 1, by omega⟩
  have hil : i < ts.length := by omega
  have h1000 := ht.1
  rw [joins_keyedAll.l0, if_pos (by omega), if_pos (by omega), if_pos (by omega), rd6, getD_at _ _ _ hil, keys_f K l _ hl (ht.2 _ (List.getElem_mem hil)).1 (by omega), Option.bind_some, List.drop_eq_getElem_cons hil, kgo]
  obtain ⟨x, hx⟩ : ∃ x, x = keysP l ts[i] := ⟨_, rfl⟩
  rw [← hx]
  by_cases h1 : x.2.2 = 0
  ·rw [if_pos h1, if_neg (show ¬ x.2.2 ≠ 0 from fun h => h h1)]
   by_cases h2 : x.2.1 = true
   ·rw [if_pos h2, if_pos (by omega), if_pos h2, w64 (by omega)]
    exact ih (i + 1) _ (by omega) (by omega) (by rw [List.length_append, List.length_singleton]; omega) K (by omega)
   ·rw [if_neg h2, if_neg h2, w64 (by omega)]
    exact ih (i + 1) _ (by omega) (by omega) (by omega) K (by omega)
  ·rw [if_neg h1, if_pos (show x.2.2 ≠ 0 from h1)]
theorem keyedAll_f (K : Nat) (l : List PE) (ts : List Tup) (hl : okLs l) (ht : okTups ts) (hK : 4000 ≤ K) : joins_keyedAll.f K l ts = some (kgo l ts 0 []) := by
 unfold joins_keyedAll.f
 have := ht.1
 exact keyedAll_go l ts hl ht ts.length 0 [] (by omega) (Nat.zero_le _) (by simp; omega) K (by omega)
def kAt (l : List PE) (t : Tup) (i : Nat) : List PK := if (keysP l t).2.1 then [⟨(i : Int), (keysP l t).1⟩] else []
theorem kgo_list (l : List PE) : ∀ (ts : List Tup) (i : Nat) (acc : List PK), (kgo l ts i acc).2 = 0 → (kgo l ts i acc).1 = acc ++ (ts.zipIdx i).flatMap (fun x => kAt l x.1 x.2)
 | [], i, acc, _ => by simp [kgo]
 | t :: ts, i, acc, h => by
  rw [kgo] at h ⊢
  by_cases h1 : (keysP l t).2.2 ≠ 0
  ·rw [if_pos h1] at h
   exact absurd h h1
  ·rw [if_neg h1] at h ⊢
   rw [kgo_list l ts (i + 1) _ h, List.zipIdx_cons, List.flatMap_cons]
   unfold kAt
   by_cases h2 : (keysP l t).2.1 = true
   ·rw [if_pos h2]; simp [h2]
   ·rw [if_neg h2]; simp [h2]
theorem kgo_mem (l : List PE) {ts : List Tup} {i : Nat} {p : PK} (h : p ∈ (ts.zipIdx i).flatMap (fun x => kAt l x.1 x.2)) : ∃ (k : Nat) (t : Tup), ts[k]? = some t ∧ p.f0 = ((i + k : Nat) : Int) ∧ p.f1 = (keysP l t).1 := by
 obtain ⟨⟨t, j⟩, hx, hp⟩ := List.mem_flatMap.1 h
 obtain ⟨k, hk⟩ := List.mem_iff_getElem?.1 hx
 rw [List.getElem?_zipIdx] at hk
 obtain ⟨t', ht', e⟩ := Option.map_eq_some_iff.1 hk
 obtain ⟨rfl, rfl⟩ : t' = t ∧ i + k = j := by simpa using e
 unfold kAt at hp
 split at hp
 ·have : p = ⟨((i + k : Nat) : Int), (keysP l t').1⟩ := by simpa using hp
  exact ⟨k, t', ht', by rw [this], by rw [this]⟩
 ·cases hp
theorem kgo_up (l : List PE) : ∀ (ts : List Tup) (i : Nat), ((ts.zipIdx i).flatMap (fun x => kAt l x.1 x.2)).Pairwise (fun p q => p.f0 < q.f0)
 | [], i => by simp
 | t :: ts, i => by
  rw [List.zipIdx_cons, List.flatMap_cons]
  refine List.pairwise_append.2 ⟨?_, kgo_up l ts (i + 1), fun p hp q hq => ?_⟩
  ·unfold kAt
   split <;> simp
  ·obtain ⟨k, t', _, e, _⟩ := kgo_mem l hq
   unfold kAt at hp
   split at hp
   ·have : p = ⟨(i : Int), (keysP l t).1⟩ := by simpa using hp
    rw [this, e]
    show (i : Int) < _
    omega
   ·cases hp
theorem kgo_ok (l : List PE) (hl : okLs l) (ts : List Tup) (ht : okTups ts) (h : (kgo l ts 0 []).2 = 0) : okK (kgo l ts 0 []).1 = true ∧ okN (kgo l ts 0 []).1 = true ∧ ∀ p ∈ (kgo l ts 0 []).1, wfR p.f1 = true ∧ p.f1.length ≤ 1000 ∧ 0 ≤ p.f0 ∧ p.f0 < (ts.length : Int) := by
 have e := kgo_list l ts 0 [] h
 rw [List.nil_append] at e
 have each : ∀ p ∈ (kgo l ts 0 []).1, wfR p.f1 = true ∧ p.f1.length ≤ 1000 ∧ 0 ≤ p.f0 ∧ p.f0 < (ts.length : Int) := by
  intro p hp
  rw [e] at hp
  obtain ⟨k, t, hk, e0, e1⟩ := kgo_mem l hp
  have hm := List.mem_of_getElem? hk
  have hkl := (List.getElem?_eq_some_iff.1 hk).1
  have hw := keysP_wf (ht.2 t hm).1 hl
  exact ⟨by rw [e1]; exact hw.1, by rw [e1]; exact hw.2, by omega, by omega⟩
 have hlen : (kgo l ts 0 []).1.length ≤ ts.length := by
  rw [e]
  have : ∀ (ts : List Tup) (i : Nat), ((ts.zipIdx i).flatMap (fun x => kAt l x.1 x.2)).length ≤ ts.length := by
   intro ts
   induction ts with
   | nil => intro i; simp
   | cons t ts ih =>
    intro i
    rw [List.zipIdx_cons, List.flatMap_cons, List.length_append, List.length_cons]
    have h1 : (kAt l t i).length ≤ 1 := by unfold kAt; split <;> simp
    show (kAt l t i).length + _ ≤ _
    have h2 := ih (i + 1)
    omega
  exact this ts 0
 refine ⟨?_, ?_, each⟩
 ·unfold okK
  simp only [Bool.and_eq_true, decide_eq_true_eq, List.all_eq_true]
  exact ⟨by rw [e]; exact kgo_up l ts 0, fun p hp => (each p hp).1, by have := ht.1; omega⟩
 ·unfold okN
  refine List.all_eq_true.2 (fun p hp => ?_)
  obtain ⟨h1, h2, h3, h4⟩ := each p hp
  obtain ⟨n1, n2⟩ := nm_some h1 h2
  have hb : (encR p.f1).length ≤ 100000 := by
   unfold encR
   have hu := encU_length 9 p.f1.length (Nat.lt_of_le_of_lt h2 (by decide))
   have hf : ∀ l : List PV, wfR l = true → (l.flatMap (fun v => encP (plainV (vOf v)))).length ≤ l.length * 80 := by
    intro l
    induction l with
    | nil => intro _; simp
    | cons a l ih =>
     intro hw
     simp only [wfR, List.all_cons, Bool.and_eq_true] at hw
     rw [List.flatMap_cons, List.length_append, List.length_cons]
     have q1 := encP_length (plain_canon (of_decide_eq_true hw.1 : (vOf a).wf))
     have q2 := ih hw.2
     omega
   have := hf p.f1 h1
   rw [List.length_append]
   omega
  simp only [Bool.and_eq_true, decide_eq_true_eq]
  refine ⟨by rw [n1]; rfl, by rw [n2, strOfNums_size]; unfold maxLen; omega, WalkArith.wf_i64 ?_⟩
  have := ht.1
  omega
def kerr (l : List PE) : List Tup → Int
 | [] => 0
 | t :: ts => if (keysP l t).2.2 ≠ 0 then (keysP l t).2.2 else kerr l ts
theorem kgo_err (l : List PE) : ∀ (ts : List Tup) (i : Nat) (acc : List PK), (kgo l ts i acc).2 = kerr l ts
 | [], i, acc => rfl
 | t :: ts, i, acc => by
  rw [kgo, kerr]
  split
  ·rfl
  ·exact kgo_err l ts _ _
theorem kgo_length (l : List PE) (ts : List Tup) (h : (kgo l ts 0 []).2 = 0) : (kgo l ts 0 []).1.length ≤ ts.length := by
 rw [kgo_list l ts 0 [] h, List.nil_append]
 have : ∀ (ts : List Tup) (i : Nat), ((ts.zipIdx i).flatMap (fun x => kAt l x.1 x.2)).length ≤ ts.length := by
  intro ts
  induction ts with
  | nil => intro i; simp
  | cons t ts ih =>
   intro i
   rw [List.zipIdx_cons, List.flatMap_cons, List.length_append, List.length_cons]
   have h1 : (kAt l t i).length ≤ 1 := by unfold kAt; split <;> simp
   have h2 := ih (i + 1)
   show (kAt l t i).length + _ ≤ _
   omega
 exact this ts 0
theorem both_f (a b : List Tup) (l2 l3 : List PE) (ha : okTups a) (hb : okTups b) (h2 : okLs l2) (h3 : okLs l3) (K : Nat) (hK : 5000 ≤ K) : joins_both.f K a b l2 l3 = some (if l2.length ≠ l3.length ∨ l2.length = 0 then ([], [], 2) else if kerr l2 a ≠ 0 then ([], [], kerr l2 a) else if kerr l3 b ≠ 0 then ([], [], kerr l3 b) else ((kgo l2 a 0 []).1, (kgo l3 b 0 []).1, 0)) := by
 obtain ⟨K, rfl⟩ : ∃ K', K = K' + 1 := ⟨K - 1, by omega⟩
 unfold joins_both.f
 by_cases e1 : l2.length = l3.length
 ·rw [if_pos (by omega), joins_both.j0]
  by_cases e2 : l2.length = 0
  ·rw [if_pos (show ((l2.length : Int) == 0) = true by simp [e2]), if_pos (Or.inr e2)]
  ·rw [if_neg (show ¬ ((l2.length : Int) == 0) = true from fun h => e2 (by rw [beq_iff_eq] at h; omega)), if_neg (show ¬ (l2.length ≠ l3.length ∨ l2.length = 0) by omega), keyedAll_f K l2 a h2 ha (by omega), Option.bind_some, kgo_err]
   by_cases e3 : kerr l2 a = 0
   ·rw [if_pos e3, if_neg (show ¬ kerr l2 a ≠ 0 from fun h => h e3), keyedAll_f K l3 b h3 hb (by omega), Option.bind_some, kgo_err]
    by_cases e4 : kerr l3 b = 0
    ·rw [if_pos e4, if_neg (show ¬ kerr l3 b ≠ 0 from fun h => h e4)]
    ·rw [if_neg e4, if_pos (show kerr l3 b ≠ 0 from e4)]
   ·rw [if_neg e3, if_pos (show kerr l2 a ≠ 0 from e3)]
 ·rw [if_neg (by omega), joins_both.j0, if_pos rfl, if_pos (Or.inl e1)]
def keyedR (a b : List Tup) (l2 l3 l4 : List PE) : List Tup × Int := if l2.length ≠ l3.length ∨ l2.length = 0 then ([], 2) else if kerr l2 a ≠ 0 then ([], kerr l2 a) else if kerr l3 b ≠ 0 then ([], kerr l3 b) else toldGo a b l4 (pairsOf (kgo l2 a 0 []).1 (kgo l3 b 0 []).1) []
theorem hash_pairs {xs ys : List PK} (hx : ∀ p ∈ xs, wfR p.f1 = true ∧ p.f1.length ≤ 1000) (hy : ∀ p ∈ ys, wfR p.f1 = true ∧ p.f1.length ≤ 1000) : hashPairs xs ys = pairsOf xs ys := by
 unfold hashPairs pairsOf
 rw [List.flatMap_def, List.flatMap_def]
 congr 1
 refine List.map_congr_left (fun p hp => ?_)
 unfold nmeet meetOf
 congr 1
 refine List.filter_congr (fun q hq => ?_)
 have := nm_one (hx p hp).1 (hy q hq).1 (hx p hp).2 (hy q hq).2
 by_cases e : kc p q = 0
 ·rw [decide_eq_true (this.2 e), e]; rfl
 ·rw [decide_eq_false (fun h => e (this.1 h))]; simp [e]
theorem pairs_in (a b : List Tup) {xs ys : List PK} (hx : ∀ p ∈ xs, 0 ≤ p.f0 ∧ p.f0 < (a.length : Int)) (hy : ∀ p ∈ ys, 0 ≤ p.f0 ∧ p.f0 < (b.length : Int)) : ∀ p ∈ pairsOf xs ys, inAB a b p := by
 intro p hp
 unfold pairsOf at hp
 obtain ⟨x, hxm, hp⟩ := List.mem_flatMap.1 hp
 unfold meetOf at hp
 obtain ⟨y, hym, rfl⟩ := List.mem_map.1 hp
 have h1 := hx x hxm
 have h2 := hy y (List.mem_filter.1 hym).1
 exact ⟨h1.1, h1.2, h2.1, h2.2⟩
theorem keyed_both (a b : List Tup) (l2 l3 l4 : List PE) (ha : okTups a) (hb : okTups b) (h2 : okLs l2) (h3 : okLs l3) (h4 : okLs l4) (na : a.length ≤ 30) (nb : b.length ≤ 30) : keyedF a b l2 l3 l4 = some (keyedR a b l2 l3 l4) ∧ hashF a b l2 l3 l4 = some (keyedR a b l2 l3 l4) := by
 unfold keyedF hashF keyedR
 rw [both_f a b l2 l3 ha hb h2 h3 KF (by unfold KF; omega), Option.bind_some, Option.bind_some]
 by_cases e1 : l2.length ≠ l3.length ∨ l2.length = 0
 ·rw [if_pos e1, if_pos e1]
  exact ⟨rfl, rfl⟩
 ·rw [if_neg e1, if_neg e1]
  by_cases e2 : kerr l2 a ≠ 0
  ·rw [if_pos e2, if_pos e2]
   simp only
   rw [if_neg e2, if_neg e2]
   exact ⟨rfl, rfl⟩
  ·rw [if_neg e2, if_neg e2]
   by_cases e3 : kerr l3 b ≠ 0
   ·rw [if_pos e3, if_pos e3]
    simp only
    rw [if_neg e3, if_neg e3]
    exact ⟨rfl, rfl⟩
   ·rw [if_neg e3, if_neg e3]
    simp only
    have z2 : (kgo l2 a 0 []).2 = 0 := by rw [kgo_err]; simpa using e2
    have z3 : (kgo l3 b 0 []).2 = 0 := by rw [kgo_err]; simpa using e3
    obtain ⟨o1, o2, o3⟩ := kgo_ok l2 h2 a ha z2
    obtain ⟨o4, o5, o6⟩ := kgo_ok l3 h3 b hb z3
    have hin := pairs_in a b (fun p hp => ⟨(o3 p hp).2.2.1, (o3 p hp).2.2.2⟩) (fun p hp => ⟨(o6 p hp).2.2.1, (o6 p hp).2.2.2⟩)
    have hlen : (pairsOf (kgo l2 a 0 []).1 (kgo l3 b 0 []).1).length ≤ 30 * 30 :=
     Nat.le_trans (pairs_length _ _) (Nat.mul_le_mul (Nat.le_trans (kgo_length l2 a z2) na) (Nat.le_trans (kgo_length l3 b z3) nb))
    have ht := told_f a b l4 ha hb h4 _ hin KF (by unfold KF; omega) (by unfold KF; omega)
    rw [o1, o2, o4, o5, hash_pairs (fun p hp => ⟨(o3 p hp).1, (o3 p hp).2.1⟩) (fun p hp => ⟨(o6 p hp).1, (o6 p hp).2.1⟩)]
    exact ⟨ht, ht⟩
end Go.Proofs.YtgmolmpfihkolaaGreat
namespace Go.Proofs.YtgmolmpfihkolaaGreat.Pj
open Go.RowKit Go.Proofs.YtgmolmpfihkolaaGreatW.PrintWords Go.Proofs.YtgmolmpfihkolaaGreatW.PrintLast Go.Proofs.YtgmolmpfihkolaaGreatW.PrintMore
attribute [local go_sem] run_store_flt max2_int min2_int max_two min_two max_three min_three max_four min_four
set_option linter.unusedVariables false
set_option linter.unusedSimpArgs false
mutual
def r22_Bulk.l0 : Nat → List (S53) → Int → Int → Int → Option (Int)
 | 0, _, _, _, _ => none
 | k + 1, x0, x1, x5, x6 => if x6 < (x0.length : Int) then (r22_Bulk.j1 k x0 x1 x5 x6 (decide (x5 ≤ x1))) else (r22_Bulk.j1 k x0 x1 x5 x6 false)
def r22_Bulk.j1 : Nat → List (S53) → Int → Int → Int → Bool → Option (Int)
 | 0, _, _, _, _, _ => none
 | k + 1, x0, x1, x5, x6, x23 => if x23 = true then (if 0 ≤ x6 then (if x6 < (x0.length : Int) then (if (((rd_T53 x0 x6).f3.f3).size : Int) > x1 then (some (wrap64 (x1 + 1))) else (if (wrap64 (x5 + (((rd_T53 x0 x6).f3.f3).size : Int))) ≤ x1 then ((r22_Bulk.f k ((rd_T53 x0 x6).f4) (wrap64 (x1 - (wrap64 (x5 + (((rd_T53 x0 x6).f3.f3).size : Int)))))).bind fun t104 => (r22_Bulk.l0 k x0 x1 (wrap64 ((wrap64 (x5 + (((rd_T53 x0 x6).f3.f3).size : Int))) + t104)) (wrap64 (x6 + 1)))) else (r22_Bulk.l0 k x0 x1 (wrap64 (x5 + (((rd_T53 x0 x6).f3.f3).size : Int))) (wrap64 (x6 + 1))))) else (none)) else (none)) else (some x5)
def r22_Bulk.f : Nat → List (S53) → Int → Option (Int)
 | 0, _, _ => none
 | k + 1, l0, a1 => if (l0.length : Int) > a1 then (some (wrap64 (a1 + 1))) else (r22_Bulk.l0 k l0 a1 (l0.length : Int) 0)
end
set_option maxHeartbeats 8000000 in
set_option maxRecDepth 100000 in
theorem r22_Bulk.calls (k : Nat) : ∀ (A0 : Option Addr) (c0 : Nat) (l0 : List (S53)) (a1 : Int) (r : Int) (w : World) (hr0 : Kd.C k53 w A0 l0.length l0) (hc0 : l0.length ≤ c0) (h : r22_Bulk.f k l0 a1 = some r),
 Calls Tryz.prog 28 #[.slice A0 l0.length c0, .int .i64 a1] w fun e w' => e = .returned (.int .i64 r) ∧ Drawn0 w w' := by
 induction k using Nat.strongRecOn with
 | _ k ih =>
 intro A0 c0 l0 a1 r w hr0 hc0 h
 cases k with
 | zero => exact absurd h (by simp [r22_Bulk.f])
 | succ k =>
 simp only [r22_Bulk.f] at h
 have HR0 := akk hr0
 have HC0 := akk hc0
 clear hr0 hc0
 have H : (if (l0.length : Int) > a1 then (some (wrap64 (a1 + 1))) else (r22_Bulk.l0 k l0 a1 (l0.length : Int) 0)) = some r := h
 clear h
 by_cases c3 : (l0.length : Int) > a1
 ·rw [if_pos c3] at H
  have c3b0 := decide_eq_true c3
  clear c3
  obtain rfl := Option.some.inj H
  go_enter Tryz.func28, Tryz.ntmps28
  go_wp2
  go_ret
  exact ⟨by first | rfl | (simp; done) | (simp [*]; done), by repeat (first | exact Drawn0.refl _ | apply Drawn0.step)⟩
 ·rw [if_neg c3] at H
  have c3b0 := decide_eq_false c3
  clear c3
  have H' := akk H
  clear H
  go_enter Tryz.func28, Tryz.ntmps28
  go_wp2
  go_loopg [5, 6] k (fun kq v5 v6 w' => ∃ (x5_1 : Int) (x6_1 : Int), v5 = .int .i64 x5_1 ∧ v6 = .int .i64 x6_1 ∧ Aside0 (r22_Bulk.l0 kq l0 a1 x5_1 x6_1 = some r) ∧ Aside0 (kq ≤ k) ∧ Drawn0 w w')
  case atStart => exact ⟨((l0.length : Int)), (0), eT, eT, H', ⟨Nat.le_refl _⟩, by repeat (first | exact Drawn0.refl _ | apply Drawn0.step)⟩
  case round =>
   clear H'
   try clear c3b0
   obtain ⟨x5_1, x6_1, rfl, rfl, HA, HK1, ⟨m1, rfl⟩⟩ := hrel
   cases gk with
   | zero => exact absurd HA.out (by simp [r22_Bulk.l0])
   | succ k1 =>
    have H := HA.out
    clear HA
    simp only [r22_Bulk.l0] at H
    have HC4 := akk H
    clear H
    go_upto_region 5 with (fail)
    go_cut [23] (fun v23 wc => ∃ (kq : Nat) (x23_3 : Bool), v23 = .bool x23_3 ∧ Aside0 (r22_Bulk.j1 kq l0 a1 x5_1 x6_1 x23_3 = some r) ∧ Aside0 (kq ≤ k1) ∧ Drawn0 w wc)
    case first =>
     have H := HC4.out
     clear HC4
     by_cases c5 : x6_1 < (l0.length : Int)
     ·rw [if_pos c5] at H
      have c5b0 := decide_eq_true c5
      clear c5
      (first | rw [c5b0] | (simp only [i64_w, i32_w]; rw [c5b0]) | skip)
      have H' := akk H
      clear H
      go_wp2
      go_meet
      case rel => exact ⟨_, (decide (x5_1 ≤ a1)), eT, H', ⟨by have := HK1.out; first | omega | exact Nat.le_refl _⟩, by repeat (first | exact Drawn0.refl _ | apply Drawn0.step)⟩
     ·rw [if_neg c5] at H
      have c5b0 := decide_eq_false c5
      clear c5
      (first | rw [c5b0] | (simp only [i64_w, i32_w]; rw [c5b0]) | skip)
      have H' := akk H
      clear H
      go_wp2
      go_meet
      case rel => exact ⟨_, (false), eT, H', ⟨by have := HK1.out; first | omega | exact Nat.le_refl _⟩, by repeat (first | exact Drawn0.refl _ | apply Drawn0.step)⟩
    case rest =>
     clear HC4
     obtain ⟨kq, x23_3, rfl, HA, HJ3, ⟨mc3, rfl⟩⟩ := hcut
     cases kq with
     | zero => exact absurd HA.out (by simp [r22_Bulk.j1])
     | succ kj3 =>
      have H := HA.out
      clear HA
      simp only [r22_Bulk.j1] at H
      by_cases c6 : x23_3 = true
      ·subst c6
       rw [if_pos rfl] at H
       by_cases c7 : 0 ≤ x6_1
       ·rw [if_pos c7] at H
        have c7b0 := decide_eq_true c7
        clear c7
        by_cases c8 : x6_1 < (l0.length : Int)
        ·rw [if_pos c8] at H
         have c8b0 := decide_eq_true c8
         clear c8
         by_cases c9 : (((rd_T53 l0 x6_1).f3.f3).size : Int) > a1
         ·rw [if_pos c9] at H
          have c9b0 := decide_eq_true c9
          clear c9
          obtain rfl := Option.some.inj H
          have p101 : 0 ≤ (x6_1 : Int) := of_decide_eq_true aT
          have q101 : x6_1 < (l0.length : Int) := of_decide_eq_true aT
          obtain ⟨ad101, A101_7, c101_7, e101, hx101_0, hx101_1, hx101_2, hx101_3, hx101_4, hx101_5, hx101_6, hx101_7, hl101_7, hi101_7⟩ := at_T53 HR0.out x6_1 p101 q101
          cases e101
          have HR101_7 := akk hi101_7
          have HC101_7 := akk hl101_7
          clear hi101_7 hl101_7
          replace p101 := eq_true p101
          replace q101 := eq_true q101
          go_wp2
          go_ret
          exact ⟨by first | rfl | (simp; done) | (simp [*]; done), by repeat (first | exact Drawn0.refl _ | apply Drawn0.step)⟩
         ·rw [if_neg c9] at H
          have c9b0 := decide_eq_false c9
          clear c9
          by_cases c10 : (wrap64 (x5_1 + (((rd_T53 l0 x6_1).f3.f3).size : Int))) ≤ a1
          ·rw [if_pos c10] at H
           have c10b0 := decide_eq_true c10
           clear c10
           obtain ⟨t104, A11, H⟩ := bi H
           try dsimp only at H
           have H' := akk H
           clear H
           have p101 : 0 ≤ (x6_1 : Int) := of_decide_eq_true aT
           have q101 : x6_1 < (l0.length : Int) := of_decide_eq_true aT
           obtain ⟨ad101, A101_7, c101_7, e101, hx101_0, hx101_1, hx101_2, hx101_3, hx101_4, hx101_5, hx101_6, hx101_7, hl101_7, hi101_7⟩ := at_T53 HR0.out x6_1 p101 q101
           cases e101
           have HR101_7 := akk hi101_7
           have HC101_7 := akk hl101_7
           clear hi101_7 hl101_7
           replace p101 := eq_true p101
           replace q101 := eq_true q101
           have p102 : 0 ≤ (x6_1 : Int) := of_decide_eq_true aT
           have q102 : x6_1 < (l0.length : Int) := of_decide_eq_true aT
           obtain ⟨ad102, A102_7, c102_7, e102, hx102_0, hx102_1, hx102_2, hx102_3, hx102_4, hx102_5, hx102_6, hx102_7, hl102_7, hi102_7⟩ := at_T53 HR0.out x6_1 p102 q102
           obtain rfl : ad101 = ad102 := (by injection e102)
           have HR102_7 := akk hi102_7
           have HC102_7 := akk hl102_7
           clear hi102_7 hl102_7
           replace p102 := eq_true p102
           replace q102 := eq_true q102
           have ea_ := Option.some.inj (hx101_7.symm.trans hx102_7)
           injection ea_ with ea_ en_ ec_
           subst ea_
           subst ec_
           clear en_
           have p103 : 0 ≤ (x6_1 : Int) := of_decide_eq_true aT
           have q103 : x6_1 < (l0.length : Int) := of_decide_eq_true aT
           obtain ⟨ad103, A103_7, c103_7, e103, hx103_0, hx103_1, hx103_2, hx103_3, hx103_4, hx103_5, hx103_6, hx103_7, hl103_7, hi103_7⟩ := at_T53 HR0.out x6_1 p103 q103
           obtain rfl : ad101 = ad103 := (by injection e103)
           have HR103_7 := akk hi103_7
           have HC103_7 := akk hl103_7
           clear hi103_7 hl103_7
           replace p103 := eq_true p103
           replace q103 := eq_true q103
           have ea_ := Option.some.inj (hx101_7.symm.trans hx103_7)
           injection ea_ with ea_ en_ ec_
           subst ea_
           subst ec_
           clear en_
           go_wp2_with (refine gT 28 (some 58) Tryz.func28 #[.slice A101_7 ((rd_T53 l0 x6_1).f4).length c101_7, .int .i64 (wrap64 (a1 - (wrap64 (x5_1 + (((rd_T53 l0 x6_1).f3.f3).size : Int)))))] ?_; (with_reducible refine (ih kj3 (by have := HK1.out; have := HJ3.out; omega) _ _ ((rd_T53 l0 x6_1).f4) (wrap64 (a1 - (wrap64 (x5_1 + (((rd_T53 l0 x6_1).f3.f3).size : Int))))) t104 _ ?_ ?_ A11.out).mono ?_); exact cV HR103_7.out; exact HC103_7.out; rintro e w' ⟨rfl, ⟨nd, rfl⟩⟩; refine ⟨_, rfl, ?_⟩)
           go_roundg kj3
           case measure => have := HK1.out; have := HJ3.out; omega
           case rel => exact ⟨(wrap64 ((wrap64 (x5_1 + (((rd_T53 l0 x6_1).f3.f3).size : Int))) + t104)), (wrap64 (x6_1 + 1)), eT, eT, H', ⟨by have := HK1.out; have := HJ3.out; omega⟩, by repeat (first | exact Drawn0.refl _ | apply Drawn0.step)⟩
          ·rw [if_neg c10] at H
           have c10b0 := decide_eq_false c10
           clear c10
           have H' := akk H
           clear H
           have p101 : 0 ≤ (x6_1 : Int) := of_decide_eq_true aT
           have q101 : x6_1 < (l0.length : Int) := of_decide_eq_true aT
           obtain ⟨ad101, A101_7, c101_7, e101, hx101_0, hx101_1, hx101_2, hx101_3, hx101_4, hx101_5, hx101_6, hx101_7, hl101_7, hi101_7⟩ := at_T53 HR0.out x6_1 p101 q101
           cases e101
           have HR101_7 := akk hi101_7
           have HC101_7 := akk hl101_7
           clear hi101_7 hl101_7
           replace p101 := eq_true p101
           replace q101 := eq_true q101
           have p102 : 0 ≤ (x6_1 : Int) := of_decide_eq_true aT
           have q102 : x6_1 < (l0.length : Int) := of_decide_eq_true aT
           obtain ⟨ad102, A102_7, c102_7, e102, hx102_0, hx102_1, hx102_2, hx102_3, hx102_4, hx102_5, hx102_6, hx102_7, hl102_7, hi102_7⟩ := at_T53 HR0.out x6_1 p102 q102
           obtain rfl : ad101 = ad102 := (by injection e102)
           have HR102_7 := akk hi102_7
           have HC102_7 := akk hl102_7
           clear hi102_7 hl102_7
           replace p102 := eq_true p102
           replace q102 := eq_true q102
           have ea_ := Option.some.inj (hx101_7.symm.trans hx102_7)
           injection ea_ with ea_ en_ ec_
           subst ea_
           subst ec_
           clear en_
           go_wp2
           go_roundg kj3
           case measure => have := HK1.out; have := HJ3.out; omega
           case rel => exact ⟨(wrap64 (x5_1 + (((rd_T53 l0 x6_1).f3.f3).size : Int))), (wrap64 (x6_1 + 1)), eT, eT, H', ⟨by have := HK1.out; have := HJ3.out; omega⟩, by repeat (first | exact Drawn0.refl _ | apply Drawn0.step)⟩
        ·rw [if_neg c8] at H
         exact absurd H (by simp)
       ·rw [if_neg c7] at H
        exact absurd H (by simp)
      ·replace c6 := Bool.eq_false_iff.mpr c6
       subst c6
       rw [if_neg (show ¬ (false = true) by decide)] at H
       obtain rfl := Option.some.inj H
       go_wp2
       go_ret
       exact ⟨by first | rfl | (simp; done) | (simp [*]; done), by repeat (first | exact Drawn0.refl _ | apply Drawn0.step)⟩
end Go.Proofs.YtgmolmpfihkolaaGreat.Pj
