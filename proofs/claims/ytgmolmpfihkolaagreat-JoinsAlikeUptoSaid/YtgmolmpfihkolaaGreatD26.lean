/- Part of the proof. -/
import Derived.Test.YtgmolmpfihkolaaGreatD25
namespace Go.Proofs.YtgmolmpfihkolaaGreat.Pj
open Go.RowKit Go.Proofs.YtgmolmpfihkolaaGreatW.PrintWords Go.Proofs.YtgmolmpfihkolaaGreatW.PrintLast Go.Proofs.YtgmolmpfihkolaaGreatW.PrintMore
attribute [local go_sem] run_store_flt max2_int min2_int max_two min_two max_three min_three max_four min_four
set_option linter.unusedVariables false
set_option linter.unusedSimpArgs false
def r05_Lists.l0 : Nat → T2 → T2 → Int → Option (Bool)
 | 0, _, _, _ => none
 | k + 1, x0, x1, x5 => if x5 < (x0.length : Int) then (if 0 ≤ x5 then (if x5 < (x1.length : Int) then ((r05_Exact.f k (rd_L5 x0 x5) (rd_L5 x1 x5)).bind fun t231 => (if t231 = true then (r05_Lists.l0 k x0 x1 (wrap64 (x5 + 1))) else (some false))) else (none)) else (none)) else (some true)
def r05_Lists.f (k : Nat) (l0 : T2) (l1 : T2) : Option (Bool) := if (l0.length : Int) = (l1.length : Int) then (r05_Lists.l0 k l0 l1 0) else (some false)
def r05_Lists.T6 : Bool × List (List Nat × List Nat) := (true, [([], []), ([], []), ([0, 1], [0, 1]), ([2], [2]), ([], []), ([], []), ([4, 5], [4, 5]), ([6], [6]), ([3, 7], [3, 7]), ([8], [8])])
def r05_Lists.B6 : List Nat := [0, 0, 3, 7, 0, 0, 48, 112, 255, 511]
theorem r05_Lists.tab6 : rtab .any (opsOf Tryz.f10 6) = r05_Lists.T6 := by kernel_rfl
theorem r05_Lists.bits6 : waitsOk r05_Lists.T6.2 r05_Lists.B6 = true := by kernel_rfl
set_option maxHeartbeats 8000000 in
set_option maxRecDepth 100000 in
theorem r05_Lists.calls (k : Nat) (A0 : Option Addr) (c0 : Nat) (l0 : T2) (A1 : Option Addr) (c1 : Nat) (l1 : T2) (r : Bool) (w : World) (hr0 : Kd.C (Kd.slice 39 k39) w A0 l0.length l0) (hc0 : l0.length ≤ c0) (hr1 : Kd.C (Kd.slice 39 k39) w A1 l1.length l1) (hc1 : l1.length ≤ c1) (h : r05_Lists.f k l0 l1 = some r) :
 Calls Tryz.prog 10 #[.slice A0 l0.length c0, .slice A1 l1.length c1] w fun e w' => e = .returned (.bool r) ∧ Below w.heap.size w w' := by
 have HR0 := akk hr0
 have HC0 := akk hc0
 clear hr0 hc0
 have HR1 := akk hr1
 have HC1 := akk hc1
 clear hr1 hc1
 have HB := akk (Below.refl w.heap.size w)
 have H : (if (l0.length : Int) = (l1.length : Int) then (r05_Lists.l0 k l0 l1 0) else (some false)) = some r := h
 clear h
 by_cases c3 : (l0.length : Int) = (l1.length : Int)
 ·rw [if_pos c3] at H
  have c3b0 : ((l0.length : Int) == (l1.length : Int)) = true := beq_iff_eq.mpr c3
  have c3b1 : ((l0.length : Int) != (l1.length : Int)) = false := bne_eq_false_iff_eq.mpr c3
  have c3b2 : (l0.length == l1.length) = true := by first | simpa using c3 | (simp at c3 ⊢; omega)
  clear c3
  have H' := akk H
  clear H
  go_enter Tryz.func10, Tryz.ntmps10
  go_wp2
  go_loopg [5] k (fun kq v5 w' => ∃ (x5_1 : Int), v5 = .int .i64 x5_1 ∧ Aside0 (r05_Lists.l0 kq l0 l1 x5_1 = some r) ∧ Aside0 (kq ≤ k) ∧ Aside0 (Below w.heap.size w w'))
  case atStart => exact ⟨(0), eT, H', ⟨Nat.le_refl _⟩, ⟨bT⟩⟩
  case round =>
   clear H'
   try clear c3b0
   try clear c3b1
   try clear c3b2
   obtain ⟨x5_1, rfl, HA, HK1, HB⟩ := hrel
   cases gk with
   | zero => exact absurd HA.out (by simp [r05_Lists.l0])
   | succ k1 =>
    have H := HA.out
    clear HA
    simp only [r05_Lists.l0] at H
    by_cases c4 : x5_1 < (l0.length : Int)
    ·rw [if_pos c4] at H
     have c4b0 := decide_eq_true c4
     clear c4
     by_cases c5 : 0 ≤ x5_1
     ·rw [if_pos c5] at H
      have c5b0 := decide_eq_true c5
      clear c5
      by_cases c6 : x5_1 < (l1.length : Int)
      ·rw [if_pos c6] at H
       have c6b0 := decide_eq_true c6
       clear c6
       obtain ⟨t231, A7, H⟩ := bi H
       try dsimp only at H
       by_cases c8 : t231 = true
       ·subst c8
        rw [if_pos rfl] at H
        have H' := akk H
        clear H
        try go_wp2
        replace HB := akk (below_drew1 HB.out)
        obtain ⟨ad229, A229_0, c229_0, e229, hx229_0, HR229_0, HC229_0, p229, q229⟩ := gC5 HR0 x5_1
        have hw229_0 := hx229_0
        cases e229
        replace hx229_0 := hxT HB.out hx229_0
        obtain ⟨ad230, A230_0, c230_0, e230, hx230_0, HR230_0, HC230_0, p230, q230⟩ := gC5 HR1 x5_1
        have hw230_0 := hx230_0
        cases e230
        replace hx230_0 := hxT HB.out hx230_0
        refine start_ (n := 10) (S := fun w' => w'.cell? (ad229.add (x5_1).toNat) = some (.slice A229_0 (rd_L5 l0 x5_1).length c229_0) ∧ w'.cell? (ad230.add (x5_1).toNat) = some (.slice A230_0 (rd_L5 l1 x5_1).length c230_0)) (ds := []) #[false, false, false, false, false, false, false, false, false, false] (by kernel_rfl) rfl rfl ⟨((HB.out.cell (World.block_lt_of_cell? w _ hw229_0)).trans hw229_0), ((HB.out.cell (World.block_lt_of_cell? w _ hw230_0)).trans hw230_0)⟩ (fun hHeld => ?_); refine with_tabW r05_Lists.tab6 r05_Lists.bits6 (fun HT_ HW_ => ?_)
        generalize wr.drew = w9 at HB HR229_0 HR230_0 hx229_0 hx230_0 hHeld ⊢
        refine pT 0 17 (bm 10 1) ?_
        refine pT 1 18 (bm 10 3) ?_
        refine pT 2 19 (bm 10 7) ?_
        refine pT 4 21 (bm 10 23) ?_
        refine pT 5 22 (bm 10 55) ?_
        refine pT 6 23 (bm 10 119) ?_
        refine tT2 3 20 (bm 10 127) hHeld ?_
        refine tT2 7 24 (bm 10 255) hHeld ?_
        refine one_ (i := 8) (N := some 25) #[true, true, true, true, true, true, true, true, true, false] rfl rfl (one_of HT_.out (by kernel_rfl)) (by decide) (fun K hK => ?_)
        refine goes_ Tryz.func14 (by kernel_rfl) rfl #[.slice A229_0 (rd_L5 l0 x5_1).length c229_0, .slice A230_0 (rd_L5 l1 x5_1).length c230_0] (by rfl) rfl rfl mT ?_
        with_reducible refine (r05_Exact.calls k1 _ _ (rd_L5 l0 x5_1) _ _ (rd_L5 l1 x5_1) true _ ?side1 ?side2 ?side3 ?side4 A7.out).mono ?_
        (case side1 => exact cT HR229_0.out)
        (case side2 => exact HC229_0.out)
        (case side3 => exact cT HR230_0.out)
        (case side4 => exact HC230_0.out)
        rintro e w10 ⟨rfl, hb⟩
        refine ⟨_, rfl, ?_⟩
        replace HB := bb HB hb
        (try clear hb)
        (try clear hb2)
        (try clear hk)
        (try clear hi)
        refine hK.out _ _ ⟨((HB.out.cell (World.block_lt_of_cell? w _ hw229_0)).trans hw229_0), ((HB.out.cell (World.block_lt_of_cell? w _ hw230_0)).trans hw230_0)⟩ (fun hHeld => ?_)
        clear hK K
        refine norm_ (a' := ?_) ?_ ?_
        rotate_left
        ·show Act.put _ (some 25) _ = _
         simp only [Act.put, List.setIfInBounds_toArray, List.set_cons_zero, List.set_cons_succ, i64_w, i32_w]
         rfl
        refine pT 9 26 (bm 10 1023) ?_
        refine done_ (done_of HT_.out (by kernel_rfl)) ?_
        try go_wp2
        go_roundg k1
        case measure => have := HK1.out; omega
        case rel => exact ⟨(wrap64 (x5_1 + 1)), eT, H', ⟨by have := HK1.out; omega⟩, ⟨bT⟩⟩
       ·replace c8 := Bool.eq_false_iff.mpr c8
        subst c8
        rw [if_neg (show ¬ (false = true) by decide)] at H
        obtain rfl := Option.some.inj H
        try go_wp2
        replace HB := akk (below_drew1 HB.out)
        obtain ⟨ad229, A229_0, c229_0, e229, hx229_0, HR229_0, HC229_0, p229, q229⟩ := gC5 HR0 x5_1
        have hw229_0 := hx229_0
        cases e229
        replace hx229_0 := hxT HB.out hx229_0
        obtain ⟨ad230, A230_0, c230_0, e230, hx230_0, HR230_0, HC230_0, p230, q230⟩ := gC5 HR1 x5_1
        have hw230_0 := hx230_0
        cases e230
        replace hx230_0 := hxT HB.out hx230_0
        refine start_ (n := 10) (S := fun w' => w'.cell? (ad229.add (x5_1).toNat) = some (.slice A229_0 (rd_L5 l0 x5_1).length c229_0) ∧ w'.cell? (ad230.add (x5_1).toNat) = some (.slice A230_0 (rd_L5 l1 x5_1).length c230_0)) (ds := []) #[false, false, false, false, false, false, false, false, false, false] (by kernel_rfl) rfl rfl ⟨((HB.out.cell (World.block_lt_of_cell? w _ hw229_0)).trans hw229_0), ((HB.out.cell (World.block_lt_of_cell? w _ hw230_0)).trans hw230_0)⟩ (fun hHeld => ?_); refine with_tabW r05_Lists.tab6 r05_Lists.bits6 (fun HT_ HW_ => ?_)
        generalize wr.drew = w11 at HB HR229_0 HR230_0 hx229_0 hx230_0 hHeld ⊢
        refine pT 0 17 (bm 10 1) ?_
        refine pT 1 18 (bm 10 3) ?_
        refine pT 2 19 (bm 10 7) ?_
        refine pT 4 21 (bm 10 23) ?_
        refine pT 5 22 (bm 10 55) ?_
        refine pT 6 23 (bm 10 119) ?_
        refine tT2 3 20 (bm 10 127) hHeld ?_
        refine tT2 7 24 (bm 10 255) hHeld ?_
        refine one_ (i := 8) (N := some 25) #[true, true, true, true, true, true, true, true, true, false] rfl rfl (one_of HT_.out (by kernel_rfl)) (by decide) (fun K hK => ?_)
        refine goes_ Tryz.func14 (by kernel_rfl) rfl #[.slice A229_0 (rd_L5 l0 x5_1).length c229_0, .slice A230_0 (rd_L5 l1 x5_1).length c230_0] (by rfl) rfl rfl mT ?_
        with_reducible refine (r05_Exact.calls k1 _ _ (rd_L5 l0 x5_1) _ _ (rd_L5 l1 x5_1) false _ ?side1 ?side2 ?side3 ?side4 A7.out).mono ?_
        (case side1 => exact cT HR229_0.out)
        (case side2 => exact HC229_0.out)
        (case side3 => exact cT HR230_0.out)
        (case side4 => exact HC230_0.out)
        rintro e w12 ⟨rfl, hb⟩
        refine ⟨_, rfl, ?_⟩
        replace HB := bb HB hb
        (try clear hb)
        (try clear hb2)
        (try clear hk)
        (try clear hi)
        refine hK.out _ _ ⟨((HB.out.cell (World.block_lt_of_cell? w _ hw229_0)).trans hw229_0), ((HB.out.cell (World.block_lt_of_cell? w _ hw230_0)).trans hw230_0)⟩ (fun hHeld => ?_)
        clear hK K
        refine norm_ (a' := ?_) ?_ ?_
        rotate_left
        ·show Act.put _ (some 25) _ = _
         simp only [Act.put, List.setIfInBounds_toArray, List.set_cons_zero, List.set_cons_succ, i64_w, i32_w]
         rfl
        refine pT 9 26 (bm 10 1023) ?_
        refine done_ (done_of HT_.out (by kernel_rfl)) ?_
        try go_wp2
        go_ret
        exact ⟨fT, bT⟩
      ·rw [if_neg c6] at H
       exact absurd H (by simp)
     ·rw [if_neg c5] at H
      exact absurd H (by simp)
    ·rw [if_neg c4] at H
     have c4b0 := decide_eq_false c4
     clear c4
     obtain rfl := Option.some.inj H
     go_wp2
     go_ret
     exact ⟨fT, bT⟩
 ·rw [if_neg c3] at H
  have c3b0 : ((l0.length : Int) == (l1.length : Int)) = false := beq_eq_false_iff_ne.mpr c3
  have c3b1 : ((l0.length : Int) != (l1.length : Int)) = true := bne_iff_ne.mpr c3
  have c3b2 : (l0.length == l1.length) = false := by first | simpa using c3 | (simp at c3 ⊢; omega)
  obtain rfl := Option.some.inj H
  go_enter Tryz.func10, Tryz.ntmps10
  go_wp2
  go_ret
  exact ⟨fT, bT⟩
def r26_Same.l0 : Nat → T3 → T3 → Int → Option (Bool)
 | 0, _, _, _ => none
 | k + 1, x0, x1, x5 => if x5 < (x0.length : Int) then (if 0 ≤ x5 then (if x5 < (x1.length : Int) then ((r05_Lists.f k (rd_L6 x0 x5) (rd_L6 x1 x5)).bind fun t234 => (if t234 = true then (r26_Same.l0 k x0 x1 (wrap64 (x5 + 1))) else (some false))) else (none)) else (none)) else (some true)
def r26_Same.f (k : Nat) (l0 : T3) (l1 : T3) : Option (Bool) := if (l0.length : Int) = (l1.length : Int) then (r26_Same.l0 k l0 l1 0) else (some false)
def r26_Same.T6 : Bool × List (List Nat × List Nat) := (true, [([], []), ([], []), ([0, 1], [0, 1]), ([2], [2]), ([], []), ([], []), ([4, 5], [4, 5]), ([6], [6]), ([3, 7], [3, 7]), ([8], [8])])
def r26_Same.B6 : List Nat := [0, 0, 3, 7, 0, 0, 48, 112, 255, 511]
theorem r26_Same.tab6 : rtab .any (opsOf Tryz.f18 6) = r26_Same.T6 := by kernel_rfl
theorem r26_Same.bits6 : waitsOk r26_Same.T6.2 r26_Same.B6 = true := by kernel_rfl
set_option maxHeartbeats 8000000 in
set_option maxRecDepth 100000 in
theorem r26_Same.calls (k : Nat) (A0 : Option Addr) (c0 : Nat) (l0 : T3) (A1 : Option Addr) (c1 : Nat) (l1 : T3) (r : Bool) (w : World) (hr0 : Kd.C (Kd.slice 29 (Kd.slice 39 k39)) w A0 l0.length l0) (hc0 : l0.length ≤ c0) (hr1 : Kd.C (Kd.slice 29 (Kd.slice 39 k39)) w A1 l1.length l1) (hc1 : l1.length ≤ c1) (h : r26_Same.f k l0 l1 = some r) :
 Calls Tryz.prog 18 #[.slice A0 l0.length c0, .slice A1 l1.length c1] w fun e w' => e = .returned (.bool r) ∧ Below w.heap.size w w' := by
 have HR0 := akk hr0
 have HC0 := akk hc0
 clear hr0 hc0
 have HR1 := akk hr1
 have HC1 := akk hc1
 clear hr1 hc1
 have HB := akk (Below.refl w.heap.size w)
 have H : (if (l0.length : Int) = (l1.length : Int) then (r26_Same.l0 k l0 l1 0) else (some false)) = some r := h
 clear h
 by_cases c3 : (l0.length : Int) = (l1.length : Int)
 ·rw [if_pos c3] at H
  have c3b0 : ((l0.length : Int) == (l1.length : Int)) = true := beq_iff_eq.mpr c3
  have c3b1 : ((l0.length : Int) != (l1.length : Int)) = false := bne_eq_false_iff_eq.mpr c3
  have c3b2 : (l0.length == l1.length) = true := by first | simpa using c3 | (simp at c3 ⊢; omega)
  clear c3
  have H' := akk H
  clear H
  go_enter Tryz.func18, Tryz.ntmps18
  go_wp2
  go_loopg [5] k (fun kq v5 w' => ∃ (x5_1 : Int), v5 = .int .i64 x5_1 ∧ Aside0 (r26_Same.l0 kq l0 l1 x5_1 = some r) ∧ Aside0 (kq ≤ k) ∧ Aside0 (Below w.heap.size w w'))
  case atStart => exact ⟨(0), eT, H', ⟨Nat.le_refl _⟩, ⟨bT⟩⟩
  case round =>
   clear H'
   try clear c3b0
   try clear c3b1
   try clear c3b2
   obtain ⟨x5_1, rfl, HA, HK1, HB⟩ := hrel
   cases gk with
   | zero => exact absurd HA.out (by simp [r26_Same.l0])
   | succ k1 =>
    have H := HA.out
    clear HA
    simp only [r26_Same.l0] at H
    by_cases c4 : x5_1 < (l0.length : Int)
    ·rw [if_pos c4] at H
     have c4b0 := decide_eq_true c4
     clear c4
     by_cases c5 : 0 ≤ x5_1
     ·rw [if_pos c5] at H
      have c5b0 := decide_eq_true c5
      clear c5
      by_cases c6 : x5_1 < (l1.length : Int)
      ·rw [if_pos c6] at H
       have c6b0 := decide_eq_true c6
       clear c6
       obtain ⟨t234, A7, H⟩ := bi H
       try dsimp only at H
       by_cases c8 : t234 = true
       ·subst c8
        rw [if_pos rfl] at H
        have H' := akk H
        clear H
        try go_wp2
        replace HB := akk (below_drew1 HB.out)
        obtain ⟨ad232, A232_0, c232_0, e232, hx232_0, HR232_0, HC232_0, p232, q232⟩ := gC6 HR0 x5_1
        have hw232_0 := hx232_0
        cases e232
        replace hx232_0 := hxT HB.out hx232_0
        obtain ⟨ad233, A233_0, c233_0, e233, hx233_0, HR233_0, HC233_0, p233, q233⟩ := gC6 HR1 x5_1
        have hw233_0 := hx233_0
        cases e233
        replace hx233_0 := hxT HB.out hx233_0
        refine start_ (n := 10) (S := fun w' => w'.cell? (ad232.add (x5_1).toNat) = some (.slice A232_0 (rd_L6 l0 x5_1).length c232_0) ∧ w'.cell? (ad233.add (x5_1).toNat) = some (.slice A233_0 (rd_L6 l1 x5_1).length c233_0)) (ds := []) #[false, false, false, false, false, false, false, false, false, false] (by kernel_rfl) rfl rfl ⟨((HB.out.cell (World.block_lt_of_cell? w _ hw232_0)).trans hw232_0), ((HB.out.cell (World.block_lt_of_cell? w _ hw233_0)).trans hw233_0)⟩ (fun hHeld => ?_); refine with_tabW r26_Same.tab6 r26_Same.bits6 (fun HT_ HW_ => ?_)
        generalize wr.drew = w9 at HB HR232_0 HR233_0 hx232_0 hx233_0 hHeld ⊢
        refine pT 0 17 (bm 10 1) ?_
        refine pT 1 18 (bm 10 3) ?_
        refine pT 2 19 (bm 10 7) ?_
        refine pT 4 21 (bm 10 23) ?_
        refine pT 5 22 (bm 10 55) ?_
        refine pT 6 23 (bm 10 119) ?_
        refine tT2 3 20 (bm 10 127) hHeld ?_
        refine tT2 7 24 (bm 10 255) hHeld ?_
        refine one_ (i := 8) (N := some 25) #[true, true, true, true, true, true, true, true, true, false] rfl rfl (one_of HT_.out (by kernel_rfl)) (by decide) (fun K hK => ?_)
        refine goes_ Tryz.func10 (by kernel_rfl) rfl #[.slice A232_0 (rd_L6 l0 x5_1).length c232_0, .slice A233_0 (rd_L6 l1 x5_1).length c233_0] (by rfl) rfl rfl mT ?_
        with_reducible refine (r05_Lists.calls k1 _ _ (rd_L6 l0 x5_1) _ _ (rd_L6 l1 x5_1) true _ ?side1 ?side2 ?side3 ?side4 A7.out).mono ?_
        (case side1 => exact cT HR232_0.out)
        (case side2 => exact HC232_0.out)
        (case side3 => exact cT HR233_0.out)
        (case side4 => exact HC233_0.out)
        rintro e w10 ⟨rfl, hb⟩
        refine ⟨_, rfl, ?_⟩
        replace HB := bb HB hb
        (try clear hb)
        (try clear hb2)
        (try clear hk)
        (try clear hi)
        refine hK.out _ _ ⟨((HB.out.cell (World.block_lt_of_cell? w _ hw232_0)).trans hw232_0), ((HB.out.cell (World.block_lt_of_cell? w _ hw233_0)).trans hw233_0)⟩ (fun hHeld => ?_)
        clear hK K
        refine norm_ (a' := ?_) ?_ ?_
        rotate_left
        ·show Act.put _ (some 25) _ = _
         simp only [Act.put, List.setIfInBounds_toArray, List.set_cons_zero, List.set_cons_succ, i64_w, i32_w]
         rfl
        refine pT 9 26 (bm 10 1023) ?_
        refine done_ (done_of HT_.out (by kernel_rfl)) ?_
        try go_wp2
        go_roundg k1
        case measure => have := HK1.out; omega
        case rel => exact ⟨(wrap64 (x5_1 + 1)), eT, H', ⟨by have := HK1.out; omega⟩, ⟨bT⟩⟩
       ·replace c8 := Bool.eq_false_iff.mpr c8
        subst c8
        rw [if_neg (show ¬ (false = true) by decide)] at H
        obtain rfl := Option.some.inj H
        try go_wp2
        replace HB := akk (below_drew1 HB.out)
        obtain ⟨ad232, A232_0, c232_0, e232, hx232_0, HR232_0, HC232_0, p232, q232⟩ := gC6 HR0 x5_1
        have hw232_0 := hx232_0
        cases e232
        replace hx232_0 := hxT HB.out hx232_0
        obtain ⟨ad233, A233_0, c233_0, e233, hx233_0, HR233_0, HC233_0, p233, q233⟩ := gC6 HR1 x5_1
        have hw233_0 := hx233_0
        cases e233
        replace hx233_0 := hxT HB.out hx233_0
        refine start_ (n := 10) (S := fun w' => w'.cell? (ad232.add (x5_1).toNat) = some (.slice A232_0 (rd_L6 l0 x5_1).length c232_0) ∧ w'.cell? (ad233.add (x5_1).toNat) = some (.slice A233_0 (rd_L6 l1 x5_1).length c233_0)) (ds := []) #[false, false, false, false, false, false, false, false, false, false] (by kernel_rfl) rfl rfl ⟨((HB.out.cell (World.block_lt_of_cell? w _ hw232_0)).trans hw232_0), ((HB.out.cell (World.block_lt_of_cell? w _ hw233_0)).trans hw233_0)⟩ (fun hHeld => ?_); refine with_tabW r26_Same.tab6 r26_Same.bits6 (fun HT_ HW_ => ?_)
        generalize wr.drew = w11 at HB HR232_0 HR233_0 hx232_0 hx233_0 hHeld ⊢
        refine pT 0 17 (bm 10 1) ?_
        refine pT 1 18 (bm 10 3) ?_
        refine pT 2 19 (bm 10 7) ?_
        refine pT 4 21 (bm 10 23) ?_
        refine pT 5 22 (bm 10 55) ?_
        refine pT 6 23 (bm 10 119) ?_
        refine tT2 3 20 (bm 10 127) hHeld ?_
        refine tT2 7 24 (bm 10 255) hHeld ?_
        refine one_ (i := 8) (N := some 25) #[true, true, true, true, true, true, true, true, true, false] rfl rfl (one_of HT_.out (by kernel_rfl)) (by decide) (fun K hK => ?_)
        refine goes_ Tryz.func10 (by kernel_rfl) rfl #[.slice A232_0 (rd_L6 l0 x5_1).length c232_0, .slice A233_0 (rd_L6 l1 x5_1).length c233_0] (by rfl) rfl rfl mT ?_
        with_reducible refine (r05_Lists.calls k1 _ _ (rd_L6 l0 x5_1) _ _ (rd_L6 l1 x5_1) false _ ?side1 ?side2 ?side3 ?side4 A7.out).mono ?_
        (case side1 => exact cT HR232_0.out)
        (case side2 => exact HC232_0.out)
        (case side3 => exact cT HR233_0.out)
        (case side4 => exact HC233_0.out)
        rintro e w12 ⟨rfl, hb⟩
        refine ⟨_, rfl, ?_⟩
        replace HB := bb HB hb
        (try clear hb)
        (try clear hb2)
        (try clear hk)
        (try clear hi)
        refine hK.out _ _ ⟨((HB.out.cell (World.block_lt_of_cell? w _ hw232_0)).trans hw232_0), ((HB.out.cell (World.block_lt_of_cell? w _ hw233_0)).trans hw233_0)⟩ (fun hHeld => ?_)
        clear hK K
        refine norm_ (a' := ?_) ?_ ?_
        rotate_left
        ·show Act.put _ (some 25) _ = _
         simp only [Act.put, List.setIfInBounds_toArray, List.set_cons_zero, List.set_cons_succ, i64_w, i32_w]
         rfl
        refine pT 9 26 (bm 10 1023) ?_
        refine done_ (done_of HT_.out (by kernel_rfl)) ?_
        try go_wp2
        go_ret
        exact ⟨fT, bT⟩
      ·rw [if_neg c6] at H
       exact absurd H (by simp)
     ·rw [if_neg c5] at H
      exact absurd H (by simp)
    ·rw [if_neg c4] at H
     have c4b0 := decide_eq_false c4
     clear c4
     obtain rfl := Option.some.inj H
     go_wp2
     go_ret
     exact ⟨fT, bT⟩
 ·rw [if_neg c3] at H
  have c3b0 : ((l0.length : Int) == (l1.length : Int)) = false := beq_eq_false_iff_ne.mpr c3
  have c3b1 : ((l0.length : Int) != (l1.length : Int)) = true := bne_iff_ne.mpr c3
  have c3b2 : (l0.length == l1.length) = false := by first | simpa using c3 | (simp at c3 ⊢; omega)
  obtain rfl := Option.some.inj H
  go_enter Tryz.func18, Tryz.ntmps18
  go_wp2
  go_ret
  exact ⟨fT, bT⟩
end Go.Proofs.YtgmolmpfihkolaaGreat.Pj
namespace Go.Proofs.YtgmolmpfihkolaaGreat
open Go.RowKit Go.Proofs.YtgmolmpfihkolaaGreatW.PrintWords Go.Proofs.YtgmolmpfihkolaaGreatW.PrintMore Go.Proofs.YtgmolmpfihkolaaGreat.Pj
set_option linter.unusedVariables false
set_option maxRecDepth 100000
abbrev Tup := List (List PV)
theorem w64 {i : Nat} (h : i < 4611686018427387904) : wrap64 ((i : Int) + 1) = ((i + 1 : Nat) : Int) := by unfold wrap64; omega
theorem rd5 (t : Tup) (i : Nat) : rd_L5 t (i : Int) = t.getD i [] := rfl
theorem rd6 (t : List Tup) (i : Nat) : rd_L6 t (i : Int) = t.getD i [] := rfl
theorem rd53 (t : List PE) (i : Nat) (h : i < t.length) : rd_T53 t (i : Int) = t[i] := by
 unfold rd_T53
 rw [List.getD_eq_getElem?_getD, Int.toNat_natCast, List.getElem?_eq_getElem h]; rfl
theorem rd39 (t : List PV) (i : Nat) (h : i < t.length) : rd_T39 t (i : Int) = t[i] := by
 unfold rd_T39
 rw [List.getD_eq_getElem?_getD, Int.toNat_natCast, List.getElem?_eq_getElem h]; rfl
theorem getD_at {α : Type} (t : List α) (d : α) (i : Nat) (h : i < t.length) : t.getD i d = t[i] := by
 rw [List.getD_eq_getElem?_getD, List.getElem?_eq_getElem h]; rfl
theorem getD_no {α : Type} (t : List α) (d : α) (i : Nat) (h : t.length ≤ i) : t.getD i d = d := by
 rw [List.getD_eq_getElem?_getD, List.getElem?_eq_none h]; rfl
def uAt (a b : Tup) (i : Nat) : List PV := if (a.getD i []).length = 0 then b.getD i [] else a.getD i []
def unionP (a b : Tup) : Tup := (List.range (max a.length b.length)).map (uAt a b)
def okTup (t : Tup) : Prop := t.length ≤ 1000 ∧ ∀ r ∈ t, r.length ≤ 1000
theorem okTup.row {t : Tup} (h : okTup t) (i : Nat) : (t.getD i []).length ≤ 1000 := by
 by_cases hi : i < t.length
 ·rw [getD_at _ _ _ hi]; exact h.2 _ (List.getElem_mem hi)
 ·rw [getD_no _ _ _ (by omega)]; simp
theorem union_go (a b : Tup) (ha : okTup a) (hb : okTup b) (n : Nat) (hn : n = max a.length b.length) : ∀ (m i : Nat), n - i = m → i ≤ n → ∀ K, 2 * m + 1 ≤ K → joins_Union.l0 K a b ((List.range i).map (uAt a b)) (n : Int) (i : Int) = some ((List.range n).map (uAt a b))
 | m, i, hm, hi, 0, hK => by omega
 | 0, i, hm, hi, K + 1, hK => by
  obtain rfl : i = n := by omega
  rw [joins_Union.l0, if_neg (by omega)]
 | m + 1, i, hm, hi, K + 1, hK => by
  have hn2 : n ≤ 1000 := by have := ha.1; have := hb.1; omega
  have ra := ha.row i
  have rb := hb.row i
  have hlen : ((List.range i).map (uAt a b)).length = i := by simp
  have hs : (List.range (i + 1)).map (uAt a b) = (List.range i).map (uAt a b) ++ [uAt a b i] := by rw [List.range_succ, List.map_append]; rfl
  obtain ⟨K, rfl⟩ : ∃ K', K = K' + 1 := ⟨K - 1, by omega⟩
  have ih := union_go a b ha hb n hn m (i + 1) (by omega) (by omega) K (by omega)
  rw [hs] at ih
  rw [joins_Union.l0, if_pos (by omega)]
  have second : joins_Union.j1 (K + 1) a b ((List.range i).map (uAt a b)) (i : Int) ([] : List PV) (n : Int) (i : Int) false = some ((List.range n).map (uAt a b)) ∨ (a.getD i []).length ≠ 0 := by
   by_cases h0 : (a.getD i []).length = 0
   ·refine .inl ?_
    have hu : uAt a b i = b.getD i [] := by unfold uAt; rw [if_pos h0]
    rw [hu] at ih
    rw [joins_Union.j1, if_neg (by simp)]
    by_cases h1 : i < b.length
    ·rw [if_pos (by omega), if_pos (by omega), rd5]
     by_cases h2 : 0 < (b.getD i []).length
     ·rw [if_pos (by omega), Option.bind_some, if_pos (by (try rw [rd5]); rw [List.length_nil]; omega), if_pos (by rw [hlen]; omega), List.nil_append, w64 (by omega)]
      exact ih
     ·rw [if_neg (by omega), if_pos (by rw [hlen]; omega), w64 (by omega)]
      rw [List.eq_nil_of_length_eq_zero (show (b.getD i []).length = 0 by omega)] at ih
      exact ih
    ·rw [if_neg (by omega), if_pos (by rw [hlen]; omega), w64 (by omega)]
     rw [getD_no _ _ _ (by omega)] at ih
     exact ih
   ·exact .inr h0
  by_cases h1 : i < a.length
  ·rw [if_pos (by omega), if_pos (by omega), rd5]
   by_cases h2 : 0 < (a.getD i []).length
   ·have hu : uAt a b i = a.getD i [] := by unfold uAt; rw [if_neg (by omega)]
    rw [hu] at ih
    rw [show decide (((a.getD i []).length : Int) > 0) = true from decide_eq_true (by omega)]
    rw [joins_Union.j1, if_pos rfl, Option.bind_some, if_pos (by omega), if_pos (by omega), rd5, if_pos (by (try rw [rd5]); rw [List.length_nil]; omega), if_pos (by rw [hlen]; omega), List.nil_append, w64 (by omega)]
    exact ih
   ·rw [show decide (((a.getD i []).length : Int) > 0) = false from decide_eq_false (by omega)]
    rcases second with h | h
    ·exact h
    ·omega
  ·rw [if_neg (by omega)]
   rcases second with h | h
   ·exact h
   ·rw [getD_no _ _ _ (by omega)] at h
    simp at h
theorem union_f (K : Nat) (hK : 2100 ≤ K) (a b : Tup) (ha : okTup a) (hb : okTup b) : joins_Union.f K a b = some (unionP a b) := by
 unfold joins_Union.f
 have e : mx (a.length : Int) (b.length : Int) = ((max a.length b.length : Nat) : Int) := by unfold mx; split <;> omega
 rw [e]
 have h1 := ha.1
 have h2 := hb.1
 exact union_go a b ha hb _ rfl _ 0 rfl (Nat.zero_le _) K (by omega)
theorem uAt_wf {a b : Tup} (ha : wfRs a = true) (hb : wfRs b = true) (i : Nat) : wfR (uAt a b i) = true := by
 have row : ∀ t : Tup, wfRs t = true → wfR (t.getD i []) = true := by
  intro t ht
  by_cases hi : i < t.length
  ·rw [getD_at _ _ _ hi]; exact List.all_eq_true.1 ht _ (List.getElem_mem hi)
  ·rw [getD_no _ _ _ (by omega)]; rfl
 unfold uAt
 split
 ·exact row b hb
 ·exact row a ha
theorem unionP_wf {a b : Tup} (ha : wfRs a = true) (hb : wfRs b = true) : wfRs (unionP a b) = true := by
 refine List.all_eq_true.2 (fun r hr => ?_)
 unfold unionP at hr
 obtain ⟨i, _, rfl⟩ := List.mem_map.1 hr
 exact uAt_wf ha hb i
theorem unionP_ok {a b : Tup} (ha : okTup a) (hb : okTup b) : okTup (unionP a b) := by
 refine ⟨by unfold unionP; rw [List.length_map, List.length_range]; have := ha.1; have := hb.1; omega, fun r hr => ?_⟩
 unfold unionP at hr
 obtain ⟨i, _, rfl⟩ := List.mem_map.1 hr
 have := ha.row i
 have := hb.row i
 unfold uAt
 split <;> omega
def holdsP (l : List PE) (t : Tup) : Bool × Int := holdsV (rsOf t) (tsOf l)
theorem tsOf_drop (l : List PE) (i : Nat) (h : i < l.length) : tsOf (l.drop i) = tOf l[i] :: tsOf (l.drop (i + 1)) := by rw [List.drop_eq_getElem_cons h, tsOf]
theorem wfEs_at {l : List PE} (h : wfEs l = true) (i : Nat) (hi : i < l.length) : wfE l[i] = true := wfEs_get h (List.getElem?_eq_getElem hi)
theorem pe_eta (e : PE) : (⟨e.f0, e.f1, e.f2, ⟨e.f3.f0, e.f3.f1, e.f3.f2, e.f3.f3⟩, e.f4⟩ : PE) = e := by
 obtain ⟨k, r, c, ⟨a, b, d, f⟩, ks⟩ := e
 rfl
theorem eval_f {e : PE} {t : Tup} (he : wfE e = true) (ht : wfRs t = true) : expr_Eval.f e.f0 e.f1 e.f2 e.f3.f0 e.f3.f1 e.f3.f2 e.f3.f3 e.f4 t = some ((tellV (rsOf t) (tOf e)).1.kind, (tellV (rsOf t) (tOf e)).1.int, (tellV (rsOf t) (tOf e)).1.flt, (tellV (rsOf t) (tOf e)).1.text, (tellV (rsOf t) (tOf e)).2) := by
 unfold expr_Eval.f
 rw [pe_eta]
 unfold evalF
 rw [he, ht]; rfl
theorem holds_go (l : List PE) (t : Tup) (hl : wfEs l = true) (ht : wfRs t = true) (hn : l.length ≤ 1000000) : ∀ (m i : Nat), l.length - i = m → i ≤ l.length → ∀ K, m + 1 ≤ K → expr_Holds.l0 K t l (l.length : Int) (i : Int) = some (holdsV (rsOf t) (tsOf (l.drop i)))
 | m, i, hm, hi, 0, hK => by omega
 | 0, i, hm, hi, K + 1, hK => by
  rw [expr_Holds.l0, if_neg (by omega), List.drop_of_length_le (by omega)]; rfl
 | m + 1, i, hm, hi, K + 1, hK => by
  have hil : i < l.length := by omega
  have ih := holds_go l t hl ht hn m (i + 1) (by omega) (by omega) K (by omega)
  rw [expr_Holds.l0, if_pos (by omega), if_pos (by omega), if_pos (by omega), rd53 l i hil, eval_f (wfEs_at hl i hil) ht, Option.bind_some, tsOf_drop l i hil]
  obtain ⟨x, hx⟩ : ∃ x, x = tellV (rsOf t) (tOf l[i]) := ⟨_, rfl⟩
  simp only [holdsV]
  rw [← hx]
  (try simp only)
  by_cases h1 : x.2 = 0
  ·rw [if_pos h1, if_neg (show ¬ x.2 ≠ 0 from fun h => h h1)]
   unfold isTrue
   by_cases h2 : x.1.kind = 1
   ·rw [if_pos h2]
    by_cases h3 : x.1.int = 1
    ·rw [if_pos h3, if_pos (show (x.1.kind == 1 && x.1.int == 1) = true by simp [h2, h3]), w64 (by omega)]; exact ih
    ·rw [if_neg h3, if_neg (show ¬ (x.1.kind == 1 && x.1.int == 1) = true by simp [h3])]
   ·rw [if_neg h2, if_neg (show ¬ (x.1.kind == 1 && x.1.int == 1) = true by simp [h2])]
  ·rw [if_neg h1, if_pos (show x.2 ≠ 0 from h1)]
theorem holds_f (K : Nat) (l : List PE) (t : Tup) (hl : wfEs l = true) (ht : wfRs t = true) (hn : l.length ≤ 1000000) (hK : l.length + 1 ≤ K) : expr_Holds.f K l t = some (holdsP l t) := by
 unfold expr_Holds.f
 exact holds_go l t hl ht hn l.length 0 (by omega) (Nat.zero_le _) K hK
def toldGo (a b : List Tup) (l : List PE) : List PP → List Tup → List Tup × Int
 | [], out => (out, 0)
 | p :: ps, out => if (holdsP l (unionP (a.getD p.f0.toNat []) (b.getD p.f1.toNat []))).2 ≠ 0 then ([], (holdsP l (unionP (a.getD p.f0.toNat []) (b.getD p.f1.toNat []))).2) else toldGo a b l ps (if (holdsP l (unionP (a.getD p.f0.toNat []) (b.getD p.f1.toNat []))).1 then out ++ [unionP (a.getD p.f0.toNat []) (b.getD p.f1.toNat [])] else out)
theorem toldGo_append (a b : List Tup) (l : List PE) : ∀ (p q : List PP) (out : List Tup), toldGo a b l (p ++ q) out = if (toldGo a b l p out).2 ≠ 0 then toldGo a b l p out else toldGo a b l q (toldGo a b l p out).1
 | [], q, out => by simp [toldGo]
 | x :: p, q, out => by
  rw [List.cons_append, toldGo, toldGo]
  split
  ·rfl
  ·exact toldGo_append a b l p q _
theorem toldGo_out (a b : List Tup) (l : List PE) : ∀ (p : List PP) (out : List Tup), toldGo a b l p out = if (toldGo a b l p []).2 ≠ 0 then ([], (toldGo a b l p []).2) else (out ++ (toldGo a b l p []).1, 0)
 | [], out => by simp [toldGo]
 | x :: p, out => by
  rw [toldGo, toldGo]
  split
  ·rfl
  ·split
   ·rename_i h1
    rw [toldGo_out a b l p (out ++ _), toldGo_out a b l p ([] ++ _)]
    by_cases h2 : (toldGo a b l p []).2 ≠ 0
    ·rw [if_pos h2, if_pos h2, if_pos h2]
    ·rw [if_neg h2, if_neg h2, if_neg (by simp), List.nil_append, List.append_assoc]
   ·exact toldGo_out a b l p out
theorem toldGo_length (a b : List Tup) (l : List PE) : ∀ (p : List PP) (out : List Tup), (toldGo a b l p out).1.length ≤ out.length + p.length
 | [], out => by simp [toldGo]
 | x :: p, out => by
  rw [toldGo]
  obtain ⟨t, ht⟩ : ∃ t, t = unionP (a.getD x.f0.toNat []) (b.getD x.f1.toNat []) := ⟨_, rfl⟩
  rw [← ht]
  by_cases h1 : (holdsP l t).2 ≠ 0
  ·rw [if_pos h1]; simp
  ·rw [if_neg h1, List.length_cons]
   by_cases h2 : (holdsP l t).1 = true
   ·rw [if_pos h2]
    have := toldGo_length a b l p (out ++ [t])
    rw [List.length_append, List.length_singleton] at this
    omega
   ·rw [if_neg h2]
    have := toldGo_length a b l p out
    omega
def okTups (a : List Tup) : Prop := a.length ≤ 1000 ∧ ∀ t ∈ a, wfRs t = true ∧ okTup t
theorem okTups.get {a : List Tup} (h : okTups a) (i : Nat) : wfRs (a.getD i []) = true ∧ okTup (a.getD i []) := by
 by_cases hi : i < a.length
 ·rw [getD_at _ _ _ hi]; exact h.2 _ (List.getElem_mem hi)
 ·rw [getD_no _ _ _ (by omega)]; exact ⟨rfl, by simp [okTup]⟩
def okLs (l : List PE) : Prop := wfEs l = true ∧ l.length ≤ 1000
def inAB (a b : List Tup) (p : PP) : Prop := 0 ≤ p.f0 ∧ p.f0 < (a.length : Int) ∧ 0 ≤ p.f1 ∧ p.f1 < (b.length : Int)
theorem told_go (a b : List Tup) (l : List PE) (ha : okTups a) (hb : okTups b) (hl : okLs l) (ps : List PP) (hp : ∀ p ∈ ps, inAB a b p) (hn : ps.length ≤ 1000000000) : ∀ (m i : Nat) (out : List Tup), ps.length - i = m → i ≤ ps.length → out.length + m ≤ 2000000000 → ∀ K, m + 3000 ≤ K → joins_told.l0 K a b l out ps (ps.length : Int) (i : Int) = some (toldGo a b l (ps.drop i) out)
 | m, i, out, hm, hi, ho, 0, hK => by omega
 | 0, i, out, hm, hi, ho, K + 1, hK => by
  rw [joins_told.l0, if_neg (by omega), List.drop_of_length_le (by omega)]; rfl
 | m + 1, i, out, hm, hi, ho, K + 1, hK => by
  have hil : i < ps.length := by omega
  obtain ⟨p, hpe⟩ : ∃ p, p = ps[i] := ⟨_, rfl⟩
  have hpi : inAB a b p := by rw [hpe]; exact hp _ (List.getElem_mem hil)
  have e : rd_T71 ps (i : Int) = p := by
   unfold rd_T71
   rw [hpe, List.getD_eq_getElem?_getD, Int.toNat_natCast, List.getElem?_eq_getElem hil]; rfl
  obtain ⟨q1, q2, q3, q4⟩ := hpi
  have wa := ha.get p.f0.toNat
  have wb := hb.get p.f1.toNat
  rw [joins_told.l0, if_pos (by omega), if_pos (by omega), if_pos (by omega), e, if_pos q1, if_pos q2, if_pos q3, if_pos q4]
  have ea : rd_L6 a p.f0 = a.getD p.f0.toNat [] := rfl
  have eb : rd_L6 b p.f1 = b.getD p.f1.toNat [] := rfl
  rw [ea, eb, union_f K (by omega) _ _ wa.2 wb.2, Option.bind_some, holds_f K l _ hl.1 (unionP_wf wa.1 wb.1) (by have := hl.2; omega) (by have := hl.2; omega), Option.bind_some]
  rw [List.drop_eq_getElem_cons hil, ← hpe, toldGo]
  obtain ⟨t, ht⟩ : ∃ t, t = unionP (a.getD p.f0.toNat []) (b.getD p.f1.toNat []) := ⟨_, rfl⟩
  rw [← ht]
  obtain ⟨x, hx⟩ : ∃ x, x = holdsP l t := ⟨_, rfl⟩
  rw [← hx]
  by_cases h1 : x.2 = 0
  ·rw [if_pos h1, if_neg (show ¬ x.2 ≠ 0 from fun h => h h1)]
   by_cases h2 : x.1 = true
   ·rw [if_pos h2, if_pos (by omega), if_pos h2, w64 (by omega)]
    exact told_go a b l ha hb hl ps hp hn m (i + 1) _ (by omega) (by omega) (by rw [List.length_append, List.length_singleton]; omega) K (by omega)
   ·rw [if_neg h2, if_neg h2, w64 (by omega)]
    exact told_go a b l ha hb hl ps hp hn m (i + 1) _ (by omega) (by omega) (by omega) K (by omega)
  ·rw [if_neg h1, if_pos (show x.2 ≠ 0 from h1)]
theorem told_f (a b : List Tup) (l : List PE) (ha : okTups a) (hb : okTups b) (hl : okLs l) (ps : List PP) (hp : ∀ p ∈ ps, inAB a b p) (K : Nat) (hn : ps.length + 3000 ≤ K) (hk : K ≤ 1000000) : joins_told.f K a b ps l = some (toldGo a b l ps []) := by
 unfold joins_told.f
 exact told_go a b l ha hb hl ps hp (by omega) ps.length 0 [] (by omega) (Nat.zero_le _) (by simp; omega) K hn
def mkP (i k : Nat) : PP := ⟨(i : Int), (k : Int)⟩
def prow (i k nb : Nat) : List PP := ((List.range nb).drop k).map (mkP i)
def prows (i na nb : Nat) : List PP := ((List.range na).drop i).flatMap (fun i => prow i 0 nb)
theorem prow_nil {i k nb : Nat} (h : nb ≤ k) : prow i k nb = [] := by
 unfold prow
 rw [List.drop_of_length_le (by simpa using h)]; rfl
theorem prows_cons {i na nb : Nat} (h : i < na) : prows i na nb = prow i 0 nb ++ prows (i + 1) na nb := by
 unfold prows
 rw [List.drop_eq_getElem_cons (by simpa using h), List.flatMap_cons]
 simp
theorem prows_nil {i na nb : Nat} (h : na ≤ i) : prows i na nb = [] := by
 unfold prows
 rw [List.drop_of_length_le (by simpa using h)]; rfl
theorem prow_length (i k nb : Nat) : (prow i k nb).length = nb - k := by unfold prow; simp
theorem prow_in {i k : Nat} {a b : List Tup} (hi : i < a.length) : ∀ p ∈ prow i k b.length, inAB a b p := by
 intro p hp
 unfold prow at hp
 obtain ⟨j, hj, rfl⟩ := List.mem_map.1 hp
 have := List.mem_range.1 (List.mem_of_mem_drop hj)
 exact ⟨by show (0 : Int) ≤ (i : Int); omega, by show (i : Int) < _; omega, by show (0 : Int) ≤ (j : Int); omega, by show (j : Int) < _; omega⟩
theorem loop_one (a b : List Tup) (l : List PE) (x8 : List Tup) (i n : Nat) (nb : Nat) (hnb : nb = b.length) (hb : nb ≤ 1000) : ∀ (m k : Nat), nb - k = m → k ≤ nb → ∀ K, joins_Loop.l1 (K + m) a b l x8 (i : Int) ((List.range k).map (mkP i)) (n : Int) (i : Int) (nb : Int) (k : Int) = joins_Loop.l1 K a b l x8 (i : Int) (prow i 0 nb) (n : Int) (i : Int) (nb : Int) (nb : Int)
 | 0, k, hm, hk, K => by
  obtain rfl : k = nb := by omega
  rfl
 | m + 1, k, hm, hk, K => by
  have hs : (List.range (k + 1)).map (mkP i) = (List.range k).map (mkP i) ++ [mkP i k] := by rw [List.range_succ, List.map_append]; rfl
  have ih := loop_one a b l x8 i n nb hnb hb m (k + 1) (by omega) (by omega) K
  rw [← ih, ← Nat.add_assoc, joins_Loop.l1, if_pos (by omega), if_pos (by simp; omega), w64 (by omega), hs]
  rfl
theorem loop_go (a b : List Tup) (l : List PE) (ha : okTups a) (hb : okTups b) (hl : okLs l) : ∀ (m i : Nat) (out : List Tup), a.length - i = m → i ≤ a.length → out.length + m * 1000 ≤ 2000000000 → ∀ K, m * 1002 + 5000 ≤ K → K ≤ 900000 + m → ∀ n : Nat, n = a.length → joins_Loop.l0 K a b l out (n : Int) (i : Int) = some (toldGo a b l (prows i n b.length) out) := by
 intro m
 induction m with
 | zero =>
  intro i out hm hi ho K hK hk n hn
  obtain ⟨K, rfl⟩ : ∃ K', K = K' + 1 := ⟨K - 1, by omega⟩
  rw [joins_Loop.l0, if_neg (by omega), prows_nil (by omega)]; rfl
 | succ m ih =>
  intro i out hm hi ho K hK hk n hn
  obtain ⟨K, rfl⟩ : ∃ K', K = K' + 1 := ⟨K - 1, by omega⟩
  have hb1 := hb.1
  rw [joins_Loop.l0, if_pos (by omega), prows_cons (by omega)]
  obtain ⟨K', rfl⟩ : ∃ K', K = (K' + 1) + b.length := ⟨K - 1 - b.length, by omega⟩
  have h1 := loop_one a b l out i n b.length rfl hb1 b.length 0 (by omega) (Nat.zero_le _) (K' + 1)
  have h0 : (([] : List PP)) = (List.range 0).map (mkP i) := rfl
  rw [h0]
  refine h1.trans ?_
  rw [joins_Loop.l1, if_neg (by omega)]
  have ht := told_f a b l ha hb hl (prow i 0 b.length) (prow_in (by omega)) K' (by rw [prow_length]; omega) (by omega)
  rw [ht, Option.bind_some, toldGo_append, toldGo_out a b l (prow i 0 b.length) out]
  have hlen := toldGo_length a b l (prow i 0 b.length) []
  rw [prow_length] at hlen
  obtain ⟨x, hx⟩ : ∃ x, x = toldGo a b l (prow i 0 b.length) [] := ⟨_, rfl⟩
  rw [← hx] at hlen ⊢
  have hlen' : x.1.length ≤ 1000 := by have : ([] : List Tup).length = 0 := rfl; omega
  by_cases h2 : x.2 = 0
  ·rw [if_pos h2, if_pos (by omega), if_neg (show ¬ x.2 ≠ 0 from fun h => h h2), w64 (by have := ha.1; omega)]
   rw [if_neg (show ¬ (0 : Int) ≠ 0 from fun h => h rfl)]
   exact ih (i + 1) (out ++ x.1) (by omega) (by omega) (by rw [List.length_append]; omega) K' (by omega) (by omega) n hn
  ·rw [if_neg h2, if_pos (show x.2 ≠ 0 from h2), if_pos (show x.2 ≠ 0 from h2)]
theorem loop_f (a b : List Tup) (l : List PE) (ha : okTups a) (hb : okTups b) (hl : okLs l) (h30 : a.length ≤ 30) (K : Nat) (hK : 50000 ≤ K) (hk : K ≤ 900000) : joins_Loop.f K a b l = some (toldGo a b l (prows 0 a.length b.length) []) := by
 unfold joins_Loop.f
 exact loop_go a b l ha hb hl a.length 0 [] (by omega) (Nat.zero_le _) (by simp; omega) K (by omega) (by omega) _ rfl
end Go.Proofs.YtgmolmpfihkolaaGreat
