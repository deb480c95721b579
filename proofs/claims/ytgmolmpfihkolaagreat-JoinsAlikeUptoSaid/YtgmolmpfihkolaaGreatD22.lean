/- Part of the proof. -/
import Derived.Test.YtgmolmpfihkolaaGreatD21
namespace Go.Proofs.YtgmolmpfihkolaaGreat.Pj
open Go.RowKit Go.Proofs.YtgmolmpfihkolaaGreatW.PrintWords Go.Proofs.YtgmolmpfihkolaaGreatW.PrintLast Go.Proofs.YtgmolmpfihkolaaGreatW.PrintMore
attribute [local go_sem] run_store_flt max2_int min2_int max_two min_two max_three min_three max_four min_four
set_option linter.unusedVariables false
set_option linter.unusedSimpArgs false
def joins_Keys.l0 : Nat → T2 → List (S39) → Bool → List (S53) → Int → Int → Option ((List (S39)) × Bool × Int)
 | 0, _, _, _, _, _, _ => none
 | k + 1, x1, x7, x8, x13, x14, x15 => if x15 < x14 then (if 0 ≤ x15 then (if x15 < (x13.length : Int) then ((expr_Eval.f ((rd_T53 x13 x15).f0) ((rd_T53 x13 x15).f1) ((rd_T53 x13 x15).f2) ((rd_T53 x13 x15).f3.f0) ((rd_T53 x13 x15).f3.f1) ((rd_T53 x13 x15).f3.f2) ((rd_T53 x13 x15).f3.f3) ((rd_T53 x13 x15).f4) x1).bind fun bt301 => (if bt301.2.2.2.2 = 0 then (if x8 = true then ((value_Plain.f bt301.1 bt301.2.1 bt301.2.2.1 bt301.2.2.2.1).bind fun bt307 => (if x7.length < 3518437208883 then (joins_Keys.l0 k x1 (x7 ++ [(⟨bt307.1, bt307.2.1, bt307.2.2.1, bt307.2.2.2⟩ : S39)]) (bt301.1 != 0) x13 x14 (wrap64 (x15 + 1))) else (none))) else ((value_Plain.f bt301.1 bt301.2.1 bt301.2.2.1 bt301.2.2.2.1).bind fun bt314 => (if x7.length < 3518437208883 then (joins_Keys.l0 k x1 (x7 ++ [(⟨bt314.1, bt314.2.1, bt314.2.2.1, bt314.2.2.2⟩ : S39)]) false x13 x14 (wrap64 (x15 + 1))) else (none)))) else (some (([] : List (S39)), false, bt301.2.2.2.2)))) else (none)) else (none)) else (some (x7, x8, 0))
def joins_Keys.f (k : Nat) (l0 : List (S53)) (l1 : T2) : Option ((List (S39)) × Bool × Int) := joins_Keys.l0 k l1 ([] : List (S39)) true l0 (l0.length : Int) 0
set_option maxHeartbeats 8000000 in
set_option maxRecDepth 100000 in
theorem joins_Keys.calls (k : Nat) (A0 : Option Addr) (c0 : Nat) (l0 : List (S53)) (A1 : Option Addr) (c1 : Nat) (l1 : T2) (r1 : List (S39)) (r2 : Bool) (r3 : Int) (w : World) (hr0 : Kd.C k53 w A0 l0.length l0) (hc0 : l0.length ≤ c0) (hr1 : Kd.C (Kd.slice 39 k39) w A1 l1.length l1) (hc1 : l1.length ≤ c1) (h : joins_Keys.f k l0 l1 = some (r1, r2, r3)) :
 Calls Tryz.prog 12 #[.slice A0 l0.length c0, .slice A1 l1.length c1] w fun e w' => ∃ v0_ : Value, e = .returned (.tuple #[v0_, .bool r2, .int .i64 r3]) ∧ Kd.R k39 39 w' w.heap.size (fun _ => True) v0_ r1 ∧ Below w.heap.size w w' := by
 have hu53 := Tryz.underlying53
 have hu39 := Tryz.underlying39
 have HR0 := akk hr0
 have HC0 := akk hc0
 clear hr0 hc0
 have HR1 := akk hr1
 have HC1 := akk hc1
 clear hr1 hc1
 have HB := akk (Below.refl w.heap.size w)
 have H : (joins_Keys.l0 k l1 ([] : List (S39)) true l0 (l0.length : Int) 0) = some (r1, r2, r3) := h
 clear h
 have H' := akk H
 clear H
 go_enter Tryz.func12, Tryz.ntmps12
 go_wp2
 go_loopg [7, 8, 15] k (fun kq v7 v8 v15 w' => ∃ (x7_1 : List (S39)) (x8_1 : Bool) (x15_1 : Int), v8 = .bool x8_1 ∧ v15 = .int .i64 x15_1 ∧ Aside0 (joins_Keys.l0 kq l1 x7_1 x8_1 l0 (l0.length : Int) x15_1 = some (r1, r2, r3)) ∧ Aside0 (kq ≤ k) ∧ Aside0 (Kd.R k39 39 w' w.heap.size (fun _ => True) v7 x7_1) ∧ Aside0 (Below w.heap.size w w'))
 case atStart => exact ⟨(([] : List (S39))), (true), (0), eT, eT, H', ⟨Nat.le_refl _⟩, ⟨zT⟩, ⟨bT⟩⟩
 case round =>
  clear H'
  obtain ⟨x7_1, x8_1, x15_1, rfl, rfl, HA, HK1, HO_7, HB⟩ := hrel
  cases gk with
  | zero => exact absurd HA.out (by simp [joins_Keys.l0])
  | succ k1 =>
   have H := HA.out
   clear HA
   simp only [joins_Keys.l0] at H
   by_cases c3 : x15_1 < (l0.length : Int)
   ·rw [if_pos c3] at H
    have c3b0 := decide_eq_true c3
    clear c3
    by_cases c4 : 0 ≤ x15_1
    ·rw [if_pos c4] at H
     have c4b0 := decide_eq_true c4
     clear c4
     by_cases c5 : x15_1 < (l0.length : Int)
     ·rw [if_pos c5] at H
      have c5b0 := decide_eq_true c5
      clear c5
      obtain ⟨⟨t301, t302, t303, t304, t305⟩, A6, H⟩ := bi H
      try dsimp only at H
      by_cases c7 : t305 = 0
      ·rw [if_pos c7] at H
       have c7b0 : (t305 == 0) = true := beq_iff_eq.mpr c7
       have c7b1 : (t305 != 0) = false := bne_eq_false_iff_eq.mpr c7
       clear c7
       by_cases c8 : x8_1 = true
       ·subst c8
        rw [if_pos rfl] at H
        obtain ⟨⟨t307, t308, t309, t310⟩, A9, H⟩ := bi H
        try dsimp only at H
        by_cases c10 : x7_1.length < 3518437208883
        ·rw [if_pos c10] at H
         have LMc10 := akk c10
         clear c10
         obtain ⟨y311, hy311⟩ : ∃ y_ : List (S39), y_ = (x7_1 ++ [(⟨t307, t308, t309, t310⟩ : S39)]) := ⟨_, rfl⟩
         replace H : (joins_Keys.l0 k1 l1 y311 (t301 != 0) l0 (l0.length : Int) (wrap64 (x15_1 + 1))) = some (r1, r2, r3) := jT hy311 H
         have Ny311 := akk hy311
         clear hy311
         have H' := akk H
         clear H
         have p299 : 0 ≤ (x15_1 : Int) := of_decide_eq_true aT
         have q299 : x15_1 < (l0.length : Int) := of_decide_eq_true aT
         obtain ⟨ad299, A299_7, c299_7, e299, hx299_0, hx299_1, hx299_2, hx299_3, hx299_4, hx299_5, hx299_6, hx299_7, hl299_7, hi299_7⟩ := at_T53 HR0.out x15_1 p299 q299
         cases e299
         replace hx299_0 := hxT HB.out hx299_0
         replace hx299_1 := hxT HB.out hx299_1
         replace hx299_2 := hxT HB.out hx299_2
         replace hx299_3 := hxT HB.out hx299_3
         replace hx299_4 := hxT HB.out hx299_4
         replace hx299_5 := hxT HB.out hx299_5
         replace hx299_6 := hxT HB.out hx299_6
         replace hx299_7 := hxT HB.out hx299_7
         have HR299_7 := akk hi299_7
         have HC299_7 := akk hl299_7
         clear hi299_7 hl299_7
         replace p299 := eq_true p299
         replace q299 := eq_true q299
         go_wp2_with (first | ((with_reducible refine gate_dst (N := 10) rfl ?_); refine box_event ?hg (N := 10) ?hd (cs := #[.int .i64 0, .int .i64 0, .int .i64 0, .int .i64 0, .int .i64 0, .float .f64 0, .string (⟨#[]⟩ : ByteArray), .slice none 0 0]) (t := 53) ?hr ?_; (case hd => rfl); (case hg => rfl); (case hr => first | (go_simp; done) | (go_simp; rfl)); intro gb300 hg w11 hbox hb; replace HO_7 := rb HO_7 hb; have BK300 := akk (hbox); have GW300 := gw (p := w.heap.size ≤ gb300) hg; have GE300 := gw (p := w.heap.size ≤ gb300) hg; replace HB := bb HB hb; clear hb hbox hg; obtain ⟨hcz12_0, hcz12_1, hcz12_2, hcz12_3, hcz12_4, hcz12_5, hcz12_6, hcz12_7⟩ := cz8 BK300; obtain ⟨hfz12_0, hfz12_1, hfz12_2, hfz12_3, hfz12_4, hfz12_5, hfz12_6, hfz12_7⟩ := fz8 BK300) | (refine gT 22 (some 22) Tryz.func22 #[.agg #[.int .i64 ((rd_T53 l0 x15_1).f0), .int .i64 ((rd_T53 l0 x15_1).f1), .int .i64 ((rd_T53 l0 x15_1).f2), .int .i64 ((rd_T53 l0 x15_1).f3.f0), .int .i64 ((rd_T53 l0 x15_1).f3.f1), .float .f64 ((rd_T53 l0 x15_1).f3.f2), .string ((rd_T53 l0 x15_1).f3.f3), .slice A299_7 ((rd_T53 l0 x15_1).f4).length c299_7], .slice A1 l1.length c1] ?_; (with_reducible refine (expr_Eval.calls ((rd_T53 l0 x15_1).f0) ((rd_T53 l0 x15_1).f1) ((rd_T53 l0 x15_1).f2) ((rd_T53 l0 x15_1).f3.f0) ((rd_T53 l0 x15_1).f3.f1) ((rd_T53 l0 x15_1).f3.f2) ((rd_T53 l0 x15_1).f3.f3) _ _ ((rd_T53 l0 x15_1).f4) _ _ l1 t301 t302 t303 t304 t305 _ ?_ ?_ ?_ ?_ A6.out).mono ?_); exact Kd.C_below HR299_7.out (bS GE300.out); exact HC299_7.out; exact Kd.C_below HR1.out (bS GE300.out); exact HC1.out; rintro e w13 ⟨rfl, hb⟩; refine ⟨_, rfl, ?_⟩; replace HO_7 := akk (Kd.R_below (rT' (Kd.R_mono (Kd.R_far (p := ⟨gb300, 7, none⟩) (Kd.R_far (p := ⟨gb300, 6, none⟩) (Kd.R_far (p := ⟨gb300, 5, none⟩) (Kd.R_far (p := ⟨gb300, 4, none⟩) (Kd.R_far (p := ⟨gb300, 3, none⟩) (Kd.R_far (p := ⟨gb300, 2, none⟩) (Kd.R_far (p := ⟨gb300, 1, none⟩) (Kd.R_far (p := ⟨gb300, 0, none⟩) (Kd.R_types HO_7.out BK300.out (by decide)) (fun _ hk => hk.2) (.int .i64 ((rd_T53 l0 x15_1).f0))) (fun _ hk => hk.2) (.int .i64 ((rd_T53 l0 x15_1).f1))) (fun _ hk => hk.2) (.int .i64 ((rd_T53 l0 x15_1).f2))) (fun _ hk => hk.2) (.int .i64 ((rd_T53 l0 x15_1).f3.f0))) (fun _ hk => hk.2) (.int .i64 ((rd_T53 l0 x15_1).f3.f1))) (fun _ hk => hk.2) (.float .f64 ((rd_T53 l0 x15_1).f3.f2))) (fun _ hk => hk.2) (.string ((rd_T53 l0 x15_1).f3.f3))) (fun _ hk => hk.2) (.slice A299_7 ((rd_T53 l0 x15_1).f4).length c299_7)) (fun _ h_ => h_.1))) hb); replace BK300 := kq (o := .cells #[.int .i64 ((rd_T53 l0 x15_1).f0), .int .i64 ((rd_T53 l0 x15_1).f1), .int .i64 ((rd_T53 l0 x15_1).f2), .int .i64 ((rd_T53 l0 x15_1).f3.f0), .int .i64 ((rd_T53 l0 x15_1).f3.f1), .float .f64 ((rd_T53 l0 x15_1).f3.f2), .string ((rd_T53 l0 x15_1).f3.f3), .slice A299_7 ((rd_T53 l0 x15_1).f4).length c299_7] 53 (0, 0)) BK300.out hb; replace HB := bg GE300 hb; clear hb) | ((with_reducible refine gate_dst (N := 11) rfl ?_); refine box_event ?hg (N := 11) ?hd (cs := #[.int .i64 0, .int .i64 0, .float .f64 0, .string (⟨#[]⟩ : ByteArray)]) (t := 39) ?hr ?_; (case hd => rfl); (case hg => rfl); (case hr => first | (go_simp; done) | (go_simp; rfl)); intro gb306 hg w14 hbox hb; replace HO_7 := akk (Kd.R_below (Kd.R_elderB (rT HO_7.out) gb306 (Nat.le_of_eq hg.symm)) hb); have BK306 := akk (hbox); have GW306 := akk ((by rw [hg]; exact (below_size (bS GE300.out)) : w.heap.size ≤ gb306)); have GE306 := akk ((by rw [hg]; exact (below_size (bS GE300.out)) : w.heap.size ≤ gb306)); replace HB := bg GE300 hb; have NB300_306 := akk ((by rw [hg]; exact Nat.ne_of_lt (blk_lt (kT BK300.out)) : gb300 ≠ gb306)); have NB306_300 := akk ((by rw [hg]; exact Nat.ne_of_gt (blk_lt (kT BK300.out)) : gb306 ≠ gb300)); replace BK300 := kb BK300 hb; clear hb hbox hg; have hnb15 := NB306_300.out; have hnc15 := NB300_306.out; obtain ⟨hcz16_0, hcz16_1, hcz16_2, hcz16_3⟩ := cz4 BK306; obtain ⟨hfz16_0, hfz16_1, hfz16_2, hfz16_3⟩ := fz4 BK306) | (refine gT 35 (some 36) Tryz.func35 #[.agg #[.int .i64 t301, .int .i64 t302, .float .f64 t303, .string t304]] ?_; (with_reducible refine (value_Plain.calls t301 t302 t303 t304 t307 t308 t309 t310 _ A9.out).mono ?_); rintro e w17 ⟨rfl, hb⟩; refine ⟨_, rfl, ?_⟩; replace HO_7 := akk (Kd.R_below (rT' (Kd.R_mono (Kd.R_far (p := ⟨gb306, 3, none⟩) (Kd.R_far (p := ⟨gb306, 2, none⟩) (Kd.R_far (p := ⟨gb306, 1, none⟩) (Kd.R_far (p := ⟨gb306, 0, none⟩) (Kd.R_mono HO_7.out (fun k_ hk => (⟨hk, hk.2⟩ : _ ∧ k_ ≠ gb306))) (fun _ hk => hk.2) (.int .i64 t301)) (fun _ hk => hk.2) (.int .i64 t302)) (fun _ hk => hk.2) (.float .f64 t303)) (fun _ hk => hk.2) (.string t304)) (fun _ h_ => h_.1))) hb); replace BK300 := akk (blk_below (g := gb300) (o := .cells #[.int .i64 ((rd_T53 l0 x15_1).f0), .int .i64 ((rd_T53 l0 x15_1).f1), .int .i64 ((rd_T53 l0 x15_1).f2), .int .i64 ((rd_T53 l0 x15_1).f3.f0), .int .i64 ((rd_T53 l0 x15_1).f3.f1), .float .f64 ((rd_T53 l0 x15_1).f3.f2), .string ((rd_T53 l0 x15_1).f3.f3), .slice A299_7 ((rd_T53 l0 x15_1).f4).length c299_7] 53 (0, 0)) (by (with_reducible repeat (first | refine blk_drewN ?_ _ | refine blk_drew ?_ | refine blk_alloc ?_ _)); refine blk_far ?_ NB300_306.out _; (with_reducible repeat (first | refine blk_drewN ?_ _ | refine blk_drew ?_ | refine blk_alloc ?_ _)); refine blk_far ?_ NB300_306.out _; (with_reducible repeat (first | refine blk_drewN ?_ _ | refine blk_drew ?_ | refine blk_alloc ?_ _)); refine blk_far ?_ NB300_306.out _; (with_reducible repeat (first | refine blk_drewN ?_ _ | refine blk_drew ?_ | refine blk_alloc ?_ _)); refine blk_far ?_ NB300_306.out _; (with_reducible repeat (first | refine blk_drewN ?_ _ | refine blk_drew ?_ | refine blk_alloc ?_ _)); exact BK300.out) hb); replace BK306 := kq (o := .cells #[.int .i64 t301, .int .i64 t302, .float .f64 t303, .string t304] 39 (0, 0)) BK306.out hb; replace HB := akk (below_step (by repeat (first | (with_reducible first | exact HB.out | apply below_alloc | apply pw_below_drewN | apply below_drew1 | refine below_set ?_ GE300.out | refine below_set ?_ GE306.out) | exact HB.out)) hb); clear hb) | ((with_reducible refine gA #[.tmp 34, .tmp 37] rfl ?_); at_builtin; refine Kd.R_append k39 (w0 := w) w.heap.size rfl (.tmp 34) (.tmp 37) 29 39 (.agg #[(.int .i64 0), (.int .i64 0), (.float .f64 0), (.string ⟨#[]⟩)]) 40 rfl Tryz.underlying29 info39 rfl (by decide) (by omega) u7 x7_1 (⟨t307, t308, t309, t310⟩ : S39) [.int .i64 t307, .int .i64 t308, .float .f64 t309, .string t310] (fun k_ => k_ ≠ gb306) (fun _ => False) rfl rfl ?aP (fun _ hk => hk.elim) ?aF ?aO ?aB ?aS ?aL ?_; (case aP => exact k39_mkM _ _ _ (⟨t307, t308, t309, t310⟩ : S39)); (case aB => exact (by repeat (first | (with_reducible first | exact HB.out | apply below_alloc | apply pw_below_drewN | apply below_drew1 | refine below_set ?_ GE300.out | refine below_set ?_ GE306.out) | exact HB.out))); (case aF => exact (fun k_ hk => Kd.freshB (g := gb306) (o := .cells #[.int .i64 t301, .int .i64 t302, .float .f64 t303, .string t304] 39 (0, 0)) (kT BK306.out) k_ hk)); (case aO => exact (rT' (Kd.R_mono HO_7.out (fun _ hk => hk.2)))); (case aS => exact (below_size (by repeat (first | (with_reducible first | exact HB.out | apply below_alloc | apply pw_below_drewN | apply below_drew1 | refine below_set ?_ GE300.out | refine below_set ?_ GE306.out) | exact HB.out)))); (case aL => have := LMc10.out; omega); intro v312 w18 ho hb hg hat; rw [← Ny311.out] at ho; replace BK300 := kg BK300 hg (Kd.R_ne HO_7.out BK300.out (by decide)); replace BK306 := kg BK306 hg (Kd.R_away HO_7.out (fun _ hk => hk.2)); replace HB := akk (hb); have HO313 := akk (ho); clear HO_7; clear ho hb hg hat))
         go_roundg k1
         case measure => have := HK1.out; omega
         case rel => exact ⟨(y311), ((t301 != 0)), (wrap64 (x15_1 + 1)), eT, eT, H', ⟨by have := HK1.out; omega⟩, ⟨rT' (Kd.R_mono HO313.out (fun _ hk => trivial))⟩, ⟨by repeat (first | (with_reducible first | exact HB.out | apply below_alloc | apply pw_below_drewN | apply below_drew1 | refine below_set ?_ GE300.out | refine below_set ?_ GE306.out) | exact HB.out)⟩⟩
        ·rw [if_neg c10] at H
         exact absurd H (by simp)
       ·replace c8 := Bool.eq_false_iff.mpr c8
        subst c8
        rw [if_neg (show ¬ (false = true) by decide)] at H
        obtain ⟨⟨t314, t315, t316, t317⟩, A19, H⟩ := bi H
        try dsimp only at H
        by_cases c20 : x7_1.length < 3518437208883
        ·rw [if_pos c20] at H
         have LMc20 := akk c20
         clear c20
         obtain ⟨y318, hy318⟩ : ∃ y_ : List (S39), y_ = (x7_1 ++ [(⟨t314, t315, t316, t317⟩ : S39)]) := ⟨_, rfl⟩
         replace H : (joins_Keys.l0 k1 l1 y318 false l0 (l0.length : Int) (wrap64 (x15_1 + 1))) = some (r1, r2, r3) := jT hy318 H
         have Ny318 := akk hy318
         clear hy318
         have H' := akk H
         clear H
         have p299 : 0 ≤ (x15_1 : Int) := of_decide_eq_true aT
         have q299 : x15_1 < (l0.length : Int) := of_decide_eq_true aT
         obtain ⟨ad299, A299_7, c299_7, e299, hx299_0, hx299_1, hx299_2, hx299_3, hx299_4, hx299_5, hx299_6, hx299_7, hl299_7, hi299_7⟩ := at_T53 HR0.out x15_1 p299 q299
         cases e299
         replace hx299_0 := hxT HB.out hx299_0
         replace hx299_1 := hxT HB.out hx299_1
         replace hx299_2 := hxT HB.out hx299_2
         replace hx299_3 := hxT HB.out hx299_3
         replace hx299_4 := hxT HB.out hx299_4
         replace hx299_5 := hxT HB.out hx299_5
         replace hx299_6 := hxT HB.out hx299_6
         replace hx299_7 := hxT HB.out hx299_7
         have HR299_7 := akk hi299_7
         have HC299_7 := akk hl299_7
         clear hi299_7 hl299_7
         replace p299 := eq_true p299
         replace q299 := eq_true q299
         go_wp2_with (first | ((with_reducible refine gate_dst (N := 10) rfl ?_); refine box_event ?hg (N := 10) ?hd (cs := #[.int .i64 0, .int .i64 0, .int .i64 0, .int .i64 0, .int .i64 0, .float .f64 0, .string (⟨#[]⟩ : ByteArray), .slice none 0 0]) (t := 53) ?hr ?_; (case hd => rfl); (case hg => rfl); (case hr => first | (go_simp; done) | (go_simp; rfl)); intro gb300 hg w21 hbox hb; replace HO_7 := rb HO_7 hb; have BK300 := akk (hbox); have GW300 := gw (p := w.heap.size ≤ gb300) hg; have GE300 := gw (p := w.heap.size ≤ gb300) hg; replace HB := bb HB hb; clear hb hbox hg; obtain ⟨hcz22_0, hcz22_1, hcz22_2, hcz22_3, hcz22_4, hcz22_5, hcz22_6, hcz22_7⟩ := cz8 BK300; obtain ⟨hfz22_0, hfz22_1, hfz22_2, hfz22_3, hfz22_4, hfz22_5, hfz22_6, hfz22_7⟩ := fz8 BK300) | (refine gT 22 (some 22) Tryz.func22 #[.agg #[.int .i64 ((rd_T53 l0 x15_1).f0), .int .i64 ((rd_T53 l0 x15_1).f1), .int .i64 ((rd_T53 l0 x15_1).f2), .int .i64 ((rd_T53 l0 x15_1).f3.f0), .int .i64 ((rd_T53 l0 x15_1).f3.f1), .float .f64 ((rd_T53 l0 x15_1).f3.f2), .string ((rd_T53 l0 x15_1).f3.f3), .slice A299_7 ((rd_T53 l0 x15_1).f4).length c299_7], .slice A1 l1.length c1] ?_; (with_reducible refine (expr_Eval.calls ((rd_T53 l0 x15_1).f0) ((rd_T53 l0 x15_1).f1) ((rd_T53 l0 x15_1).f2) ((rd_T53 l0 x15_1).f3.f0) ((rd_T53 l0 x15_1).f3.f1) ((rd_T53 l0 x15_1).f3.f2) ((rd_T53 l0 x15_1).f3.f3) _ _ ((rd_T53 l0 x15_1).f4) _ _ l1 t301 t302 t303 t304 t305 _ ?_ ?_ ?_ ?_ A6.out).mono ?_); exact Kd.C_below HR299_7.out (bS GE300.out); exact HC299_7.out; exact Kd.C_below HR1.out (bS GE300.out); exact HC1.out; rintro e w23 ⟨rfl, hb⟩; refine ⟨_, rfl, ?_⟩; replace HO_7 := akk (Kd.R_below (rT' (Kd.R_mono (Kd.R_far (p := ⟨gb300, 7, none⟩) (Kd.R_far (p := ⟨gb300, 6, none⟩) (Kd.R_far (p := ⟨gb300, 5, none⟩) (Kd.R_far (p := ⟨gb300, 4, none⟩) (Kd.R_far (p := ⟨gb300, 3, none⟩) (Kd.R_far (p := ⟨gb300, 2, none⟩) (Kd.R_far (p := ⟨gb300, 1, none⟩) (Kd.R_far (p := ⟨gb300, 0, none⟩) (Kd.R_types HO_7.out BK300.out (by decide)) (fun _ hk => hk.2) (.int .i64 ((rd_T53 l0 x15_1).f0))) (fun _ hk => hk.2) (.int .i64 ((rd_T53 l0 x15_1).f1))) (fun _ hk => hk.2) (.int .i64 ((rd_T53 l0 x15_1).f2))) (fun _ hk => hk.2) (.int .i64 ((rd_T53 l0 x15_1).f3.f0))) (fun _ hk => hk.2) (.int .i64 ((rd_T53 l0 x15_1).f3.f1))) (fun _ hk => hk.2) (.float .f64 ((rd_T53 l0 x15_1).f3.f2))) (fun _ hk => hk.2) (.string ((rd_T53 l0 x15_1).f3.f3))) (fun _ hk => hk.2) (.slice A299_7 ((rd_T53 l0 x15_1).f4).length c299_7)) (fun _ h_ => h_.1))) hb); replace BK300 := kq (o := .cells #[.int .i64 ((rd_T53 l0 x15_1).f0), .int .i64 ((rd_T53 l0 x15_1).f1), .int .i64 ((rd_T53 l0 x15_1).f2), .int .i64 ((rd_T53 l0 x15_1).f3.f0), .int .i64 ((rd_T53 l0 x15_1).f3.f1), .float .f64 ((rd_T53 l0 x15_1).f3.f2), .string ((rd_T53 l0 x15_1).f3.f3), .slice A299_7 ((rd_T53 l0 x15_1).f4).length c299_7] 53 (0, 0)) BK300.out hb; replace HB := bg GE300 hb; clear hb) | ((with_reducible refine gate_dst (N := 11) rfl ?_); refine box_event ?hg (N := 11) ?hd (cs := #[.int .i64 0, .int .i64 0, .float .f64 0, .string (⟨#[]⟩ : ByteArray)]) (t := 39) ?hr ?_; (case hd => rfl); (case hg => rfl); (case hr => first | (go_simp; done) | (go_simp; rfl)); intro gb306 hg w24 hbox hb; replace HO_7 := akk (Kd.R_below (Kd.R_elderB (rT HO_7.out) gb306 (Nat.le_of_eq hg.symm)) hb); have BK306 := akk (hbox); have GW306 := akk ((by rw [hg]; exact (below_size (bS GE300.out)) : w.heap.size ≤ gb306)); have GE306 := akk ((by rw [hg]; exact (below_size (bS GE300.out)) : w.heap.size ≤ gb306)); replace HB := bg GE300 hb; have NB300_306 := akk ((by rw [hg]; exact Nat.ne_of_lt (blk_lt (kT BK300.out)) : gb300 ≠ gb306)); have NB306_300 := akk ((by rw [hg]; exact Nat.ne_of_gt (blk_lt (kT BK300.out)) : gb306 ≠ gb300)); replace BK300 := kb BK300 hb; clear hb hbox hg; have hnb25 := NB306_300.out; have hnc25 := NB300_306.out; obtain ⟨hcz26_0, hcz26_1, hcz26_2, hcz26_3⟩ := cz4 BK306; obtain ⟨hfz26_0, hfz26_1, hfz26_2, hfz26_3⟩ := fz4 BK306) | (refine gT 35 (some 36) Tryz.func35 #[.agg #[.int .i64 t301, .int .i64 t302, .float .f64 t303, .string t304]] ?_; (with_reducible refine (value_Plain.calls t301 t302 t303 t304 t314 t315 t316 t317 _ A19.out).mono ?_); rintro e w27 ⟨rfl, hb⟩; refine ⟨_, rfl, ?_⟩; replace HO_7 := akk (Kd.R_below (rT' (Kd.R_mono (Kd.R_far (p := ⟨gb306, 3, none⟩) (Kd.R_far (p := ⟨gb306, 2, none⟩) (Kd.R_far (p := ⟨gb306, 1, none⟩) (Kd.R_far (p := ⟨gb306, 0, none⟩) (Kd.R_mono HO_7.out (fun k_ hk => (⟨hk, hk.2⟩ : _ ∧ k_ ≠ gb306))) (fun _ hk => hk.2) (.int .i64 t301)) (fun _ hk => hk.2) (.int .i64 t302)) (fun _ hk => hk.2) (.float .f64 t303)) (fun _ hk => hk.2) (.string t304)) (fun _ h_ => h_.1))) hb); replace BK300 := akk (blk_below (g := gb300) (o := .cells #[.int .i64 ((rd_T53 l0 x15_1).f0), .int .i64 ((rd_T53 l0 x15_1).f1), .int .i64 ((rd_T53 l0 x15_1).f2), .int .i64 ((rd_T53 l0 x15_1).f3.f0), .int .i64 ((rd_T53 l0 x15_1).f3.f1), .float .f64 ((rd_T53 l0 x15_1).f3.f2), .string ((rd_T53 l0 x15_1).f3.f3), .slice A299_7 ((rd_T53 l0 x15_1).f4).length c299_7] 53 (0, 0)) (by (with_reducible repeat (first | refine blk_drewN ?_ _ | refine blk_drew ?_ | refine blk_alloc ?_ _)); refine blk_far ?_ NB300_306.out _; (with_reducible repeat (first | refine blk_drewN ?_ _ | refine blk_drew ?_ | refine blk_alloc ?_ _)); refine blk_far ?_ NB300_306.out _; (with_reducible repeat (first | refine blk_drewN ?_ _ | refine blk_drew ?_ | refine blk_alloc ?_ _)); refine blk_far ?_ NB300_306.out _; (with_reducible repeat (first | refine blk_drewN ?_ _ | refine blk_drew ?_ | refine blk_alloc ?_ _)); refine blk_far ?_ NB300_306.out _; (with_reducible repeat (first | refine blk_drewN ?_ _ | refine blk_drew ?_ | refine blk_alloc ?_ _)); exact BK300.out) hb); replace BK306 := kq (o := .cells #[.int .i64 t301, .int .i64 t302, .float .f64 t303, .string t304] 39 (0, 0)) BK306.out hb; replace HB := akk (below_step (by repeat (first | (with_reducible first | exact HB.out | apply below_alloc | apply pw_below_drewN | apply below_drew1 | refine below_set ?_ GE300.out | refine below_set ?_ GE306.out) | exact HB.out)) hb); clear hb) | ((with_reducible refine gA #[.tmp 34, .tmp 37] rfl ?_); at_builtin; refine Kd.R_append k39 (w0 := w) w.heap.size rfl (.tmp 34) (.tmp 37) 29 39 (.agg #[(.int .i64 0), (.int .i64 0), (.float .f64 0), (.string ⟨#[]⟩)]) 40 rfl Tryz.underlying29 info39 rfl (by decide) (by omega) u7 x7_1 (⟨t314, t315, t316, t317⟩ : S39) [.int .i64 t314, .int .i64 t315, .float .f64 t316, .string t317] (fun k_ => k_ ≠ gb306) (fun _ => False) rfl rfl ?aP (fun _ hk => hk.elim) ?aF ?aO ?aB ?aS ?aL ?_; (case aP => exact k39_mkM _ _ _ (⟨t314, t315, t316, t317⟩ : S39)); (case aB => exact (by repeat (first | (with_reducible first | exact HB.out | apply below_alloc | apply pw_below_drewN | apply below_drew1 | refine below_set ?_ GE300.out | refine below_set ?_ GE306.out) | exact HB.out))); (case aF => exact (fun k_ hk => Kd.freshB (g := gb306) (o := .cells #[.int .i64 t301, .int .i64 t302, .float .f64 t303, .string t304] 39 (0, 0)) (kT BK306.out) k_ hk)); (case aO => exact (rT' (Kd.R_mono HO_7.out (fun _ hk => hk.2)))); (case aS => exact (below_size (by repeat (first | (with_reducible first | exact HB.out | apply below_alloc | apply pw_below_drewN | apply below_drew1 | refine below_set ?_ GE300.out | refine below_set ?_ GE306.out) | exact HB.out)))); (case aL => have := LMc20.out; omega); intro v319 w28 ho hb hg hat; rw [← Ny318.out] at ho; replace BK300 := kg BK300 hg (Kd.R_ne HO_7.out BK300.out (by decide)); replace BK306 := kg BK306 hg (Kd.R_away HO_7.out (fun _ hk => hk.2)); replace HB := akk (hb); have HO320 := akk (ho); clear HO_7; clear ho hb hg hat))
         go_roundg k1
         case measure => have := HK1.out; omega
         case rel => exact ⟨(y318), (false), (wrap64 (x15_1 + 1)), eT, eT, H', ⟨by have := HK1.out; omega⟩, ⟨rT' (Kd.R_mono HO320.out (fun _ hk => trivial))⟩, ⟨by repeat (first | (with_reducible first | exact HB.out | apply below_alloc | apply pw_below_drewN | apply below_drew1 | refine below_set ?_ GE300.out | refine below_set ?_ GE306.out) | exact HB.out)⟩⟩
        ·rw [if_neg c20] at H
         exact absurd H (by simp)
      ·rw [if_neg c7] at H
       have c7b0 : (t305 == 0) = false := beq_eq_false_iff_ne.mpr c7
       have c7b1 : (t305 != 0) = true := bne_iff_ne.mpr c7
       simp only [Option.some.injEq, Prod.mk.injEq] at H
       obtain ⟨rfl, rfl, rfl⟩ := H
       have p299 : 0 ≤ (x15_1 : Int) := of_decide_eq_true aT
       have q299 : x15_1 < (l0.length : Int) := of_decide_eq_true aT
       obtain ⟨ad299, A299_7, c299_7, e299, hx299_0, hx299_1, hx299_2, hx299_3, hx299_4, hx299_5, hx299_6, hx299_7, hl299_7, hi299_7⟩ := at_T53 HR0.out x15_1 p299 q299
       cases e299
       replace hx299_0 := hxT HB.out hx299_0
       replace hx299_1 := hxT HB.out hx299_1
       replace hx299_2 := hxT HB.out hx299_2
       replace hx299_3 := hxT HB.out hx299_3
       replace hx299_4 := hxT HB.out hx299_4
       replace hx299_5 := hxT HB.out hx299_5
       replace hx299_6 := hxT HB.out hx299_6
       replace hx299_7 := hxT HB.out hx299_7
       have HR299_7 := akk hi299_7
       have HC299_7 := akk hl299_7
       clear hi299_7 hl299_7
       replace p299 := eq_true p299
       replace q299 := eq_true q299
       go_wp2_with (first | ((with_reducible refine gate_dst (N := 10) rfl ?_); refine box_event ?hg (N := 10) ?hd (cs := #[.int .i64 0, .int .i64 0, .int .i64 0, .int .i64 0, .int .i64 0, .float .f64 0, .string (⟨#[]⟩ : ByteArray), .slice none 0 0]) (t := 53) ?hr ?_; (case hd => rfl); (case hg => rfl); (case hr => first | (go_simp; done) | (go_simp; rfl)); intro gb300 hg w29 hbox hb; replace HO_7 := rb HO_7 hb; have BK300 := akk (hbox); have GW300 := gw (p := w.heap.size ≤ gb300) hg; have GE300 := gw (p := w.heap.size ≤ gb300) hg; replace HB := bb HB hb; clear hb hbox hg; obtain ⟨hcz30_0, hcz30_1, hcz30_2, hcz30_3, hcz30_4, hcz30_5, hcz30_6, hcz30_7⟩ := cz8 BK300; obtain ⟨hfz30_0, hfz30_1, hfz30_2, hfz30_3, hfz30_4, hfz30_5, hfz30_6, hfz30_7⟩ := fz8 BK300) | (refine gT 22 (some 22) Tryz.func22 #[.agg #[.int .i64 ((rd_T53 l0 x15_1).f0), .int .i64 ((rd_T53 l0 x15_1).f1), .int .i64 ((rd_T53 l0 x15_1).f2), .int .i64 ((rd_T53 l0 x15_1).f3.f0), .int .i64 ((rd_T53 l0 x15_1).f3.f1), .float .f64 ((rd_T53 l0 x15_1).f3.f2), .string ((rd_T53 l0 x15_1).f3.f3), .slice A299_7 ((rd_T53 l0 x15_1).f4).length c299_7], .slice A1 l1.length c1] ?_; (with_reducible refine (expr_Eval.calls ((rd_T53 l0 x15_1).f0) ((rd_T53 l0 x15_1).f1) ((rd_T53 l0 x15_1).f2) ((rd_T53 l0 x15_1).f3.f0) ((rd_T53 l0 x15_1).f3.f1) ((rd_T53 l0 x15_1).f3.f2) ((rd_T53 l0 x15_1).f3.f3) _ _ ((rd_T53 l0 x15_1).f4) _ _ l1 t301 t302 t303 t304 t305 _ ?_ ?_ ?_ ?_ A6.out).mono ?_); exact Kd.C_below HR299_7.out (bS GE300.out); exact HC299_7.out; exact Kd.C_below HR1.out (bS GE300.out); exact HC1.out; rintro e w31 ⟨rfl, hb⟩; refine ⟨_, rfl, ?_⟩; replace HO_7 := akk (Kd.R_below (rT' (Kd.R_mono (Kd.R_far (p := ⟨gb300, 7, none⟩) (Kd.R_far (p := ⟨gb300, 6, none⟩) (Kd.R_far (p := ⟨gb300, 5, none⟩) (Kd.R_far (p := ⟨gb300, 4, none⟩) (Kd.R_far (p := ⟨gb300, 3, none⟩) (Kd.R_far (p := ⟨gb300, 2, none⟩) (Kd.R_far (p := ⟨gb300, 1, none⟩) (Kd.R_far (p := ⟨gb300, 0, none⟩) (Kd.R_types HO_7.out BK300.out (by decide)) (fun _ hk => hk.2) (.int .i64 ((rd_T53 l0 x15_1).f0))) (fun _ hk => hk.2) (.int .i64 ((rd_T53 l0 x15_1).f1))) (fun _ hk => hk.2) (.int .i64 ((rd_T53 l0 x15_1).f2))) (fun _ hk => hk.2) (.int .i64 ((rd_T53 l0 x15_1).f3.f0))) (fun _ hk => hk.2) (.int .i64 ((rd_T53 l0 x15_1).f3.f1))) (fun _ hk => hk.2) (.float .f64 ((rd_T53 l0 x15_1).f3.f2))) (fun _ hk => hk.2) (.string ((rd_T53 l0 x15_1).f3.f3))) (fun _ hk => hk.2) (.slice A299_7 ((rd_T53 l0 x15_1).f4).length c299_7)) (fun _ h_ => h_.1))) hb); replace BK300 := kq (o := .cells #[.int .i64 ((rd_T53 l0 x15_1).f0), .int .i64 ((rd_T53 l0 x15_1).f1), .int .i64 ((rd_T53 l0 x15_1).f2), .int .i64 ((rd_T53 l0 x15_1).f3.f0), .int .i64 ((rd_T53 l0 x15_1).f3.f1), .float .f64 ((rd_T53 l0 x15_1).f3.f2), .string ((rd_T53 l0 x15_1).f3.f3), .slice A299_7 ((rd_T53 l0 x15_1).f4).length c299_7] 53 (0, 0)) BK300.out hb; replace HB := bg GE300 hb; clear hb) | ((with_reducible refine gate_dst (N := 11) rfl ?_); refine box_event ?hg (N := 11) ?hd (cs := #[.int .i64 0, .int .i64 0, .float .f64 0, .string (⟨#[]⟩ : ByteArray)]) (t := 39) ?hr ?_; (case hd => rfl); (case hg => rfl); (case hr => first | (go_simp; done) | (go_simp; rfl)); intro gb306 hg w32 hbox hb; replace HO_7 := akk (Kd.R_below (Kd.R_elderB (rT HO_7.out) gb306 (Nat.le_of_eq hg.symm)) hb); have BK306 := akk (hbox); have GW306 := akk ((by rw [hg]; exact (below_size (bS GE300.out)) : w.heap.size ≤ gb306)); have GE306 := akk ((by rw [hg]; exact (below_size (bS GE300.out)) : w.heap.size ≤ gb306)); replace HB := bg GE300 hb; have NB300_306 := akk ((by rw [hg]; exact Nat.ne_of_lt (blk_lt (kT BK300.out)) : gb300 ≠ gb306)); have NB306_300 := akk ((by rw [hg]; exact Nat.ne_of_gt (blk_lt (kT BK300.out)) : gb306 ≠ gb300)); replace BK300 := kb BK300 hb; clear hb hbox hg; have hnb33 := NB306_300.out; have hnc33 := NB300_306.out; obtain ⟨hcz34_0, hcz34_1, hcz34_2, hcz34_3⟩ := cz4 BK306; obtain ⟨hfz34_0, hfz34_1, hfz34_2, hfz34_3⟩ := fz4 BK306))
       go_ret3
       exact ⟨_, fT, zT, by repeat (first | (with_reducible first | exact HB.out | apply below_alloc | apply pw_below_drewN | apply below_drew1 | refine below_set ?_ GE300.out | refine below_set ?_ GE306.out) | exact HB.out)⟩
     ·rw [if_neg c5] at H
      exact absurd H (by simp)
    ·rw [if_neg c4] at H
     exact absurd H (by simp)
   ·rw [if_neg c3] at H
    have c3b0 := decide_eq_false c3
    clear c3
    simp only [Option.some.injEq, Prod.mk.injEq] at H
    obtain ⟨rfl, rfl, rfl⟩ := H
    go_wp2
    go_ret3
    exact ⟨_, fT, rT' HO_7.out, bT⟩
def joins_keyedAll.l0 : Nat → List (S53) → List (S80) → T3 → Int → Int → Option ((List (S80)) × Int)
 | 0, _, _, _, _, _ => none
 | k + 1, x0, x6, x12, x13, x14 => if x14 < x13 then (if 0 ≤ x14 then (if x14 < (x12.length : Int) then ((joins_Keys.f k x0 (rd_L6 x12 x14)).bind fun bt322 => (if bt322.2.2 = 0 then (if bt322.2.1 = true then (if x6.length < 4398046511104 then (joins_keyedAll.l0 k x0 (x6 ++ [(⟨x14, bt322.1⟩ : S80)]) x12 x13 (wrap64 (x14 + 1))) else (none)) else (joins_keyedAll.l0 k x0 x6 x12 x13 (wrap64 (x14 + 1)))) else (some (([] : List (S80)), bt322.2.2)))) else (none)) else (none)) else (some (x6, 0))
def joins_keyedAll.f (k : Nat) (l0 : List (S53)) (l1 : T3) : Option ((List (S80)) × Int) := joins_keyedAll.l0 k l0 ([] : List (S80)) l1 (l1.length : Int) 0
set_option maxHeartbeats 8000000 in
set_option maxRecDepth 100000 in
theorem joins_keyedAll.calls (k : Nat) (A0 : Option Addr) (c0 : Nat) (l0 : List (S53)) (A1 : Option Addr) (c1 : Nat) (l1 : T3) (r1 : List (S80)) (r2 : Int) (w : World) (hr0 : Kd.C k53 w A0 l0.length l0) (hc0 : l0.length ≤ c0) (hr1 : Kd.C (Kd.slice 29 (Kd.slice 39 k39)) w A1 l1.length l1) (hc1 : l1.length ≤ c1) (h : joins_keyedAll.f k l0 l1 = some (r1, r2)) :
 Calls Tryz.prog 68 #[.slice A0 l0.length c0, .slice A1 l1.length c1] w fun e w' => ∃ v0_ : Value, e = .returned (.tuple #[v0_, .int .i64 r2]) ∧ Kd.S k80 80 w' w.heap.size (fun _ => True) v0_ r1 ∧ Below w.heap.size w w' := by
 have hu80 := Tryz.underlying80
 have HR0 := akk hr0
 have HC0 := akk hc0
 clear hr0 hc0
 have HR1 := akk hr1
 have HC1 := akk hc1
 clear hr1 hc1
 have HB := akk (Below.refl w.heap.size w)
 have H : (joins_keyedAll.l0 k l0 ([] : List (S80)) l1 (l1.length : Int) 0) = some (r1, r2) := h
 clear h
 have H' := akk H
 clear H
 go_enter Tryz.func68, Tryz.ntmps68
 go_wp2
 go_loopg [6, 14] k (fun kq v6 v14 w' => ∃ (x6_1 : List (S80)) (x14_1 : Int), v14 = .int .i64 x14_1 ∧ Aside0 (joins_keyedAll.l0 kq l0 x6_1 l1 (l1.length : Int) x14_1 = some (r1, r2)) ∧ Aside0 (kq ≤ k) ∧ Aside0 (Kd.S k80 80 w' w.heap.size (fun _ => True) v6 x6_1) ∧ Aside0 (Below w.heap.size w w'))
 case atStart => exact ⟨(([] : List (S80))), (0), eT, H', ⟨Nat.le_refl _⟩, ⟨by first | exact Kd.S_nil _ _ _ _ _ | exact Kd.N_nil _ _ _ _ _ | exact Kd.V_nil _ _ _ _ _ | exact Kd.Q_nil _ _ _ _ _ | exact Kd.R_nil _ _ _ _ _⟩, ⟨bT⟩⟩
 case round =>
  clear H'
  obtain ⟨x6_1, x14_1, rfl, HA, HK1, HO_6, HB⟩ := hrel
  cases gk with
  | zero => exact absurd HA.out (by simp [joins_keyedAll.l0])
  | succ k1 =>
   have H := HA.out
   clear HA
   simp only [joins_keyedAll.l0] at H
   by_cases c3 : x14_1 < (l1.length : Int)
   ·rw [if_pos c3] at H
    have c3b0 := decide_eq_true c3
    clear c3
    by_cases c4 : 0 ≤ x14_1
    ·rw [if_pos c4] at H
     have c4b0 := decide_eq_true c4
     clear c4
     by_cases c5 : x14_1 < (l1.length : Int)
     ·rw [if_pos c5] at H
      have c5b0 := decide_eq_true c5
      clear c5
      obtain ⟨⟨t322, t323, t324⟩, A6, H⟩ := bi H
      try dsimp only at H
      by_cases c7 : t324 = 0
      ·rw [if_pos c7] at H
       have c7b0 : (t324 == 0) = true := beq_iff_eq.mpr c7
       have c7b1 : (t324 != 0) = false := bne_eq_false_iff_eq.mpr c7
       clear c7
       by_cases c8 : t323 = true
       ·subst c8
        rw [if_pos rfl] at H
        by_cases c9 : x6_1.length < 4398046511104
        ·rw [if_pos c9] at H
         have LMc9 := akk c9
         clear c9
         obtain ⟨y327, hy327⟩ : ∃ y_ : List (S80), y_ = (x6_1 ++ [(⟨x14_1, t322⟩ : S80)]) := ⟨_, rfl⟩
         replace H : (joins_keyedAll.l0 k1 l0 y327 l1 (l1.length : Int) (wrap64 (x14_1 + 1))) = some (r1, r2) := jT hy327 H
         have Ny327 := akk hy327
         clear hy327
         have H' := akk H
         clear H
         obtain ⟨ad321, A321_0, c321_0, e321, hx321_0, HR321_0, HC321_0, p321, q321⟩ := gC6 HR1 x14_1
         cases e321
         replace hx321_0 := hxT HB.out hx321_0
         go_wp2_with (first | (refine gT 12 (some 22) Tryz.func12 #[.slice A0 l0.length c0, .slice A321_0 (rd_L6 l1 x14_1).length c321_0] ?_; (with_reducible refine (joins_Keys.calls k1 _ _ l0 _ _ (rd_L6 l1 x14_1) t322 true t324 _ ?_ ?_ ?_ ?_ A6.out).mono ?_); exact cT HR0.out; exact HC0.out; exact cT HR321_0.out; exact HC321_0.out; rintro e w10 ⟨v325, rfl, ho0, hb⟩; refine ⟨_, rfl, ?_⟩; replace HO_6 := se HO_6 ho0 hb; have HO326 := akk (Kd.R_lower ho0 (below_size bT)); replace HB := bb HB hb; (try clear hb); (try clear hb2); (try clear hk); (try clear hi); (try clear ho0); obtain ⟨Ao11, co11, eo11⟩ := Kd.R_slice HO326.out; subst eo11) | ((with_reducible refine gA #[.tmp 30, .tmp 34] rfl ?_); at_builtin; refine Kd.S_append k80 (w0 := w) w.heap.size rfl (.tmp 30) (.tmp 34) 75 80 (.agg #[(.int .i64 0), (.slice none 0 0)]) 32 rfl Tryz.underlying75 info80 rfl (by decide) (by omega) u6 x6_1 (⟨x14_1, t322⟩ : S80) [.int .i64 x14_1, .slice Ao11 t322.length co11] (fun _ => True) (fun k_ => some k_ = (.slice Ao11 t322.length co11 : Value).ownBlock) rfl rfl ?aP (fun k_ hk_ => ((Kd.R_mono (ok' := fun k_ => ((fun _ => True)) k_ ∧ some k_ ≠ (u6 : Value).ownBlock) (Kd.R_apart' (HO326.out) (Kd.S_typed HO_6.out) (by decide)) (fun k_ hk => ⟨trivial, hk.2⟩))).1 k_ hk_.symm) ?aF ?aO ?aB ?aS ?aL ?_; (case aP => exact k80_mkM _ _ _ (⟨x14_1, t322⟩ : S80) (Kd.R_mono (Kd.R_tight rfl (Kd.R_mono (ok' := fun k_ => ((fun _ => True)) k_ ∧ some k_ ≠ (u6 : Value).ownBlock) (Kd.R_apart' (HO326.out) (Kd.S_typed HO_6.out) (by decide)) (fun k_ hk => ⟨trivial, hk.2⟩))) (fun _ h_ => h_))); (case aB => exact bT); (case aF => exact (fun _ _ => trivial)); (case aO => exact (sT' (Kd.S_mono HO_6.out (fun k_ hk => ⟨trivial, fun e_ => hk.2 e_⟩)))); (case aS => exact (below_size bT)); (case aL => have := LMc9.out; omega); intro v328 w12 ho hb hg hat; rw [← Ny327.out] at ho; replace HB := akk (hb); have HO329 := akk (ho); clear HO_6 HO326; clear ho hb hg hat))
         go_roundg k1
         case measure => have := HK1.out; omega
         case rel => exact ⟨(y327), (wrap64 (x14_1 + 1)), eT, H', ⟨by have := HK1.out; omega⟩, ⟨sT' HO329.out⟩, ⟨bT⟩⟩
        ·rw [if_neg c9] at H
         exact absurd H (by simp)
       ·replace c8 := Bool.eq_false_iff.mpr c8
        subst c8
        rw [if_neg (show ¬ (false = true) by decide)] at H
        have H' := akk H
        clear H
        obtain ⟨ad321, A321_0, c321_0, e321, hx321_0, HR321_0, HC321_0, p321, q321⟩ := gC6 HR1 x14_1
        cases e321
        replace hx321_0 := hxT HB.out hx321_0
        go_wp2_with (refine gT 12 (some 22) Tryz.func12 #[.slice A0 l0.length c0, .slice A321_0 (rd_L6 l1 x14_1).length c321_0] ?_; (with_reducible refine (joins_Keys.calls k1 _ _ l0 _ _ (rd_L6 l1 x14_1) t322 false t324 _ ?_ ?_ ?_ ?_ A6.out).mono ?_); exact cT HR0.out; exact HC0.out; exact cT HR321_0.out; exact HC321_0.out; rintro e w13 ⟨v325, rfl, ho0, hb⟩; refine ⟨_, rfl, ?_⟩; replace HO_6 := se HO_6 ho0 hb; have HO326 := akk (Kd.R_lower ho0 (below_size bT)); replace HB := bb HB hb; clear hb ho0)
        go_roundg k1
        case measure => have := HK1.out; omega
        case rel => exact ⟨(x6_1), (wrap64 (x14_1 + 1)), eT, H', ⟨by have := HK1.out; omega⟩, ⟨sT' (Kd.S_mono HO_6.out (fun _ hk => trivial))⟩, ⟨bT⟩⟩
      ·rw [if_neg c7] at H
       have c7b0 : (t324 == 0) = false := beq_eq_false_iff_ne.mpr c7
       have c7b1 : (t324 != 0) = true := bne_iff_ne.mpr c7
       simp only [Option.some.injEq, Prod.mk.injEq] at H
       obtain ⟨rfl, rfl⟩ := H
       obtain ⟨ad321, A321_0, c321_0, e321, hx321_0, HR321_0, HC321_0, p321, q321⟩ := gC6 HR1 x14_1
       cases e321
       replace hx321_0 := hxT HB.out hx321_0
       go_wp2_with (refine gT 12 (some 22) Tryz.func12 #[.slice A0 l0.length c0, .slice A321_0 (rd_L6 l1 x14_1).length c321_0] ?_; (with_reducible refine (joins_Keys.calls k1 _ _ l0 _ _ (rd_L6 l1 x14_1) t322 t323 t324 _ ?_ ?_ ?_ ?_ A6.out).mono ?_); exact cT HR0.out; exact HC0.out; exact cT HR321_0.out; exact HC321_0.out; rintro e w14 ⟨v325, rfl, ho0, hb⟩; refine ⟨_, rfl, ?_⟩; replace HO_6 := se HO_6 ho0 hb; have HO326 := akk (Kd.R_lower ho0 (below_size bT)); replace HB := bb HB hb; clear hb ho0)
       go_ret2
       exact ⟨_, fT, by first | exact Kd.S_nil _ _ _ _ _ | exact Kd.N_nil _ _ _ _ _ | exact Kd.V_nil _ _ _ _ _ | exact Kd.Q_nil _ _ _ _ _ | exact Kd.R_nil _ _ _ _ _, bT⟩
     ·rw [if_neg c5] at H
      exact absurd H (by simp)
    ·rw [if_neg c4] at H
     exact absurd H (by simp)
   ·rw [if_neg c3] at H
    have c3b0 := decide_eq_false c3
    clear c3
    simp only [Option.some.injEq, Prod.mk.injEq] at H
    obtain ⟨rfl, rfl⟩ := H
    go_wp2
    go_ret2
    exact ⟨_, fT, sT' HO_6.out, bT⟩
def joins_both.j0 : Nat → T3 → T3 → List (S53) → List (S53) → Bool → Option ((List (S80)) × (List (S80)) × Int)
 | 0, _, _, _, _, _ => none
 | k + 1, x0, x1, x2, x3, x20 => if x20 = true then (some (([] : List (S80)), ([] : List (S80)), 2)) else ((joins_keyedAll.f k x2 x0).bind fun bt330 => (if bt330.2 = 0 then ((joins_keyedAll.f k x3 x1).bind fun bt334 => (if bt334.2 = 0 then (some (bt330.1, bt334.1, 0)) else (some (([] : List (S80)), ([] : List (S80)), bt334.2)))) else (some (([] : List (S80)), ([] : List (S80)), bt330.2))))
def joins_both.f (k : Nat) (l0 : T3) (l1 : T3) (l2 : List (S53)) (l3 : List (S53)) : Option ((List (S80)) × (List (S80)) × Int) := if (l2.length : Int) = (l3.length : Int) then (joins_both.j0 k l0 l1 l2 l3 ((l2.length : Int) == 0)) else (joins_both.j0 k l0 l1 l2 l3 true)
set_option maxHeartbeats 8000000 in
set_option maxRecDepth 100000 in
theorem joins_both.calls (k : Nat) (A0 : Option Addr) (c0 : Nat) (l0 : T3) (A1 : Option Addr) (c1 : Nat) (l1 : T3) (A2 : Option Addr) (c2 : Nat) (l2 : List (S53)) (A3 : Option Addr) (c3 : Nat) (l3 : List (S53)) (r1 : List (S80)) (r2 : List (S80)) (r3 : Int) (w : World) (hr0 : Kd.C (Kd.slice 29 (Kd.slice 39 k39)) w A0 l0.length l0) (hc0 : l0.length ≤ c0) (hr1 : Kd.C (Kd.slice 29 (Kd.slice 39 k39)) w A1 l1.length l1) (hc1 : l1.length ≤ c1) (hr2 : Kd.C k53 w A2 l2.length l2) (hc2 : l2.length ≤ c2) (hr3 : Kd.C k53 w A3 l3.length l3) (hc3 : l3.length ≤ c3) (h : joins_both.f k l0 l1 l2 l3 = some (r1, r2, r3)) :
 Calls Tryz.prog 41 #[.slice A0 l0.length c0, .slice A1 l1.length c1, .slice A2 l2.length c2, .slice A3 l3.length c3] w fun e w' => ∃ v0_ v1_ : Value, e = .returned (.tuple #[v0_, v1_, .int .i64 r3]) ∧ Kd.S k80 80 w' w.heap.size (fun k_ => some k_ ≠ (v1_ : Value).ownBlock) v0_ r1 ∧ Kd.S k80 80 w' w.heap.size (fun k_ => some k_ ≠ (v0_ : Value).ownBlock) v1_ r2 ∧ Below w.heap.size w w' := by
 have HR0 := akk hr0
 have HC0 := akk hc0
 clear hr0 hc0
 have HR1 := akk hr1
 have HC1 := akk hc1
 clear hr1 hc1
 have HR2 := akk hr2
 have HC2 := akk hc2
 clear hr2 hc2
 have HR3 := akk hr3
 have HC3 := akk hc3
 clear hr3 hc3
 have HB := akk (Below.refl w.heap.size w)
 have H : (if (l2.length : Int) = (l3.length : Int) then (joins_both.j0 k l0 l1 l2 l3 ((l2.length : Int) == 0)) else (joins_both.j0 k l0 l1 l2 l3 true)) = some (r1, r2, r3) := h
 clear h
 have HC5 := akk H
 clear H
 go_enter Tryz.func41, Tryz.ntmps41
 go_upto_region 1 with (fail)
 go_cut [20] (fun v20 wc => ∃ (kq : Nat) (x20_4 : Bool), v20 = .bool x20_4 ∧ Aside0 (joins_both.j0 kq l0 l1 l2 l3 x20_4 = some (r1, r2, r3)) ∧ Aside0 (kq ≤ k) ∧ Aside0 (Below w.heap.size w wc))
 case first =>
  have H := HC5.out
  clear HC5
  by_cases c6 : (l2.length : Int) = (l3.length : Int)
  ·rw [if_pos c6] at H
   have c6b0 : ((l2.length : Int) == (l3.length : Int)) = true := beq_iff_eq.mpr c6
   have c6b1 : ((l2.length : Int) != (l3.length : Int)) = false := bne_eq_false_iff_eq.mpr c6
   have c6b2 : (l2.length == l3.length) = true := by first | simpa using c6 | (simp at c6 ⊢; omega)
   clear c6
   (first | rw [c6b0] | (simp only [i64_w, i32_w]; rw [c6b0]) | skip)
   have H' := akk H
   clear H
   go_wp2
   go_meet
   case rel => exact ⟨_, (((l2.length : Int) == 0)), eT, H', ⟨by first | omega | exact Nat.le_refl _⟩, ⟨bT⟩⟩
  ·rw [if_neg c6] at H
   have c6b0 : ((l2.length : Int) == (l3.length : Int)) = false := beq_eq_false_iff_ne.mpr c6
   have c6b1 : ((l2.length : Int) != (l3.length : Int)) = true := bne_iff_ne.mpr c6
   have c6b2 : (l2.length == l3.length) = false := by first | simpa using c6 | (simp at c6 ⊢; omega)
   (first | rw [c6b0] | (simp only [i64_w, i32_w]; rw [c6b0]) | skip)
   have H' := akk H
   clear H
   go_wp2
   go_meet
   case rel => exact ⟨_, (true), eT, H', ⟨by first | omega | exact Nat.le_refl _⟩, ⟨bT⟩⟩
 case rest =>
  clear HC5
  obtain ⟨kq, x20_4, rfl, HA, HJ4, HB⟩ := hcut
  cases kq with
  | zero => exact absurd HA.out (by simp [joins_both.j0])
  | succ kj4 =>
   have H := HA.out
   clear HA
   simp only [joins_both.j0] at H
   by_cases c7 : x20_4 = true
   ·subst c7
    rw [if_pos rfl] at H
    simp only [Option.some.injEq, Prod.mk.injEq] at H
    obtain ⟨rfl, rfl, rfl⟩ := H
    go_wp2
    go_ret3
    exact ⟨_, _, fT, by first | exact Kd.S_nil _ _ _ _ _ | exact Kd.N_nil _ _ _ _ _ | exact Kd.V_nil _ _ _ _ _ | exact Kd.Q_nil _ _ _ _ _ | exact Kd.R_nil _ _ _ _ _, by first | exact Kd.S_nil _ _ _ _ _ | exact Kd.N_nil _ _ _ _ _ | exact Kd.V_nil _ _ _ _ _ | exact Kd.Q_nil _ _ _ _ _ | exact Kd.R_nil _ _ _ _ _, bT⟩
   ·replace c7 := Bool.eq_false_iff.mpr c7
    subst c7
    rw [if_neg (show ¬ (false = true) by decide)] at H
    obtain ⟨⟨t330, t331⟩, A8, H⟩ := bi H
    try dsimp only at H
    by_cases c9 : t331 = 0
    ·rw [if_pos c9] at H
     have c9b0 : (t331 == 0) = true := beq_iff_eq.mpr c9
     have c9b1 : (t331 != 0) = false := bne_eq_false_iff_eq.mpr c9
     clear c9
     obtain ⟨⟨t334, t335⟩, A10, H⟩ := bi H
     try dsimp only at H
     by_cases c11 : t335 = 0
     ·rw [if_pos c11] at H
      have c11b0 : (t335 == 0) = true := beq_iff_eq.mpr c11
      have c11b1 : (t335 != 0) = false := bne_eq_false_iff_eq.mpr c11
      clear c11
      simp only [Option.some.injEq, Prod.mk.injEq] at H
      obtain ⟨rfl, rfl, rfl⟩ := H
      go_wp2_with (first | (refine gT 68 (some 24) Tryz.func68 #[.slice A2 l2.length c2, .slice A0 l0.length c0] ?_; (with_reducible refine (joins_keyedAll.calls kj4 _ _ l2 _ _ l0 t330 t331 _ ?_ ?_ ?_ ?_ A8.out).mono ?_); exact cT HR2.out; exact HC2.out; exact cT HR0.out; exact HC0.out; rintro e w12 ⟨v332, rfl, ho0, hb⟩; refine ⟨_, rfl, ?_⟩; have HO333 := akk (Kd.S_lower ho0 (below_size bT)); replace HB := bb HB hb; clear hb ho0) | (refine gT 68 (some 33) Tryz.func68 #[.slice A3 l3.length c3, .slice A1 l1.length c1] ?_; (with_reducible refine (joins_keyedAll.calls kj4 _ _ l3 _ _ l1 t334 t335 _ ?_ ?_ ?_ ?_ A10.out).mono ?_); exact cT HR3.out; exact HC3.out; exact cT HR1.out; exact HC1.out; rintro e w13 ⟨v336, rfl, ho0, hb⟩; refine ⟨_, rfl, ?_⟩; have HO337 := akk (Kd.S_lower (Kd.S_new' ho0 (Kd.S_lt (sT' HO333.out))) (below_size bT)); replace HO333 := se HO333 ho0 hb; replace HB := bb HB hb; clear hb ho0))
      go_ret3
      exact ⟨_, _, fT, sT' (Kd.S_mono HO333.out (fun _ hk => hk.2)), sT' (Kd.S_mono HO337.out (fun _ hk => hk.2)), bT⟩
     ·rw [if_neg c11] at H
      have c11b0 : (t335 == 0) = false := beq_eq_false_iff_ne.mpr c11
      have c11b1 : (t335 != 0) = true := bne_iff_ne.mpr c11
      simp only [Option.some.injEq, Prod.mk.injEq] at H
      obtain ⟨rfl, rfl, rfl⟩ := H
      go_wp2_with (first | (refine gT 68 (some 24) Tryz.func68 #[.slice A2 l2.length c2, .slice A0 l0.length c0] ?_; (with_reducible refine (joins_keyedAll.calls kj4 _ _ l2 _ _ l0 t330 t331 _ ?_ ?_ ?_ ?_ A8.out).mono ?_); exact cT HR2.out; exact HC2.out; exact cT HR0.out; exact HC0.out; rintro e w14 ⟨v332, rfl, ho0, hb⟩; refine ⟨_, rfl, ?_⟩; have HO333 := akk (Kd.S_lower ho0 (below_size bT)); replace HB := bb HB hb; clear hb ho0) | (refine gT 68 (some 33) Tryz.func68 #[.slice A3 l3.length c3, .slice A1 l1.length c1] ?_; (with_reducible refine (joins_keyedAll.calls kj4 _ _ l3 _ _ l1 t334 t335 _ ?_ ?_ ?_ ?_ A10.out).mono ?_); exact cT HR3.out; exact HC3.out; exact cT HR1.out; exact HC1.out; rintro e w15 ⟨v336, rfl, ho0, hb⟩; refine ⟨_, rfl, ?_⟩; have HO337 := akk (Kd.S_lower (Kd.S_new' ho0 (Kd.S_lt (sT' HO333.out))) (below_size bT)); replace HO333 := se HO333 ho0 hb; replace HB := bb HB hb; clear hb ho0))
      go_ret3
      exact ⟨_, _, fT, by first | exact Kd.S_nil _ _ _ _ _ | exact Kd.N_nil _ _ _ _ _ | exact Kd.V_nil _ _ _ _ _ | exact Kd.Q_nil _ _ _ _ _ | exact Kd.R_nil _ _ _ _ _, by first | exact Kd.S_nil _ _ _ _ _ | exact Kd.N_nil _ _ _ _ _ | exact Kd.V_nil _ _ _ _ _ | exact Kd.Q_nil _ _ _ _ _ | exact Kd.R_nil _ _ _ _ _, bT⟩
    ·rw [if_neg c9] at H
     have c9b0 : (t331 == 0) = false := beq_eq_false_iff_ne.mpr c9
     have c9b1 : (t331 != 0) = true := bne_iff_ne.mpr c9
     simp only [Option.some.injEq, Prod.mk.injEq] at H
     obtain ⟨rfl, rfl, rfl⟩ := H
     go_wp2_with (refine gT 68 (some 24) Tryz.func68 #[.slice A2 l2.length c2, .slice A0 l0.length c0] ?_; (with_reducible refine (joins_keyedAll.calls kj4 _ _ l2 _ _ l0 t330 t331 _ ?_ ?_ ?_ ?_ A8.out).mono ?_); exact cT HR2.out; exact HC2.out; exact cT HR0.out; exact HC0.out; rintro e w16 ⟨v332, rfl, ho0, hb⟩; refine ⟨_, rfl, ?_⟩; have HO333 := akk (Kd.S_lower ho0 (below_size bT)); replace HB := bb HB hb; clear hb ho0)
     go_ret3
     exact ⟨_, _, fT, by first | exact Kd.S_nil _ _ _ _ _ | exact Kd.N_nil _ _ _ _ _ | exact Kd.V_nil _ _ _ _ _ | exact Kd.Q_nil _ _ _ _ _ | exact Kd.R_nil _ _ _ _ _, by first | exact Kd.S_nil _ _ _ _ _ | exact Kd.N_nil _ _ _ _ _ | exact Kd.V_nil _ _ _ _ _ | exact Kd.Q_nil _ _ _ _ _ | exact Kd.R_nil _ _ _ _ _, bT⟩
end Go.Proofs.YtgmolmpfihkolaaGreat.Pj
namespace Go.Proofs.YtgmolmpfihkolaaGreat
open Go.RowKit Go.Proofs.YtgmolmpfihkolaaGreatW.PrintWords Go.Proofs.YtgmolmpfihkolaaGreat.Pj
set_option linter.unusedVariables false
set_option maxRecDepth 100000
instance : Inhabited PP := ⟨⟨0, 0⟩⟩
def cfP (x y : PP) : Int := if x.f0 ≠ y.f0 then cmpI x.f0 y.f0 else cmpI x.f1 y.f1
theorem cfP_lt (x y : PP) : cfP x y < 0 ↔ x.f0 < y.f0 ∨ (x.f0 = y.f0 ∧ x.f1 < y.f1) := by
 unfold cfP cmpI
 split <;> split <;> (try split) <;> omega
def ltP (x y : PP) : Bool := decide (cfP x y < 0)
theorem ltP_iff (x y : PP) : ltP x y = true ↔ x.f0 < y.f0 ∨ (x.f0 = y.f0 ∧ x.f1 < y.f1) := by
 unfold ltP; rw [decide_eq_true_iff]; exact cfP_lt x y
theorem ltP_not (x y : PP) : ltP x y = false ↔ ¬ (x.f0 < y.f0 ∨ (x.f0 = y.f0 ∧ x.f1 < y.f1)) := by
 rw [← ltP_iff]; simp
theorem ltP_one (x y : PP) (h1 : ltP x y = false) (h2 : ltP y x = false) : x = y := by
 rw [ltP_not] at h1 h2
 obtain ⟨a, b⟩ := x
 obtain ⟨c, d⟩ := y
 simp only at h1 h2
 obtain ⟨rfl, rfl⟩ : a = c ∧ b = d := by omega
 rfl
def sortP (l : List PP) : List PP := l.mergeSort (fun x y => !(ltP y x))
theorem sorted_one : ∀ {l m : List PP}, l.Perm m → l.Pairwise (fun x y => ltP y x = false) → m.Pairwise (fun x y => ltP y x = false) → l = m
 | [], m, h, _, _ => by rw [List.nil_perm] at h; exact h.symm
 | a :: l, [], h, _, _ => by simp at h
 | a :: l, b :: m, h, h1, h2 => by
  have e : a = b := by
   rcases List.mem_cons.1 (h.mem_iff.1 List.mem_cons_self) with e | ha
   ·exact e
   ·rcases List.mem_cons.1 (h.mem_iff.2 List.mem_cons_self) with e | hb
    ·exact e.symm
    ·exact ltP_one _ _ ((List.pairwise_cons.1 h2).1 a ha) ((List.pairwise_cons.1 h1).1 b hb)
  subst e
  rw [sorted_one (List.Perm.cons_inv h) (List.pairwise_cons.1 h1).2 (List.pairwise_cons.1 h2).2]
theorem sortP_eq {l m : List PP} (h : l.Perm m) (hm : m.Pairwise (fun x y => ltP y x = false)) : sortP l = m := by
 refine sorted_one ((List.mergeSort_perm _ _).trans h) ?_ hm
 have := List.pairwise_mergeSort (le := fun x y => !(ltP y x)) (fun a b c h1 h2 => ?_) (fun a b => ?_) l
 ·exact this.imp (fun {a b} h => by simpa using h)
 ·simp only [Bool.not_eq_true', ltP_not] at h1 h2 ⊢; omega
 ·simp only [Bool.or_eq_true, Bool.not_eq_true', ltP_not]; omega
theorem pairs_sorted {xs ys : List PK} (hx : xs.Pairwise (fun p q => p.f0 < q.f0)) (hy : ys.Pairwise (fun p q => p.f0 < q.f0)) : (pairsOf xs ys).Pairwise (fun x y => ltP y x = false) := by
 unfold pairsOf
 rw [List.pairwise_flatMap]
 refine ⟨fun p hp => ?_, hx.imp (fun {p q} h => fun x hx y hy => ?_)⟩
 ·unfold meetOf
  rw [List.pairwise_map]
  refine (hy.sublist List.filter_sublist).imp (fun {a b} h => ?_)
  rw [ltP_not]; simp only; omega
 ·unfold meetOf at hx hy
  obtain ⟨a, _, rfl⟩ := List.mem_map.1 hx
  obtain ⟨b, _, rfl⟩ := List.mem_map.1 hy
  rw [ltP_not]; simp only; omega
theorem meet_perm {ys ys' : List PK} (h : ys'.Perm ys) (p : PK) : (meetOf ys' p).Perm (meetOf ys p) := (h.filter _).map _
theorem pairs_perm {xs xs' ys ys' : List PK} (hx : xs'.Perm xs) (hy : ys'.Perm ys) : (pairsOf xs' ys').Perm (pairsOf xs ys) := by
 have h1 : ∀ l : List PK, (pairsOf l ys').Perm (pairsOf l ys) := by
  intro l
  induction l with
  | nil => exact .refl _
  | cons a l ih => exact (meet_perm hy a).append ih
 refine (h1 xs').trans ?_
 unfold pairsOf
 exact hx.flatMap_right _
theorem merge_pairs {xs xs' ys ys' : List PK} (hx : xs'.Perm xs) (hy : ys'.Perm ys) (ux : xs.Pairwise (fun p q => p.f0 < q.f0)) (uy : ys.Pairwise (fun p q => p.f0 < q.f0)) : sortP (pairsOf xs' ys') = pairsOf xs ys :=
 sortP_eq (pairs_perm hx hy) (pairs_sorted ux uy)
def okK (xs : List PK) : Bool := decide (xs.Pairwise (fun p q => p.f0 < q.f0)) && (xs.all (fun p => wfR p.f1) && decide (xs.length ≤ 1000000))
def KF : Nat := 100000
def keyedF (l0 l1 : List (List (List PV))) (l2 l3 l4 : List PE) : Option (List (List (List PV)) × Int) :=
 (joins_both.f KF l0 l1 l2 l3).bind fun t => if t.2.2 = 0 then (if okK t.1 && okK t.2.1 then joins_told.f KF l0 l1 (pairsOf t.1 t.2.1) l4 else none) else some ([], t.2.2)
end Go.Proofs.YtgmolmpfihkolaaGreat
