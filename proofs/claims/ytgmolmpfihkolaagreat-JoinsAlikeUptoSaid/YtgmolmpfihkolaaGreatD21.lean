/- Part of the proof. -/
import Derived.Test.YtgmolmpfihkolaaGreatD20
namespace Go.Proofs.YtgmolmpfihkolaaGreat.Pj
open Go.RowKit Go.Proofs.YtgmolmpfihkolaaGreatW.PrintWords Go.Proofs.YtgmolmpfihkolaaGreatW.PrintLast Go.Proofs.YtgmolmpfihkolaaGreatW.PrintMore
attribute [local go_sem] run_store_flt max2_int min2_int max_two min_two max_three min_three max_four min_four
set_option linter.unusedVariables false
set_option linter.unusedSimpArgs false
def joins_told.l0 : Nat → T3 → T3 → List (S53) → T3 → List (S71) → Int → Int → Option (T3 × Int)
 | 0, _, _, _, _, _, _, _ => none
 | k + 1, x0, x1, x3, x10, x16, x17, x18 => if x18 < x17 then (if 0 ≤ x18 then (if x18 < (x16.length : Int) then (if 0 ≤ ((rd_T71 x16 x18).f0) then (if ((rd_T71 x16 x18).f0) < (x0.length : Int) then (if 0 ≤ ((rd_T71 x16 x18).f1) then (if ((rd_T71 x16 x18).f1) < (x1.length : Int) then ((joins_Union.f k (rd_L6 x0 ((rd_T71 x16 x18).f0)) (rd_L6 x1 ((rd_T71 x16 x18).f1))).bind fun t175 => ((expr_Holds.f k x3 t175).bind fun bt178 => (if bt178.2 = 0 then (if bt178.1 = true then (if x10.length < 5864062014805 then (joins_told.l0 k x0 x1 x3 (x10 ++ [t175]) x16 x17 (wrap64 (x18 + 1))) else (none)) else (joins_told.l0 k x0 x1 x3 x10 x16 x17 (wrap64 (x18 + 1)))) else (some (([] : T3), bt178.2))))) else (none)) else (none)) else (none)) else (none)) else (none)) else (none)) else (some (x10, 0))
def joins_told.f (k : Nat) (l0 : T3) (l1 : T3) (l2 : List (S71)) (l3 : List (S53)) : Option (T3 × Int) := joins_told.l0 k l0 l1 l3 ([] : T3) l2 (l2.length : Int) 0
def joins_told.T5 : Bool × List (List Nat × List Nat) := (true, [([], []), ([], []), ([1], [1]), ([0, 2], [0, 2]), ([3], [3]), ([], []), ([], []), ([6], [6]), ([5, 7], [5, 7]), ([8], [8]), ([4, 9], [4, 9]), ([10, 10, 0, 1, 2, 3, 4, 5, 6, 7, 8, 9, 10], [10])])
def joins_told.B5 : List Nat := [0, 0, 2, 7, 15, 0, 0, 64, 224, 480, 1023, 2047]
theorem joins_told.tab5 : rtab .any (opsOf Tryz.f39 5) = joins_told.T5 := by kernel_rfl
theorem joins_told.bits5 : waitsOk joins_told.T5.2 joins_told.B5 = true := by kernel_rfl
set_option maxHeartbeats 8000000 in
set_option maxRecDepth 100000 in
theorem joins_told.calls (k : Nat) (A0 : Option Addr) (c0 : Nat) (l0 : T3) (A1 : Option Addr) (c1 : Nat) (l1 : T3) (A2 : Option Addr) (c2 : Nat) (l2 : List (S71)) (A3 : Option Addr) (c3 : Nat) (l3 : List (S53)) (r1 : T3) (r2 : Int) (w : World) (hr0 : Kd.C (Kd.slice 29 (Kd.slice 39 k39)) w A0 l0.length l0) (hc0 : l0.length ≤ c0) (hr1 : Kd.C (Kd.slice 29 (Kd.slice 39 k39)) w A1 l1.length l1) (hc1 : l1.length ≤ c1) (hr2 : Kd.C k71 w A2 l2.length l2) (hc2 : l2.length ≤ c2) (hr3 : Kd.C k53 w A3 l3.length l3) (hc3 : l3.length ≤ c3) (h : joins_told.f k l0 l1 l2 l3 = some (r1, r2)) :
 Calls Tryz.prog 39 #[.slice A0 l0.length c0, .slice A1 l1.length c1, .slice A2 l2.length c2, .slice A3 l3.length c3] w fun e w' => ∃ v0_ : Value, e = .returned (.tuple #[v0_, .int .i64 r2]) ∧ Kd.R (Kd.slice 29 (Kd.slice 39 k39)) 22 w' w.heap.size (fun _ => True) v0_ r1 ∧ Below w.heap.size w w' := by
 have hu71 := Tryz.underlying71
 have HR0 := akk hr0
 have HC0 := akk hc0
 clear hr0 hc0
 have HR1 := akk hr1
 have HC1 := akk hc1
 clear hr1 hc1
 have HR2 := akk hr2
 have HC2 := akk hc2
 clear hr2 hc2
 have HR3 := akk hr3
 have HC3 := akk hc3
 clear hr3 hc3
 have HB := akk (Below.refl w.heap.size w)
 have H : (joins_told.l0 k l0 l1 l3 ([] : T3) l2 (l2.length : Int) 0) = some (r1, r2) := h
 clear h
 have H' := akk H
 clear H
 go_enter Tryz.func39, Tryz.ntmps39
 go_wp2
 go_loopg [10, 18] k (fun kq v10 v18 w' => ∃ (x10_1 : T3) (x18_1 : Int), v18 = .int .i64 x18_1 ∧ Aside0 (joins_told.l0 kq l0 l1 l3 x10_1 l2 (l2.length : Int) x18_1 = some (r1, r2)) ∧ Aside0 (kq ≤ k) ∧ Aside0 (Kd.R (Kd.slice 29 (Kd.slice 39 k39)) 22 w' w.heap.size (fun _ => True) v10 x10_1) ∧ Aside0 (Below w.heap.size w w'))
 case atStart => exact ⟨(([] : T3)), (0), eT, H', ⟨Nat.le_refl _⟩, ⟨zT⟩, ⟨bT⟩⟩
 case round =>
  clear H'
  obtain ⟨x10_1, x18_1, rfl, HA, HK1, HO_10, HB⟩ := hrel
  cases gk with
  | zero => exact absurd HA.out (by simp [joins_told.l0])
  | succ k1 =>
   have H := HA.out
   clear HA
   simp only [joins_told.l0] at H
   by_cases c5 : x18_1 < (l2.length : Int)
   ·rw [if_pos c5] at H
    have c5b0 := decide_eq_true c5
    clear c5
    by_cases c6 : 0 ≤ x18_1
    ·rw [if_pos c6] at H
     have c6b0 := decide_eq_true c6
     clear c6
     by_cases c7 : x18_1 < (l2.length : Int)
     ·rw [if_pos c7] at H
      have c7b0 := decide_eq_true c7
      clear c7
      by_cases c8 : 0 ≤ ((rd_T71 l2 x18_1).f0)
      ·rw [if_pos c8] at H
       have c8b0 := decide_eq_true c8
       clear c8
       by_cases c9 : ((rd_T71 l2 x18_1).f0) < (l0.length : Int)
       ·rw [if_pos c9] at H
        have c9b0 := decide_eq_true c9
        clear c9
        by_cases c10 : 0 ≤ ((rd_T71 l2 x18_1).f1)
        ·rw [if_pos c10] at H
         have c10b0 := decide_eq_true c10
         clear c10
         by_cases c11 : ((rd_T71 l2 x18_1).f1) < (l1.length : Int)
         ·rw [if_pos c11] at H
          have c11b0 := decide_eq_true c11
          clear c11
          obtain ⟨t175, A12, H⟩ := bi H
          try dsimp only at H
          obtain ⟨⟨t178, t179⟩, A13, H⟩ := bi H
          try dsimp only at H
          by_cases c14 : t179 = 0
          ·rw [if_pos c14] at H
           have c14b0 : (t179 == 0) = true := beq_iff_eq.mpr c14
           have c14b1 : (t179 != 0) = false := bne_eq_false_iff_eq.mpr c14
           clear c14
           by_cases c15 : t178 = true
           ·subst c15
            rw [if_pos rfl] at H
            by_cases c16 : x10_1.length < 5864062014805
            ·rw [if_pos c16] at H
             have LMc16 := akk c16
             clear c16
             obtain ⟨y180, hy180⟩ : ∃ y_ : T3, y_ = (x10_1 ++ [t175]) := ⟨_, rfl⟩
             replace H : (joins_told.l0 k1 l0 l1 l3 y180 l2 (l2.length : Int) (wrap64 (x18_1 + 1))) = some (r1, r2) := jT hy180 H
             have Ny180 := akk hy180
             clear hy180
             have H' := akk H
             clear H
             have p171 : 0 ≤ (x18_1 : Int) := of_decide_eq_true aT
             have q171 : x18_1 < (l2.length : Int) := of_decide_eq_true aT
             obtain ⟨ad171, e171, hx171_0, hx171_1⟩ := at_T71 HR2.out x18_1 p171 q171
             cases e171
             replace hx171_0 := hxT HB.out hx171_0
             replace hx171_1 := hxT HB.out hx171_1
             replace p171 := eq_true p171
             replace q171 := eq_true q171
             try go_wp2_with ((with_reducible refine gate_dst (N := 12) rfl ?_); refine box_event ?hg (N := 12) ?hd (cs := #[.int .i64 0, .int .i64 0]) (t := 71) ?hr ?_; (case hd => rfl); (case hg => rfl); (case hr => first | (go_simp; done) | (go_simp; rfl)); intro gb172 hg w17 hbox hb; replace HO_10 := rb HO_10 hb; have BK172 := akk (hbox); have GW172 := gw (p := w.heap.size ≤ gb172) hg; have GE172 := gw (p := w.heap.size ≤ gb172) hg; replace HB := bb HB hb; clear hb hbox hg; have hcz18_0 : w17.cell? ⟨gb172, 0, none⟩ = some (.int .i64 0) := (blk_cell BK172.out 0).trans rfl; have hcz18_1 : w17.cell? ⟨gb172, 1, none⟩ = some (.int .i64 0) := (blk_cell BK172.out 1).trans rfl; obtain ⟨hfz18_0, hfz18_1⟩ := fz2 BK172)
             have n0_ : Aside0 (Kd.R (Kd.slice 29 (Kd.slice 39 k39)) 22 ((w17.setCell ⟨gb172, 0, none⟩ (.int .i64 ((rd_T71 l2 x18_1).f0))).setCell ⟨gb172, 1, none⟩ (.int .i64 ((rd_T71 l2 x18_1).f1))) w.heap.size (fun _ => True) u10 x10_1) := ⟨rT' (Kd.R_mono (Kd.R_far (p := ⟨gb172, 1, none⟩) (Kd.R_far (p := ⟨gb172, 0, none⟩) (Kd.R_types HO_10.out BK172.out (by decide)) (fun _ hk => hk.2) (.int .i64 ((rd_T71 l2 x18_1).f0))) (fun _ hk => hk.2) (.int .i64 ((rd_T71 l2 x18_1).f1))) (fun _ hk => trivial))⟩
             have n1_ : Aside0 (((w17.setCell ⟨gb172, 0, none⟩ (.int .i64 ((rd_T71 l2 x18_1).f0))).setCell ⟨gb172, 1, none⟩ (.int .i64 ((rd_T71 l2 x18_1).f1))).heap[gb172]? = some (.cells #[.int .i64 ((rd_T71 l2 x18_1).f0), .int .i64 ((rd_T71 l2 x18_1).f1)] 71 (0, 0))) := ⟨by (with_reducible repeat (first | refine blk_drewN ?_ _ | refine blk_drew ?_ | refine blk_alloc ?_ _)); refine blk_put (cs := #[.int .i64 ((rd_T71 l2 x18_1).f0), .int .i64 0]) ?_ 1 _ rfl; (with_reducible repeat (first | refine blk_drewN ?_ _ | refine blk_drew ?_ | refine blk_alloc ?_ _)); refine blk_put (cs := #[.int .i64 0, .int .i64 0]) ?_ 0 _ rfl; (with_reducible repeat (first | refine blk_drewN ?_ _ | refine blk_drew ?_ | refine blk_alloc ?_ _)); exact BK172.out⟩
             have n2_ : Aside0 (Below w.heap.size w ((w17.setCell ⟨gb172, 0, none⟩ (.int .i64 ((rd_T71 l2 x18_1).f0))).setCell ⟨gb172, 1, none⟩ (.int .i64 ((rd_T71 l2 x18_1).f1)))) := ⟨by repeat (first | (with_reducible first | exact HB.out | apply below_alloc | apply pw_below_drewN | apply below_drew1 | refine below_set ?_ GE172.out) | exact HB.out)⟩
             (try clear HO_10)
             (try clear BK172)
             (try clear HB)
             generalize ((w17.setCell ⟨gb172, 0, none⟩ (.int .i64 ((rd_T71 l2 x18_1).f0))).setCell ⟨gb172, 1, none⟩ (.int .i64 ((rd_T71 l2 x18_1).f1))) = w19 at n0_ n1_ n2_ ⊢
             have HO_10 := n0_
             have BK172 := n1_
             have HB := n2_
             clear n0_ n1_ n2_
             replace HO_10 := akk (Kd.R_drew HO_10.out)
             replace BK172 := akk (blk_drew BK172.out)
             replace HB := akk (below_drew1 HB.out)
             obtain ⟨ad173, A173_0, c173_0, e173, hx173_0, HR173_0, HC173_0, p173, q173⟩ := gC6 HR0 ((rd_T71 l2 x18_1).f0)
             have hw173_0 := hx173_0
             cases e173
             replace hx173_0 := hxT HB.out hx173_0
             obtain ⟨ad174, A174_0, c174_0, e174, hx174_0, HR174_0, HC174_0, p174, q174⟩ := gC6 HR1 ((rd_T71 l2 x18_1).f1)
             have hw174_0 := hx174_0
             cases e174
             replace hx174_0 := hxT HB.out hx174_0
             refine start_ (n := 12) (S := fun w' => w'.cell? ⟨gb172, 0, none⟩ = some (.int .i64 ((rd_T71 l2 x18_1).f0)) ∧ w'.cell? ⟨gb172, 1, none⟩ = some (.int .i64 ((rd_T71 l2 x18_1).f1)) ∧ w'.cell? (ad173.add (((rd_T71 l2 x18_1).f0)).toNat) = some (.slice A173_0 (rd_L6 l0 ((rd_T71 l2 x18_1).f0)).length c173_0) ∧ w'.cell? (ad174.add (((rd_T71 l2 x18_1).f1)).toNat) = some (.slice A174_0 (rd_L6 l1 ((rd_T71 l2 x18_1).f1)).length c174_0)) (ds := []) #[false, false, false, false, false, false, false, false, false, false, false, false] (by kernel_rfl) rfl rfl ⟨(blk_cell BK172.out 0).trans rfl, (blk_cell BK172.out 1).trans rfl, ((HB.out.cell (World.block_lt_of_cell? w _ hw173_0)).trans hw173_0), ((HB.out.cell (World.block_lt_of_cell? w _ hw174_0)).trans hw174_0)⟩ (fun hHeld => ?_); refine with_tabW joins_told.tab5 joins_told.bits5 (fun HT_ HW_ => ?_)
             generalize w19.drew = w20 at HO_10 BK172 HB HR173_0 HR174_0 hx173_0 hx174_0 hHeld ⊢
             refine pT 0 22 (bm 12 1) ?_
             refine pT 1 23 (bm 12 3) ?_
             refine pT 5 27 (bm 12 35) ?_
             refine pT 6 28 (bm 12 99) ?_
             refine tT4 2 24 (bm 12 103) hHeld ?_
             refine pT 3 25 (bm 12 111) ?_
             refine tT4 4 26 (bm 12 127) hHeld ?_
             refine tT4 7 29 (bm 12 255) hHeld ?_
             refine pT 8 30 (bm 12 511) ?_
             refine tT4 9 31 (bm 12 1023) hHeld ?_
             refine one_ (i := 10) (N := some 32) #[true, true, true, true, true, true, true, true, true, true, true, false] rfl rfl (one_of HT_.out (by kernel_rfl)) (by decide) (fun K hK => ?_)
             refine goes_ Tryz.func9 (by kernel_rfl) rfl #[.slice A173_0 (rd_L6 l0 ((rd_T71 l2 x18_1).f0)).length c173_0, .slice A174_0 (rd_L6 l1 ((rd_T71 l2 x18_1).f1)).length c174_0] (by rfl) rfl rfl mT ?_
             with_reducible refine (joins_Union.calls k1 _ _ (rd_L6 l0 ((rd_T71 l2 x18_1).f0)) _ _ (rd_L6 l1 ((rd_T71 l2 x18_1).f1)) t175 _ ?side1 ?side2 ?side3 ?side4 A12.out).mono ?_
             (case side1 => exact cT HR173_0.out)
             (case side2 => exact HC173_0.out)
             (case side3 => exact cT HR174_0.out)
             (case side4 => exact HC174_0.out)
             rintro e w21 ⟨v176, rfl, ho0, hb⟩
             refine ⟨_, rfl, ?_⟩
             replace HO_10 := re HO_10 ho0 hb
             have HO177 := akk (Kd.S_lower ho0 (below_size (bS GE172.out)))
             replace BK172 := kb BK172 hb
             replace HB := bg GE172 hb
             (try clear hb)
             (try clear hb2)
             (try clear hk)
             (try clear hi)
             (try clear ho0)
             refine hK.out _ _ ⟨(blk_cell BK172.out 0).trans rfl, (blk_cell BK172.out 1).trans rfl, ((HB.out.cell (World.block_lt_of_cell? w _ hw173_0)).trans hw173_0), ((HB.out.cell (World.block_lt_of_cell? w _ hw174_0)).trans hw174_0)⟩ (fun hHeld => ?_)
             clear hK K
             refine norm_ (a' := ?_) ?_ ?_
             rotate_left
             ·show Act.put _ (some 32) _ = _
              simp only [Act.put, List.setIfInBounds_toArray, List.set_cons_zero, List.set_cons_succ, i64_w, i32_w]
              rfl
             refine pT 11 13 (bm 12 4095) ?_
             refine done_ (done_of HT_.out (by kernel_rfl)) ?_
             obtain ⟨Ao22, co22, eo22⟩ := Kd.S_slice HO177.out
             subst eo22
             try go_wp2_with (first | (refine gT 25 (some 36) Tryz.func25 #[.slice A3 l3.length c3, .slice Ao22 t175.length co22] ?_; (with_reducible refine (expr_Holds.calls k1 _ _ l3 _ _ t175 true t179 _ ?_ ?_ ?_ ?_ A13.out).mono ?_); exact cT HR3.out; exact HC3.out; exact cV (Kd.S_reads' HO177.out).2.2; exact (Kd.S_reads' HO177.out).2.1; rintro e w23 ⟨rfl, hb⟩; refine ⟨_, rfl, ?_⟩; replace HO_10 := rb HO_10 hb; replace HO177 := sb HO177 hb; replace BK172 := kb BK172 hb; replace HB := bg GE172 hb; clear hb) | ((with_reducible refine gA #[.tmp 43, .tmp 45] rfl ?_); at_builtin; refine Kd.R_append (Kd.slice 29 (Kd.slice 39 k39)) (w0 := w) w.heap.size rfl (.tmp 43) (.tmp 45) 25 22 (.slice none 0 0) 24 rfl Tryz.underlying25 info22 rfl (by decide) (by omega) u10 x10_1 t175 [.slice Ao22 t175.length co22] (fun _ => True) (fun k_ => ((fun _ => True)) k_ ∧ some k_ ≠ (u10 : Value).ownBlock) rfl rfl ?aP (fun _ hk => hk) ?aF ?aO ?aB ?aS ?aL ?_; (case aP => exact Kd.M_row (Kd.R_mono (Kd.R_apart' ((Kd.S_R HO177.out)) (Kd.R_typed HO_10.out) (by decide)) (fun k_ hk => ⟨trivial, hk.2⟩))); (case aB => exact (bS GE172.out)); (case aF => exact (fun _ _ => trivial)); (case aO => exact (rT' (Kd.R_mono HO_10.out (fun _ hk => trivial)))); (case aS => exact (below_size (bS GE172.out))); (case aL => have := LMc16.out; omega); intro v181 w24 ho hb hg hat; rw [← Ny180.out] at ho; replace BK172 := kg BK172 hg (Kd.R_ne HO_10.out BK172.out (by decide)); replace HB := akk (hb); have HO182 := akk (ho); clear HO_10 HO177; clear ho hb hg hat))
             go_roundg k1
             case measure => have := HK1.out; omega
             case rel => exact ⟨(y180), (wrap64 (x18_1 + 1)), eT, H', ⟨by have := HK1.out; omega⟩, ⟨rT HO182.out⟩, ⟨by repeat (first | (with_reducible first | exact HB.out | apply below_alloc | apply pw_below_drewN | apply below_drew1 | refine below_set ?_ GE172.out) | exact HB.out)⟩⟩
            ·rw [if_neg c16] at H
             exact absurd H (by simp)
           ·replace c15 := Bool.eq_false_iff.mpr c15
            subst c15
            rw [if_neg (show ¬ (false = true) by decide)] at H
            have H' := akk H
            clear H
            have p171 : 0 ≤ (x18_1 : Int) := of_decide_eq_true aT
            have q171 : x18_1 < (l2.length : Int) := of_decide_eq_true aT
            obtain ⟨ad171, e171, hx171_0, hx171_1⟩ := at_T71 HR2.out x18_1 p171 q171
            cases e171
            replace hx171_0 := hxT HB.out hx171_0
            replace hx171_1 := hxT HB.out hx171_1
            replace p171 := eq_true p171
            replace q171 := eq_true q171
            try go_wp2_with ((with_reducible refine gate_dst (N := 12) rfl ?_); refine box_event ?hg (N := 12) ?hd (cs := #[.int .i64 0, .int .i64 0]) (t := 71) ?hr ?_; (case hd => rfl); (case hg => rfl); (case hr => first | (go_simp; done) | (go_simp; rfl)); intro gb172 hg w25 hbox hb; replace HO_10 := rb HO_10 hb; have BK172 := akk (hbox); have GW172 := gw (p := w.heap.size ≤ gb172) hg; have GE172 := gw (p := w.heap.size ≤ gb172) hg; replace HB := bb HB hb; clear hb hbox hg; have hcz26_0 : w25.cell? ⟨gb172, 0, none⟩ = some (.int .i64 0) := (blk_cell BK172.out 0).trans rfl; have hcz26_1 : w25.cell? ⟨gb172, 1, none⟩ = some (.int .i64 0) := (blk_cell BK172.out 1).trans rfl; obtain ⟨hfz26_0, hfz26_1⟩ := fz2 BK172)
            have n0_ : Aside0 (Kd.R (Kd.slice 29 (Kd.slice 39 k39)) 22 ((w25.setCell ⟨gb172, 0, none⟩ (.int .i64 ((rd_T71 l2 x18_1).f0))).setCell ⟨gb172, 1, none⟩ (.int .i64 ((rd_T71 l2 x18_1).f1))) w.heap.size (fun _ => True) u10 x10_1) := ⟨rT' (Kd.R_mono (Kd.R_far (p := ⟨gb172, 1, none⟩) (Kd.R_far (p := ⟨gb172, 0, none⟩) (Kd.R_types HO_10.out BK172.out (by decide)) (fun _ hk => hk.2) (.int .i64 ((rd_T71 l2 x18_1).f0))) (fun _ hk => hk.2) (.int .i64 ((rd_T71 l2 x18_1).f1))) (fun _ hk => trivial))⟩
            have n1_ : Aside0 (((w25.setCell ⟨gb172, 0, none⟩ (.int .i64 ((rd_T71 l2 x18_1).f0))).setCell ⟨gb172, 1, none⟩ (.int .i64 ((rd_T71 l2 x18_1).f1))).heap[gb172]? = some (.cells #[.int .i64 ((rd_T71 l2 x18_1).f0), .int .i64 ((rd_T71 l2 x18_1).f1)] 71 (0, 0))) := ⟨by (with_reducible repeat (first | refine blk_drewN ?_ _ | refine blk_drew ?_ | refine blk_alloc ?_ _)); refine blk_put (cs := #[.int .i64 ((rd_T71 l2 x18_1).f0), .int .i64 0]) ?_ 1 _ rfl; (with_reducible repeat (first | refine blk_drewN ?_ _ | refine blk_drew ?_ | refine blk_alloc ?_ _)); refine blk_put (cs := #[.int .i64 0, .int .i64 0]) ?_ 0 _ rfl; (with_reducible repeat (first | refine blk_drewN ?_ _ | refine blk_drew ?_ | refine blk_alloc ?_ _)); exact BK172.out⟩
            have n2_ : Aside0 (Below w.heap.size w ((w25.setCell ⟨gb172, 0, none⟩ (.int .i64 ((rd_T71 l2 x18_1).f0))).setCell ⟨gb172, 1, none⟩ (.int .i64 ((rd_T71 l2 x18_1).f1)))) := ⟨by repeat (first | (with_reducible first | exact HB.out | apply below_alloc | apply pw_below_drewN | apply below_drew1 | refine below_set ?_ GE172.out) | exact HB.out)⟩
            (try clear HO_10)
            (try clear BK172)
            (try clear HB)
            generalize ((w25.setCell ⟨gb172, 0, none⟩ (.int .i64 ((rd_T71 l2 x18_1).f0))).setCell ⟨gb172, 1, none⟩ (.int .i64 ((rd_T71 l2 x18_1).f1))) = w27 at n0_ n1_ n2_ ⊢
            have HO_10 := n0_
            have BK172 := n1_
            have HB := n2_
            clear n0_ n1_ n2_
            replace HO_10 := akk (Kd.R_drew HO_10.out)
            replace BK172 := akk (blk_drew BK172.out)
            replace HB := akk (below_drew1 HB.out)
            obtain ⟨ad173, A173_0, c173_0, e173, hx173_0, HR173_0, HC173_0, p173, q173⟩ := gC6 HR0 ((rd_T71 l2 x18_1).f0)
            have hw173_0 := hx173_0
            cases e173
            replace hx173_0 := hxT HB.out hx173_0
            obtain ⟨ad174, A174_0, c174_0, e174, hx174_0, HR174_0, HC174_0, p174, q174⟩ := gC6 HR1 ((rd_T71 l2 x18_1).f1)
            have hw174_0 := hx174_0
            cases e174
            replace hx174_0 := hxT HB.out hx174_0
            refine start_ (n := 12) (S := fun w' => w'.cell? ⟨gb172, 0, none⟩ = some (.int .i64 ((rd_T71 l2 x18_1).f0)) ∧ w'.cell? ⟨gb172, 1, none⟩ = some (.int .i64 ((rd_T71 l2 x18_1).f1)) ∧ w'.cell? (ad173.add (((rd_T71 l2 x18_1).f0)).toNat) = some (.slice A173_0 (rd_L6 l0 ((rd_T71 l2 x18_1).f0)).length c173_0) ∧ w'.cell? (ad174.add (((rd_T71 l2 x18_1).f1)).toNat) = some (.slice A174_0 (rd_L6 l1 ((rd_T71 l2 x18_1).f1)).length c174_0)) (ds := []) #[false, false, false, false, false, false, false, false, false, false, false, false] (by kernel_rfl) rfl rfl ⟨(blk_cell BK172.out 0).trans rfl, (blk_cell BK172.out 1).trans rfl, ((HB.out.cell (World.block_lt_of_cell? w _ hw173_0)).trans hw173_0), ((HB.out.cell (World.block_lt_of_cell? w _ hw174_0)).trans hw174_0)⟩ (fun hHeld => ?_); refine with_tabW joins_told.tab5 joins_told.bits5 (fun HT_ HW_ => ?_)
            generalize w27.drew = w28 at HO_10 BK172 HB HR173_0 HR174_0 hx173_0 hx174_0 hHeld ⊢
            refine pT 0 22 (bm 12 1) ?_
            refine pT 1 23 (bm 12 3) ?_
            refine pT 5 27 (bm 12 35) ?_
            refine pT 6 28 (bm 12 99) ?_
            refine tT4 2 24 (bm 12 103) hHeld ?_
            refine pT 3 25 (bm 12 111) ?_
            refine tT4 4 26 (bm 12 127) hHeld ?_
            refine tT4 7 29 (bm 12 255) hHeld ?_
            refine pT 8 30 (bm 12 511) ?_
            refine tT4 9 31 (bm 12 1023) hHeld ?_
            refine one_ (i := 10) (N := some 32) #[true, true, true, true, true, true, true, true, true, true, true, false] rfl rfl (one_of HT_.out (by kernel_rfl)) (by decide) (fun K hK => ?_)
            refine goes_ Tryz.func9 (by kernel_rfl) rfl #[.slice A173_0 (rd_L6 l0 ((rd_T71 l2 x18_1).f0)).length c173_0, .slice A174_0 (rd_L6 l1 ((rd_T71 l2 x18_1).f1)).length c174_0] (by rfl) rfl rfl mT ?_
            with_reducible refine (joins_Union.calls k1 _ _ (rd_L6 l0 ((rd_T71 l2 x18_1).f0)) _ _ (rd_L6 l1 ((rd_T71 l2 x18_1).f1)) t175 _ ?side1 ?side2 ?side3 ?side4 A12.out).mono ?_
            (case side1 => exact cT HR173_0.out)
            (case side2 => exact HC173_0.out)
            (case side3 => exact cT HR174_0.out)
            (case side4 => exact HC174_0.out)
            rintro e w29 ⟨v176, rfl, ho0, hb⟩
            refine ⟨_, rfl, ?_⟩
            replace HO_10 := re HO_10 ho0 hb
            have HO177 := akk (Kd.S_lower ho0 (below_size (bS GE172.out)))
            replace BK172 := kb BK172 hb
            replace HB := bg GE172 hb
            (try clear hb)
            (try clear hb2)
            (try clear hk)
            (try clear hi)
            (try clear ho0)
            refine hK.out _ _ ⟨(blk_cell BK172.out 0).trans rfl, (blk_cell BK172.out 1).trans rfl, ((HB.out.cell (World.block_lt_of_cell? w _ hw173_0)).trans hw173_0), ((HB.out.cell (World.block_lt_of_cell? w _ hw174_0)).trans hw174_0)⟩ (fun hHeld => ?_)
            clear hK K
            refine norm_ (a' := ?_) ?_ ?_
            rotate_left
            ·show Act.put _ (some 32) _ = _
             simp only [Act.put, List.setIfInBounds_toArray, List.set_cons_zero, List.set_cons_succ, i64_w, i32_w]
             rfl
            refine pT 11 13 (bm 12 4095) ?_
            refine done_ (done_of HT_.out (by kernel_rfl)) ?_
            obtain ⟨Ao30, co30, eo30⟩ := Kd.S_slice HO177.out
            subst eo30
            try go_wp2_with (refine gT 25 (some 36) Tryz.func25 #[.slice A3 l3.length c3, .slice Ao30 t175.length co30] ?_; (with_reducible refine (expr_Holds.calls k1 _ _ l3 _ _ t175 false t179 _ ?_ ?_ ?_ ?_ A13.out).mono ?_); exact cT HR3.out; exact HC3.out; exact cV (Kd.S_reads' HO177.out).2.2; exact (Kd.S_reads' HO177.out).2.1; rintro e w31 ⟨rfl, hb⟩; refine ⟨_, rfl, ?_⟩; replace HO_10 := rb HO_10 hb; replace HO177 := sb HO177 hb; replace BK172 := kb BK172 hb; replace HB := bg GE172 hb; clear hb)
            go_roundg k1
            case measure => have := HK1.out; omega
            case rel => exact ⟨(x10_1), (wrap64 (x18_1 + 1)), eT, H', ⟨by have := HK1.out; omega⟩, ⟨rT' (Kd.R_mono HO_10.out (fun _ hk => trivial))⟩, ⟨by repeat (first | (with_reducible first | exact HB.out | apply below_alloc | apply pw_below_drewN | apply below_drew1 | refine below_set ?_ GE172.out) | exact HB.out)⟩⟩
          ·rw [if_neg c14] at H
           have c14b0 : (t179 == 0) = false := beq_eq_false_iff_ne.mpr c14
           have c14b1 : (t179 != 0) = true := bne_iff_ne.mpr c14
           simp only [Option.some.injEq, Prod.mk.injEq] at H
           obtain ⟨rfl, rfl⟩ := H
           have p171 : 0 ≤ (x18_1 : Int) := of_decide_eq_true aT
           have q171 : x18_1 < (l2.length : Int) := of_decide_eq_true aT
           obtain ⟨ad171, e171, hx171_0, hx171_1⟩ := at_T71 HR2.out x18_1 p171 q171
           cases e171
           replace hx171_0 := hxT HB.out hx171_0
           replace hx171_1 := hxT HB.out hx171_1
           replace p171 := eq_true p171
           replace q171 := eq_true q171
           try go_wp2_with ((with_reducible refine gate_dst (N := 12) rfl ?_); refine box_event ?hg (N := 12) ?hd (cs := #[.int .i64 0, .int .i64 0]) (t := 71) ?hr ?_; (case hd => rfl); (case hg => rfl); (case hr => first | (go_simp; done) | (go_simp; rfl)); intro gb172 hg w32 hbox hb; replace HO_10 := rb HO_10 hb; have BK172 := akk (hbox); have GW172 := gw (p := w.heap.size ≤ gb172) hg; have GE172 := gw (p := w.heap.size ≤ gb172) hg; replace HB := bb HB hb; clear hb hbox hg; have hcz33_0 : w32.cell? ⟨gb172, 0, none⟩ = some (.int .i64 0) := (blk_cell BK172.out 0).trans rfl; have hcz33_1 : w32.cell? ⟨gb172, 1, none⟩ = some (.int .i64 0) := (blk_cell BK172.out 1).trans rfl; obtain ⟨hfz33_0, hfz33_1⟩ := fz2 BK172)
           have n0_ : Aside0 (Kd.R (Kd.slice 29 (Kd.slice 39 k39)) 22 ((w32.setCell ⟨gb172, 0, none⟩ (.int .i64 ((rd_T71 l2 x18_1).f0))).setCell ⟨gb172, 1, none⟩ (.int .i64 ((rd_T71 l2 x18_1).f1))) w.heap.size (fun _ => True) u10 x10_1) := ⟨rT' (Kd.R_mono (Kd.R_far (p := ⟨gb172, 1, none⟩) (Kd.R_far (p := ⟨gb172, 0, none⟩) (Kd.R_types HO_10.out BK172.out (by decide)) (fun _ hk => hk.2) (.int .i64 ((rd_T71 l2 x18_1).f0))) (fun _ hk => hk.2) (.int .i64 ((rd_T71 l2 x18_1).f1))) (fun _ hk => trivial))⟩
           have n1_ : Aside0 (((w32.setCell ⟨gb172, 0, none⟩ (.int .i64 ((rd_T71 l2 x18_1).f0))).setCell ⟨gb172, 1, none⟩ (.int .i64 ((rd_T71 l2 x18_1).f1))).heap[gb172]? = some (.cells #[.int .i64 ((rd_T71 l2 x18_1).f0), .int .i64 ((rd_T71 l2 x18_1).f1)] 71 (0, 0))) := ⟨by (with_reducible repeat (first | refine blk_drewN ?_ _ | refine blk_drew ?_ | refine blk_alloc ?_ _)); refine blk_put (cs := #[.int .i64 ((rd_T71 l2 x18_1).f0), .int .i64 0]) ?_ 1 _ rfl; (with_reducible repeat (first | refine blk_drewN ?_ _ | refine blk_drew ?_ | refine blk_alloc ?_ _)); refine blk_put (cs := #[.int .i64 0, .int .i64 0]) ?_ 0 _ rfl; (with_reducible repeat (first | refine blk_drewN ?_ _ | refine blk_drew ?_ | refine blk_alloc ?_ _)); exact BK172.out⟩
           have n2_ : Aside0 (Below w.heap.size w ((w32.setCell ⟨gb172, 0, none⟩ (.int .i64 ((rd_T71 l2 x18_1).f0))).setCell ⟨gb172, 1, none⟩ (.int .i64 ((rd_T71 l2 x18_1).f1)))) := ⟨by repeat (first | (with_reducible first | exact HB.out | apply below_alloc | apply pw_below_drewN | apply below_drew1 | refine below_set ?_ GE172.out) | exact HB.out)⟩
           (try clear HO_10)
           (try clear BK172)
           (try clear HB)
           generalize ((w32.setCell ⟨gb172, 0, none⟩ (.int .i64 ((rd_T71 l2 x18_1).f0))).setCell ⟨gb172, 1, none⟩ (.int .i64 ((rd_T71 l2 x18_1).f1))) = w34 at n0_ n1_ n2_ ⊢
           have HO_10 := n0_
           have BK172 := n1_
           have HB := n2_
           clear n0_ n1_ n2_
           replace HO_10 := akk (Kd.R_drew HO_10.out)
           replace BK172 := akk (blk_drew BK172.out)
           replace HB := akk (below_drew1 HB.out)
           obtain ⟨ad173, A173_0, c173_0, e173, hx173_0, HR173_0, HC173_0, p173, q173⟩ := gC6 HR0 ((rd_T71 l2 x18_1).f0)
           have hw173_0 := hx173_0
           cases e173
           replace hx173_0 := hxT HB.out hx173_0
           obtain ⟨ad174, A174_0, c174_0, e174, hx174_0, HR174_0, HC174_0, p174, q174⟩ := gC6 HR1 ((rd_T71 l2 x18_1).f1)
           have hw174_0 := hx174_0
           cases e174
           replace hx174_0 := hxT HB.out hx174_0
           refine start_ (n := 12) (S := fun w' => w'.cell? ⟨gb172, 0, none⟩ = some (.int .i64 ((rd_T71 l2 x18_1).f0)) ∧ w'.cell? ⟨gb172, 1, none⟩ = some (.int .i64 ((rd_T71 l2 x18_1).f1)) ∧ w'.cell? (ad173.add (((rd_T71 l2 x18_1).f0)).toNat) = some (.slice A173_0 (rd_L6 l0 ((rd_T71 l2 x18_1).f0)).length c173_0) ∧ w'.cell? (ad174.add (((rd_T71 l2 x18_1).f1)).toNat) = some (.slice A174_0 (rd_L6 l1 ((rd_T71 l2 x18_1).f1)).length c174_0)) (ds := []) #[false, false, false, false, false, false, false, false, false, false, false, false] (by kernel_rfl) rfl rfl ⟨(blk_cell BK172.out 0).trans rfl, (blk_cell BK172.out 1).trans rfl, ((HB.out.cell (World.block_lt_of_cell? w _ hw173_0)).trans hw173_0), ((HB.out.cell (World.block_lt_of_cell? w _ hw174_0)).trans hw174_0)⟩ (fun hHeld => ?_); refine with_tabW joins_told.tab5 joins_told.bits5 (fun HT_ HW_ => ?_)
           generalize w34.drew = w35 at HO_10 BK172 HB HR173_0 HR174_0 hx173_0 hx174_0 hHeld ⊢
           refine pT 0 22 (bm 12 1) ?_
           refine pT 1 23 (bm 12 3) ?_
           refine pT 5 27 (bm 12 35) ?_
           refine pT 6 28 (bm 12 99) ?_
           refine tT4 2 24 (bm 12 103) hHeld ?_
           refine pT 3 25 (bm 12 111) ?_
           refine tT4 4 26 (bm 12 127) hHeld ?_
           refine tT4 7 29 (bm 12 255) hHeld ?_
           refine pT 8 30 (bm 12 511) ?_
           refine tT4 9 31 (bm 12 1023) hHeld ?_
           refine one_ (i := 10) (N := some 32) #[true, true, true, true, true, true, true, true, true, true, true, false] rfl rfl (one_of HT_.out (by kernel_rfl)) (by decide) (fun K hK => ?_)
           refine goes_ Tryz.func9 (by kernel_rfl) rfl #[.slice A173_0 (rd_L6 l0 ((rd_T71 l2 x18_1).f0)).length c173_0, .slice A174_0 (rd_L6 l1 ((rd_T71 l2 x18_1).f1)).length c174_0] (by rfl) rfl rfl mT ?_
           with_reducible refine (joins_Union.calls k1 _ _ (rd_L6 l0 ((rd_T71 l2 x18_1).f0)) _ _ (rd_L6 l1 ((rd_T71 l2 x18_1).f1)) t175 _ ?side1 ?side2 ?side3 ?side4 A12.out).mono ?_
           (case side1 => exact cT HR173_0.out)
           (case side2 => exact HC173_0.out)
           (case side3 => exact cT HR174_0.out)
           (case side4 => exact HC174_0.out)
           rintro e w36 ⟨v176, rfl, ho0, hb⟩
           refine ⟨_, rfl, ?_⟩
           replace HO_10 := re HO_10 ho0 hb
           have HO177 := akk (Kd.S_lower ho0 (below_size (bS GE172.out)))
           replace BK172 := kb BK172 hb
           replace HB := bg GE172 hb
           (try clear hb)
           (try clear hb2)
           (try clear hk)
           (try clear hi)
           (try clear ho0)
           refine hK.out _ _ ⟨(blk_cell BK172.out 0).trans rfl, (blk_cell BK172.out 1).trans rfl, ((HB.out.cell (World.block_lt_of_cell? w _ hw173_0)).trans hw173_0), ((HB.out.cell (World.block_lt_of_cell? w _ hw174_0)).trans hw174_0)⟩ (fun hHeld => ?_)
           clear hK K
           refine norm_ (a' := ?_) ?_ ?_
           rotate_left
           ·show Act.put _ (some 32) _ = _
            simp only [Act.put, List.setIfInBounds_toArray, List.set_cons_zero, List.set_cons_succ, i64_w, i32_w]
            rfl
           refine pT 11 13 (bm 12 4095) ?_
           refine done_ (done_of HT_.out (by kernel_rfl)) ?_
           obtain ⟨Ao37, co37, eo37⟩ := Kd.S_slice HO177.out
           subst eo37
           try go_wp2_with (refine gT 25 (some 36) Tryz.func25 #[.slice A3 l3.length c3, .slice Ao37 t175.length co37] ?_; (with_reducible refine (expr_Holds.calls k1 _ _ l3 _ _ t175 t178 t179 _ ?_ ?_ ?_ ?_ A13.out).mono ?_); exact cT HR3.out; exact HC3.out; exact cV (Kd.S_reads' HO177.out).2.2; exact (Kd.S_reads' HO177.out).2.1; rintro e w38 ⟨rfl, hb⟩; refine ⟨_, rfl, ?_⟩; replace HO_10 := rb HO_10 hb; replace HO177 := sb HO177 hb; replace BK172 := kb BK172 hb; replace HB := bg GE172 hb; clear hb)
           go_ret2
           exact ⟨_, fT, zT, by repeat (first | (with_reducible first | exact HB.out | apply below_alloc | apply pw_below_drewN | apply below_drew1 | refine below_set ?_ GE172.out) | exact HB.out)⟩
         ·rw [if_neg c11] at H
          exact absurd H (by simp)
        ·rw [if_neg c10] at H
         exact absurd H (by simp)
       ·rw [if_neg c9] at H
        exact absurd H (by simp)
      ·rw [if_neg c8] at H
       exact absurd H (by simp)
     ·rw [if_neg c7] at H
      exact absurd H (by simp)
    ·rw [if_neg c6] at H
     exact absurd H (by simp)
   ·rw [if_neg c5] at H
    have c5b0 := decide_eq_false c5
    clear c5
    simp only [Option.some.injEq, Prod.mk.injEq] at H
    obtain ⟨rfl, rfl⟩ := H
    go_wp2
    go_ret2
    exact ⟨_, fT, rT' HO_10.out, bT⟩
def value_Plain.f (a0_0 : Int) (a0_1 : Int) (a0_2 : Nat) (a0_3 : ByteArray) : Option (Int × Int × Nat × ByteArray) := plainF ⟨a0_0, a0_1, a0_2, a0_3⟩
theorem value_Plain.calls (a0_0 : Int) (a0_1 : Int) (a0_2 : Nat) (a0_3 : ByteArray) (r1 : Int) (r2 : Int) (r3 : Nat) (r4 : ByteArray) (w : World) (h : value_Plain.f a0_0 a0_1 a0_2 a0_3 = some (r1, r2, r3, r4)) :
 Calls Tryz.prog 35 #[.agg #[.int .i64 a0_0, .int .i64 a0_1, .float .f64 a0_2, .string a0_3]] w fun e w' => e = .returned (.agg #[.int .i64 r1, .int .i64 r2, .float .f64 r3, .string r4]) ∧ Below w.heap.size w w' := by
 unfold value_Plain.f plainF at h
 split at h
 ·rename_i hc
  simp only [wfV, decide_eq_true_eq] at hc
  simp only [Option.some.injEq, Prod.mk.injEq] at h
  obtain ⟨rfl, rfl, rfl, rfl⟩ := h
  exact Plain_any _ hc w
 ·cases h
end Go.Proofs.YtgmolmpfihkolaaGreat.Pj
