/- Part of the proof. -/
import Derived.Test.YtgmolmpfihkolaaGreatM28
namespace Go.Proofs.YtgmolmpfihkolaaGreat.Pj
open Go.RowKit Go.Proofs.YtgmolmpfihkolaaGreatW.PrintWords Go.Proofs.YtgmolmpfihkolaaGreatW.PrintLast Go.Proofs.YtgmolmpfihkolaaGreatW.PrintMore
attribute [local go_sem] run_store_flt max2_int min2_int max_two min_two max_three min_three max_four min_four
set_option linter.unusedVariables false
set_option linter.unusedSimpArgs false
mutual
def r27_Loop.l0 : Nat → T3 → T3 → List (S53) → T3 → Int → Option (T3 × Int)
 | 0, _, _, _, _, _ => none
 | k + 1, x0, x1, x2, x8, x9 => if x9 < (x0.length : Int) then (r27_Loop.l1 k x0 x1 x2 x8 x9 0) else (some (x8, 0))
def r27_Loop.l1 : Nat → T3 → T3 → List (S53) → T3 → Int → Int → Option (T3 × Int)
 | 0, _, _, _, _, _, _ => none
 | k + 1, x0, x1, x2, x8, x9, x10 => if x10 < (x1.length : Int) then (if 0 ≤ x9 then (if x9 < (x0.length : Int) then (if 0 ≤ x10 then ((r27_Union.f k (rd_L6 x0 x9) (rd_L6 x1 x10)).bind fun t218 => ((r22_Holds.f x2 t218).bind fun bt221 => (if bt221.2 = 0 then (if bt221.1 = true then (if x8.length < 5864062014805 then (r27_Loop.l1 k x0 x1 x2 (x8 ++ [t218]) x9 (wrap64 (x10 + 1))) else (none)) else (r27_Loop.l1 k x0 x1 x2 x8 x9 (wrap64 (x10 + 1)))) else (some (([] : T3), bt221.2))))) else (none)) else (none)) else (none)) else (r27_Loop.l0 k x0 x1 x2 x8 (wrap64 (x9 + 1)))
end
def r27_Loop.f (k : Nat) (l0 : T3) (l1 : T3) (l2 : List (S53)) : Option (T3 × Int) := r27_Loop.l0 k l0 l1 l2 ([] : T3) 0
def r27_Loop.T8 : Bool × List (List Nat × List Nat) := (true, [([], []), ([], []), ([0, 1], [0, 1]), ([2], [2]), ([], []), ([], []), ([4, 5], [4, 5]), ([6], [6]), ([3, 7], [3, 7]), ([8, 8, 0, 1, 2, 3, 4, 5, 6, 7, 8], [8])])
def r27_Loop.B8 : List Nat := [0, 0, 3, 7, 0, 0, 48, 112, 255, 511]
theorem r27_Loop.tab8 : rtab .any (opsOf Tryz.f17 8) = r27_Loop.T8 := by kernel_rfl
theorem r27_Loop.bits8 : waitsOk r27_Loop.T8.2 r27_Loop.B8 = true := by kernel_rfl
set_option maxHeartbeats 8000000 in
set_option maxRecDepth 100000 in
theorem r27_Loop.calls (k : Nat) (P0_ : Nat → Prop) (A0 : Option Addr) (c0 : Nat) (l0 : T3) (P1_ : Nat → Prop) (A1 : Option Addr) (c1 : Nat) (l1 : T3) (A2 : Option Addr) (c2 : Nat) (l2 : List (S53)) (r1 : T3) (r2 : Int) (w : World) (hs0 : Kd.V (Kd.slice 29 (Kd.slice 39 k39)) 22 w w.heap.size (fun k_ => P0_ k_) (.slice A0 l0.length c0) l0) (hs1 : Kd.V (Kd.slice 29 (Kd.slice 39 k39)) 22 w w.heap.size (fun k_ => P1_ k_) (.slice A1 l1.length c1) l1) (hr2 : Kd.C k53 w A2 l2.length l2) (hc2 : l2.length ≤ c2) (h : r27_Loop.f k l0 l1 l2 = some (r1, r2)) :
 Calls Tryz.prog 17 #[.slice A0 l0.length c0, .slice A1 l1.length c1, .slice A2 l2.length c2] w fun e w' => ∃ v0_ : Value, e = .returned (.tuple #[v0_, .int .i64 r2]) ∧ Kd.N (Kd.slice 29 (Kd.slice 39 k39)) 22 w' w.heap.size (fun k_ => ((P0_ k_ ∨ P1_ k_) ∨ w.heap.size ≤ k_)) v0_ r1 ∧ Below w.heap.size w w' := by
 have HO0 := akk (show Kd.V (Kd.slice 29 (Kd.slice 39 k39)) 22 w w.heap.size (fun k_ => ((P0_ k_ ∨ P1_ k_) ∨ w.heap.size ≤ k_)) (.slice A0 l0.length c0) l0 from Kd.V_mono hs0 (fun k_ hk => .inl (.inl hk)))
 have HO1 := akk (show Kd.V (Kd.slice 29 (Kd.slice 39 k39)) 22 w w.heap.size (fun k_ => ((P0_ k_ ∨ P1_ k_) ∨ w.heap.size ≤ k_)) (.slice A1 l1.length c1) l1 from Kd.V_mono hs1 (fun k_ hk => .inl (.inr hk)))
 have HR2 := akk hr2
 have HC2 := akk hc2
 clear hr2 hc2
 have HB := akk (Below.refl w.heap.size w)
 have H : (r27_Loop.l0 k l0 l1 l2 ([] : T3) 0) = some (r1, r2) := h
 clear h
 have H' := akk H
 clear H
 go_enter Tryz.func17, Tryz.ntmps17
 go_wp2
 go_loopg [8, 9] k (fun kq v8 v9 w' => ∃ (x8_1 : T3) (x9_1 : Int), v9 = .int .i64 x9_1 ∧ Aside0 (r27_Loop.l0 kq l0 l1 l2 x8_1 x9_1 = some (r1, r2)) ∧ Aside0 (kq ≤ k) ∧ Aside0 (Kd.V (Kd.slice 29 (Kd.slice 39 k39)) 22 w' w.heap.size (fun k_ => ((P0_ k_ ∨ P1_ k_) ∨ w.heap.size ≤ k_) ∧ some k_ ≠ (v8 : Value).ownBlock) (.slice A0 l0.length c0) l0) ∧ Aside0 (Kd.V (Kd.slice 29 (Kd.slice 39 k39)) 22 w' w.heap.size (fun k_ => ((P0_ k_ ∨ P1_ k_) ∨ w.heap.size ≤ k_) ∧ some k_ ≠ (v8 : Value).ownBlock) (.slice A1 l1.length c1) l1) ∧ Aside0 (Kd.N (Kd.slice 29 (Kd.slice 39 k39)) 22 w' w.heap.size (fun k_ => ((P0_ k_ ∨ P1_ k_) ∨ w.heap.size ≤ k_)) v8 x8_1) ∧ Aside0 (Below w.heap.size w w'))
 case atStart => exact ⟨(([] : T3)), (0), eT, H', ⟨Nat.le_refl _⟩, ⟨vT' (Kd.V_mono HO0.out (fun _ hk => ⟨hk, (by simp [Value.ownBlock])⟩))⟩, ⟨vT' (Kd.V_mono HO1.out (fun _ hk => ⟨hk, (by simp [Value.ownBlock])⟩))⟩, ⟨zT⟩, ⟨bT⟩⟩
 case round =>
  clear H'
  try clear c1
  obtain ⟨x8_1, x9_1, rfl, HA, HK1, HO_0, HO_1, HO_8, HB⟩ := hrel
  cases gk with
  | zero => exact absurd HA.out (by simp [r27_Loop.l0])
  | succ k1 =>
   have H := HA.out
   clear HA
   simp only [r27_Loop.l0] at H
   by_cases c4 : x9_1 < (l0.length : Int)
   ·rw [if_pos c4] at H
    have c4b0 := decide_eq_true c4
    clear c4
    have H' := akk H
    clear H
    go_wp2
    go_loopg [8, 10] k1 (fun kq v8 v10 w' => ∃ (x8_2 : T3) (x10_2 : Int), v10 = .int .i64 x10_2 ∧ Aside0 (r27_Loop.l1 kq l0 l1 l2 x8_2 x9_1 x10_2 = some (r1, r2)) ∧ Aside0 (kq ≤ k1) ∧ Aside0 (Kd.V (Kd.slice 29 (Kd.slice 39 k39)) 22 w' w.heap.size (fun k_ => ((P0_ k_ ∨ P1_ k_) ∨ w.heap.size ≤ k_) ∧ some k_ ≠ (v8 : Value).ownBlock) (.slice A0 l0.length c0) l0) ∧ Aside0 (Kd.V (Kd.slice 29 (Kd.slice 39 k39)) 22 w' w.heap.size (fun k_ => ((P0_ k_ ∨ P1_ k_) ∨ w.heap.size ≤ k_) ∧ some k_ ≠ (v8 : Value).ownBlock) (.slice A1 l1.length c1) l1) ∧ Aside0 (Kd.N (Kd.slice 29 (Kd.slice 39 k39)) 22 w' w.heap.size (fun k_ => ((P0_ k_ ∨ P1_ k_) ∨ w.heap.size ≤ k_)) v8 x8_2) ∧ Aside0 (Below w.heap.size w w'))
    case atStart => exact ⟨(x8_1), (0), eT, H', ⟨Nat.le_refl _⟩, ⟨vT HO_0.out⟩, ⟨vT HO_1.out⟩, ⟨nT HO_8.out⟩, ⟨bT⟩⟩
    case round =>
     clear H'
     try clear c4b0
     obtain ⟨x8_2, x10_2, rfl, HA, HK2, HO_0, HO_1, HO_8, HB⟩ := hrel
     cases gk with
     | zero => exact absurd HA.out (by simp [r27_Loop.l1])
     | succ k2 =>
      have H := HA.out
      clear HA
      simp only [r27_Loop.l1] at H
      by_cases c5 : x10_2 < (l1.length : Int)
      ·rw [if_pos c5] at H
       have c5b0 := decide_eq_true c5
       clear c5
       by_cases c6 : 0 ≤ x9_1
       ·rw [if_pos c6] at H
        have c6b0 := decide_eq_true c6
        clear c6
        by_cases c7 : x9_1 < (l0.length : Int)
        ·rw [if_pos c7] at H
         have c7b0 := decide_eq_true c7
         clear c7
         by_cases c8 : 0 ≤ x10_2
         ·rw [if_pos c8] at H
          have c8b0 := decide_eq_true c8
          clear c8
          obtain ⟨t218, A9, H⟩ := bi H
          try dsimp only at H
          obtain ⟨⟨t221, t222⟩, A10, H⟩ := bi H
          try dsimp only at H
          by_cases c11 : t222 = 0
          ·rw [if_pos c11] at H
           have c11b0 : (t222 == 0) = true := beq_iff_eq.mpr c11
           have c11b1 : (t222 != 0) = false := bne_eq_false_iff_eq.mpr c11
           clear c11
           by_cases c12 : t221 = true
           ·subst c12
            rw [if_pos rfl] at H
            by_cases c13 : x8_2.length < 5864062014805
            ·rw [if_pos c13] at H
             have LMc13 := akk c13
             clear c13
             obtain ⟨y223, hy223⟩ : ∃ y_ : T3, y_ = (x8_2 ++ [t218]) := ⟨_, rfl⟩
             replace H : (r27_Loop.l1 k2 l0 l1 l2 y223 x9_1 (wrap64 (x10_2 + 1))) = some (r1, r2) := jT hy223 H
             have Ny223 := akk hy223
             clear hy223
             have H' := akk H
             clear H
             try go_wp2
             replace HO_0 := akk (Kd.V_drew HO_0.out)
             replace HO_1 := akk (Kd.V_drew HO_1.out)
             replace HO_8 := akk (Kd.N_drew HO_8.out)
             replace HB := akk (below_drew1 HB.out)
             obtain ⟨ad216, A216_0, c216_0, rfl, hx216_0, HL216_0, HR216_0, HC216_0, p216, q216⟩ := gV6 HO_0 x9_1
             obtain ⟨ad217, A217_0, c217_0, rfl, hx217_0, HL217_0, HR217_0, HC217_0, p217, q217⟩ := gV6 HO_1 x10_2
             refine start_ (n := 10) (S := fun w' => w'.cell? (ad216.add (x9_1).toNat) = some (.slice A216_0 (rd_L6 l0 x9_1).length c216_0) ∧ w'.cell? (ad217.add (x10_2).toNat) = some (.slice A217_0 (rd_L6 l1 x10_2).length c217_0)) (ds := []) #[false, false, false, false, false, false, false, false, false, false] (by kernel_rfl) rfl rfl ⟨hx216_0, hx217_0⟩ (fun hHeld => ?_); refine with_tabW r27_Loop.tab8 r27_Loop.bits8 (fun HT_ HW_ => ?_)
             generalize wr.drew = w14 at HO_0 HO_1 HO_8 HB HL216_0 HL217_0 HR216_0 HR217_0 hx216_0 hx217_0 hHeld ⊢
             refine pT 0 26 (bm 10 1) ?_
             refine pT 1 27 (bm 10 3) ?_
             refine pT 2 28 (bm 10 7) ?_
             refine pT 4 30 (bm 10 23) ?_
             refine pT 5 31 (bm 10 55) ?_
             refine pT 6 32 (bm 10 119) ?_
             refine tT2 3 29 (bm 10 127) hHeld ?_
             refine tT2 7 33 (bm 10 255) hHeld ?_
             refine one_ (i := 8) (N := some 34) #[true, true, true, true, true, true, true, true, true, false] rfl rfl (one_of HT_.out (by kernel_rfl)) (by decide) (fun K hK => ?_)
             refine goes_ Tryz.func11 (by kernel_rfl) rfl #[.slice A216_0 (rd_L6 l0 x9_1).length c216_0, .slice A217_0 (rd_L6 l1 x10_2).length c217_0] (by rfl) rfl rfl mT ?_
             with_reducible refine (r27_Union.calls k2 (fun k_ => (((P0_ k_ ∨ P1_ k_) ∨ w.heap.size ≤ k_) ∧ some k_ ≠ (u8 : Value).ownBlock)) _ _ (rd_L6 l0 x9_1) (fun k_ => (((P0_ k_ ∨ P1_ k_) ∨ w.heap.size ≤ k_) ∧ some k_ ≠ (u8 : Value).ownBlock)) _ _ (rd_L6 l1 x10_2) t218 _ ?side1 ?side2 A9.out).mono ?_
             (case side1 => exact HL216_0.out)
             (case side2 => exact HL217_0.out)
             rintro e w15 ⟨v219, rfl, ho0, hb⟩
             have HS0_ := (hb.cell (World.block_lt_of_cell? _ _ (hHeld.1))).trans (hHeld.1)
             have HS1_ := (hb.cell (World.block_lt_of_cell? _ _ (hHeld.2))).trans (hHeld.2)
             refine ⟨_, rfl, ?_⟩
             replace HO_0 := ve HO_0 ho0 hb
             replace HO_1 := ve HO_1 ho0 hb
             replace HL216_0 := ve HL216_0 ho0 hb
             replace HL217_0 := ve HL217_0 ho0 hb
             have HO220 := akk (Kd.N_lower (Kd.N_mono (ok' := fun k_ => ((P0_ k_ ∨ P1_ k_) ∨ w.heap.size ≤ k_) ∧ some k_ ≠ (u8 : Value).ownBlock) ho0 (fun k_ hk_ => ⟨Or.elim hk_ (fun hs_ => Or.elim hs_ (fun hs_ => hs_.1) (fun hs_ => hs_.1)) (fun hn_ => (.inr (Nat.le_trans (below_size bT) hn_))), Or.elim hk_ (fun hs_ => Or.elim hs_ (fun hs_ => hs_.2) (fun hs_ => hs_.2)) (fun hn_ => (Kd.fresh' (Kd.N_lt (nT HO_8.out)) k_ hn_))⟩)) (below_size bT))
             replace HO_8 := ne HO_8 ho0 hb
             replace HR216_0 := cb HR216_0 hb
             replace HR217_0 := cb HR217_0 hb
             replace HB := bb HB hb
             (try clear hb)
             (try clear hb2)
             (try clear hk)
             (try clear hi)
             (try clear ho0)
             refine hK.out _ _ ⟨HS0_, HS1_⟩ (fun hHeld => ?_)
             clear hK K
             refine norm_ (a' := ?_) ?_ ?_
             rotate_left
             ·show Act.put _ (some 34) _ = _
              simp only [Act.put, List.setIfInBounds_toArray, List.set_cons_zero, List.set_cons_succ, i64_w, i32_w]
              rfl
             refine pT 9 11 (bm 10 1023) ?_
             refine done_ (done_of HT_.out (by kernel_rfl)) ?_
             obtain ⟨Ao16, co16, eo16⟩ := Kd.N_slice HO220.out
             subst eo16
             try go_wp2_with (first | (refine gT 40 (some 38) Tryz.func40 #[.slice A2 l2.length c2, .slice Ao16 t218.length co16] ?_; (with_reducible refine (r22_Holds.calls _ _ l2 _ _ t218 true t222 _ ?_ ?_ ?_ ?_ A10.out).mono ?_); exact cT HR2.out; exact HC2.out; exact cV (Kd.N_reads' HO220.out).2.2; exact (Kd.N_reads' HO220.out).2.1; rintro e w17 ⟨rfl, hb⟩; refine ⟨_, rfl, ?_⟩; replace HO_0 := vb HO_0 hb; replace HO_1 := vb HO_1 hb; replace HO_8 := nb HO_8 hb; replace HL216_0 := vb HL216_0 hb; replace HL217_0 := vb HL217_0 hb; replace HO220 := nb HO220 hb; replace HR216_0 := cb HR216_0 hb; replace HR217_0 := cb HR217_0 hb; replace HB := bb HB hb; clear hb) | ((with_reducible refine gA #[.tmp 45, .tmp 47] rfl ?_); at_builtin; refine Kd.N_append (Kd.slice 29 (Kd.slice 39 k39)) (w0 := w) w.heap.size rfl (.tmp 45) (.tmp 47) 25 22 (.slice none 0 0) 24 rfl Tryz.underlying25 info22 rfl (by decide) (by omega) u8 x8_2 t218 [.slice Ao16 t218.length co16] (fun k_ => ((P0_ k_ ∨ P1_ k_) ∨ w.heap.size ≤ k_)) (fun k_ => ((fun k_ => ((P0_ k_ ∨ P1_ k_) ∨ w.heap.size ≤ k_))) k_ ∧ some k_ ≠ (u8 : Value).ownBlock) rfl rfl ?aP (fun _ hk => hk) ?aF ?aO ?aB ?aS ?aL ?_; (case aP => exact (Kd.FK_slice_mk (Kd.N_reads' (Kd.N_mono (ok' := (fun k_ => ((fun k_ => ((P0_ k_ ∨ P1_ k_) ∨ w.heap.size ≤ k_))) k_ ∧ some k_ ≠ (u8 : Value).ownBlock)) (HO220.out) (fun k_ hk => ⟨hk.1, hk.2⟩))).2.1 (Kd.N_F (Kd.N_mono (ok' := (fun k_ => ((fun k_ => ((P0_ k_ ∨ P1_ k_) ∨ w.heap.size ≤ k_))) k_ ∧ some k_ ≠ (u8 : Value).ownBlock)) (HO220.out) (fun k_ hk => ⟨hk.1, hk.2⟩))))); (case aB => exact bT); (case aF => exact (fun k_ hk => (.inr (Nat.le_trans (below_size bT) hk)))); (case aO => exact (nT' (Kd.N_mono HO_8.out (fun _ hk => hk.1)))); (case aS => exact (below_size bT)); (case aL => have := LMc13.out; omega); intro v224 w18 ho hb hg hat; rw [← Ny223.out] at ho; replace HO_0 := akk (Kd.V_afterv (ok := (fun k_ => ((P0_ k_ ∨ P1_ k_) ∨ w.heap.size ≤ k_) ∧ some k_ ≠ (.slice Ao16 t218.length co16 : Value).ownBlock)) (vT' (Kd.V_mono HO_0.out (fun _ hk => ⟨⟨hk.1.1, hk.2⟩, hk.1.2⟩))) hg hat); replace HO_1 := akk (Kd.V_afterv (ok := (fun k_ => ((P0_ k_ ∨ P1_ k_) ∨ w.heap.size ≤ k_) ∧ some k_ ≠ (.slice Ao16 t218.length co16 : Value).ownBlock)) (vT' (Kd.V_mono HO_1.out (fun _ hk => ⟨⟨hk.1.1, hk.2⟩, hk.1.2⟩))) hg hat); replace HL216_0 := akk (Kd.V_afterv (ok := (fun k_ => ((P0_ k_ ∨ P1_ k_) ∨ w.heap.size ≤ k_) ∧ some k_ ≠ (.slice Ao16 t218.length co16 : Value).ownBlock)) (vT' (Kd.V_mono HL216_0.out (fun _ hk => ⟨⟨hk.1.1, hk.2⟩, hk.1.2⟩))) hg hat); replace HL217_0 := akk (Kd.V_afterv (ok := (fun k_ => ((P0_ k_ ∨ P1_ k_) ∨ w.heap.size ≤ k_) ∧ some k_ ≠ (.slice Ao16 t218.length co16 : Value).ownBlock)) (vT' (Kd.V_mono HL217_0.out (fun _ hk => ⟨⟨hk.1.1, hk.2⟩, hk.1.2⟩))) hg hat); replace HB := akk (hb); have HO225 := akk (ho); clear HO_8 HO220; clear ho hb hg hat))
             go_roundg k2
             case measure => have := HK1.out; have := HK2.out; omega
             case rel => exact ⟨(y223), (wrap64 (x10_2 + 1)), eT, H', ⟨by have := HK1.out; have := HK2.out; omega⟩, ⟨vT' (Kd.V_mono HO_0.out (fun _ hk => ⟨hk.1.1, hk.2⟩))⟩, ⟨vT' (Kd.V_mono HO_1.out (fun _ hk => ⟨hk.1.1, hk.2⟩))⟩, ⟨nT HO225.out⟩, ⟨bT⟩⟩
            ·rw [if_neg c13] at H
             exact absurd H (by simp)
           ·replace c12 := Bool.eq_false_iff.mpr c12
            subst c12
            rw [if_neg (show ¬ (false = true) by decide)] at H
            have H' := akk H
            clear H
            try go_wp2
            replace HO_0 := akk (Kd.V_drew HO_0.out)
            replace HO_1 := akk (Kd.V_drew HO_1.out)
            replace HO_8 := akk (Kd.N_drew HO_8.out)
            replace HB := akk (below_drew1 HB.out)
            obtain ⟨ad216, A216_0, c216_0, rfl, hx216_0, HL216_0, HR216_0, HC216_0, p216, q216⟩ := gV6 HO_0 x9_1
            obtain ⟨ad217, A217_0, c217_0, rfl, hx217_0, HL217_0, HR217_0, HC217_0, p217, q217⟩ := gV6 HO_1 x10_2
            refine start_ (n := 10) (S := fun w' => w'.cell? (ad216.add (x9_1).toNat) = some (.slice A216_0 (rd_L6 l0 x9_1).length c216_0) ∧ w'.cell? (ad217.add (x10_2).toNat) = some (.slice A217_0 (rd_L6 l1 x10_2).length c217_0)) (ds := []) #[false, false, false, false, false, false, false, false, false, false] (by kernel_rfl) rfl rfl ⟨hx216_0, hx217_0⟩ (fun hHeld => ?_); refine with_tabW r27_Loop.tab8 r27_Loop.bits8 (fun HT_ HW_ => ?_)
            generalize wr.drew = w19 at HO_0 HO_1 HO_8 HB HL216_0 HL217_0 HR216_0 HR217_0 hx216_0 hx217_0 hHeld ⊢
            refine pT 0 26 (bm 10 1) ?_
            refine pT 1 27 (bm 10 3) ?_
            refine pT 2 28 (bm 10 7) ?_
            refine pT 4 30 (bm 10 23) ?_
            refine pT 5 31 (bm 10 55) ?_
            refine pT 6 32 (bm 10 119) ?_
            refine tT2 3 29 (bm 10 127) hHeld ?_
            refine tT2 7 33 (bm 10 255) hHeld ?_
            refine one_ (i := 8) (N := some 34) #[true, true, true, true, true, true, true, true, true, false] rfl rfl (one_of HT_.out (by kernel_rfl)) (by decide) (fun K hK => ?_)
            refine goes_ Tryz.func11 (by kernel_rfl) rfl #[.slice A216_0 (rd_L6 l0 x9_1).length c216_0, .slice A217_0 (rd_L6 l1 x10_2).length c217_0] (by rfl) rfl rfl mT ?_
            with_reducible refine (r27_Union.calls k2 (fun k_ => (((P0_ k_ ∨ P1_ k_) ∨ w.heap.size ≤ k_) ∧ some k_ ≠ (u8 : Value).ownBlock)) _ _ (rd_L6 l0 x9_1) (fun k_ => (((P0_ k_ ∨ P1_ k_) ∨ w.heap.size ≤ k_) ∧ some k_ ≠ (u8 : Value).ownBlock)) _ _ (rd_L6 l1 x10_2) t218 _ ?side1 ?side2 A9.out).mono ?_
            (case side1 => exact HL216_0.out)
            (case side2 => exact HL217_0.out)
            rintro e w20 ⟨v219, rfl, ho0, hb⟩
            have HS0_ := (hb.cell (World.block_lt_of_cell? _ _ (hHeld.1))).trans (hHeld.1)
            have HS1_ := (hb.cell (World.block_lt_of_cell? _ _ (hHeld.2))).trans (hHeld.2)
            refine ⟨_, rfl, ?_⟩
            replace HO_0 := ve HO_0 ho0 hb
            replace HO_1 := ve HO_1 ho0 hb
            replace HL216_0 := ve HL216_0 ho0 hb
            replace HL217_0 := ve HL217_0 ho0 hb
            have HO220 := akk (Kd.N_lower (Kd.N_mono (ok' := fun k_ => ((P0_ k_ ∨ P1_ k_) ∨ w.heap.size ≤ k_) ∧ some k_ ≠ (u8 : Value).ownBlock) ho0 (fun k_ hk_ => ⟨Or.elim hk_ (fun hs_ => Or.elim hs_ (fun hs_ => hs_.1) (fun hs_ => hs_.1)) (fun hn_ => (.inr (Nat.le_trans (below_size bT) hn_))), Or.elim hk_ (fun hs_ => Or.elim hs_ (fun hs_ => hs_.2) (fun hs_ => hs_.2)) (fun hn_ => (Kd.fresh' (Kd.N_lt (nT HO_8.out)) k_ hn_))⟩)) (below_size bT))
            replace HO_8 := ne HO_8 ho0 hb
            replace HR216_0 := cb HR216_0 hb
            replace HR217_0 := cb HR217_0 hb
            replace HB := bb HB hb
            (try clear hb)
            (try clear hb2)
            (try clear hk)
            (try clear hi)
            (try clear ho0)
            refine hK.out _ _ ⟨HS0_, HS1_⟩ (fun hHeld => ?_)
            clear hK K
            refine norm_ (a' := ?_) ?_ ?_
            rotate_left
            ·show Act.put _ (some 34) _ = _
             simp only [Act.put, List.setIfInBounds_toArray, List.set_cons_zero, List.set_cons_succ, i64_w, i32_w]
             rfl
            refine pT 9 11 (bm 10 1023) ?_
            refine done_ (done_of HT_.out (by kernel_rfl)) ?_
            obtain ⟨Ao21, co21, eo21⟩ := Kd.N_slice HO220.out
            subst eo21
            try go_wp2_with (refine gT 40 (some 38) Tryz.func40 #[.slice A2 l2.length c2, .slice Ao21 t218.length co21] ?_; (with_reducible refine (r22_Holds.calls _ _ l2 _ _ t218 false t222 _ ?_ ?_ ?_ ?_ A10.out).mono ?_); exact cT HR2.out; exact HC2.out; exact cV (Kd.N_reads' HO220.out).2.2; exact (Kd.N_reads' HO220.out).2.1; rintro e w22 ⟨rfl, hb⟩; refine ⟨_, rfl, ?_⟩; replace HO_0 := vb HO_0 hb; replace HO_1 := vb HO_1 hb; replace HO_8 := nb HO_8 hb; replace HL216_0 := vb HL216_0 hb; replace HL217_0 := vb HL217_0 hb; replace HO220 := nb HO220 hb; replace HR216_0 := cb HR216_0 hb; replace HR217_0 := cb HR217_0 hb; replace HB := bb HB hb; clear hb)
            go_roundg k2
            case measure => have := HK1.out; have := HK2.out; omega
            case rel => exact ⟨(x8_2), (wrap64 (x10_2 + 1)), eT, H', ⟨by have := HK1.out; have := HK2.out; omega⟩, ⟨vT' (Kd.V_mono HO_0.out (fun _ hk => ⟨hk.1.1, hk.1.2⟩))⟩, ⟨vT' (Kd.V_mono HO_1.out (fun _ hk => ⟨hk.1.1, hk.1.2⟩))⟩, ⟨nT' (Kd.N_mono HO_8.out (fun _ hk => hk.1))⟩, ⟨bT⟩⟩
          ·rw [if_neg c11] at H
           have c11b0 : (t222 == 0) = false := beq_eq_false_iff_ne.mpr c11
           have c11b1 : (t222 != 0) = true := bne_iff_ne.mpr c11
           simp only [Option.some.injEq, Prod.mk.injEq] at H
           obtain ⟨rfl, rfl⟩ := H
           try go_wp2
           replace HO_0 := akk (Kd.V_drew HO_0.out)
           replace HO_1 := akk (Kd.V_drew HO_1.out)
           replace HO_8 := akk (Kd.N_drew HO_8.out)
           replace HB := akk (below_drew1 HB.out)
           obtain ⟨ad216, A216_0, c216_0, rfl, hx216_0, HL216_0, HR216_0, HC216_0, p216, q216⟩ := gV6 HO_0 x9_1
           obtain ⟨ad217, A217_0, c217_0, rfl, hx217_0, HL217_0, HR217_0, HC217_0, p217, q217⟩ := gV6 HO_1 x10_2
           refine start_ (n := 10) (S := fun w' => w'.cell? (ad216.add (x9_1).toNat) = some (.slice A216_0 (rd_L6 l0 x9_1).length c216_0) ∧ w'.cell? (ad217.add (x10_2).toNat) = some (.slice A217_0 (rd_L6 l1 x10_2).length c217_0)) (ds := []) #[false, false, false, false, false, false, false, false, false, false] (by kernel_rfl) rfl rfl ⟨hx216_0, hx217_0⟩ (fun hHeld => ?_); refine with_tabW r27_Loop.tab8 r27_Loop.bits8 (fun HT_ HW_ => ?_)
           generalize wr.drew = w23 at HO_0 HO_1 HO_8 HB HL216_0 HL217_0 HR216_0 HR217_0 hx216_0 hx217_0 hHeld ⊢
           refine pT 0 26 (bm 10 1) ?_
           refine pT 1 27 (bm 10 3) ?_
           refine pT 2 28 (bm 10 7) ?_
           refine pT 4 30 (bm 10 23) ?_
           refine pT 5 31 (bm 10 55) ?_
           refine pT 6 32 (bm 10 119) ?_
           refine tT2 3 29 (bm 10 127) hHeld ?_
           refine tT2 7 33 (bm 10 255) hHeld ?_
           refine one_ (i := 8) (N := some 34) #[true, true, true, true, true, true, true, true, true, false] rfl rfl (one_of HT_.out (by kernel_rfl)) (by decide) (fun K hK => ?_)
           refine goes_ Tryz.func11 (by kernel_rfl) rfl #[.slice A216_0 (rd_L6 l0 x9_1).length c216_0, .slice A217_0 (rd_L6 l1 x10_2).length c217_0] (by rfl) rfl rfl mT ?_
           with_reducible refine (r27_Union.calls k2 (fun k_ => (((P0_ k_ ∨ P1_ k_) ∨ w.heap.size ≤ k_) ∧ some k_ ≠ (u8 : Value).ownBlock)) _ _ (rd_L6 l0 x9_1) (fun k_ => (((P0_ k_ ∨ P1_ k_) ∨ w.heap.size ≤ k_) ∧ some k_ ≠ (u8 : Value).ownBlock)) _ _ (rd_L6 l1 x10_2) t218 _ ?side1 ?side2 A9.out).mono ?_
           (case side1 => exact HL216_0.out)
           (case side2 => exact HL217_0.out)
           rintro e w24 ⟨v219, rfl, ho0, hb⟩
           have HS0_ := (hb.cell (World.block_lt_of_cell? _ _ (hHeld.1))).trans (hHeld.1)
           have HS1_ := (hb.cell (World.block_lt_of_cell? _ _ (hHeld.2))).trans (hHeld.2)
           refine ⟨_, rfl, ?_⟩
           replace HO_0 := ve HO_0 ho0 hb
           replace HO_1 := ve HO_1 ho0 hb
           replace HL216_0 := ve HL216_0 ho0 hb
           replace HL217_0 := ve HL217_0 ho0 hb
           have HO220 := akk (Kd.N_lower (Kd.N_mono (ok' := fun k_ => ((P0_ k_ ∨ P1_ k_) ∨ w.heap.size ≤ k_) ∧ some k_ ≠ (u8 : Value).ownBlock) ho0 (fun k_ hk_ => ⟨Or.elim hk_ (fun hs_ => Or.elim hs_ (fun hs_ => hs_.1) (fun hs_ => hs_.1)) (fun hn_ => (.inr (Nat.le_trans (below_size bT) hn_))), Or.elim hk_ (fun hs_ => Or.elim hs_ (fun hs_ => hs_.2) (fun hs_ => hs_.2)) (fun hn_ => (Kd.fresh' (Kd.N_lt (nT HO_8.out)) k_ hn_))⟩)) (below_size bT))
           replace HO_8 := ne HO_8 ho0 hb
           replace HR216_0 := cb HR216_0 hb
           replace HR217_0 := cb HR217_0 hb
           replace HB := bb HB hb
           (try clear hb)
           (try clear hb2)
           (try clear hk)
           (try clear hi)
           (try clear ho0)
           refine hK.out _ _ ⟨HS0_, HS1_⟩ (fun hHeld => ?_)
           clear hK K
           refine norm_ (a' := ?_) ?_ ?_
           rotate_left
           ·show Act.put _ (some 34) _ = _
            simp only [Act.put, List.setIfInBounds_toArray, List.set_cons_zero, List.set_cons_succ, i64_w, i32_w]
            rfl
           refine pT 9 11 (bm 10 1023) ?_
           refine done_ (done_of HT_.out (by kernel_rfl)) ?_
           obtain ⟨Ao25, co25, eo25⟩ := Kd.N_slice HO220.out
           subst eo25
           try go_wp2_with (refine gT 40 (some 38) Tryz.func40 #[.slice A2 l2.length c2, .slice Ao25 t218.length co25] ?_; (with_reducible refine (r22_Holds.calls _ _ l2 _ _ t218 t221 t222 _ ?_ ?_ ?_ ?_ A10.out).mono ?_); exact cT HR2.out; exact HC2.out; exact cV (Kd.N_reads' HO220.out).2.2; exact (Kd.N_reads' HO220.out).2.1; rintro e w26 ⟨rfl, hb⟩; refine ⟨_, rfl, ?_⟩; replace HO_0 := vb HO_0 hb; replace HO_1 := vb HO_1 hb; replace HO_8 := nb HO_8 hb; replace HL216_0 := vb HL216_0 hb; replace HL217_0 := vb HL217_0 hb; replace HO220 := nb HO220 hb; replace HR216_0 := cb HR216_0 hb; replace HR217_0 := cb HR217_0 hb; replace HB := bb HB hb; clear hb)
           go_ret2
           exact ⟨_, fT, zT, bT⟩
         ·rw [if_neg c8] at H
          exact absurd H (by simp)
        ·rw [if_neg c7] at H
         exact absurd H (by simp)
       ·rw [if_neg c6] at H
        exact absurd H (by simp)
      ·rw [if_neg c5] at H
       have c5b0 := decide_eq_false c5
       clear c5
       have H' := akk H
       clear H
       go_wp2
       go_roundg k2
       case measure => have := HK1.out; have := HK2.out; omega
       case rel => exact ⟨(x8_2), (wrap64 (x9_1 + 1)), eT, H', ⟨by have := HK1.out; have := HK2.out; omega⟩, ⟨vT HO_0.out⟩, ⟨vT HO_1.out⟩, ⟨nT HO_8.out⟩, ⟨bT⟩⟩
   ·rw [if_neg c4] at H
    have c4b0 := decide_eq_false c4
    clear c4
    simp only [Option.some.injEq, Prod.mk.injEq] at H
    obtain ⟨rfl, rfl⟩ := H
    go_wp2
    go_ret2
    exact ⟨_, fT, nT' HO_8.out, bT⟩
def r04_Exact.f (a0_0 : Int) (a0_1 : Int) (a0_2 : Nat) (a0_3 : ByteArray) (a1_0 : Int) (a1_1 : Int) (a1_2 : Nat) (a1_3 : ByteArray) : Option (Bool) := exactF ⟨a0_0, a0_1, a0_2, a0_3⟩ ⟨a1_0, a1_1, a1_2, a1_3⟩
theorem r04_Exact.calls (a0_0 : Int) (a0_1 : Int) (a0_2 : Nat) (a0_3 : ByteArray) (a1_0 : Int) (a1_1 : Int) (a1_2 : Nat) (a1_3 : ByteArray) (r : Bool) (w : World) (h : r04_Exact.f a0_0 a0_1 a0_2 a0_3 a1_0 a1_1 a1_2 a1_3 = some r) :
 Calls Tryz.prog 38 #[.agg #[.int .i64 a0_0, .int .i64 a0_1, .float .f64 a0_2, .string a0_3], .agg #[.int .i64 a1_0, .int .i64 a1_1, .float .f64 a1_2, .string a1_3]] w fun e w' => e = .returned (.bool r) ∧ Below w.heap.size w w' := by
 unfold r04_Exact.f exactF at h
 split at h
 ·rename_i hc
  simp only [Bool.and_eq_true, decide_eq_true_eq, wfV] at hc
  cases h
  exact Exact_true _ _ hc.1 hc.2.1 hc.2.2 w
 ·cases h
def r05_Exact.l0 : Nat → List (S39) → List (S39) → Int → Option (Bool)
 | 0, _, _, _ => none
 | k + 1, x0, x1, x5 => if x5 < (x0.length : Int) then (if 0 ≤ x5 then (if x5 < (x1.length : Int) then ((r04_Exact.f ((rd_T39 x0 x5).f0) ((rd_T39 x0 x5).f1) ((rd_T39 x0 x5).f2) ((rd_T39 x0 x5).f3) ((rd_T39 x1 x5).f0) ((rd_T39 x1 x5).f1) ((rd_T39 x1 x5).f2) ((rd_T39 x1 x5).f3)).bind fun t228 => (if t228 = true then (r05_Exact.l0 k x0 x1 (wrap64 (x5 + 1))) else (some false))) else (none)) else (none)) else (some true)
def r05_Exact.f (k : Nat) (l0 : List (S39)) (l1 : List (S39)) : Option (Bool) := if (l0.length : Int) = (l1.length : Int) then (r05_Exact.l0 k l0 l1 0) else (some false)
def r05_Exact.T6 : Bool × List (List Nat × List Nat) := (true, [([], []), ([], []), ([0, 1], [0, 1]), ([2], [2]), ([], []), ([], []), ([4, 5], [4, 5]), ([6], [6]), ([3, 7], [3, 7]), ([8], [8])])
def r05_Exact.B6 : List Nat := [0, 0, 3, 7, 0, 0, 48, 112, 255, 511]
theorem r05_Exact.tab6 : rtab .any (opsOf Tryz.f14 6) = r05_Exact.T6 := by kernel_rfl
theorem r05_Exact.bits6 : waitsOk r05_Exact.T6.2 r05_Exact.B6 = true := by kernel_rfl
set_option maxHeartbeats 8000000 in
set_option maxRecDepth 100000 in
theorem r05_Exact.calls (k : Nat) (A0 : Option Addr) (c0 : Nat) (l0 : List (S39)) (A1 : Option Addr) (c1 : Nat) (l1 : List (S39)) (r : Bool) (w : World) (hr0 : Kd.C k39 w A0 l0.length l0) (hc0 : l0.length ≤ c0) (hr1 : Kd.C k39 w A1 l1.length l1) (hc1 : l1.length ≤ c1) (h : r05_Exact.f k l0 l1 = some r) :
 Calls Tryz.prog 14 #[.slice A0 l0.length c0, .slice A1 l1.length c1] w fun e w' => e = .returned (.bool r) ∧ Below w.heap.size w w' := by
 have hu39 := Tryz.underlying39
 have HR0 := akk hr0
 have HC0 := akk hc0
 clear hr0 hc0
 have HR1 := akk hr1
 have HC1 := akk hc1
 clear hr1 hc1
 have HB := akk (Below.refl w.heap.size w)
 have H : (if (l0.length : Int) = (l1.length : Int) then (r05_Exact.l0 k l0 l1 0) else (some false)) = some r := h
 clear h
 by_cases c3 : (l0.length : Int) = (l1.length : Int)
 ·rw [if_pos c3] at H
  have c3b0 : ((l0.length : Int) == (l1.length : Int)) = true := beq_iff_eq.mpr c3
  have c3b1 : ((l0.length : Int) != (l1.length : Int)) = false := bne_eq_false_iff_eq.mpr c3
  have c3b2 : (l0.length == l1.length) = true := by first | simpa using c3 | (simp at c3 ⊢; omega)
  clear c3
  have H' := akk H
  clear H
  go_enter Tryz.func14, Tryz.ntmps14
  go_wp2
  go_loopg [5] k (fun kq v5 w' => ∃ (x5_1 : Int), v5 = .int .i64 x5_1 ∧ Aside0 (r05_Exact.l0 kq l0 l1 x5_1 = some r) ∧ Aside0 (kq ≤ k) ∧ Aside0 (Below w.heap.size w w'))
  case atStart => exact ⟨(0), eT, H', ⟨Nat.le_refl _⟩, ⟨bT⟩⟩
  case round =>
   clear H'
   try clear c3b0
   try clear c3b1
   try clear c3b2
   obtain ⟨x5_1, rfl, HA, HK1, HB⟩ := hrel
   cases gk with
   | zero => exact absurd HA.out (by simp [r05_Exact.l0])
   | succ k1 =>
    have H := HA.out
    clear HA
    simp only [r05_Exact.l0] at H
    by_cases c4 : x5_1 < (l0.length : Int)
    ·rw [if_pos c4] at H
     have c4b0 := decide_eq_true c4
     clear c4
     by_cases c5 : 0 ≤ x5_1
     ·rw [if_pos c5] at H
      have c5b0 := decide_eq_true c5
      clear c5
      by_cases c6 : x5_1 < (l1.length : Int)
      ·rw [if_pos c6] at H
       have c6b0 := decide_eq_true c6
       clear c6
       obtain ⟨t228, A7, H⟩ := bi H
       try dsimp only at H
       by_cases c8 : t228 = true
       ·subst c8
        rw [if_pos rfl] at H
        have H' := akk H
        clear H
        try go_wp2
        replace HB := akk (below_drew1 HB.out)
        have p226 : 0 ≤ (x5_1 : Int) := of_decide_eq_true aT
        have q226 : x5_1 < (l0.length : Int) := of_decide_eq_true aT
        obtain ⟨ad226, e226, hx226_0, hx226_1, hx226_2, hx226_3⟩ := at_T39 HR0.out x5_1 p226 q226
        have hw226_3 := hx226_3
        have hw226_2 := hx226_2
        have hw226_1 := hx226_1
        have hw226_0 := hx226_0
        cases e226
        replace hx226_0 := hxT HB.out hx226_0
        replace hx226_1 := hxT HB.out hx226_1
        replace hx226_2 := hxT HB.out hx226_2
        replace hx226_3 := hxT HB.out hx226_3
        replace p226 := eq_true p226
        replace q226 := eq_true q226
        have p227 : 0 ≤ (x5_1 : Int) := of_decide_eq_true aT
        have q227 : x5_1 < (l1.length : Int) := of_decide_eq_true aT
        obtain ⟨ad227, e227, hx227_0, hx227_1, hx227_2, hx227_3⟩ := at_T39 HR1.out x5_1 p227 q227
        have hw227_3 := hx227_3
        have hw227_2 := hx227_2
        have hw227_1 := hx227_1
        have hw227_0 := hx227_0
        cases e227
        replace hx227_0 := hxT HB.out hx227_0
        replace hx227_1 := hxT HB.out hx227_1
        replace hx227_2 := hxT HB.out hx227_2
        replace hx227_3 := hxT HB.out hx227_3
        replace p227 := eq_true p227
        replace q227 := eq_true q227
        refine start_ (n := 10) (S := fun w' => w'.cell? (ad226.add ((x5_1).toNat * 4)) = some (.int .i64 ((rd_T39 l0 x5_1).f0)) ∧ w'.cell? ⟨(ad226.add ((x5_1).toNat * 4)).block, (ad226.add ((x5_1).toNat * 4)).off + 1, none⟩ = some (.int .i64 ((rd_T39 l0 x5_1).f1)) ∧ w'.cell? ⟨(ad226.add ((x5_1).toNat * 4)).block, (ad226.add ((x5_1).toNat * 4)).off + 2, none⟩ = some (.float .f64 ((rd_T39 l0 x5_1).f2)) ∧ w'.cell? ⟨(ad226.add ((x5_1).toNat * 4)).block, (ad226.add ((x5_1).toNat * 4)).off + 3, none⟩ = some (.string ((rd_T39 l0 x5_1).f3)) ∧ w'.cell? (ad227.add ((x5_1).toNat * 4)) = some (.int .i64 ((rd_T39 l1 x5_1).f0)) ∧ w'.cell? ⟨(ad227.add ((x5_1).toNat * 4)).block, (ad227.add ((x5_1).toNat * 4)).off + 1, none⟩ = some (.int .i64 ((rd_T39 l1 x5_1).f1)) ∧ w'.cell? ⟨(ad227.add ((x5_1).toNat * 4)).block, (ad227.add ((x5_1).toNat * 4)).off + 2, none⟩ = some (.float .f64 ((rd_T39 l1 x5_1).f2)) ∧ w'.cell? ⟨(ad227.add ((x5_1).toNat * 4)).block, (ad227.add ((x5_1).toNat * 4)).off + 3, none⟩ = some (.string ((rd_T39 l1 x5_1).f3))) (ds := []) #[false, false, false, false, false, false, false, false, false, false] (by kernel_rfl) rfl rfl ⟨((HB.out.cell (World.block_lt_of_cell? w _ hw226_0)).trans hw226_0), ((HB.out.cell (World.block_lt_of_cell? w _ hw226_1)).trans hw226_1), ((HB.out.cell (World.block_lt_of_cell? w _ hw226_2)).trans hw226_2), ((HB.out.cell (World.block_lt_of_cell? w _ hw226_3)).trans hw226_3), ((HB.out.cell (World.block_lt_of_cell? w _ hw227_0)).trans hw227_0), ((HB.out.cell (World.block_lt_of_cell? w _ hw227_1)).trans hw227_1), ((HB.out.cell (World.block_lt_of_cell? w _ hw227_2)).trans hw227_2), ((HB.out.cell (World.block_lt_of_cell? w _ hw227_3)).trans hw227_3)⟩ (fun hHeld => ?_); refine with_tabW r05_Exact.tab6 r05_Exact.bits6 (fun HT_ HW_ => ?_)
        generalize wr.drew = w9 at HB hx226_0 hx226_1 hx226_2 hx226_3 hx227_0 hx227_1 hx227_2 hx227_3 hHeld ⊢
        refine pT 0 17 (bm 10 1) ?_
        refine pT 1 18 (bm 10 3) ?_
        refine pT 2 19 (bm 10 7) ?_
        refine pT 4 21 (bm 10 23) ?_
        refine pT 5 22 (bm 10 55) ?_
        refine pT 6 23 (bm 10 119) ?_
        refine tT8 3 20 (bm 10 127) hHeld ?_
        refine tT8 7 24 (bm 10 255) hHeld ?_
        refine one_ (i := 8) (N := some 25) #[true, true, true, true, true, true, true, true, true, false] rfl rfl (one_of HT_.out (by kernel_rfl)) (by decide) (fun K hK => ?_)
        refine goes_ Tryz.func38 (by kernel_rfl) rfl #[.agg #[.int .i64 ((rd_T39 l0 x5_1).f0), .int .i64 ((rd_T39 l0 x5_1).f1), .float .f64 ((rd_T39 l0 x5_1).f2), .string ((rd_T39 l0 x5_1).f3)], .agg #[.int .i64 ((rd_T39 l1 x5_1).f0), .int .i64 ((rd_T39 l1 x5_1).f1), .float .f64 ((rd_T39 l1 x5_1).f2), .string ((rd_T39 l1 x5_1).f3)]] (by rfl) rfl rfl mT ?_
        with_reducible refine (r04_Exact.calls ((rd_T39 l0 x5_1).f0) ((rd_T39 l0 x5_1).f1) ((rd_T39 l0 x5_1).f2) ((rd_T39 l0 x5_1).f3) ((rd_T39 l1 x5_1).f0) ((rd_T39 l1 x5_1).f1) ((rd_T39 l1 x5_1).f2) ((rd_T39 l1 x5_1).f3) true _ A7.out).mono ?_
        rintro e w10 ⟨rfl, hb⟩
        refine ⟨_, rfl, ?_⟩
        replace HB := bb HB hb
        (try clear hb)
        (try clear hb2)
        (try clear hk)
        (try clear hi)
        refine hK.out _ _ ⟨((HB.out.cell (World.block_lt_of_cell? w _ hw226_0)).trans hw226_0), ((HB.out.cell (World.block_lt_of_cell? w _ hw226_1)).trans hw226_1), ((HB.out.cell (World.block_lt_of_cell? w _ hw226_2)).trans hw226_2), ((HB.out.cell (World.block_lt_of_cell? w _ hw226_3)).trans hw226_3), ((HB.out.cell (World.block_lt_of_cell? w _ hw227_0)).trans hw227_0), ((HB.out.cell (World.block_lt_of_cell? w _ hw227_1)).trans hw227_1), ((HB.out.cell (World.block_lt_of_cell? w _ hw227_2)).trans hw227_2), ((HB.out.cell (World.block_lt_of_cell? w _ hw227_3)).trans hw227_3)⟩ (fun hHeld => ?_)
        clear hK K
        refine norm_ (a' := ?_) ?_ ?_
        rotate_left
        ·show Act.put _ (some 25) _ = _
         simp only [Act.put, List.setIfInBounds_toArray, List.set_cons_zero, List.set_cons_succ, i64_w, i32_w]
         rfl
        refine pT 9 26 (bm 10 1023) ?_
        refine done_ (done_of HT_.out (by kernel_rfl)) ?_
        try go_wp2
        go_roundg k1
        case measure => have := HK1.out; omega
        case rel => exact ⟨(wrap64 (x5_1 + 1)), eT, H', ⟨by have := HK1.out; omega⟩, ⟨bT⟩⟩
       ·replace c8 := Bool.eq_false_iff.mpr c8
        subst c8
        rw [if_neg (show ¬ (false = true) by decide)] at H
        obtain rfl := Option.some.inj H
        try go_wp2
        replace HB := akk (below_drew1 HB.out)
        have p226 : 0 ≤ (x5_1 : Int) := of_decide_eq_true aT
        have q226 : x5_1 < (l0.length : Int) := of_decide_eq_true aT
        obtain ⟨ad226, e226, hx226_0, hx226_1, hx226_2, hx226_3⟩ := at_T39 HR0.out x5_1 p226 q226
        have hw226_3 := hx226_3
        have hw226_2 := hx226_2
        have hw226_1 := hx226_1
        have hw226_0 := hx226_0
        cases e226
        replace hx226_0 := hxT HB.out hx226_0
        replace hx226_1 := hxT HB.out hx226_1
        replace hx226_2 := hxT HB.out hx226_2
        replace hx226_3 := hxT HB.out hx226_3
        replace p226 := eq_true p226
        replace q226 := eq_true q226
        have p227 : 0 ≤ (x5_1 : Int) := of_decide_eq_true aT
        have q227 : x5_1 < (l1.length : Int) := of_decide_eq_true aT
        obtain ⟨ad227, e227, hx227_0, hx227_1, hx227_2, hx227_3⟩ := at_T39 HR1.out x5_1 p227 q227
        have hw227_3 := hx227_3
        have hw227_2 := hx227_2
        have hw227_1 := hx227_1
        have hw227_0 := hx227_0
        cases e227
        replace hx227_0 := hxT HB.out hx227_0
        replace hx227_1 := hxT HB.out hx227_1
        replace hx227_2 := hxT HB.out hx227_2
        replace hx227_3 := hxT HB.out hx227_3
        replace p227 := eq_true p227
        replace q227 := eq_true q227
        refine start_ (n := 10) (S := fun w' => w'.cell? (ad226.add ((x5_1).toNat * 4)) = some (.int .i64 ((rd_T39 l0 x5_1).f0)) ∧ w'.cell? ⟨(ad226.add ((x5_1).toNat * 4)).block, (ad226.add ((x5_1).toNat * 4)).off + 1, none⟩ = some (.int .i64 ((rd_T39 l0 x5_1).f1)) ∧ w'.cell? ⟨(ad226.add ((x5_1).toNat * 4)).block, (ad226.add ((x5_1).toNat * 4)).off + 2, none⟩ = some (.float .f64 ((rd_T39 l0 x5_1).f2)) ∧ w'.cell? ⟨(ad226.add ((x5_1).toNat * 4)).block, (ad226.add ((x5_1).toNat * 4)).off + 3, none⟩ = some (.string ((rd_T39 l0 x5_1).f3)) ∧ w'.cell? (ad227.add ((x5_1).toNat * 4)) = some (.int .i64 ((rd_T39 l1 x5_1).f0)) ∧ w'.cell? ⟨(ad227.add ((x5_1).toNat * 4)).block, (ad227.add ((x5_1).toNat * 4)).off + 1, none⟩ = some (.int .i64 ((rd_T39 l1 x5_1).f1)) ∧ w'.cell? ⟨(ad227.add ((x5_1).toNat * 4)).block, (ad227.add ((x5_1).toNat * 4)).off + 2, none⟩ = some (.float .f64 ((rd_T39 l1 x5_1).f2)) ∧ w'.cell? ⟨(ad227.add ((x5_1).toNat * 4)).block, (ad227.add ((x5_1).toNat * 4)).off + 3, none⟩ = some (.string ((rd_T39 l1 x5_1).f3))) (ds := []) #[false, false, false, false, false, false, false, false, false, false] (by kernel_rfl) rfl rfl ⟨((HB.out.cell (World.block_lt_of_cell? w _ hw226_0)).trans hw226_0), ((HB.out.cell (World.block_lt_of_cell? w _ hw226_1)).trans hw226_1), ((HB.out.cell (World.block_lt_of_cell? w _ hw226_2)).trans hw226_2), ((HB.out.cell (World.block_lt_of_cell? w _ hw226_3)).trans hw226_3), ((HB.out.cell (World.block_lt_of_cell? w _ hw227_0)).trans hw227_0), ((HB.out.cell (World.block_lt_of_cell? w _ hw227_1)).trans hw227_1), ((HB.out.cell (World.block_lt_of_cell? w _ hw227_2)).trans hw227_2), ((HB.out.cell (World.block_lt_of_cell? w _ hw227_3)).trans hw227_3)⟩ (fun hHeld => ?_); refine with_tabW r05_Exact.tab6 r05_Exact.bits6 (fun HT_ HW_ => ?_)
        generalize wr.drew = w11 at HB hx226_0 hx226_1 hx226_2 hx226_3 hx227_0 hx227_1 hx227_2 hx227_3 hHeld ⊢
        refine pT 0 17 (bm 10 1) ?_
        refine pT 1 18 (bm 10 3) ?_
        refine pT 2 19 (bm 10 7) ?_
        refine pT 4 21 (bm 10 23) ?_
        refine pT 5 22 (bm 10 55) ?_
        refine pT 6 23 (bm 10 119) ?_
        refine tT8 3 20 (bm 10 127) hHeld ?_
        refine tT8 7 24 (bm 10 255) hHeld ?_
        refine one_ (i := 8) (N := some 25) #[true, true, true, true, true, true, true, true, true, false] rfl rfl (one_of HT_.out (by kernel_rfl)) (by decide) (fun K hK => ?_)
        refine goes_ Tryz.func38 (by kernel_rfl) rfl #[.agg #[.int .i64 ((rd_T39 l0 x5_1).f0), .int .i64 ((rd_T39 l0 x5_1).f1), .float .f64 ((rd_T39 l0 x5_1).f2), .string ((rd_T39 l0 x5_1).f3)], .agg #[.int .i64 ((rd_T39 l1 x5_1).f0), .int .i64 ((rd_T39 l1 x5_1).f1), .float .f64 ((rd_T39 l1 x5_1).f2), .string ((rd_T39 l1 x5_1).f3)]] (by rfl) rfl rfl mT ?_
        with_reducible refine (r04_Exact.calls ((rd_T39 l0 x5_1).f0) ((rd_T39 l0 x5_1).f1) ((rd_T39 l0 x5_1).f2) ((rd_T39 l0 x5_1).f3) ((rd_T39 l1 x5_1).f0) ((rd_T39 l1 x5_1).f1) ((rd_T39 l1 x5_1).f2) ((rd_T39 l1 x5_1).f3) false _ A7.out).mono ?_
        rintro e w12 ⟨rfl, hb⟩
        refine ⟨_, rfl, ?_⟩
        replace HB := bb HB hb
        (try clear hb)
        (try clear hb2)
        (try clear hk)
        (try clear hi)
        refine hK.out _ _ ⟨((HB.out.cell (World.block_lt_of_cell? w _ hw226_0)).trans hw226_0), ((HB.out.cell (World.block_lt_of_cell? w _ hw226_1)).trans hw226_1), ((HB.out.cell (World.block_lt_of_cell? w _ hw226_2)).trans hw226_2), ((HB.out.cell (World.block_lt_of_cell? w _ hw226_3)).trans hw226_3), ((HB.out.cell (World.block_lt_of_cell? w _ hw227_0)).trans hw227_0), ((HB.out.cell (World.block_lt_of_cell? w _ hw227_1)).trans hw227_1), ((HB.out.cell (World.block_lt_of_cell? w _ hw227_2)).trans hw227_2), ((HB.out.cell (World.block_lt_of_cell? w _ hw227_3)).trans hw227_3)⟩ (fun hHeld => ?_)
        clear hK K
        refine norm_ (a' := ?_) ?_ ?_
        rotate_left
        ·show Act.put _ (some 25) _ = _
         simp only [Act.put, List.setIfInBounds_toArray, List.set_cons_zero, List.set_cons_succ, i64_w, i32_w]
         rfl
        refine pT 9 26 (bm 10 1023) ?_
        refine done_ (done_of HT_.out (by kernel_rfl)) ?_
        try go_wp2
        go_ret
        exact ⟨fT, bT⟩
      ·rw [if_neg c6] at H
       exact absurd H (by simp)
     ·rw [if_neg c5] at H
      exact absurd H (by simp)
    ·rw [if_neg c4] at H
     have c4b0 := decide_eq_false c4
     clear c4
     obtain rfl := Option.some.inj H
     go_wp2
     go_ret
     exact ⟨fT, bT⟩
 ·rw [if_neg c3] at H
  have c3b0 : ((l0.length : Int) == (l1.length : Int)) = false := beq_eq_false_iff_ne.mpr c3
  have c3b1 : ((l0.length : Int) != (l1.length : Int)) = true := bne_iff_ne.mpr c3
  have c3b2 : (l0.length == l1.length) = false := by first | simpa using c3 | (simp at c3 ⊢; omega)
  obtain rfl := Option.some.inj H
  go_enter Tryz.func14, Tryz.ntmps14
  go_wp2
  go_ret
  exact ⟨fT, bT⟩
def r05_Lists.l0 : Nat → T2 → T2 → Int → Option (Bool)
 | 0, _, _, _ => none
 | k + 1, x0, x1, x5 => if x5 < (x0.length : Int) then (if 0 ≤ x5 then (if x5 < (x1.length : Int) then ((r05_Exact.f k (rd_L5 x0 x5) (rd_L5 x1 x5)).bind fun t231 => (if t231 = true then (r05_Lists.l0 k x0 x1 (wrap64 (x5 + 1))) else (some false))) else (none)) else (none)) else (some true)
def r05_Lists.f (k : Nat) (l0 : T2) (l1 : T2) : Option (Bool) := if (l0.length : Int) = (l1.length : Int) then (r05_Lists.l0 k l0 l1 0) else (some false)
def r05_Lists.T6 : Bool × List (List Nat × List Nat) := (true, [([], []), ([], []), ([0, 1], [0, 1]), ([2], [2]), ([], []), ([], []), ([4, 5], [4, 5]), ([6], [6]), ([3, 7], [3, 7]), ([8], [8])])
def r05_Lists.B6 : List Nat := [0, 0, 3, 7, 0, 0, 48, 112, 255, 511]
theorem r05_Lists.tab6 : rtab .any (opsOf Tryz.f10 6) = r05_Lists.T6 := by kernel_rfl
theorem r05_Lists.bits6 : waitsOk r05_Lists.T6.2 r05_Lists.B6 = true := by kernel_rfl
set_option maxHeartbeats 8000000 in
set_option maxRecDepth 100000 in
theorem r05_Lists.calls (k : Nat) (A0 : Option Addr) (c0 : Nat) (l0 : T2) (A1 : Option Addr) (c1 : Nat) (l1 : T2) (r : Bool) (w : World) (hr0 : Kd.C (Kd.slice 39 k39) w A0 l0.length l0) (hc0 : l0.length ≤ c0) (hr1 : Kd.C (Kd.slice 39 k39) w A1 l1.length l1) (hc1 : l1.length ≤ c1) (h : r05_Lists.f k l0 l1 = some r) :
 Calls Tryz.prog 10 #[.slice A0 l0.length c0, .slice A1 l1.length c1] w fun e w' => e = .returned (.bool r) ∧ Below w.heap.size w w' := by
 have HR0 := akk hr0
 have HC0 := akk hc0
 clear hr0 hc0
 have HR1 := akk hr1
 have HC1 := akk hc1
 clear hr1 hc1
 have HB := akk (Below.refl w.heap.size w)
 have H : (if (l0.length : Int) = (l1.length : Int) then (r05_Lists.l0 k l0 l1 0) else (some false)) = some r := h
 clear h
 by_cases c3 : (l0.length : Int) = (l1.length : Int)
 ·rw [if_pos c3] at H
  have c3b0 : ((l0.length : Int) == (l1.length : Int)) = true := beq_iff_eq.mpr c3
  have c3b1 : ((l0.length : Int) != (l1.length : Int)) = false := bne_eq_false_iff_eq.mpr c3
  have c3b2 : (l0.length == l1.length) = true := by first | simpa using c3 | (simp at c3 ⊢; omega)
  clear c3
  have H' := akk H
  clear H
  go_enter Tryz.func10, Tryz.ntmps10
  go_wp2
  go_loopg [5] k (fun kq v5 w' => ∃ (x5_1 : Int), v5 = .int .i64 x5_1 ∧ Aside0 (r05_Lists.l0 kq l0 l1 x5_1 = some r) ∧ Aside0 (kq ≤ k) ∧ Aside0 (Below w.heap.size w w'))
  case atStart => exact ⟨(0), eT, H', ⟨Nat.le_refl _⟩, ⟨bT⟩⟩
  case round =>
   clear H'
   try clear c3b0
   try clear c3b1
   try clear c3b2
   obtain ⟨x5_1, rfl, HA, HK1, HB⟩ := hrel
   cases gk with
   | zero => exact absurd HA.out (by simp [r05_Lists.l0])
   | succ k1 =>
    have H := HA.out
    clear HA
    simp only [r05_Lists.l0] at H
    by_cases c4 : x5_1 < (l0.length : Int)
    ·rw [if_pos c4] at H
     have c4b0 := decide_eq_true c4
     clear c4
     by_cases c5 : 0 ≤ x5_1
     ·rw [if_pos c5] at H
      have c5b0 := decide_eq_true c5
      clear c5
      by_cases c6 : x5_1 < (l1.length : Int)
      ·rw [if_pos c6] at H
       have c6b0 := decide_eq_true c6
       clear c6
       obtain ⟨t231, A7, H⟩ := bi H
       try dsimp only at H
       by_cases c8 : t231 = true
       ·subst c8
        rw [if_pos rfl] at H
        have H' := akk H
        clear H
        try go_wp2
        replace HB := akk (below_drew1 HB.out)
        obtain ⟨ad229, A229_0, c229_0, e229, hx229_0, HR229_0, HC229_0, p229, q229⟩ := gC5 HR0 x5_1
        have hw229_0 := hx229_0
        cases e229
        replace hx229_0 := hxT HB.out hx229_0
        obtain ⟨ad230, A230_0, c230_0, e230, hx230_0, HR230_0, HC230_0, p230, q230⟩ := gC5 HR1 x5_1
        have hw230_0 := hx230_0
        cases e230
        replace hx230_0 := hxT HB.out hx230_0
        refine start_ (n := 10) (S := fun w' => w'.cell? (ad229.add (x5_1).toNat) = some (.slice A229_0 (rd_L5 l0 x5_1).length c229_0) ∧ w'.cell? (ad230.add (x5_1).toNat) = some (.slice A230_0 (rd_L5 l1 x5_1).length c230_0)) (ds := []) #[false, false, false, false, false, false, false, false, false, false] (by kernel_rfl) rfl rfl ⟨((HB.out.cell (World.block_lt_of_cell? w _ hw229_0)).trans hw229_0), ((HB.out.cell (World.block_lt_of_cell? w _ hw230_0)).trans hw230_0)⟩ (fun hHeld => ?_); refine with_tabW r05_Lists.tab6 r05_Lists.bits6 (fun HT_ HW_ => ?_)
        generalize wr.drew = w9 at HB HR229_0 HR230_0 hx229_0 hx230_0 hHeld ⊢
        refine pT 0 17 (bm 10 1) ?_
        refine pT 1 18 (bm 10 3) ?_
        refine pT 2 19 (bm 10 7) ?_
        refine pT 4 21 (bm 10 23) ?_
        refine pT 5 22 (bm 10 55) ?_
        refine pT 6 23 (bm 10 119) ?_
        refine tT2 3 20 (bm 10 127) hHeld ?_
        refine tT2 7 24 (bm 10 255) hHeld ?_
        refine one_ (i := 8) (N := some 25) #[true, true, true, true, true, true, true, true, true, false] rfl rfl (one_of HT_.out (by kernel_rfl)) (by decide) (fun K hK => ?_)
        refine goes_ Tryz.func14 (by kernel_rfl) rfl #[.slice A229_0 (rd_L5 l0 x5_1).length c229_0, .slice A230_0 (rd_L5 l1 x5_1).length c230_0] (by rfl) rfl rfl mT ?_
        with_reducible refine (r05_Exact.calls k1 _ _ (rd_L5 l0 x5_1) _ _ (rd_L5 l1 x5_1) true _ ?side1 ?side2 ?side3 ?side4 A7.out).mono ?_
        (case side1 => exact cT HR229_0.out)
        (case side2 => exact HC229_0.out)
        (case side3 => exact cT HR230_0.out)
        (case side4 => exact HC230_0.out)
        rintro e w10 ⟨rfl, hb⟩
        refine ⟨_, rfl, ?_⟩
        replace HB := bb HB hb
        (try clear hb)
        (try clear hb2)
        (try clear hk)
        (try clear hi)
        refine hK.out _ _ ⟨((HB.out.cell (World.block_lt_of_cell? w _ hw229_0)).trans hw229_0), ((HB.out.cell (World.block_lt_of_cell? w _ hw230_0)).trans hw230_0)⟩ (fun hHeld => ?_)
        clear hK K
        refine norm_ (a' := ?_) ?_ ?_
        rotate_left
        ·show Act.put _ (some 25) _ = _
         simp only [Act.put, List.setIfInBounds_toArray, List.set_cons_zero, List.set_cons_succ, i64_w, i32_w]
         rfl
        refine pT 9 26 (bm 10 1023) ?_
        refine done_ (done_of HT_.out (by kernel_rfl)) ?_
        try go_wp2
        go_roundg k1
        case measure => have := HK1.out; omega
        case rel => exact ⟨(wrap64 (x5_1 + 1)), eT, H', ⟨by have := HK1.out; omega⟩, ⟨bT⟩⟩
       ·replace c8 := Bool.eq_false_iff.mpr c8
        subst c8
        rw [if_neg (show ¬ (false = true) by decide)] at H
        obtain rfl := Option.some.inj H
        try go_wp2
        replace HB := akk (below_drew1 HB.out)
        obtain ⟨ad229, A229_0, c229_0, e229, hx229_0, HR229_0, HC229_0, p229, q229⟩ := gC5 HR0 x5_1
        have hw229_0 := hx229_0
        cases e229
        replace hx229_0 := hxT HB.out hx229_0
        obtain ⟨ad230, A230_0, c230_0, e230, hx230_0, HR230_0, HC230_0, p230, q230⟩ := gC5 HR1 x5_1
        have hw230_0 := hx230_0
        cases e230
        replace hx230_0 := hxT HB.out hx230_0
        refine start_ (n := 10) (S := fun w' => w'.cell? (ad229.add (x5_1).toNat) = some (.slice A229_0 (rd_L5 l0 x5_1).length c229_0) ∧ w'.cell? (ad230.add (x5_1).toNat) = some (.slice A230_0 (rd_L5 l1 x5_1).length c230_0)) (ds := []) #[false, false, false, false, false, false, false, false, false, false] (by kernel_rfl) rfl rfl ⟨((HB.out.cell (World.block_lt_of_cell? w _ hw229_0)).trans hw229_0), ((HB.out.cell (World.block_lt_of_cell? w _ hw230_0)).trans hw230_0)⟩ (fun hHeld => ?_); refine with_tabW r05_Lists.tab6 r05_Lists.bits6 (fun HT_ HW_ => ?_)
        generalize wr.drew = w11 at HB HR229_0 HR230_0 hx229_0 hx230_0 hHeld ⊢
        refine pT 0 17 (bm 10 1) ?_
        refine pT 1 18 (bm 10 3) ?_
        refine pT 2 19 (bm 10 7) ?_
        refine pT 4 21 (bm 10 23) ?_
        refine pT 5 22 (bm 10 55) ?_
        refine pT 6 23 (bm 10 119) ?_
        refine tT2 3 20 (bm 10 127) hHeld ?_
        refine tT2 7 24 (bm 10 255) hHeld ?_
        refine one_ (i := 8) (N := some 25) #[true, true, true, true, true, true, true, true, true, false] rfl rfl (one_of HT_.out (by kernel_rfl)) (by decide) (fun K hK => ?_)
        refine goes_ Tryz.func14 (by kernel_rfl) rfl #[.slice A229_0 (rd_L5 l0 x5_1).length c229_0, .slice A230_0 (rd_L5 l1 x5_1).length c230_0] (by rfl) rfl rfl mT ?_
        with_reducible refine (r05_Exact.calls k1 _ _ (rd_L5 l0 x5_1) _ _ (rd_L5 l1 x5_1) false _ ?side1 ?side2 ?side3 ?side4 A7.out).mono ?_
        (case side1 => exact cT HR229_0.out)
        (case side2 => exact HC229_0.out)
        (case side3 => exact cT HR230_0.out)
        (case side4 => exact HC230_0.out)
        rintro e w12 ⟨rfl, hb⟩
        refine ⟨_, rfl, ?_⟩
        replace HB := bb HB hb
        (try clear hb)
        (try clear hb2)
        (try clear hk)
        (try clear hi)
        refine hK.out _ _ ⟨((HB.out.cell (World.block_lt_of_cell? w _ hw229_0)).trans hw229_0), ((HB.out.cell (World.block_lt_of_cell? w _ hw230_0)).trans hw230_0)⟩ (fun hHeld => ?_)
        clear hK K
        refine norm_ (a' := ?_) ?_ ?_
        rotate_left
        ·show Act.put _ (some 25) _ = _
         simp only [Act.put, List.setIfInBounds_toArray, List.set_cons_zero, List.set_cons_succ, i64_w, i32_w]
         rfl
        refine pT 9 26 (bm 10 1023) ?_
        refine done_ (done_of HT_.out (by kernel_rfl)) ?_
        try go_wp2
        go_ret
        exact ⟨fT, bT⟩
      ·rw [if_neg c6] at H
       exact absurd H (by simp)
     ·rw [if_neg c5] at H
      exact absurd H (by simp)
    ·rw [if_neg c4] at H
     have c4b0 := decide_eq_false c4
     clear c4
     obtain rfl := Option.some.inj H
     go_wp2
     go_ret
     exact ⟨fT, bT⟩
 ·rw [if_neg c3] at H
  have c3b0 : ((l0.length : Int) == (l1.length : Int)) = false := beq_eq_false_iff_ne.mpr c3
  have c3b1 : ((l0.length : Int) != (l1.length : Int)) = true := bne_iff_ne.mpr c3
  have c3b2 : (l0.length == l1.length) = false := by first | simpa using c3 | (simp at c3 ⊢; omega)
  obtain rfl := Option.some.inj H
  go_enter Tryz.func10, Tryz.ntmps10
  go_wp2
  go_ret
  exact ⟨fT, bT⟩
end Go.Proofs.YtgmolmpfihkolaaGreat.Pj
