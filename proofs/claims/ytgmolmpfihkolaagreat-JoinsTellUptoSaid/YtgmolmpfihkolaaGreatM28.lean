/- Part of the proof. -/
import Derived.Test.YtgmolmpfihkolaaGreatM23
namespace Go.Proofs.YtgmolmpfihkolaaGreat.Pj
open Go.RowKit Go.Proofs.YtgmolmpfihkolaaGreatW.PrintWords Go.Proofs.YtgmolmpfihkolaaGreatW.PrintLast Go.Proofs.YtgmolmpfihkolaaGreatW.PrintMore
attribute [local go_sem] run_store_flt max2_int min2_int max_two min_two max_three min_three max_four min_four
set_option linter.unusedVariables false
set_option linter.unusedSimpArgs false
mutual
def joins_Loop.l0 : Nat → T3 → T3 → List (S53) → T3 → Int → Int → Option (T3 × Int)
 | 0, _, _, _, _, _, _ => none
 | k + 1, x0, x1, x2, x8, x15, x16 => if x16 < x15 then (joins_Loop.l1 k x0 x1 x2 x8 x16 ([] : List (S71)) x15 x16 (x1.length : Int) 0) else (some (x8, 0))
def joins_Loop.l1 : Nat → T3 → T3 → List (S53) → T3 → Int → List (S71) → Int → Int → Int → Int → Option (T3 × Int)
 | 0, _, _, _, _, _, _, _, _, _, _ => none
 | k + 1, x0, x1, x2, x8, x9, x10, x15, x16, x20, x21 => if x21 < x20 then (if x10.length < 8796093022208 then (joins_Loop.l1 k x0 x1 x2 x8 x9 (x10 ++ [(⟨x9, x21⟩ : S71)]) x15 x16 x20 (wrap64 (x21 + 1))) else (none)) else ((joins_told.f k x0 x1 x10 x2).bind fun bt186 => (if bt186.2 = 0 then (if x8.length + bt186.1.length < 5864062014805 then (joins_Loop.l0 k x0 x1 x2 (x8 ++ bt186.1) x15 (wrap64 (x16 + 1))) else (none)) else (some (([] : T3), bt186.2))))
end
def joins_Loop.f (k : Nat) (l0 : T3) (l1 : T3) (l2 : List (S53)) : Option (T3 × Int) := joins_Loop.l0 k l0 l1 l2 ([] : T3) (l0.length : Int) 0
set_option maxHeartbeats 8000000 in
set_option maxRecDepth 100000 in
theorem joins_Loop.calls (k : Nat) (A0 : Option Addr) (c0 : Nat) (l0 : T3) (A1 : Option Addr) (c1 : Nat) (l1 : T3) (A2 : Option Addr) (c2 : Nat) (l2 : List (S53)) (r1 : T3) (r2 : Int) (w : World) (hr0 : Kd.C (Kd.slice 29 (Kd.slice 39 k39)) w A0 l0.length l0) (hc0 : l0.length ≤ c0) (hr1 : Kd.C (Kd.slice 29 (Kd.slice 39 k39)) w A1 l1.length l1) (hc1 : l1.length ≤ c1) (hr2 : Kd.C k53 w A2 l2.length l2) (hc2 : l2.length ≤ c2) (h : joins_Loop.f k l0 l1 l2 = some (r1, r2)) :
 Calls Tryz.prog 16 #[.slice A0 l0.length c0, .slice A1 l1.length c1, .slice A2 l2.length c2] w fun e w' => ∃ v0_ : Value, e = .returned (.tuple #[v0_, .int .i64 r2]) ∧ Kd.N (Kd.slice 29 (Kd.slice 39 k39)) 22 w' w.heap.size (fun k_ => (w.heap.size ≤ k_)) v0_ r1 ∧ Below w.heap.size w w' := by
 have hu71 := Tryz.underlying71
 have HR0 := akk hr0
 have HC0 := akk hc0
 clear hr0 hc0
 have HR1 := akk hr1
 have HC1 := akk hc1
 clear hr1 hc1
 have HR2 := akk hr2
 have HC2 := akk hc2
 clear hr2 hc2
 have HB := akk (Below.refl w.heap.size w)
 have H : (joins_Loop.l0 k l0 l1 l2 ([] : T3) (l0.length : Int) 0) = some (r1, r2) := h
 clear h
 have H' := akk H
 clear H
 go_enter Tryz.func16, Tryz.ntmps16
 go_wp2
 go_loopg [8, 16] k (fun kq v8 v16 w' => ∃ (x8_1 : T3) (x16_1 : Int), v16 = .int .i64 x16_1 ∧ Aside0 (joins_Loop.l0 kq l0 l1 l2 x8_1 (l0.length : Int) x16_1 = some (r1, r2)) ∧ Aside0 (kq ≤ k) ∧ Aside0 (Kd.N (Kd.slice 29 (Kd.slice 39 k39)) 22 w' w.heap.size (fun k_ => (w.heap.size ≤ k_)) v8 x8_1) ∧ Aside0 (Below w.heap.size w w'))
 case atStart => exact ⟨(([] : T3)), (0), eT, H', ⟨Nat.le_refl _⟩, ⟨zT⟩, ⟨bT⟩⟩
 case round =>
  clear H'
  obtain ⟨x8_1, x16_1, rfl, HA, HK1, HO_8, HB⟩ := hrel
  cases gk with
  | zero => exact absurd HA.out (by simp [joins_Loop.l0])
  | succ k1 =>
   have H := HA.out
   clear HA
   simp only [joins_Loop.l0] at H
   by_cases c4 : x16_1 < (l0.length : Int)
   ·rw [if_pos c4] at H
    have c4b0 := decide_eq_true c4
    clear c4
    have H' := akk H
    clear H
    go_wp2
    go_loopg [10, 21] k1 (fun kq v10 v21 w' => ∃ (x10_2 : List (S71)) (x21_2 : Int), v21 = .int .i64 x21_2 ∧ Aside0 (joins_Loop.l1 kq l0 l1 l2 x8_1 x16_1 x10_2 (l0.length : Int) x16_1 (l1.length : Int) x21_2 = some (r1, r2)) ∧ Aside0 (kq ≤ k1) ∧ Aside0 (Kd.N (Kd.slice 29 (Kd.slice 39 k39)) 22 w' w.heap.size (fun k_ => (w.heap.size ≤ k_) ∧ some k_ ≠ (v10 : Value).ownBlock) u8 x8_1) ∧ Aside0 (Kd.R k71 71 w' w.heap.size (fun k_ => (w.heap.size ≤ k_)) v10 x10_2) ∧ Aside0 (Below w.heap.size w w'))
    case atStart => exact ⟨(([] : List (S71))), (0), eT, H', ⟨Nat.le_refl _⟩, ⟨nT' (Kd.N_mono HO_8.out (fun _ hk => ⟨hk, (by simp [Value.ownBlock])⟩))⟩, ⟨zT⟩, ⟨bT⟩⟩
    case round =>
     clear H'
     try clear c4b0
     obtain ⟨x10_2, x21_2, rfl, HA, HK2, HO_8, HO_10, HB⟩ := hrel
     cases gk with
     | zero => exact absurd HA.out (by simp [joins_Loop.l1])
     | succ k2 =>
      have H := HA.out
      clear HA
      simp only [joins_Loop.l1] at H
      by_cases c5 : x21_2 < (l1.length : Int)
      ·rw [if_pos c5] at H
       have c5b0 := decide_eq_true c5
       clear c5
       by_cases c6 : x10_2.length < 8796093022208
       ·rw [if_pos c6] at H
        have LMc6 := akk c6
        clear c6
        obtain ⟨y183, hy183⟩ : ∃ y_ : List (S71), y_ = (x10_2 ++ [(⟨x16_1, x21_2⟩ : S71)]) := ⟨_, rfl⟩
        replace H : (joins_Loop.l1 k2 l0 l1 l2 x8_1 x16_1 y183 (l0.length : Int) x16_1 (l1.length : Int) (wrap64 (x21_2 + 1))) = some (r1, r2) := jT hy183 H
        have Ny183 := akk hy183
        clear hy183
        have H' := akk H
        clear H
        go_wp2_with ((with_reducible refine gA #[.tmp 24, .tmp 28] rfl ?_); at_builtin; refine Kd.R_append k71 (w0 := w) w.heap.size rfl (.tmp 24) (.tmp 28) 69 71 (.agg #[(.int .i64 0), (.int .i64 0)]) 16 rfl Tryz.underlying69 info71 rfl (by decide) (by omega) u10 x10_2 (⟨x16_1, x21_2⟩ : S71) [.int .i64 x16_1, .int .i64 x21_2] (fun k_ => (w.heap.size ≤ k_)) (fun _ => False) rfl rfl ?aP (fun _ hk => hk.elim) ?aF ?aO ?aB ?aS ?aL ?_; (case aP => exact k71_mkM _ _ _ (⟨x16_1, x21_2⟩ : S71)); (case aB => exact bT); (case aF => exact (fun k_ hk => (Nat.le_trans (below_size bT) hk))); (case aO => exact (rT HO_10.out)); (case aS => exact (below_size bT)); (case aL => have := LMc6.out; omega); intro v184 w7 ho hb hg hat; rw [← Ny183.out] at ho; replace HO_8 := na HO_8 hg hat; replace HB := akk (hb); have HO185 := akk (ho); clear HO_10; clear ho hb hg hat)
        go_roundg k2
        case measure => have := HK1.out; have := HK2.out; omega
        case rel => exact ⟨(y183), (wrap64 (x21_2 + 1)), eT, H', ⟨by have := HK1.out; have := HK2.out; omega⟩, ⟨nT HO_8.out⟩, ⟨rT HO185.out⟩, ⟨bT⟩⟩
       ·rw [if_neg c6] at H
        exact absurd H (by simp)
      ·rw [if_neg c5] at H
       have c5b0 := decide_eq_false c5
       clear c5
       obtain ⟨⟨t186, t187⟩, A8, H⟩ := bi H
       try dsimp only at H
       by_cases c9 : t187 = 0
       ·rw [if_pos c9] at H
        have c9b0 : (t187 == 0) = true := beq_iff_eq.mpr c9
        have c9b1 : (t187 != 0) = false := bne_eq_false_iff_eq.mpr c9
        clear c9
        by_cases c10 : x8_1.length + t186.length < 5864062014805
        ·rw [if_pos c10] at H
         have LMc10 := akk c10
         clear c10
         obtain ⟨y190, hy190⟩ : ∃ y_ : T3, y_ = (x8_1 ++ t186) := ⟨_, rfl⟩
         replace H : (joins_Loop.l0 k2 l0 l1 l2 y190 (l0.length : Int) (wrap64 (x16_1 + 1))) = some (r1, r2) := jT hy190 H
         have Ny190 := akk hy190
         clear hy190
         have H' := akk H
         clear H
         obtain ⟨Ao11, co11, eo11⟩ := Kd.R_slice HO_10.out
         subst eo11
         go_wp2_with (first | (refine gT 39 (some 36) Tryz.func39 #[.slice A0 l0.length c0, .slice A1 l1.length c1, .slice Ao11 x10_2.length co11, .slice A2 l2.length c2] ?_; (with_reducible refine (joins_told.calls k2 _ _ l0 _ _ l1 _ _ x10_2 _ _ l2 t186 t187 _ ?_ ?_ ?_ ?_ ?_ ?_ ?_ ?_ A8.out).mono ?_); exact cT HR0.out; exact HC0.out; exact cT HR1.out; exact HC1.out; exact cV (Kd.R_reads' HO_10.out).2.2; exact (Kd.R_reads' HO_10.out).2.1; exact cT HR2.out; exact HC2.out; rintro e w12 ⟨v188, rfl, ho0, hb⟩; refine ⟨_, rfl, ?_⟩; have HO189 := akk (Kd.N_lower (Kd.N_mono (ok' := fun k_ => (w.heap.size ≤ k_) ∧ some k_ ≠ (u8 : Value).ownBlock ∧ some k_ ≠ (.slice Ao11 x10_2.length co11 : Value).ownBlock) (Kd.R_N (Kd.R_bound ho0)) (fun k_ hk_ => ⟨(Nat.le_trans (below_size bT) hk_.2.1), (Kd.fresh' (Kd.N_lt (nT HO_8.out)) k_ hk_.2.1), (Kd.fresh' (Kd.R_lt (rT HO_10.out)) k_ hk_.2.1)⟩)) (below_size bT)); replace HO_8 := ne HO_8 ho0 hb; replace HO_10 := rb HO_10 hb; replace HB := bb HB hb; (try clear hb); (try clear hb2); (try clear hk); (try clear hi); (try clear ho0); obtain ⟨Ao14, co14, eo14⟩ := Kd.N_slice HO189.out; subst eo14) | ((with_reducible refine gA #[.tmp 42, .tmp 43] rfl ?_); at_builtin; refine Kd.N_append_rows (Kd.slice 29 (Kd.slice 39 k39)) (w0 := w) w.heap.size rfl (.tmp 42) (.tmp 43) 25 22 (.slice none 0 0) 24 rfl Tryz.underlying25 info22 rfl (by decide) (by omega) u8 x8_1 t186 _ _ _ (fun k_ => (w.heap.size ≤ k_) ∧ some k_ ≠ (.slice Ao11 x10_2.length co11 : Value).ownBlock) (fun k_ => ((fun k_ => (w.heap.size ≤ k_) ∧ some k_ ≠ (.slice Ao11 x10_2.length co11 : Value).ownBlock)) k_ ∧ some k_ ≠ (u8 : Value).ownBlock) rfl rfl ?aO ?aR (fun _ hk => hk) ?aF ?aB ?aS ?aL ?_; (case aR => exact (by skip; exact Kd.N_F (Kd.N_mono (ok' := (fun k_ => ((fun k_ => (w.heap.size ≤ k_) ∧ some k_ ≠ (.slice Ao11 x10_2.length co11 : Value).ownBlock)) k_ ∧ some k_ ≠ (u8 : Value).ownBlock)) (HO189.out) (fun k_ hk => ⟨⟨hk.1, hk.2.2⟩, hk.2.1⟩)))); (case aB => exact bT); (case aF => exact (fun k_ hk => ⟨(Nat.le_trans (below_size bT) hk), Kd.fresh' (Kd.R_lt (rT HO_10.out)) k_ hk⟩)); (case aO => exact (nT' (Kd.N_mono HO_8.out (fun _ hk => ⟨hk.1.1, hk.1.2⟩)))); (case aS => exact (below_size bT)); (case aL => have := LMc10.out; omega); intro v191 w13 ho hb hg hat; rw [← Ny190.out] at ho; replace HO_10 := akk (Kd.R_over' (rT HO_10.out) (Kd.N_typed (nT HO_8.out)) (by decide) hg); replace HO189 := akk (Kd.N_afterv (ok := (fun k_ => (w.heap.size ≤ k_) ∧ some k_ ≠ (.slice Ao11 x10_2.length co11 : Value).ownBlock)) (nT' (Kd.N_mono HO189.out (fun _ hk => ⟨⟨hk.1, hk.2.2⟩, hk.2.1⟩))) hg hat); replace HB := akk (hb); have HO192 := akk (ho); clear HO_8; clear ho hb hg hat))
         go_roundg k2
         case measure => have := HK1.out; have := HK2.out; omega
         case rel => exact ⟨(y190), (wrap64 (x16_1 + 1)), eT, H', ⟨by have := HK1.out; have := HK2.out; omega⟩, ⟨nT' (Kd.N_mono HO192.out (fun _ hk => hk.1))⟩, ⟨bT⟩⟩
        ·rw [if_neg c10] at H
         exact absurd H (by simp)
       ·rw [if_neg c9] at H
        have c9b0 : (t187 == 0) = false := beq_eq_false_iff_ne.mpr c9
        have c9b1 : (t187 != 0) = true := bne_iff_ne.mpr c9
        simp only [Option.some.injEq, Prod.mk.injEq] at H
        obtain ⟨rfl, rfl⟩ := H
        obtain ⟨Ao15, co15, eo15⟩ := Kd.R_slice HO_10.out
        subst eo15
        go_wp2_with (refine gT 39 (some 36) Tryz.func39 #[.slice A0 l0.length c0, .slice A1 l1.length c1, .slice Ao15 x10_2.length co15, .slice A2 l2.length c2] ?_; (with_reducible refine (joins_told.calls k2 _ _ l0 _ _ l1 _ _ x10_2 _ _ l2 t186 t187 _ ?_ ?_ ?_ ?_ ?_ ?_ ?_ ?_ A8.out).mono ?_); exact cT HR0.out; exact HC0.out; exact cT HR1.out; exact HC1.out; exact cV (Kd.R_reads' HO_10.out).2.2; exact (Kd.R_reads' HO_10.out).2.1; exact cT HR2.out; exact HC2.out; rintro e w16 ⟨v188, rfl, ho0, hb⟩; refine ⟨_, rfl, ?_⟩; have HO189 := akk (Kd.N_lower (Kd.N_mono (ok' := fun k_ => (w.heap.size ≤ k_) ∧ some k_ ≠ (u8 : Value).ownBlock ∧ some k_ ≠ (.slice Ao15 x10_2.length co15 : Value).ownBlock) (Kd.R_N (Kd.R_bound ho0)) (fun k_ hk_ => ⟨(Nat.le_trans (below_size bT) hk_.2.1), (Kd.fresh' (Kd.N_lt (nT HO_8.out)) k_ hk_.2.1), (Kd.fresh' (Kd.R_lt (rT HO_10.out)) k_ hk_.2.1)⟩)) (below_size bT)); replace HO_8 := ne HO_8 ho0 hb; replace HO_10 := rb HO_10 hb; replace HB := bb HB hb; clear hb ho0)
        go_ret2
        exact ⟨_, fT, zT, bT⟩
   ·rw [if_neg c4] at H
    have c4b0 := decide_eq_false c4
    clear c4
    simp only [Option.some.injEq, Prod.mk.injEq] at H
    obtain ⟨rfl, rfl⟩ := H
    go_wp2
    go_ret2
    exact ⟨_, fT, nT' HO_8.out, bT⟩
mutual
def r27_Union.j0 : Nat → T2 → T2 → Int → Option (T2)
 | 0, _, _, _ => none
 | k + 1, x0, x1, x5 => r27_Union.l0 k x0 x1 x5 ([] : T2) 0
def r27_Union.l0 : Nat → T2 → T2 → Int → T2 → Int → Option (T2)
 | 0, _, _, _, _, _ => none
 | k + 1, x0, x1, x5, x6, x7 => if x7 < x5 then (if x7 < (x1.length : Int) then (if 0 ≤ x7 then (if x7 < (x0.length : Int) then (if ((rd_L5 x0 x7).length : Int) > 0 then (if x6.length < 5864062014805 then (r27_Union.l0 k x0 x1 x5 (x6 ++ [rd_L5 x0 x7]) (wrap64 (x7 + 1))) else (none)) else (if x6.length < 5864062014805 then (r27_Union.l0 k x0 x1 x5 (x6 ++ [rd_L5 x1 x7]) (wrap64 (x7 + 1))) else (none))) else (if x6.length < 5864062014805 then (r27_Union.l0 k x0 x1 x5 (x6 ++ [rd_L5 x1 x7]) (wrap64 (x7 + 1))) else (none))) else (none)) else (if x7 < (x0.length : Int) then (if 0 ≤ x7 then (if ((rd_L5 x0 x7).length : Int) > 0 then (if x6.length < 5864062014805 then (r27_Union.l0 k x0 x1 x5 (x6 ++ [rd_L5 x0 x7]) (wrap64 (x7 + 1))) else (none)) else (if x6.length < 5864062014805 then (r27_Union.l0 k x0 x1 x5 (x6 ++ [([] : List (S39))]) (wrap64 (x7 + 1))) else (none))) else (none)) else (if x6.length < 5864062014805 then (r27_Union.l0 k x0 x1 x5 (x6 ++ [([] : List (S39))]) (wrap64 (x7 + 1))) else (none)))) else (some x6)
end
def r27_Union.f (k : Nat) (l0 : T2) (l1 : T2) : Option (T2) := if (l1.length : Int) > (l0.length : Int) then (r27_Union.j0 k l0 l1 (l1.length : Int)) else (r27_Union.j0 k l0 l1 (l0.length : Int))
set_option maxHeartbeats 8000000 in
set_option maxRecDepth 100000 in
theorem r27_Union.calls (k : Nat) (P0_ : Nat → Prop) (A0 : Option Addr) (c0 : Nat) (l0 : T2) (P1_ : Nat → Prop) (A1 : Option Addr) (c1 : Nat) (l1 : T2) (r : T2) (w : World) (hs0 : Kd.V (Kd.slice 39 k39) 29 w w.heap.size (fun k_ => P0_ k_) (.slice A0 l0.length c0) l0) (hs1 : Kd.V (Kd.slice 39 k39) 29 w w.heap.size (fun k_ => P1_ k_) (.slice A1 l1.length c1) l1) (h : r27_Union.f k l0 l1 = some r) :
 Calls Tryz.prog 11 #[.slice A0 l0.length c0, .slice A1 l1.length c1] w fun e w' => ∃ v0_ : Value, e = .returned (v0_) ∧ Kd.N (Kd.slice 39 k39) 29 w' w.heap.size (fun k_ => ((P0_ k_ ∨ P1_ k_) ∨ w.heap.size ≤ k_)) v0_ r ∧ Below w.heap.size w w' := by
 have HO0 := akk (show Kd.V (Kd.slice 39 k39) 29 w w.heap.size (fun k_ => ((P0_ k_ ∨ P1_ k_) ∨ w.heap.size ≤ k_)) (.slice A0 l0.length c0) l0 from Kd.V_mono hs0 (fun k_ hk => .inl (.inl hk)))
 have HO1 := akk (show Kd.V (Kd.slice 39 k39) 29 w w.heap.size (fun k_ => ((P0_ k_ ∨ P1_ k_) ∨ w.heap.size ≤ k_)) (.slice A1 l1.length c1) l1 from Kd.V_mono hs1 (fun k_ hk => .inl (.inr hk)))
 have HB := akk (Below.refl w.heap.size w)
 have H : (if (l1.length : Int) > (l0.length : Int) then (r27_Union.j0 k l0 l1 (l1.length : Int)) else (r27_Union.j0 k l0 l1 (l0.length : Int))) = some r := h
 clear h
 have HC3 := akk H
 clear H
 go_enter Tryz.func11, Tryz.ntmps11
 go_upto_if 14 with (fail)
 go_cut [5] (fun v5 wc => ∃ (kq : Nat) (x5_2 : Int), v5 = .int .i64 x5_2 ∧ Aside0 (r27_Union.j0 kq l0 l1 x5_2 = some r) ∧ Aside0 (kq ≤ k) ∧ Aside0 (Kd.V (Kd.slice 39 k39) 29 wc w.heap.size (fun k_ => ((P0_ k_ ∨ P1_ k_) ∨ w.heap.size ≤ k_)) (.slice A0 l0.length c0) l0) ∧ Aside0 (Kd.V (Kd.slice 39 k39) 29 wc w.heap.size (fun k_ => ((P0_ k_ ∨ P1_ k_) ∨ w.heap.size ≤ k_)) (.slice A1 l1.length c1) l1) ∧ Aside0 (Below w.heap.size w wc))
 case first =>
  have H := HC3.out
  clear HC3
  by_cases c4 : (l1.length : Int) > (l0.length : Int)
  ·rw [if_pos c4] at H
   have c4b0 := decide_eq_true c4
   have c4b1 : decide (l0.length < l1.length) = true := decide_eq_true (Int.ofNat_lt.mp c4)
   have c4b2 : l0.length < l1.length := Int.ofNat_lt.mp c4
   clear c4
   (first | rw [c4b0] | (simp only [i64_w, i32_w]; rw [c4b0]) | skip)
   have H' := akk H
   clear H
   go_wp2
   go_meet
   case rel => exact ⟨_, ((l1.length : Int)), eT, H', ⟨by first | omega | exact Nat.le_refl _⟩, ⟨vT HO0.out⟩, ⟨vT HO1.out⟩, ⟨bT⟩⟩
  ·rw [if_neg c4] at H
   have c4b0 := decide_eq_false c4
   have c4b1 : decide (l0.length < l1.length) = false := decide_eq_false (fun h => c4 (Int.ofNat_lt.mpr h))
   have c4b2 : ¬ (l0.length < l1.length) := fun h => c4 (Int.ofNat_lt.mpr h)
   clear c4
   (first | rw [c4b0] | (simp only [i64_w, i32_w]; rw [c4b0]) | skip)
   have H' := akk H
   clear H
   go_wp2
   go_meet
   case rel => exact ⟨_, ((l0.length : Int)), eT, H', ⟨by first | omega | exact Nat.le_refl _⟩, ⟨vT HO0.out⟩, ⟨vT HO1.out⟩, ⟨bT⟩⟩
 case rest =>
  clear HC3
  try clear c1
  obtain ⟨kq, x5_2, rfl, HA, HJ2, HO_0, HO_1, HB⟩ := hcut
  cases kq with
  | zero => exact absurd HA.out (by simp [r27_Union.j0])
  | succ kj2 =>
   have H := HA.out
   clear HA
   simp only [r27_Union.j0] at H
   have H' := akk H
   clear H
   go_wp2
   go_loopg [6, 7] kj2 (fun kq v6 v7 w' => ∃ (x6_2 : T2) (x7_2 : Int), v7 = .int .i64 x7_2 ∧ Aside0 (r27_Union.l0 kq l0 l1 x5_2 x6_2 x7_2 = some r) ∧ Aside0 (kq ≤ kj2) ∧ Aside0 (Kd.V (Kd.slice 39 k39) 29 w' w.heap.size (fun k_ => ((P0_ k_ ∨ P1_ k_) ∨ w.heap.size ≤ k_) ∧ some k_ ≠ (v6 : Value).ownBlock) (.slice A0 l0.length c0) l0) ∧ Aside0 (Kd.V (Kd.slice 39 k39) 29 w' w.heap.size (fun k_ => ((P0_ k_ ∨ P1_ k_) ∨ w.heap.size ≤ k_) ∧ some k_ ≠ (v6 : Value).ownBlock) (.slice A1 l1.length c1) l1) ∧ Aside0 (Kd.N (Kd.slice 39 k39) 29 w' w.heap.size (fun k_ => ((P0_ k_ ∨ P1_ k_) ∨ w.heap.size ≤ k_)) v6 x6_2) ∧ Aside0 (Below w.heap.size w w'))
   case atStart => exact ⟨(([] : T2)), (0), eT, H', ⟨Nat.le_refl _⟩, ⟨vT' (Kd.V_mono HO_0.out (fun _ hk => ⟨hk, (by simp [Value.ownBlock])⟩))⟩, ⟨vT' (Kd.V_mono HO_1.out (fun _ hk => ⟨hk, (by simp [Value.ownBlock])⟩))⟩, ⟨by first | exact Kd.S_nil _ _ _ _ _ | exact Kd.N_nil _ _ _ _ _ | exact Kd.V_nil _ _ _ _ _ | exact Kd.Q_nil _ _ _ _ _ | exact Kd.R_nil _ _ _ _ _⟩, ⟨bT⟩⟩
   case round =>
    clear H'
    obtain ⟨x6_2, x7_2, rfl, HA, HK2, HO_0, HO_1, HO_6, HB⟩ := hrel
    cases gk with
    | zero => exact absurd HA.out (by simp [r27_Union.l0])
    | succ k2 =>
     have H := HA.out
     clear HA
     simp only [r27_Union.l0] at H
     by_cases c5 : x7_2 < x5_2
     ·rw [if_pos c5] at H
      have c5b0 := decide_eq_true c5
      clear c5
      by_cases c6 : x7_2 < (l1.length : Int)
      ·rw [if_pos c6] at H
       have c6b0 := decide_eq_true c6
       clear c6
       by_cases c7 : 0 ≤ x7_2
       ·rw [if_pos c7] at H
        have c7b0 := decide_eq_true c7
        clear c7
        by_cases c8 : x7_2 < (l0.length : Int)
        ·rw [if_pos c8] at H
         have c8b0 := decide_eq_true c8
         clear c8
         by_cases c9 : ((rd_L5 l0 x7_2).length : Int) > 0
         ·rw [if_pos c9] at H
          have c9b0 := decide_eq_true c9
          have c9b1 : decide (0 < (rd_L5 l0 x7_2).length) = true := decide_eq_true (by omega)
          clear c9
          by_cases c10 : x6_2.length < 5864062014805
          ·rw [if_pos c10] at H
           have LMc10 := akk c10
           clear c10
           obtain ⟨y196, hy196⟩ : ∃ y_ : T2, y_ = (x6_2 ++ [rd_L5 l0 x7_2]) := ⟨_, rfl⟩
           replace H : (r27_Union.l0 k2 l0 l1 x5_2 y196 (wrap64 (x7_2 + 1))) = some r := jT hy196 H
           have Ny196 := akk hy196
           clear hy196
           have H' := akk H
           clear H
           obtain ⟨ad193, A193_0, c193_0, rfl, hx193_0, HL193_0, HR193_0, HC193_0, p193, q193⟩ := gV5 HO_1 x7_2
           obtain ⟨ad194, A194_0, c194_0, rfl, hx194_0, HL194_0, HR194_0, HC194_0, p194, q194⟩ := gV5 HO_0 x7_2
           obtain ⟨ad195, A195_0, c195_0, e195, hx195_0, HL195_0, HR195_0, HC195_0, p195, q195⟩ := gV5 HO_0 x7_2
           obtain rfl : ad194 = ad195 := (by injection e195)
           have ea_ := Option.some.inj (hx194_0.symm.trans hx195_0)
           injection ea_ with ea_ en_ ec_
           subst ea_
           subst ec_
           clear en_
           go_wp2_with ((with_reducible refine gA #[.tmp 46, .tmp 48] rfl ?_); (try (refine gate_guard (by rfl) ?_; dsimp only)); at_builtin; refine Kd.N_append (Kd.slice 39 k39) (w0 := w) w.heap.size rfl (.tmp 46) (.tmp 48) 22 29 (.slice none 0 0) 24 rfl Tryz.underlying22 info29 rfl (by decide) (by omega) u6 x6_2 (rd_L5 l0 x7_2) [.slice A194_0 (rd_L5 l0 x7_2).length c194_0] (fun k_ => ((P0_ k_ ∨ P1_ k_) ∨ w.heap.size ≤ k_)) (fun k_ => ((fun k_ => ((P0_ k_ ∨ P1_ k_) ∨ w.heap.size ≤ k_))) k_ ∧ some k_ ≠ (u6 : Value).ownBlock) rfl rfl ?aP (fun _ hk => hk) ?aF ?aO ?aB ?aS ?aL ?_; (case aP => exact (Kd.FK_slice_mk (Kd.V_reads' (Kd.V_mono (ok' := (fun k_ => ((fun k_ => ((P0_ k_ ∨ P1_ k_) ∨ w.heap.size ≤ k_))) k_ ∧ some k_ ≠ (u6 : Value).ownBlock)) (HL195_0.out) (fun k_ hk => ⟨hk.1, hk.2⟩))).2.1 (Kd.V_F (Kd.V_mono (ok' := (fun k_ => ((fun k_ => ((P0_ k_ ∨ P1_ k_) ∨ w.heap.size ≤ k_))) k_ ∧ some k_ ≠ (u6 : Value).ownBlock)) (HL195_0.out) (fun k_ hk => ⟨hk.1, hk.2⟩))))); (case aB => exact bT); (case aF => exact (fun k_ hk => (.inr (Nat.le_trans (below_size bT) hk)))); (case aO => exact (nT HO_6.out)); (case aS => exact (below_size bT)); (case aL => have := LMc10.out; omega); intro v197 w11 ho hb hg hat; rw [← Ny196.out] at ho; replace HO_0 := va HO_0 hg hat; replace HO_1 := va HO_1 hg hat; replace HL193_0 := va HL193_0 hg hat; replace HL194_0 := va HL194_0 hg hat; replace HL195_0 := va HL195_0 hg hat; replace HB := akk (hb); have HO198 := akk (ho); clear HO_6; clear ho hb hg hat)
           go_roundg k2
           case measure => have := HJ2.out; have := HK2.out; omega
           case rel => exact ⟨(y196), (wrap64 (x7_2 + 1)), eT, H', ⟨by have := HJ2.out; have := HK2.out; omega⟩, ⟨vT HO_0.out⟩, ⟨vT HO_1.out⟩, ⟨nT HO198.out⟩, ⟨bT⟩⟩
          ·rw [if_neg c10] at H
           exact absurd H (by simp)
         ·rw [if_neg c9] at H
          have c9b0 := decide_eq_false c9
          have c9b1 : decide (0 < (rd_L5 l0 x7_2).length) = false := decide_eq_false (by omega)
          clear c9
          by_cases c12 : x6_2.length < 5864062014805
          ·rw [if_pos c12] at H
           have LMc12 := akk c12
           clear c12
           obtain ⟨y199, hy199⟩ : ∃ y_ : T2, y_ = (x6_2 ++ [rd_L5 l1 x7_2]) := ⟨_, rfl⟩
           replace H : (r27_Union.l0 k2 l0 l1 x5_2 y199 (wrap64 (x7_2 + 1))) = some r := jT hy199 H
           have Ny199 := akk hy199
           clear hy199
           have H' := akk H
           clear H
           obtain ⟨ad193, A193_0, c193_0, rfl, hx193_0, HL193_0, HR193_0, HC193_0, p193, q193⟩ := gV5 HO_1 x7_2
           obtain ⟨ad194, A194_0, c194_0, rfl, hx194_0, HL194_0, HR194_0, HC194_0, p194, q194⟩ := gV5 HO_0 x7_2
           go_wp2_with ((with_reducible refine gA #[.tmp 46, .tmp 48] rfl ?_); (try (refine gate_guard (by rfl) ?_; dsimp only)); at_builtin; refine Kd.N_append (Kd.slice 39 k39) (w0 := w) w.heap.size rfl (.tmp 46) (.tmp 48) 22 29 (.slice none 0 0) 24 rfl Tryz.underlying22 info29 rfl (by decide) (by omega) u6 x6_2 (rd_L5 l1 x7_2) [.slice A193_0 (rd_L5 l1 x7_2).length c193_0] (fun k_ => ((P0_ k_ ∨ P1_ k_) ∨ w.heap.size ≤ k_)) (fun k_ => ((fun k_ => ((P0_ k_ ∨ P1_ k_) ∨ w.heap.size ≤ k_))) k_ ∧ some k_ ≠ (u6 : Value).ownBlock) rfl rfl ?aP (fun _ hk => hk) ?aF ?aO ?aB ?aS ?aL ?_; (case aP => exact (Kd.FK_slice_mk (Kd.V_reads' (Kd.V_mono (ok' := (fun k_ => ((fun k_ => ((P0_ k_ ∨ P1_ k_) ∨ w.heap.size ≤ k_))) k_ ∧ some k_ ≠ (u6 : Value).ownBlock)) (HL193_0.out) (fun k_ hk => ⟨hk.1, hk.2⟩))).2.1 (Kd.V_F (Kd.V_mono (ok' := (fun k_ => ((fun k_ => ((P0_ k_ ∨ P1_ k_) ∨ w.heap.size ≤ k_))) k_ ∧ some k_ ≠ (u6 : Value).ownBlock)) (HL193_0.out) (fun k_ hk => ⟨hk.1, hk.2⟩))))); (case aB => exact bT); (case aF => exact (fun k_ hk => (.inr (Nat.le_trans (below_size bT) hk)))); (case aO => exact (nT HO_6.out)); (case aS => exact (below_size bT)); (case aL => have := LMc12.out; omega); intro v200 w13 ho hb hg hat; rw [← Ny199.out] at ho; replace HO_0 := va HO_0 hg hat; replace HO_1 := va HO_1 hg hat; replace HL193_0 := va HL193_0 hg hat; replace HL194_0 := va HL194_0 hg hat; replace HB := akk (hb); have HO201 := akk (ho); clear HO_6; clear ho hb hg hat)
           go_roundg k2
           case measure => have := HJ2.out; have := HK2.out; omega
           case rel => exact ⟨(y199), (wrap64 (x7_2 + 1)), eT, H', ⟨by have := HJ2.out; have := HK2.out; omega⟩, ⟨vT HO_0.out⟩, ⟨vT HO_1.out⟩, ⟨nT HO201.out⟩, ⟨bT⟩⟩
          ·rw [if_neg c12] at H
           exact absurd H (by simp)
        ·rw [if_neg c8] at H
         have c8b0 := decide_eq_false c8
         clear c8
         by_cases c14 : x6_2.length < 5864062014805
         ·rw [if_pos c14] at H
          have LMc14 := akk c14
          clear c14
          obtain ⟨y202, hy202⟩ : ∃ y_ : T2, y_ = (x6_2 ++ [rd_L5 l1 x7_2]) := ⟨_, rfl⟩
          replace H : (r27_Union.l0 k2 l0 l1 x5_2 y202 (wrap64 (x7_2 + 1))) = some r := jT hy202 H
          have Ny202 := akk hy202
          clear hy202
          have H' := akk H
          clear H
          obtain ⟨ad193, A193_0, c193_0, rfl, hx193_0, HL193_0, HR193_0, HC193_0, p193, q193⟩ := gV5 HO_1 x7_2
          go_wp2_with ((with_reducible refine gA #[.tmp 46, .tmp 48] rfl ?_); (try (refine gate_guard (by rfl) ?_; dsimp only)); at_builtin; refine Kd.N_append (Kd.slice 39 k39) (w0 := w) w.heap.size rfl (.tmp 46) (.tmp 48) 22 29 (.slice none 0 0) 24 rfl Tryz.underlying22 info29 rfl (by decide) (by omega) u6 x6_2 (rd_L5 l1 x7_2) [.slice A193_0 (rd_L5 l1 x7_2).length c193_0] (fun k_ => ((P0_ k_ ∨ P1_ k_) ∨ w.heap.size ≤ k_)) (fun k_ => ((fun k_ => ((P0_ k_ ∨ P1_ k_) ∨ w.heap.size ≤ k_))) k_ ∧ some k_ ≠ (u6 : Value).ownBlock) rfl rfl ?aP (fun _ hk => hk) ?aF ?aO ?aB ?aS ?aL ?_; (case aP => exact (Kd.FK_slice_mk (Kd.V_reads' (Kd.V_mono (ok' := (fun k_ => ((fun k_ => ((P0_ k_ ∨ P1_ k_) ∨ w.heap.size ≤ k_))) k_ ∧ some k_ ≠ (u6 : Value).ownBlock)) (HL193_0.out) (fun k_ hk => ⟨hk.1, hk.2⟩))).2.1 (Kd.V_F (Kd.V_mono (ok' := (fun k_ => ((fun k_ => ((P0_ k_ ∨ P1_ k_) ∨ w.heap.size ≤ k_))) k_ ∧ some k_ ≠ (u6 : Value).ownBlock)) (HL193_0.out) (fun k_ hk => ⟨hk.1, hk.2⟩))))); (case aB => exact bT); (case aF => exact (fun k_ hk => (.inr (Nat.le_trans (below_size bT) hk)))); (case aO => exact (nT HO_6.out)); (case aS => exact (below_size bT)); (case aL => have := LMc14.out; omega); intro v203 w15 ho hb hg hat; rw [← Ny202.out] at ho; replace HO_0 := va HO_0 hg hat; replace HO_1 := va HO_1 hg hat; replace HL193_0 := va HL193_0 hg hat; replace HB := akk (hb); have HO204 := akk (ho); clear HO_6; clear ho hb hg hat)
          go_roundg k2
          case measure => have := HJ2.out; have := HK2.out; omega
          case rel => exact ⟨(y202), (wrap64 (x7_2 + 1)), eT, H', ⟨by have := HJ2.out; have := HK2.out; omega⟩, ⟨vT HO_0.out⟩, ⟨vT HO_1.out⟩, ⟨nT HO204.out⟩, ⟨bT⟩⟩
         ·rw [if_neg c14] at H
          exact absurd H (by simp)
       ·rw [if_neg c7] at H
        exact absurd H (by simp)
      ·rw [if_neg c6] at H
       have c6b0 := decide_eq_false c6
       clear c6
       by_cases c16 : x7_2 < (l0.length : Int)
       ·rw [if_pos c16] at H
        have c16b0 := decide_eq_true c16
        clear c16
        by_cases c17 : 0 ≤ x7_2
        ·rw [if_pos c17] at H
         have c17b0 := decide_eq_true c17
         clear c17
         by_cases c18 : ((rd_L5 l0 x7_2).length : Int) > 0
         ·rw [if_pos c18] at H
          have c18b0 := decide_eq_true c18
          have c18b1 : decide (0 < (rd_L5 l0 x7_2).length) = true := decide_eq_true (by omega)
          clear c18
          by_cases c19 : x6_2.length < 5864062014805
          ·rw [if_pos c19] at H
           have LMc19 := akk c19
           clear c19
           obtain ⟨y207, hy207⟩ : ∃ y_ : T2, y_ = (x6_2 ++ [rd_L5 l0 x7_2]) := ⟨_, rfl⟩
           replace H : (r27_Union.l0 k2 l0 l1 x5_2 y207 (wrap64 (x7_2 + 1))) = some r := jT hy207 H
           have Ny207 := akk hy207
           clear hy207
           have H' := akk H
           clear H
           obtain ⟨ad205, A205_0, c205_0, rfl, hx205_0, HL205_0, HR205_0, HC205_0, p205, q205⟩ := gV5 HO_0 x7_2
           obtain ⟨ad206, A206_0, c206_0, e206, hx206_0, HL206_0, HR206_0, HC206_0, p206, q206⟩ := gV5 HO_0 x7_2
           obtain rfl : ad205 = ad206 := (by injection e206)
           have ea_ := Option.some.inj (hx205_0.symm.trans hx206_0)
           injection ea_ with ea_ en_ ec_
           subst ea_
           subst ec_
           clear en_
           go_wp2_with ((with_reducible refine gA #[.tmp 46, .tmp 48] rfl ?_); (try (refine gate_guard (by rfl) ?_; dsimp only)); at_builtin; refine Kd.N_append (Kd.slice 39 k39) (w0 := w) w.heap.size rfl (.tmp 46) (.tmp 48) 22 29 (.slice none 0 0) 24 rfl Tryz.underlying22 info29 rfl (by decide) (by omega) u6 x6_2 (rd_L5 l0 x7_2) [.slice A205_0 (rd_L5 l0 x7_2).length c205_0] (fun k_ => ((P0_ k_ ∨ P1_ k_) ∨ w.heap.size ≤ k_)) (fun k_ => ((fun k_ => ((P0_ k_ ∨ P1_ k_) ∨ w.heap.size ≤ k_))) k_ ∧ some k_ ≠ (u6 : Value).ownBlock) rfl rfl ?aP (fun _ hk => hk) ?aF ?aO ?aB ?aS ?aL ?_; (case aP => exact (Kd.FK_slice_mk (Kd.V_reads' (Kd.V_mono (ok' := (fun k_ => ((fun k_ => ((P0_ k_ ∨ P1_ k_) ∨ w.heap.size ≤ k_))) k_ ∧ some k_ ≠ (u6 : Value).ownBlock)) (HL206_0.out) (fun k_ hk => ⟨hk.1, hk.2⟩))).2.1 (Kd.V_F (Kd.V_mono (ok' := (fun k_ => ((fun k_ => ((P0_ k_ ∨ P1_ k_) ∨ w.heap.size ≤ k_))) k_ ∧ some k_ ≠ (u6 : Value).ownBlock)) (HL206_0.out) (fun k_ hk => ⟨hk.1, hk.2⟩))))); (case aB => exact bT); (case aF => exact (fun k_ hk => (.inr (Nat.le_trans (below_size bT) hk)))); (case aO => exact (nT HO_6.out)); (case aS => exact (below_size bT)); (case aL => have := LMc19.out; omega); intro v208 w20 ho hb hg hat; rw [← Ny207.out] at ho; replace HO_0 := va HO_0 hg hat; replace HO_1 := va HO_1 hg hat; replace HL205_0 := va HL205_0 hg hat; replace HL206_0 := va HL206_0 hg hat; replace HB := akk (hb); have HO209 := akk (ho); clear HO_6; clear ho hb hg hat)
           go_roundg k2
           case measure => have := HJ2.out; have := HK2.out; omega
           case rel => exact ⟨(y207), (wrap64 (x7_2 + 1)), eT, H', ⟨by have := HJ2.out; have := HK2.out; omega⟩, ⟨vT HO_0.out⟩, ⟨vT HO_1.out⟩, ⟨nT HO209.out⟩, ⟨bT⟩⟩
          ·rw [if_neg c19] at H
           exact absurd H (by simp)
         ·rw [if_neg c18] at H
          have c18b0 := decide_eq_false c18
          have c18b1 : decide (0 < (rd_L5 l0 x7_2).length) = false := decide_eq_false (by omega)
          clear c18
          by_cases c21 : x6_2.length < 5864062014805
          ·rw [if_pos c21] at H
           have LMc21 := akk c21
           clear c21
           obtain ⟨y210, hy210⟩ : ∃ y_ : T2, y_ = (x6_2 ++ [([] : List (S39))]) := ⟨_, rfl⟩
           replace H : (r27_Union.l0 k2 l0 l1 x5_2 y210 (wrap64 (x7_2 + 1))) = some r := jT hy210 H
           have Ny210 := akk hy210
           clear hy210
           have H' := akk H
           clear H
           obtain ⟨ad205, A205_0, c205_0, rfl, hx205_0, HL205_0, HR205_0, HC205_0, p205, q205⟩ := gV5 HO_0 x7_2
           go_wp2_with ((with_reducible refine gA #[.tmp 46, .tmp 48] rfl ?_); (try (refine gate_guard (by rfl) ?_; dsimp only)); at_builtin; refine Kd.N_append (Kd.slice 39 k39) (w0 := w) w.heap.size rfl (.tmp 46) (.tmp 48) 22 29 (.slice none 0 0) 24 rfl Tryz.underlying22 info29 rfl (by decide) (by omega) u6 x6_2 ([] : List (S39)) [.slice none 0 0] (fun k_ => ((P0_ k_ ∨ P1_ k_) ∨ w.heap.size ≤ k_)) (fun k_ => ((fun k_ => ((P0_ k_ ∨ P1_ k_) ∨ w.heap.size ≤ k_))) k_ ∧ some k_ ≠ (u6 : Value).ownBlock) rfl rfl ?aP (fun _ hk => hk) ?aF ?aO ?aB ?aS ?aL ?_; (case aP => exact (Kd.FK_slice_mk (Nat.le_refl _) (Kd.F_nil _ _ _))); (case aB => exact bT); (case aF => exact (fun k_ hk => (.inr (Nat.le_trans (below_size bT) hk)))); (case aO => exact (nT HO_6.out)); (case aS => exact (below_size bT)); (case aL => have := LMc21.out; omega); intro v211 w22 ho hb hg hat; rw [← Ny210.out] at ho; replace HO_0 := va HO_0 hg hat; replace HO_1 := va HO_1 hg hat; replace HL205_0 := va HL205_0 hg hat; replace HB := akk (hb); have HO212 := akk (ho); clear HO_6; clear ho hb hg hat)
           go_roundg k2
           case measure => have := HJ2.out; have := HK2.out; omega
           case rel => exact ⟨(y210), (wrap64 (x7_2 + 1)), eT, H', ⟨by have := HJ2.out; have := HK2.out; omega⟩, ⟨vT HO_0.out⟩, ⟨vT HO_1.out⟩, ⟨nT HO212.out⟩, ⟨bT⟩⟩
          ·rw [if_neg c21] at H
           exact absurd H (by simp)
        ·rw [if_neg c17] at H
         exact absurd H (by simp)
       ·rw [if_neg c16] at H
        have c16b0 := decide_eq_false c16
        clear c16
        by_cases c23 : x6_2.length < 5864062014805
        ·rw [if_pos c23] at H
         have LMc23 := akk c23
         clear c23
         obtain ⟨y213, hy213⟩ : ∃ y_ : T2, y_ = (x6_2 ++ [([] : List (S39))]) := ⟨_, rfl⟩
         replace H : (r27_Union.l0 k2 l0 l1 x5_2 y213 (wrap64 (x7_2 + 1))) = some r := jT hy213 H
         have Ny213 := akk hy213
         clear hy213
         have H' := akk H
         clear H
         go_wp2_with ((with_reducible refine gA #[.tmp 46, .tmp 48] rfl ?_); (try (refine gate_guard (by rfl) ?_; dsimp only)); at_builtin; refine Kd.N_append (Kd.slice 39 k39) (w0 := w) w.heap.size rfl (.tmp 46) (.tmp 48) 22 29 (.slice none 0 0) 24 rfl Tryz.underlying22 info29 rfl (by decide) (by omega) u6 x6_2 ([] : List (S39)) [.slice none 0 0] (fun k_ => ((P0_ k_ ∨ P1_ k_) ∨ w.heap.size ≤ k_)) (fun k_ => ((fun k_ => ((P0_ k_ ∨ P1_ k_) ∨ w.heap.size ≤ k_))) k_ ∧ some k_ ≠ (u6 : Value).ownBlock) rfl rfl ?aP (fun _ hk => hk) ?aF ?aO ?aB ?aS ?aL ?_; (case aP => exact (Kd.FK_slice_mk (Nat.le_refl _) (Kd.F_nil _ _ _))); (case aB => exact bT); (case aF => exact (fun k_ hk => (.inr (Nat.le_trans (below_size bT) hk)))); (case aO => exact (nT HO_6.out)); (case aS => exact (below_size bT)); (case aL => have := LMc23.out; omega); intro v214 w24 ho hb hg hat; rw [← Ny213.out] at ho; replace HO_0 := va HO_0 hg hat; replace HO_1 := va HO_1 hg hat; replace HB := akk (hb); have HO215 := akk (ho); clear HO_6; clear ho hb hg hat)
         go_roundg k2
         case measure => have := HJ2.out; have := HK2.out; omega
         case rel => exact ⟨(y213), (wrap64 (x7_2 + 1)), eT, H', ⟨by have := HJ2.out; have := HK2.out; omega⟩, ⟨vT HO_0.out⟩, ⟨vT HO_1.out⟩, ⟨nT HO215.out⟩, ⟨bT⟩⟩
        ·rw [if_neg c23] at H
         exact absurd H (by simp)
     ·rw [if_neg c5] at H
      have c5b0 := decide_eq_false c5
      clear c5
      obtain rfl := Option.some.inj H
      go_wp2
      go_ret
      exact ⟨_, fT, nT' HO_6.out, bT⟩
def r22_Holds.f (l0 : List (S53)) (l1 : T2) : Option (Bool × Int) := holdsF l0 l1
theorem r22_Holds.calls (A0 : Option Addr) (c0 : Nat) (l0 : List (S53)) (A1 : Option Addr) (c1 : Nat) (l1 : T2) (r1 : Bool) (r2 : Int) (w : World) (hr0 : Kd.C k53 w A0 l0.length l0) (hc0 : l0.length ≤ c0) (hr1 : Kd.C (Kd.slice 39 k39) w A1 l1.length l1) (hc1 : l1.length ≤ c1) (h : r22_Holds.f l0 l1 = some (r1, r2)) :
 Calls Tryz.prog 40 #[.slice A0 l0.length c0, .slice A1 l1.length c1] w fun e w' => e = .returned (.tuple #[.bool r1, .int .i64 r2]) ∧ Below w.heap.size w w' := by
 unfold r22_Holds.f holdsF at h
 split at h
 ·rename_i hc
  simp only [Bool.and_eq_true] at hc
  obtain ⟨D, hx⟩ := exs_of hr0 hc0 hc.1
  obtain ⟨R, hR, hRl⟩ := rows_of hr1 hc1 hc.2
  have hE := RHolds_any D _ _ _ _ A1 _ c1 R w hx hR
  rw [hRl] at hE
  simp only [Option.some.injEq, Prod.mk.injEq] at h
  obtain ⟨rfl, rfl⟩ := h
  exact hE
 ·cases h
end Go.Proofs.YtgmolmpfihkolaaGreat.Pj
