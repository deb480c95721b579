/- Part of the proof. -/
import Derived.Test.YtgmolmpfihkolaaGreatK20
namespace Go.Proofs.YtgmolmpfihkolaaGreat.Pj
open Go.RowKit Go.Proofs.YtgmolmpfihkolaaGreatW.PrintWords Go.Proofs.YtgmolmpfihkolaaGreatW.PrintLast Go.Proofs.YtgmolmpfihkolaaGreatW.PrintMore
attribute [local go_sem] run_store_flt max2_int min2_int max_two min_two max_three min_three max_four min_four
set_option linter.unusedVariables false
set_option linter.unusedSimpArgs false
mutual
def r27_Union.j0 : Nat → T2 → T2 → Int → Option (T2)
 | 0, _, _, _ => none
 | k + 1, x0, x1, x5 => r27_Union.l0 k x0 x1 x5 ([] : T2) 0
def r27_Union.l0 : Nat → T2 → T2 → Int → T2 → Int → Option (T2)
 | 0, _, _, _, _, _ => none
 | k + 1, x0, x1, x5, x6, x7 => if x7 < x5 then (if x7 < (x1.length : Int) then (if 0 ≤ x7 then (if x7 < (x0.length : Int) then (if ((rd_L5 x0 x7).length : Int) > 0 then (if x6.length < 5864062014805 then (r27_Union.l0 k x0 x1 x5 (x6 ++ [rd_L5 x0 x7]) (wrap64 (x7 + 1))) else (none)) else (if x6.length < 5864062014805 then (r27_Union.l0 k x0 x1 x5 (x6 ++ [rd_L5 x1 x7]) (wrap64 (x7 + 1))) else (none))) else (if x6.length < 5864062014805 then (r27_Union.l0 k x0 x1 x5 (x6 ++ [rd_L5 x1 x7]) (wrap64 (x7 + 1))) else (none))) else (none)) else (if x7 < (x0.length : Int) then (if 0 ≤ x7 then (if ((rd_L5 x0 x7).length : Int) > 0 then (if x6.length < 5864062014805 then (r27_Union.l0 k x0 x1 x5 (x6 ++ [rd_L5 x0 x7]) (wrap64 (x7 + 1))) else (none)) else (if x6.length < 5864062014805 then (r27_Union.l0 k x0 x1 x5 (x6 ++ [([] : List (S39))]) (wrap64 (x7 + 1))) else (none))) else (none)) else (if x6.length < 5864062014805 then (r27_Union.l0 k x0 x1 x5 (x6 ++ [([] : List (S39))]) (wrap64 (x7 + 1))) else (none)))) else (some x6)
end
def r27_Union.f (k : Nat) (l0 : T2) (l1 : T2) : Option (T2) := if (l1.length : Int) > (l0.length : Int) then (r27_Union.j0 k l0 l1 (l1.length : Int)) else (r27_Union.j0 k l0 l1 (l0.length : Int))
set_option maxHeartbeats 8000000 in
set_option maxRecDepth 100000 in
theorem r27_Union.calls (k : Nat) (P0_ : Nat → Prop) (A0 : Option Addr) (c0 : Nat) (l0 : T2) (P1_ : Nat → Prop) (A1 : Option Addr) (c1 : Nat) (l1 : T2) (r : T2) (w : World) (hs0 : Kd.V (Kd.slice 39 k39) 29 w w.heap.size (fun k_ => P0_ k_) (.slice A0 l0.length c0) l0) (hs1 : Kd.V (Kd.slice 39 k39) 29 w w.heap.size (fun k_ => P1_ k_) (.slice A1 l1.length c1) l1) (h : r27_Union.f k l0 l1 = some r) :
 Calls Tryz.prog 11 #[.slice A0 l0.length c0, .slice A1 l1.length c1] w fun e w' => ∃ v0_ : Value, e = .returned (v0_) ∧ Kd.N (Kd.slice 39 k39) 29 w' w.heap.size (fun k_ => ((P0_ k_ ∨ P1_ k_) ∨ w.heap.size ≤ k_)) v0_ r ∧ Below w.heap.size w w' := by
 have HO0 := akk (show Kd.V (Kd.slice 39 k39) 29 w w.heap.size (fun k_ => ((P0_ k_ ∨ P1_ k_) ∨ w.heap.size ≤ k_)) (.slice A0 l0.length c0) l0 from Kd.V_mono hs0 (fun k_ hk => .inl (.inl hk)))
 have HO1 := akk (show Kd.V (Kd.slice 39 k39) 29 w w.heap.size (fun k_ => ((P0_ k_ ∨ P1_ k_) ∨ w.heap.size ≤ k_)) (.slice A1 l1.length c1) l1 from Kd.V_mono hs1 (fun k_ hk => .inl (.inr hk)))
 have HB := akk (Below.refl w.heap.size w)
 have H : (if (l1.length : Int) > (l0.length : Int) then (r27_Union.j0 k l0 l1 (l1.length : Int)) else (r27_Union.j0 k l0 l1 (l0.length : Int))) = some r := h
 clear h
 have HC3 := akk H
 clear H
 go_enter Tryz.func11, Tryz.ntmps11
 go_upto_if 14 with (fail)
 go_cut [5] (fun v5 wc => ∃ (kq : Nat) (x5_2 : Int), v5 = .int .i64 x5_2 ∧ Aside0 (r27_Union.j0 kq l0 l1 x5_2 = some r) ∧ Aside0 (kq ≤ k) ∧ Aside0 (Kd.V (Kd.slice 39 k39) 29 wc w.heap.size (fun k_ => ((P0_ k_ ∨ P1_ k_) ∨ w.heap.size ≤ k_)) (.slice A0 l0.length c0) l0) ∧ Aside0 (Kd.V (Kd.slice 39 k39) 29 wc w.heap.size (fun k_ => ((P0_ k_ ∨ P1_ k_) ∨ w.heap.size ≤ k_)) (.slice A1 l1.length c1) l1) ∧ Aside0 (Below w.heap.size w wc))
 case first =>
  have H := HC3.out
  clear HC3
  by_cases c4 : (l1.length : Int) > (l0.length : Int)
  ·rw [if_pos c4] at H
   have c4b0 := decide_eq_true c4
   have c4b1 : decide (l0.length < l1.length) = true := decide_eq_true (Int.ofNat_lt.mp c4)
   have c4b2 : l0.length < l1.length := Int.ofNat_lt.mp c4
   clear c4
   (first | rw [c4b0] | (simp only [i64_w, i32_w]; rw [c4b0]) | skip)
   have H' := akk H
   clear H
   go_wp2
   go_meet
   case rel => exact ⟨_, ((l1.length : Int)), eT, H', ⟨by first | omega | exact Nat.le_refl _⟩, ⟨vT HO0.out⟩, ⟨vT HO1.out⟩, ⟨bT⟩⟩
  ·rw [if_neg c4] at H
   have c4b0 := decide_eq_false c4
   have c4b1 : decide (l0.length < l1.length) = false := decide_eq_false (fun h => c4 (Int.ofNat_lt.mpr h))
   have c4b2 : ¬ (l0.length < l1.length) := fun h => c4 (Int.ofNat_lt.mpr h)
   clear c4
   (first | rw [c4b0] | (simp only [i64_w, i32_w]; rw [c4b0]) | skip)
   have H' := akk H
   clear H
   go_wp2
   go_meet
   case rel => exact ⟨_, ((l0.length : Int)), eT, H', ⟨by first | omega | exact Nat.le_refl _⟩, ⟨vT HO0.out⟩, ⟨vT HO1.out⟩, ⟨bT⟩⟩
 case rest =>
  clear HC3
  try clear c1
  obtain ⟨kq, x5_2, rfl, HA, HJ2, HO_0, HO_1, HB⟩ := hcut
  cases kq with
  | zero => exact absurd HA.out (by simp [r27_Union.j0])
  | succ kj2 =>
   have H := HA.out
   clear HA
   simp only [r27_Union.j0] at H
   have H' := akk H
   clear H
   go_wp2
   go_loopg [6, 7] kj2 (fun kq v6 v7 w' => ∃ (x6_2 : T2) (x7_2 : Int), v7 = .int .i64 x7_2 ∧ Aside0 (r27_Union.l0 kq l0 l1 x5_2 x6_2 x7_2 = some r) ∧ Aside0 (kq ≤ kj2) ∧ Aside0 (Kd.V (Kd.slice 39 k39) 29 w' w.heap.size (fun k_ => ((P0_ k_ ∨ P1_ k_) ∨ w.heap.size ≤ k_) ∧ some k_ ≠ (v6 : Value).ownBlock) (.slice A0 l0.length c0) l0) ∧ Aside0 (Kd.V (Kd.slice 39 k39) 29 w' w.heap.size (fun k_ => ((P0_ k_ ∨ P1_ k_) ∨ w.heap.size ≤ k_) ∧ some k_ ≠ (v6 : Value).ownBlock) (.slice A1 l1.length c1) l1) ∧ Aside0 (Kd.N (Kd.slice 39 k39) 29 w' w.heap.size (fun k_ => ((P0_ k_ ∨ P1_ k_) ∨ w.heap.size ≤ k_)) v6 x6_2) ∧ Aside0 (Below w.heap.size w w'))
   case atStart => exact ⟨(([] : T2)), (0), eT, H', ⟨Nat.le_refl _⟩, ⟨vT' (Kd.V_mono HO_0.out (fun _ hk => ⟨hk, (by simp [Value.ownBlock])⟩))⟩, ⟨vT' (Kd.V_mono HO_1.out (fun _ hk => ⟨hk, (by simp [Value.ownBlock])⟩))⟩, ⟨by first | exact Kd.S_nil _ _ _ _ _ | exact Kd.N_nil _ _ _ _ _ | exact Kd.V_nil _ _ _ _ _ | exact Kd.Q_nil _ _ _ _ _ | exact Kd.R_nil _ _ _ _ _⟩, ⟨bT⟩⟩
   case round =>
    clear H'
    obtain ⟨x6_2, x7_2, rfl, HA, HK2, HO_0, HO_1, HO_6, HB⟩ := hrel
    cases gk with
    | zero => exact absurd HA.out (by simp [r27_Union.l0])
    | succ k2 =>
     have H := HA.out
     clear HA
     simp only [r27_Union.l0] at H
     by_cases c5 : x7_2 < x5_2
     ·rw [if_pos c5] at H
      have c5b0 := decide_eq_true c5
      clear c5
      by_cases c6 : x7_2 < (l1.length : Int)
      ·rw [if_pos c6] at H
       have c6b0 := decide_eq_true c6
       clear c6
       by_cases c7 : 0 ≤ x7_2
       ·rw [if_pos c7] at H
        have c7b0 := decide_eq_true c7
        clear c7
        by_cases c8 : x7_2 < (l0.length : Int)
        ·rw [if_pos c8] at H
         have c8b0 := decide_eq_true c8
         clear c8
         by_cases c9 : ((rd_L5 l0 x7_2).length : Int) > 0
         ·rw [if_pos c9] at H
          have c9b0 := decide_eq_true c9
          have c9b1 : decide (0 < (rd_L5 l0 x7_2).length) = true := decide_eq_true (by omega)
          clear c9
          by_cases c10 : x6_2.length < 5864062014805
          ·rw [if_pos c10] at H
           have LMc10 := akk c10
           clear c10
           obtain ⟨y196, hy196⟩ : ∃ y_ : T2, y_ = (x6_2 ++ [rd_L5 l0 x7_2]) := ⟨_, rfl⟩
           replace H : (r27_Union.l0 k2 l0 l1 x5_2 y196 (wrap64 (x7_2 + 1))) = some r := jT hy196 H
           have Ny196 := akk hy196
           clear hy196
           have H' := akk H
           clear H
           obtain ⟨ad193, A193_0, c193_0, rfl, hx193_0, HL193_0, HR193_0, HC193_0, p193, q193⟩ := gV5 HO_1 x7_2
           obtain ⟨ad194, A194_0, c194_0, rfl, hx194_0, HL194_0, HR194_0, HC194_0, p194, q194⟩ := gV5 HO_0 x7_2
           obtain ⟨ad195, A195_0, c195_0, e195, hx195_0, HL195_0, HR195_0, HC195_0, p195, q195⟩ := gV5 HO_0 x7_2
           obtain rfl : ad194 = ad195 := (by injection e195)
           have ea_ := Option.some.inj (hx194_0.symm.trans hx195_0)
           injection ea_ with ea_ en_ ec_
           subst ea_
           subst ec_
           clear en_
           go_wp2_with ((with_reducible refine gA #[.tmp 46, .tmp 48] rfl ?_); (try (refine gate_guard (by rfl) ?_; dsimp only)); at_builtin; refine Kd.N_append (Kd.slice 39 k39) (w0 := w) w.heap.size rfl (.tmp 46) (.tmp 48) 22 29 (.slice none 0 0) 24 rfl Tryz.underlying22 info29 rfl (by decide) (by omega) u6 x6_2 (rd_L5 l0 x7_2) [.slice A194_0 (rd_L5 l0 x7_2).length c194_0] (fun k_ => ((P0_ k_ ∨ P1_ k_) ∨ w.heap.size ≤ k_)) (fun k_ => ((fun k_ => ((P0_ k_ ∨ P1_ k_) ∨ w.heap.size ≤ k_))) k_ ∧ some k_ ≠ (u6 : Value).ownBlock) rfl rfl ?aP (fun _ hk => hk) ?aF ?aO ?aB ?aS ?aL ?_; (case aP => exact (Kd.FK_slice_mk (Kd.V_reads' (Kd.V_mono (ok' := (fun k_ => ((fun k_ => ((P0_ k_ ∨ P1_ k_) ∨ w.heap.size ≤ k_))) k_ ∧ some k_ ≠ (u6 : Value).ownBlock)) (HL195_0.out) (fun k_ hk => ⟨hk.1, hk.2⟩))).2.1 (Kd.V_F (Kd.V_mono (ok' := (fun k_ => ((fun k_ => ((P0_ k_ ∨ P1_ k_) ∨ w.heap.size ≤ k_))) k_ ∧ some k_ ≠ (u6 : Value).ownBlock)) (HL195_0.out) (fun k_ hk => ⟨hk.1, hk.2⟩))))); (case aB => exact bT); (case aF => exact (fun k_ hk => (.inr (Nat.le_trans (below_size bT) hk)))); (case aO => exact (nT HO_6.out)); (case aS => exact (below_size bT)); (case aL => have := LMc10.out; omega); intro v197 w11 ho hb hg hat; rw [← Ny196.out] at ho; replace HO_0 := va HO_0 hg hat; replace HO_1 := va HO_1 hg hat; replace HL193_0 := va HL193_0 hg hat; replace HL194_0 := va HL194_0 hg hat; replace HL195_0 := va HL195_0 hg hat; replace HB := akk (hb); have HO198 := akk (ho); clear HO_6; clear ho hb hg hat)
           go_roundg k2
           case measure => have := HJ2.out; have := HK2.out; omega
           case rel => exact ⟨(y196), (wrap64 (x7_2 + 1)), eT, H', ⟨by have := HJ2.out; have := HK2.out; omega⟩, ⟨vT HO_0.out⟩, ⟨vT HO_1.out⟩, ⟨nT HO198.out⟩, ⟨bT⟩⟩
          ·rw [if_neg c10] at H
           exact absurd H (by simp)
         ·rw [if_neg c9] at H
          have c9b0 := decide_eq_false c9
          have c9b1 : decide (0 < (rd_L5 l0 x7_2).length) = false := decide_eq_false (by omega)
          clear c9
          by_cases c12 : x6_2.length < 5864062014805
          ·rw [if_pos c12] at H
           have LMc12 := akk c12
           clear c12
           obtain ⟨y199, hy199⟩ : ∃ y_ : T2, y_ = (x6_2 ++ [rd_L5 l1 x7_2]) := ⟨_, rfl⟩
           replace H : (r27_Union.l0 k2 l0 l1 x5_2 y199 (wrap64 (x7_2 + 1))) = some r := jT hy199 H
           have Ny199 := akk hy199
           clear hy199
           have H' := akk H
           clear H
           obtain ⟨ad193, A193_0, c193_0, rfl, hx193_0, HL193_0, HR193_0, HC193_0, p193, q193⟩ := gV5 HO_1 x7_2
           obtain ⟨ad194, A194_0, c194_0, rfl, hx194_0, HL194_0, HR194_0, HC194_0, p194, q194⟩ := gV5 HO_0 x7_2
           go_wp2_with ((with_reducible refine gA #[.tmp 46, .tmp 48] rfl ?_); (try (refine gate_guard (by rfl) ?_; dsimp only)); at_builtin; refine Kd.N_append (Kd.slice 39 k39) (w0 := w) w.heap.size rfl (.tmp 46) (.tmp 48) 22 29 (.slice none 0 0) 24 rfl Tryz.underlying22 info29 rfl (by decide) (by omega) u6 x6_2 (rd_L5 l1 x7_2) [.slice A193_0 (rd_L5 l1 x7_2).length c193_0] (fun k_ => ((P0_ k_ ∨ P1_ k_) ∨ w.heap.size ≤ k_)) (fun k_ => ((fun k_ => ((P0_ k_ ∨ P1_ k_) ∨ w.heap.size ≤ k_))) k_ ∧ some k_ ≠ (u6 : Value).ownBlock) rfl rfl ?aP (fun _ hk => hk) ?aF ?aO ?aB ?aS ?aL ?_; (case aP => exact (Kd.FK_slice_mk (Kd.V_reads' (Kd.V_mono (ok' := (fun k_ => ((fun k_ => ((P0_ k_ ∨ P1_ k_) ∨ w.heap.size ≤ k_))) k_ ∧ some k_ ≠ (u6 : Value).ownBlock)) (HL193_0.out) (fun k_ hk => ⟨hk.1, hk.2⟩))).2.1 (Kd.V_F (Kd.V_mono (ok' := (fun k_ => ((fun k_ => ((P0_ k_ ∨ P1_ k_) ∨ w.heap.size ≤ k_))) k_ ∧ some k_ ≠ (u6 : Value).ownBlock)) (HL193_0.out) (fun k_ hk => ⟨hk.1, hk.2⟩))))); (case aB => exact bT); (case aF => exact (fun k_ hk => (.inr (Nat.le_trans (below_size bT) hk)))); (case aO => exact (nT HO_6.out)); (case aS => exact (below_size bT)); (case aL => have := LMc12.out; omega); intro v200 w13 ho hb hg hat; rw [← Ny199.out] at ho; replace HO_0 := va HO_0 hg hat; replace HO_1 := va HO_1 hg hat; replace HL193_0 := va HL193_0 hg hat; replace HL194_0 := va HL194_0 hg hat; replace HB := akk (hb); have HO201 := akk (ho); clear HO_6; clear ho hb hg hat)
           go_roundg k2
           case measure => have := HJ2.out; have := HK2.out; omega
           case rel => exact ⟨(y199), (wrap64 (x7_2 + 1)), eT, H', ⟨by have := HJ2.out; have := HK2.out; omega⟩, ⟨vT HO_0.out⟩, ⟨vT HO_1.out⟩, ⟨nT HO201.out⟩, ⟨bT⟩⟩
          ·rw [if_neg c12] at H
           exact absurd H (by simp)
        ·rw [if_neg c8] at H
         have c8b0 := decide_eq_false c8
         clear c8
         by_cases c14 : x6_2.length < 5864062014805
         ·rw [if_pos c14] at H
          have LMc14 := akk c14
          clear c14
          obtain ⟨y202, hy202⟩ : ∃ y_ : T2, y_ = (x6_2 ++ [rd_L5 l1 x7_2]) := ⟨_, rfl⟩
          replace H : (r27_Union.l0 k2 l0 l1 x5_2 y202 (wrap64 (x7_2 + 1))) = some r := jT hy202 H
          have Ny202 := akk hy202
          clear hy202
          have H' := akk H
          clear H
          obtain ⟨ad193, A193_0, c193_0, rfl, hx193_0, HL193_0, HR193_0, HC193_0, p193, q193⟩ := gV5 HO_1 x7_2
          go_wp2_with ((with_reducible refine gA #[.tmp 46, .tmp 48] rfl ?_); (try (refine gate_guard (by rfl) ?_; dsimp only)); at_builtin; refine Kd.N_append (Kd.slice 39 k39) (w0 := w) w.heap.size rfl (.tmp 46) (.tmp 48) 22 29 (.slice none 0 0) 24 rfl Tryz.underlying22 info29 rfl (by decide) (by omega) u6 x6_2 (rd_L5 l1 x7_2) [.slice A193_0 (rd_L5 l1 x7_2).length c193_0] (fun k_ => ((P0_ k_ ∨ P1_ k_) ∨ w.heap.size ≤ k_)) (fun k_ => ((fun k_ => ((P0_ k_ ∨ P1_ k_) ∨ w.heap.size ≤ k_))) k_ ∧ some k_ ≠ (u6 : Value).ownBlock) rfl rfl ?aP (fun _ hk => hk) ?aF ?aO ?aB ?aS ?aL ?_; (case aP => exact (Kd.FK_slice_mk (Kd.V_reads' (Kd.V_mono (ok' := (fun k_ => ((fun k_ => ((P0_ k_ ∨ P1_ k_) ∨ w.heap.size ≤ k_))) k_ ∧ some k_ ≠ (u6 : Value).ownBlock)) (HL193_0.out) (fun k_ hk => ⟨hk.1, hk.2⟩))).2.1 (Kd.V_F (Kd.V_mono (ok' := (fun k_ => ((fun k_ => ((P0_ k_ ∨ P1_ k_) ∨ w.heap.size ≤ k_))) k_ ∧ some k_ ≠ (u6 : Value).ownBlock)) (HL193_0.out) (fun k_ hk => ⟨hk.1, hk.2⟩))))); (case aB => exact bT); (case aF => exact (fun k_ hk => (.inr (Nat.le_trans (below_size bT) hk)))); (case aO => exact (nT HO_6.out)); (case aS => exact (below_size bT)); (case aL => have := LMc14.out; omega); intro v203 w15 ho hb hg hat; rw [← Ny202.out] at ho; replace HO_0 := va HO_0 hg hat; replace HO_1 := va HO_1 hg hat; replace HL193_0 := va HL193_0 hg hat; replace HB := akk (hb); have HO204 := akk (ho); clear HO_6; clear ho hb hg hat)
          go_roundg k2
          case measure => have := HJ2.out; have := HK2.out; omega
          case rel => exact ⟨(y202), (wrap64 (x7_2 + 1)), eT, H', ⟨by have := HJ2.out; have := HK2.out; omega⟩, ⟨vT HO_0.out⟩, ⟨vT HO_1.out⟩, ⟨nT HO204.out⟩, ⟨bT⟩⟩
         ·rw [if_neg c14] at H
          exact absurd H (by simp)
       ·rw [if_neg c7] at H
        exact absurd H (by simp)
      ·rw [if_neg c6] at H
       have c6b0 := decide_eq_false c6
       clear c6
       by_cases c16 : x7_2 < (l0.length : Int)
       ·rw [if_pos c16] at H
        have c16b0 := decide_eq_true c16
        clear c16
        by_cases c17 : 0 ≤ x7_2
        ·rw [if_pos c17] at H
         have c17b0 := decide_eq_true c17
         clear c17
         by_cases c18 : ((rd_L5 l0 x7_2).length : Int) > 0
         ·rw [if_pos c18] at H
          have c18b0 := decide_eq_true c18
          have c18b1 : decide (0 < (rd_L5 l0 x7_2).length) = true := decide_eq_true (by omega)
          clear c18
          by_cases c19 : x6_2.length < 5864062014805
          ·rw [if_pos c19] at H
           have LMc19 := akk c19
           clear c19
           obtain ⟨y207, hy207⟩ : ∃ y_ : T2, y_ = (x6_2 ++ [rd_L5 l0 x7_2]) := ⟨_, rfl⟩
           replace H : (r27_Union.l0 k2 l0 l1 x5_2 y207 (wrap64 (x7_2 + 1))) = some r := jT hy207 H
           have Ny207 := akk hy207
           clear hy207
           have H' := akk H
           clear H
           obtain ⟨ad205, A205_0, c205_0, rfl, hx205_0, HL205_0, HR205_0, HC205_0, p205, q205⟩ := gV5 HO_0 x7_2
           obtain ⟨ad206, A206_0, c206_0, e206, hx206_0, HL206_0, HR206_0, HC206_0, p206, q206⟩ := gV5 HO_0 x7_2
           obtain rfl : ad205 = ad206 := (by injection e206)
           have ea_ := Option.some.inj (hx205_0.symm.trans hx206_0)
           injection ea_ with ea_ en_ ec_
           subst ea_
           subst ec_
           clear en_
           go_wp2_with ((with_reducible refine gA #[.tmp 46, .tmp 48] rfl ?_); (try (refine gate_guard (by rfl) ?_; dsimp only)); at_builtin; refine Kd.N_append (Kd.slice 39 k39) (w0 := w) w.heap.size rfl (.tmp 46) (.tmp 48) 22 29 (.slice none 0 0) 24 rfl Tryz.underlying22 info29 rfl (by decide) (by omega) u6 x6_2 (rd_L5 l0 x7_2) [.slice A205_0 (rd_L5 l0 x7_2).length c205_0] (fun k_ => ((P0_ k_ ∨ P1_ k_) ∨ w.heap.size ≤ k_)) (fun k_ => ((fun k_ => ((P0_ k_ ∨ P1_ k_) ∨ w.heap.size ≤ k_))) k_ ∧ some k_ ≠ (u6 : Value).ownBlock) rfl rfl ?aP (fun _ hk => hk) ?aF ?aO ?aB ?aS ?aL ?_; (case aP => exact (Kd.FK_slice_mk (Kd.V_reads' (Kd.V_mono (ok' := (fun k_ => ((fun k_ => ((P0_ k_ ∨ P1_ k_) ∨ w.heap.size ≤ k_))) k_ ∧ some k_ ≠ (u6 : Value).ownBlock)) (HL206_0.out) (fun k_ hk => ⟨hk.1, hk.2⟩))).2.1 (Kd.V_F (Kd.V_mono (ok' := (fun k_ => ((fun k_ => ((P0_ k_ ∨ P1_ k_) ∨ w.heap.size ≤ k_))) k_ ∧ some k_ ≠ (u6 : Value).ownBlock)) (HL206_0.out) (fun k_ hk => ⟨hk.1, hk.2⟩))))); (case aB => exact bT); (case aF => exact (fun k_ hk => (.inr (Nat.le_trans (below_size bT) hk)))); (case aO => exact (nT HO_6.out)); (case aS => exact (below_size bT)); (case aL => have := LMc19.out; omega); intro v208 w20 ho hb hg hat; rw [← Ny207.out] at ho; replace HO_0 := va HO_0 hg hat; replace HO_1 := va HO_1 hg hat; replace HL205_0 := va HL205_0 hg hat; replace HL206_0 := va HL206_0 hg hat; replace HB := akk (hb); have HO209 := akk (ho); clear HO_6; clear ho hb hg hat)
           go_roundg k2
           case measure => have := HJ2.out; have := HK2.out; omega
           case rel => exact ⟨(y207), (wrap64 (x7_2 + 1)), eT, H', ⟨by have := HJ2.out; have := HK2.out; omega⟩, ⟨vT HO_0.out⟩, ⟨vT HO_1.out⟩, ⟨nT HO209.out⟩, ⟨bT⟩⟩
          ·rw [if_neg c19] at H
           exact absurd H (by simp)
         ·rw [if_neg c18] at H
          have c18b0 := decide_eq_false c18
          have c18b1 : decide (0 < (rd_L5 l0 x7_2).length) = false := decide_eq_false (by omega)
          clear c18
          by_cases c21 : x6_2.length < 5864062014805
          ·rw [if_pos c21] at H
           have LMc21 := akk c21
           clear c21
           obtain ⟨y210, hy210⟩ : ∃ y_ : T2, y_ = (x6_2 ++ [([] : List (S39))]) := ⟨_, rfl⟩
           replace H : (r27_Union.l0 k2 l0 l1 x5_2 y210 (wrap64 (x7_2 + 1))) = some r := jT hy210 H
           have Ny210 := akk hy210
           clear hy210
           have H' := akk H
           clear H
           obtain ⟨ad205, A205_0, c205_0, rfl, hx205_0, HL205_0, HR205_0, HC205_0, p205, q205⟩ := gV5 HO_0 x7_2
           go_wp2_with ((with_reducible refine gA #[.tmp 46, .tmp 48] rfl ?_); (try (refine gate_guard (by rfl) ?_; dsimp only)); at_builtin; refine Kd.N_append (Kd.slice 39 k39) (w0 := w) w.heap.size rfl (.tmp 46) (.tmp 48) 22 29 (.slice none 0 0) 24 rfl Tryz.underlying22 info29 rfl (by decide) (by omega) u6 x6_2 ([] : List (S39)) [.slice none 0 0] (fun k_ => ((P0_ k_ ∨ P1_ k_) ∨ w.heap.size ≤ k_)) (fun k_ => ((fun k_ => ((P0_ k_ ∨ P1_ k_) ∨ w.heap.size ≤ k_))) k_ ∧ some k_ ≠ (u6 : Value).ownBlock) rfl rfl ?aP (fun _ hk => hk) ?aF ?aO ?aB ?aS ?aL ?_; (case aP => exact (Kd.FK_slice_mk (Nat.le_refl _) (Kd.F_nil _ _ _))); (case aB => exact bT); (case aF => exact (fun k_ hk => (.inr (Nat.le_trans (below_size bT) hk)))); (case aO => exact (nT HO_6.out)); (case aS => exact (below_size bT)); (case aL => have := LMc21.out; omega); intro v211 w22 ho hb hg hat; rw [← Ny210.out] at ho; replace HO_0 := va HO_0 hg hat; replace HO_1 := va HO_1 hg hat; replace HL205_0 := va HL205_0 hg hat; replace HB := akk (hb); have HO212 := akk (ho); clear HO_6; clear ho hb hg hat)
           go_roundg k2
           case measure => have := HJ2.out; have := HK2.out; omega
           case rel => exact ⟨(y210), (wrap64 (x7_2 + 1)), eT, H', ⟨by have := HJ2.out; have := HK2.out; omega⟩, ⟨vT HO_0.out⟩, ⟨vT HO_1.out⟩, ⟨nT HO212.out⟩, ⟨bT⟩⟩
          ·rw [if_neg c21] at H
           exact absurd H (by simp)
        ·rw [if_neg c17] at H
         exact absurd H (by simp)
       ·rw [if_neg c16] at H
        have c16b0 := decide_eq_false c16
        clear c16
        by_cases c23 : x6_2.length < 5864062014805
        ·rw [if_pos c23] at H
         have LMc23 := akk c23
         clear c23
         obtain ⟨y213, hy213⟩ : ∃ y_ : T2, y_ = (x6_2 ++ [([] : List (S39))]) := ⟨_, rfl⟩
         replace H : (r27_Union.l0 k2 l0 l1 x5_2 y213 (wrap64 (x7_2 + 1))) = some r := jT hy213 H
         have Ny213 := akk hy213
         clear hy213
         have H' := akk H
         clear H
         go_wp2_with ((with_reducible refine gA #[.tmp 46, .tmp 48] rfl ?_); (try (refine gate_guard (by rfl) ?_; dsimp only)); at_builtin; refine Kd.N_append (Kd.slice 39 k39) (w0 := w) w.heap.size rfl (.tmp 46) (.tmp 48) 22 29 (.slice none 0 0) 24 rfl Tryz.underlying22 info29 rfl (by decide) (by omega) u6 x6_2 ([] : List (S39)) [.slice none 0 0] (fun k_ => ((P0_ k_ ∨ P1_ k_) ∨ w.heap.size ≤ k_)) (fun k_ => ((fun k_ => ((P0_ k_ ∨ P1_ k_) ∨ w.heap.size ≤ k_))) k_ ∧ some k_ ≠ (u6 : Value).ownBlock) rfl rfl ?aP (fun _ hk => hk) ?aF ?aO ?aB ?aS ?aL ?_; (case aP => exact (Kd.FK_slice_mk (Nat.le_refl _) (Kd.F_nil _ _ _))); (case aB => exact bT); (case aF => exact (fun k_ hk => (.inr (Nat.le_trans (below_size bT) hk)))); (case aO => exact (nT HO_6.out)); (case aS => exact (below_size bT)); (case aL => have := LMc23.out; omega); intro v214 w24 ho hb hg hat; rw [← Ny213.out] at ho; replace HO_0 := va HO_0 hg hat; replace HO_1 := va HO_1 hg hat; replace HB := akk (hb); have HO215 := akk (ho); clear HO_6; clear ho hb hg hat)
         go_roundg k2
         case measure => have := HJ2.out; have := HK2.out; omega
         case rel => exact ⟨(y213), (wrap64 (x7_2 + 1)), eT, H', ⟨by have := HJ2.out; have := HK2.out; omega⟩, ⟨vT HO_0.out⟩, ⟨vT HO_1.out⟩, ⟨nT HO215.out⟩, ⟨bT⟩⟩
        ·rw [if_neg c23] at H
         exact absurd H (by simp)
     ·rw [if_neg c5] at H
      have c5b0 := decide_eq_false c5
      clear c5
      obtain rfl := Option.some.inj H
      go_wp2
      go_ret
      exact ⟨_, fT, nT' HO_6.out, bT⟩
def r04_Exact.f (a0_0 : Int) (a0_1 : Int) (a0_2 : Nat) (a0_3 : ByteArray) (a1_0 : Int) (a1_1 : Int) (a1_2 : Nat) (a1_3 : ByteArray) : Option (Bool) := exactF ⟨a0_0, a0_1, a0_2, a0_3⟩ ⟨a1_0, a1_1, a1_2, a1_3⟩
theorem r04_Exact.calls (a0_0 : Int) (a0_1 : Int) (a0_2 : Nat) (a0_3 : ByteArray) (a1_0 : Int) (a1_1 : Int) (a1_2 : Nat) (a1_3 : ByteArray) (r : Bool) (w : World) (h : r04_Exact.f a0_0 a0_1 a0_2 a0_3 a1_0 a1_1 a1_2 a1_3 = some r) :
 Calls Tryz.prog 38 #[.agg #[.int .i64 a0_0, .int .i64 a0_1, .float .f64 a0_2, .string a0_3], .agg #[.int .i64 a1_0, .int .i64 a1_1, .float .f64 a1_2, .string a1_3]] w fun e w' => e = .returned (.bool r) ∧ Below w.heap.size w w' := by
 unfold r04_Exact.f exactF at h
 split at h
 ·rename_i hc
  simp only [Bool.and_eq_true, decide_eq_true_eq, wfV] at hc
  cases h
  exact Exact_true _ _ hc.1 hc.2.1 hc.2.2 w
 ·cases h
def r05_Exact.l0 : Nat → List (S39) → List (S39) → Int → Option (Bool)
 | 0, _, _, _ => none
 | k + 1, x0, x1, x5 => if x5 < (x0.length : Int) then (if 0 ≤ x5 then (if x5 < (x1.length : Int) then ((r04_Exact.f ((rd_T39 x0 x5).f0) ((rd_T39 x0 x5).f1) ((rd_T39 x0 x5).f2) ((rd_T39 x0 x5).f3) ((rd_T39 x1 x5).f0) ((rd_T39 x1 x5).f1) ((rd_T39 x1 x5).f2) ((rd_T39 x1 x5).f3)).bind fun t228 => (if t228 = true then (r05_Exact.l0 k x0 x1 (wrap64 (x5 + 1))) else (some false))) else (none)) else (none)) else (some true)
def r05_Exact.f (k : Nat) (l0 : List (S39)) (l1 : List (S39)) : Option (Bool) := if (l0.length : Int) = (l1.length : Int) then (r05_Exact.l0 k l0 l1 0) else (some false)
def r05_Exact.T6 : Bool × List (List Nat × List Nat) := (true, [([], []), ([], []), ([0, 1], [0, 1]), ([2], [2]), ([], []), ([], []), ([4, 5], [4, 5]), ([6], [6]), ([3, 7], [3, 7]), ([8], [8])])
def r05_Exact.B6 : List Nat := [0, 0, 3, 7, 0, 0, 48, 112, 255, 511]
theorem r05_Exact.tab6 : rtab .any (opsOf Tryz.f14 6) = r05_Exact.T6 := by kernel_rfl
theorem r05_Exact.bits6 : waitsOk r05_Exact.T6.2 r05_Exact.B6 = true := by kernel_rfl
set_option maxHeartbeats 8000000 in
set_option maxRecDepth 100000 in
theorem r05_Exact.calls (k : Nat) (A0 : Option Addr) (c0 : Nat) (l0 : List (S39)) (A1 : Option Addr) (c1 : Nat) (l1 : List (S39)) (r : Bool) (w : World) (hr0 : Kd.C k39 w A0 l0.length l0) (hc0 : l0.length ≤ c0) (hr1 : Kd.C k39 w A1 l1.length l1) (hc1 : l1.length ≤ c1) (h : r05_Exact.f k l0 l1 = some r) :
 Calls Tryz.prog 14 #[.slice A0 l0.length c0, .slice A1 l1.length c1] w fun e w' => e = .returned (.bool r) ∧ Below w.heap.size w w' := by
 have hu39 := Tryz.underlying39
 have HR0 := akk hr0
 have HC0 := akk hc0
 clear hr0 hc0
 have HR1 := akk hr1
 have HC1 := akk hc1
 clear hr1 hc1
 have HB := akk (Below.refl w.heap.size w)
 have H : (if (l0.length : Int) = (l1.length : Int) then (r05_Exact.l0 k l0 l1 0) else (some false)) = some r := h
 clear h
 by_cases c3 : (l0.length : Int) = (l1.length : Int)
 ·rw [if_pos c3] at H
  have c3b0 : ((l0.length : Int) == (l1.length : Int)) = true := beq_iff_eq.mpr c3
  have c3b1 : ((l0.length : Int) != (l1.length : Int)) = false := bne_eq_false_iff_eq.mpr c3
  have c3b2 : (l0.length == l1.length) = true := by first | simpa using c3 | (simp at c3 ⊢; omega)
  clear c3
  have H' := akk H
  clear H
  go_enter Tryz.func14, Tryz.ntmps14
  go_wp2
  go_loopg [5] k (fun kq v5 w' => ∃ (x5_1 : Int), v5 = .int .i64 x5_1 ∧ Aside0 (r05_Exact.l0 kq l0 l1 x5_1 = some r) ∧ Aside0 (kq ≤ k) ∧ Aside0 (Below w.heap.size w w'))
  case atStart => exact ⟨(0), eT, H', ⟨Nat.le_refl _⟩, ⟨bT⟩⟩
  case round =>
   clear H'
   try clear c3b0
   try clear c3b1
   try clear c3b2
   obtain ⟨x5_1, rfl, HA, HK1, HB⟩ := hrel
   cases gk with
   | zero => exact absurd HA.out (by simp [r05_Exact.l0])
   | succ k1 =>
    have H := HA.out
    clear HA
    simp only [r05_Exact.l0] at H
    by_cases c4 : x5_1 < (l0.length : Int)
    ·rw [if_pos c4] at H
     have c4b0 := decide_eq_true c4
     clear c4
     by_cases c5 : 0 ≤ x5_1
     ·rw [if_pos c5] at H
      have c5b0 := decide_eq_true c5
      clear c5
      by_cases c6 : x5_1 < (l1.length : Int)
      ·rw [if_pos c6] at H
       have c6b0 := decide_eq_true c6
       clear c6
       obtain ⟨t228, A7, H⟩ := bi H
       try dsimp only at H
       by_cases c8 : t228 = true
       ·subst c8
        rw [if_pos rfl] at H
        have H' := akk H
        clear H
        try go_wp2
        replace HB := akk (below_drew1 HB.out)
        have p226 : 0 ≤ (x5_1 : Int) := of_decide_eq_true aT
        have q226 : x5_1 < (l0.length : Int) := of_decide_eq_true aT
        obtain ⟨ad226, e226, hx226_0, hx226_1, hx226_2, hx226_3⟩ := at_T39 HR0.out x5_1 p226 q226
        have hw226_3 := hx226_3
        have hw226_2 := hx226_2
        have hw226_1 := hx226_1
        have hw226_0 := hx226_0
        cases e226
        replace hx226_0 := hxT HB.out hx226_0
        replace hx226_1 := hxT HB.out hx226_1
        replace hx226_2 := hxT HB.out hx226_2
        replace hx226_3 := hxT HB.out hx226_3
        replace p226 := eq_true p226
        replace q226 := eq_true q226
        have p227 : 0 ≤ (x5_1 : Int) := of_decide_eq_true aT
        have q227 : x5_1 < (l1.length : Int) := of_decide_eq_true aT
        obtain ⟨ad227, e227, hx227_0, hx227_1, hx227_2, hx227_3⟩ := at_T39 HR1.out x5_1 p227 q227
        have hw227_3 := hx227_3
        have hw227_2 := hx227_2
        have hw227_1 := hx227_1
        have hw227_0 := hx227_0
        cases e227
        replace hx227_0 := hxT HB.out hx227_0
        replace hx227_1 := hxT HB.out hx227_1
        replace hx227_2 := hxT HB.out hx227_2
        replace hx227_3 := hxT HB.out hx227_3
        replace p227 := eq_true p227
        replace q227 := eq_true q227
        refine start_ (n := 10) (S := fun w' => w'.cell? (ad226.add ((x5_1).toNat * 4)) = some (.int .i64 ((rd_T39 l0 x5_1).f0)) ∧ w'.cell? ⟨(ad226.add ((x5_1).toNat * 4)).block, (ad226.add ((x5_1).toNat * 4)).off + 1, none⟩ = some (.int .i64 ((rd_T39 l0 x5_1).f1)) ∧ w'.cell? ⟨(ad226.add ((x5_1).toNat * 4)).block, (ad226.add ((x5_1).toNat * 4)).off + 2, none⟩ = some (.float .f64 ((rd_T39 l0 x5_1).f2)) ∧ w'.cell? ⟨(ad226.add ((x5_1).toNat * 4)).block, (ad226.add ((x5_1).toNat * 4)).off + 3, none⟩ = some (.string ((rd_T39 l0 x5_1).f3)) ∧ w'.cell? (ad227.add ((x5_1).toNat * 4)) = some (.int .i64 ((rd_T39 l1 x5_1).f0)) ∧ w'.cell? ⟨(ad227.add ((x5_1).toNat * 4)).block, (ad227.add ((x5_1).toNat * 4)).off + 1, none⟩ = some (.int .i64 ((rd_T39 l1 x5_1).f1)) ∧ w'.cell? ⟨(ad227.add ((x5_1).toNat * 4)).block, (ad227.add ((x5_1).toNat * 4)).off + 2, none⟩ = some (.float .f64 ((rd_T39 l1 x5_1).f2)) ∧ w'.cell? ⟨(ad227.add ((x5_1).toNat * 4)).block, (ad227.add ((x5_1).toNat * 4)).off + 3, none⟩ = some (.string ((rd_T39 l1 x5_1).f3))) (ds := []) #[false, false, false, false, false, false, false, false, false, false] (by kernel_rfl) rfl rfl ⟨((HB.out.cell (World.block_lt_of_cell? w _ hw226_0)).trans hw226_0), ((HB.out.cell (World.block_lt_of_cell? w _ hw226_1)).trans hw226_1), ((HB.out.cell (World.block_lt_of_cell? w _ hw226_2)).trans hw226_2), ((HB.out.cell (World.block_lt_of_cell? w _ hw226_3)).trans hw226_3), ((HB.out.cell (World.block_lt_of_cell? w _ hw227_0)).trans hw227_0), ((HB.out.cell (World.block_lt_of_cell? w _ hw227_1)).trans hw227_1), ((HB.out.cell (World.block_lt_of_cell? w _ hw227_2)).trans hw227_2), ((HB.out.cell (World.block_lt_of_cell? w _ hw227_3)).trans hw227_3)⟩ (fun hHeld => ?_); refine with_tabW r05_Exact.tab6 r05_Exact.bits6 (fun HT_ HW_ => ?_)
        generalize wr.drew = w9 at HB hx226_0 hx226_1 hx226_2 hx226_3 hx227_0 hx227_1 hx227_2 hx227_3 hHeld ⊢
        refine pT 0 17 (bm 10 1) ?_
        refine pT 1 18 (bm 10 3) ?_
        refine pT 2 19 (bm 10 7) ?_
        refine pT 4 21 (bm 10 23) ?_
        refine pT 5 22 (bm 10 55) ?_
        refine pT 6 23 (bm 10 119) ?_
        refine tT8 3 20 (bm 10 127) hHeld ?_
        refine tT8 7 24 (bm 10 255) hHeld ?_
        refine one_ (i := 8) (N := some 25) #[true, true, true, true, true, true, true, true, true, false] rfl rfl (one_of HT_.out (by kernel_rfl)) (by decide) (fun K hK => ?_)
        refine goes_ Tryz.func38 (by kernel_rfl) rfl #[.agg #[.int .i64 ((rd_T39 l0 x5_1).f0), .int .i64 ((rd_T39 l0 x5_1).f1), .float .f64 ((rd_T39 l0 x5_1).f2), .string ((rd_T39 l0 x5_1).f3)], .agg #[.int .i64 ((rd_T39 l1 x5_1).f0), .int .i64 ((rd_T39 l1 x5_1).f1), .float .f64 ((rd_T39 l1 x5_1).f2), .string ((rd_T39 l1 x5_1).f3)]] (by rfl) rfl rfl mT ?_
        with_reducible refine (r04_Exact.calls ((rd_T39 l0 x5_1).f0) ((rd_T39 l0 x5_1).f1) ((rd_T39 l0 x5_1).f2) ((rd_T39 l0 x5_1).f3) ((rd_T39 l1 x5_1).f0) ((rd_T39 l1 x5_1).f1) ((rd_T39 l1 x5_1).f2) ((rd_T39 l1 x5_1).f3) true _ A7.out).mono ?_
        rintro e w10 ⟨rfl, hb⟩
        refine ⟨_, rfl, ?_⟩
        replace HB := bb HB hb
        (try clear hb)
        (try clear hb2)
        (try clear hk)
        (try clear hi)
        refine hK.out _ _ ⟨((HB.out.cell (World.block_lt_of_cell? w _ hw226_0)).trans hw226_0), ((HB.out.cell (World.block_lt_of_cell? w _ hw226_1)).trans hw226_1), ((HB.out.cell (World.block_lt_of_cell? w _ hw226_2)).trans hw226_2), ((HB.out.cell (World.block_lt_of_cell? w _ hw226_3)).trans hw226_3), ((HB.out.cell (World.block_lt_of_cell? w _ hw227_0)).trans hw227_0), ((HB.out.cell (World.block_lt_of_cell? w _ hw227_1)).trans hw227_1), ((HB.out.cell (World.block_lt_of_cell? w _ hw227_2)).trans hw227_2), ((HB.out.cell (World.block_lt_of_cell? w _ hw227_3)).trans hw227_3)⟩ (fun hHeld => ?_)
        clear hK K
        refine norm_ (a' := ?_) ?_ ?_
        rotate_left
        ·show Act.put _ (some 25) _ = _
         simp only [Act.put, List.setIfInBounds_toArray, List.set_cons_zero, List.set_cons_succ, i64_w, i32_w]
         rfl
        refine pT 9 26 (bm 10 1023) ?_
        refine done_ (done_of HT_.out (by kernel_rfl)) ?_
        try go_wp2
        go_roundg k1
        case measure => have := HK1.out; omega
        case rel => exact ⟨(wrap64 (x5_1 + 1)), eT, H', ⟨by have := HK1.out; omega⟩, ⟨bT⟩⟩
       ·replace c8 := Bool.eq_false_iff.mpr c8
        subst c8
        rw [if_neg (show ¬ (false = true) by decide)] at H
        obtain rfl := Option.some.inj H
        try go_wp2
        replace HB := akk (below_drew1 HB.out)
        have p226 : 0 ≤ (x5_1 : Int) := of_decide_eq_true aT
        have q226 : x5_1 < (l0.length : Int) := of_decide_eq_true aT
        obtain ⟨ad226, e226, hx226_0, hx226_1, hx226_2, hx226_3⟩ := at_T39 HR0.out x5_1 p226 q226
        have hw226_3 := hx226_3
        have hw226_2 := hx226_2
        have hw226_1 := hx226_1
        have hw226_0 := hx226_0
        cases e226
        replace hx226_0 := hxT HB.out hx226_0
        replace hx226_1 := hxT HB.out hx226_1
        replace hx226_2 := hxT HB.out hx226_2
        replace hx226_3 := hxT HB.out hx226_3
        replace p226 := eq_true p226
        replace q226 := eq_true q226
        have p227 : 0 ≤ (x5_1 : Int) := of_decide_eq_true aT
        have q227 : x5_1 < (l1.length : Int) := of_decide_eq_true aT
        obtain ⟨ad227, e227, hx227_0, hx227_1, hx227_2, hx227_3⟩ := at_T39 HR1.out x5_1 p227 q227
        have hw227_3 := hx227_3
        have hw227_2 := hx227_2
        have hw227_1 := hx227_1
        have hw227_0 := hx227_0
        cases e227
        replace hx227_0 := hxT HB.out hx227_0
        replace hx227_1 := hxT HB.out hx227_1
        replace hx227_2 := hxT HB.out hx227_2
        replace hx227_3 := hxT HB.out hx227_3
        replace p227 := eq_true p227
        replace q227 := eq_true q227
        refine start_ (n := 10) (S := fun w' => w'.cell? (ad226.add ((x5_1).toNat * 4)) = some (.int .i64 ((rd_T39 l0 x5_1).f0)) ∧ w'.cell? ⟨(ad226.add ((x5_1).toNat * 4)).block, (ad226.add ((x5_1).toNat * 4)).off + 1, none⟩ = some (.int .i64 ((rd_T39 l0 x5_1).f1)) ∧ w'.cell? ⟨(ad226.add ((x5_1).toNat * 4)).block, (ad226.add ((x5_1).toNat * 4)).off + 2, none⟩ = some (.float .f64 ((rd_T39 l0 x5_1).f2)) ∧ w'.cell? ⟨(ad226.add ((x5_1).toNat * 4)).block, (ad226.add ((x5_1).toNat * 4)).off + 3, none⟩ = some (.string ((rd_T39 l0 x5_1).f3)) ∧ w'.cell? (ad227.add ((x5_1).toNat * 4)) = some (.int .i64 ((rd_T39 l1 x5_1).f0)) ∧ w'.cell? ⟨(ad227.add ((x5_1).toNat * 4)).block, (ad227.add ((x5_1).toNat * 4)).off + 1, none⟩ = some (.int .i64 ((rd_T39 l1 x5_1).f1)) ∧ w'.cell? ⟨(ad227.add ((x5_1).toNat * 4)).block, (ad227.add ((x5_1).toNat * 4)).off + 2, none⟩ = some (.float .f64 ((rd_T39 l1 x5_1).f2)) ∧ w'.cell? ⟨(ad227.add ((x5_1).toNat * 4)).block, (ad227.add ((x5_1).toNat * 4)).off + 3, none⟩ = some (.string ((rd_T39 l1 x5_1).f3))) (ds := []) #[false, false, false, false, false, false, false, false, false, false] (by kernel_rfl) rfl rfl ⟨((HB.out.cell (World.block_lt_of_cell? w _ hw226_0)).trans hw226_0), ((HB.out.cell (World.block_lt_of_cell? w _ hw226_1)).trans hw226_1), ((HB.out.cell (World.block_lt_of_cell? w _ hw226_2)).trans hw226_2), ((HB.out.cell (World.block_lt_of_cell? w _ hw226_3)).trans hw226_3), ((HB.out.cell (World.block_lt_of_cell? w _ hw227_0)).trans hw227_0), ((HB.out.cell (World.block_lt_of_cell? w _ hw227_1)).trans hw227_1), ((HB.out.cell (World.block_lt_of_cell? w _ hw227_2)).trans hw227_2), ((HB.out.cell (World.block_lt_of_cell? w _ hw227_3)).trans hw227_3)⟩ (fun hHeld => ?_); refine with_tabW r05_Exact.tab6 r05_Exact.bits6 (fun HT_ HW_ => ?_)
        generalize wr.drew = w11 at HB hx226_0 hx226_1 hx226_2 hx226_3 hx227_0 hx227_1 hx227_2 hx227_3 hHeld ⊢
        refine pT 0 17 (bm 10 1) ?_
        refine pT 1 18 (bm 10 3) ?_
        refine pT 2 19 (bm 10 7) ?_
        refine pT 4 21 (bm 10 23) ?_
        refine pT 5 22 (bm 10 55) ?_
        refine pT 6 23 (bm 10 119) ?_
        refine tT8 3 20 (bm 10 127) hHeld ?_
        refine tT8 7 24 (bm 10 255) hHeld ?_
        refine one_ (i := 8) (N := some 25) #[true, true, true, true, true, true, true, true, true, false] rfl rfl (one_of HT_.out (by kernel_rfl)) (by decide) (fun K hK => ?_)
        refine goes_ Tryz.func38 (by kernel_rfl) rfl #[.agg #[.int .i64 ((rd_T39 l0 x5_1).f0), .int .i64 ((rd_T39 l0 x5_1).f1), .float .f64 ((rd_T39 l0 x5_1).f2), .string ((rd_T39 l0 x5_1).f3)], .agg #[.int .i64 ((rd_T39 l1 x5_1).f0), .int .i64 ((rd_T39 l1 x5_1).f1), .float .f64 ((rd_T39 l1 x5_1).f2), .string ((rd_T39 l1 x5_1).f3)]] (by rfl) rfl rfl mT ?_
        with_reducible refine (r04_Exact.calls ((rd_T39 l0 x5_1).f0) ((rd_T39 l0 x5_1).f1) ((rd_T39 l0 x5_1).f2) ((rd_T39 l0 x5_1).f3) ((rd_T39 l1 x5_1).f0) ((rd_T39 l1 x5_1).f1) ((rd_T39 l1 x5_1).f2) ((rd_T39 l1 x5_1).f3) false _ A7.out).mono ?_
        rintro e w12 ⟨rfl, hb⟩
        refine ⟨_, rfl, ?_⟩
        replace HB := bb HB hb
        (try clear hb)
        (try clear hb2)
        (try clear hk)
        (try clear hi)
        refine hK.out _ _ ⟨((HB.out.cell (World.block_lt_of_cell? w _ hw226_0)).trans hw226_0), ((HB.out.cell (World.block_lt_of_cell? w _ hw226_1)).trans hw226_1), ((HB.out.cell (World.block_lt_of_cell? w _ hw226_2)).trans hw226_2), ((HB.out.cell (World.block_lt_of_cell? w _ hw226_3)).trans hw226_3), ((HB.out.cell (World.block_lt_of_cell? w _ hw227_0)).trans hw227_0), ((HB.out.cell (World.block_lt_of_cell? w _ hw227_1)).trans hw227_1), ((HB.out.cell (World.block_lt_of_cell? w _ hw227_2)).trans hw227_2), ((HB.out.cell (World.block_lt_of_cell? w _ hw227_3)).trans hw227_3)⟩ (fun hHeld => ?_)
        clear hK K
        refine norm_ (a' := ?_) ?_ ?_
        rotate_left
        ·show Act.put _ (some 25) _ = _
         simp only [Act.put, List.setIfInBounds_toArray, List.set_cons_zero, List.set_cons_succ, i64_w, i32_w]
         rfl
        refine pT 9 26 (bm 10 1023) ?_
        refine done_ (done_of HT_.out (by kernel_rfl)) ?_
        try go_wp2
        go_ret
        exact ⟨fT, bT⟩
      ·rw [if_neg c6] at H
       exact absurd H (by simp)
     ·rw [if_neg c5] at H
      exact absurd H (by simp)
    ·rw [if_neg c4] at H
     have c4b0 := decide_eq_false c4
     clear c4
     obtain rfl := Option.some.inj H
     go_wp2
     go_ret
     exact ⟨fT, bT⟩
 ·rw [if_neg c3] at H
  have c3b0 : ((l0.length : Int) == (l1.length : Int)) = false := beq_eq_false_iff_ne.mpr c3
  have c3b1 : ((l0.length : Int) != (l1.length : Int)) = true := bne_iff_ne.mpr c3
  have c3b2 : (l0.length == l1.length) = false := by first | simpa using c3 | (simp at c3 ⊢; omega)
  obtain rfl := Option.some.inj H
  go_enter Tryz.func14, Tryz.ntmps14
  go_wp2
  go_ret
  exact ⟨fT, bT⟩
def r05_Lists.l0 : Nat → T2 → T2 → Int → Option (Bool)
 | 0, _, _, _ => none
 | k + 1, x0, x1, x5 => if x5 < (x0.length : Int) then (if 0 ≤ x5 then (if x5 < (x1.length : Int) then ((r05_Exact.f k (rd_L5 x0 x5) (rd_L5 x1 x5)).bind fun t231 => (if t231 = true then (r05_Lists.l0 k x0 x1 (wrap64 (x5 + 1))) else (some false))) else (none)) else (none)) else (some true)
def r05_Lists.f (k : Nat) (l0 : T2) (l1 : T2) : Option (Bool) := if (l0.length : Int) = (l1.length : Int) then (r05_Lists.l0 k l0 l1 0) else (some false)
def r05_Lists.T6 : Bool × List (List Nat × List Nat) := (true, [([], []), ([], []), ([0, 1], [0, 1]), ([2], [2]), ([], []), ([], []), ([4, 5], [4, 5]), ([6], [6]), ([3, 7], [3, 7]), ([8], [8])])
def r05_Lists.B6 : List Nat := [0, 0, 3, 7, 0, 0, 48, 112, 255, 511]
theorem r05_Lists.tab6 : rtab .any (opsOf Tryz.f10 6) = r05_Lists.T6 := by kernel_rfl
theorem r05_Lists.bits6 : waitsOk r05_Lists.T6.2 r05_Lists.B6 = true := by kernel_rfl
set_option maxHeartbeats 8000000 in
set_option maxRecDepth 100000 in
theorem r05_Lists.calls (k : Nat) (A0 : Option Addr) (c0 : Nat) (l0 : T2) (A1 : Option Addr) (c1 : Nat) (l1 : T2) (r : Bool) (w : World) (hr0 : Kd.C (Kd.slice 39 k39) w A0 l0.length l0) (hc0 : l0.length ≤ c0) (hr1 : Kd.C (Kd.slice 39 k39) w A1 l1.length l1) (hc1 : l1.length ≤ c1) (h : r05_Lists.f k l0 l1 = some r) :
 Calls Tryz.prog 10 #[.slice A0 l0.length c0, .slice A1 l1.length c1] w fun e w' => e = .returned (.bool r) ∧ Below w.heap.size w w' := by
 have HR0 := akk hr0
 have HC0 := akk hc0
 clear hr0 hc0
 have HR1 := akk hr1
 have HC1 := akk hc1
 clear hr1 hc1
 have HB := akk (Below.refl w.heap.size w)
 have H : (if (l0.length : Int) = (l1.length : Int) then (r05_Lists.l0 k l0 l1 0) else (some false)) = some r := h
 clear h
 by_cases c3 : (l0.length : Int) = (l1.length : Int)
 ·rw [if_pos c3] at H
  have c3b0 : ((l0.length : Int) == (l1.length : Int)) = true := beq_iff_eq.mpr c3
  have c3b1 : ((l0.length : Int) != (l1.length : Int)) = false := bne_eq_false_iff_eq.mpr c3
  have c3b2 : (l0.length == l1.length) = true := by first | simpa using c3 | (simp at c3 ⊢; omega)
  clear c3
  have H' := akk H
  clear H
  go_enter Tryz.func10, Tryz.ntmps10
  go_wp2
  go_loopg [5] k (fun kq v5 w' => ∃ (x5_1 : Int), v5 = .int .i64 x5_1 ∧ Aside0 (r05_Lists.l0 kq l0 l1 x5_1 = some r) ∧ Aside0 (kq ≤ k) ∧ Aside0 (Below w.heap.size w w'))
  case atStart => exact ⟨(0), eT, H', ⟨Nat.le_refl _⟩, ⟨bT⟩⟩
  case round =>
   clear H'
   try clear c3b0
   try clear c3b1
   try clear c3b2
   obtain ⟨x5_1, rfl, HA, HK1, HB⟩ := hrel
   cases gk with
   | zero => exact absurd HA.out (by simp [r05_Lists.l0])
   | succ k1 =>
    have H := HA.out
    clear HA
    simp only [r05_Lists.l0] at H
    by_cases c4 : x5_1 < (l0.length : Int)
    ·rw [if_pos c4] at H
     have c4b0 := decide_eq_true c4
     clear c4
     by_cases c5 : 0 ≤ x5_1
     ·rw [if_pos c5] at H
      have c5b0 := decide_eq_true c5
      clear c5
      by_cases c6 : x5_1 < (l1.length : Int)
      ·rw [if_pos c6] at H
       have c6b0 := decide_eq_true c6
       clear c6
       obtain ⟨t231, A7, H⟩ := bi H
       try dsimp only at H
       by_cases c8 : t231 = true
       ·subst c8
        rw [if_pos rfl] at H
        have H' := akk H
        clear H
        try go_wp2
        replace HB := akk (below_drew1 HB.out)
        obtain ⟨ad229, A229_0, c229_0, e229, hx229_0, HR229_0, HC229_0, p229, q229⟩ := gC5 HR0 x5_1
        have hw229_0 := hx229_0
        cases e229
        replace hx229_0 := hxT HB.out hx229_0
        obtain ⟨ad230, A230_0, c230_0, e230, hx230_0, HR230_0, HC230_0, p230, q230⟩ := gC5 HR1 x5_1
        have hw230_0 := hx230_0
        cases e230
        replace hx230_0 := hxT HB.out hx230_0
        refine start_ (n := 10) (S := fun w' => w'.cell? (ad229.add (x5_1).toNat) = some (.slice A229_0 (rd_L5 l0 x5_1).length c229_0) ∧ w'.cell? (ad230.add (x5_1).toNat) = some (.slice A230_0 (rd_L5 l1 x5_1).length c230_0)) (ds := []) #[false, false, false, false, false, false, false, false, false, false] (by kernel_rfl) rfl rfl ⟨((HB.out.cell (World.block_lt_of_cell? w _ hw229_0)).trans hw229_0), ((HB.out.cell (World.block_lt_of_cell? w _ hw230_0)).trans hw230_0)⟩ (fun hHeld => ?_); refine with_tabW r05_Lists.tab6 r05_Lists.bits6 (fun HT_ HW_ => ?_)
        generalize wr.drew = w9 at HB HR229_0 HR230_0 hx229_0 hx230_0 hHeld ⊢
        refine pT 0 17 (bm 10 1) ?_
        refine pT 1 18 (bm 10 3) ?_
        refine pT 2 19 (bm 10 7) ?_
        refine pT 4 21 (bm 10 23) ?_
        refine pT 5 22 (bm 10 55) ?_
        refine pT 6 23 (bm 10 119) ?_
        refine tT2 3 20 (bm 10 127) hHeld ?_
        refine tT2 7 24 (bm 10 255) hHeld ?_
        refine one_ (i := 8) (N := some 25) #[true, true, true, true, true, true, true, true, true, false] rfl rfl (one_of HT_.out (by kernel_rfl)) (by decide) (fun K hK => ?_)
        refine goes_ Tryz.func14 (by kernel_rfl) rfl #[.slice A229_0 (rd_L5 l0 x5_1).length c229_0, .slice A230_0 (rd_L5 l1 x5_1).length c230_0] (by rfl) rfl rfl mT ?_
        with_reducible refine (r05_Exact.calls k1 _ _ (rd_L5 l0 x5_1) _ _ (rd_L5 l1 x5_1) true _ ?side1 ?side2 ?side3 ?side4 A7.out).mono ?_
        (case side1 => exact cT HR229_0.out)
        (case side2 => exact HC229_0.out)
        (case side3 => exact cT HR230_0.out)
        (case side4 => exact HC230_0.out)
        rintro e w10 ⟨rfl, hb⟩
        refine ⟨_, rfl, ?_⟩
        replace HB := bb HB hb
        (try clear hb)
        (try clear hb2)
        (try clear hk)
        (try clear hi)
        refine hK.out _ _ ⟨((HB.out.cell (World.block_lt_of_cell? w _ hw229_0)).trans hw229_0), ((HB.out.cell (World.block_lt_of_cell? w _ hw230_0)).trans hw230_0)⟩ (fun hHeld => ?_)
        clear hK K
        refine norm_ (a' := ?_) ?_ ?_
        rotate_left
        ·show Act.put _ (some 25) _ = _
         simp only [Act.put, List.setIfInBounds_toArray, List.set_cons_zero, List.set_cons_succ, i64_w, i32_w]
         rfl
        refine pT 9 26 (bm 10 1023) ?_
        refine done_ (done_of HT_.out (by kernel_rfl)) ?_
        try go_wp2
        go_roundg k1
        case measure => have := HK1.out; omega
        case rel => exact ⟨(wrap64 (x5_1 + 1)), eT, H', ⟨by have := HK1.out; omega⟩, ⟨bT⟩⟩
       ·replace c8 := Bool.eq_false_iff.mpr c8
        subst c8
        rw [if_neg (show ¬ (false = true) by decide)] at H
        obtain rfl := Option.some.inj H
        try go_wp2
        replace HB := akk (below_drew1 HB.out)
        obtain ⟨ad229, A229_0, c229_0, e229, hx229_0, HR229_0, HC229_0, p229, q229⟩ := gC5 HR0 x5_1
        have hw229_0 := hx229_0
        cases e229
        replace hx229_0 := hxT HB.out hx229_0
        obtain ⟨ad230, A230_0, c230_0, e230, hx230_0, HR230_0, HC230_0, p230, q230⟩ := gC5 HR1 x5_1
        have hw230_0 := hx230_0
        cases e230
        replace hx230_0 := hxT HB.out hx230_0
        refine start_ (n := 10) (S := fun w' => w'.cell? (ad229.add (x5_1).toNat) = some (.slice A229_0 (rd_L5 l0 x5_1).length c229_0) ∧ w'.cell? (ad230.add (x5_1).toNat) = some (.slice A230_0 (rd_L5 l1 x5_1).length c230_0)) (ds := []) #[false, false, false, false, false, false, false, false, false, false] (by kernel_rfl) rfl rfl ⟨((HB.out.cell (World.block_lt_of_cell? w _ hw229_0)).trans hw229_0), ((HB.out.cell (World.block_lt_of_cell? w _ hw230_0)).trans hw230_0)⟩ (fun hHeld => ?_); refine with_tabW r05_Lists.tab6 r05_Lists.bits6 (fun HT_ HW_ => ?_)
        generalize wr.drew = w11 at HB HR229_0 HR230_0 hx229_0 hx230_0 hHeld ⊢
        refine pT 0 17 (bm 10 1) ?_
        refine pT 1 18 (bm 10 3) ?_
        refine pT 2 19 (bm 10 7) ?_
        refine pT 4 21 (bm 10 23) ?_
        refine pT 5 22 (bm 10 55) ?_
        refine pT 6 23 (bm 10 119) ?_
        refine tT2 3 20 (bm 10 127) hHeld ?_
        refine tT2 7 24 (bm 10 255) hHeld ?_
        refine one_ (i := 8) (N := some 25) #[true, true, true, true, true, true, true, true, true, false] rfl rfl (one_of HT_.out (by kernel_rfl)) (by decide) (fun K hK => ?_)
        refine goes_ Tryz.func14 (by kernel_rfl) rfl #[.slice A229_0 (rd_L5 l0 x5_1).length c229_0, .slice A230_0 (rd_L5 l1 x5_1).length c230_0] (by rfl) rfl rfl mT ?_
        with_reducible refine (r05_Exact.calls k1 _ _ (rd_L5 l0 x5_1) _ _ (rd_L5 l1 x5_1) false _ ?side1 ?side2 ?side3 ?side4 A7.out).mono ?_
        (case side1 => exact cT HR229_0.out)
        (case side2 => exact HC229_0.out)
        (case side3 => exact cT HR230_0.out)
        (case side4 => exact HC230_0.out)
        rintro e w12 ⟨rfl, hb⟩
        refine ⟨_, rfl, ?_⟩
        replace HB := bb HB hb
        (try clear hb)
        (try clear hb2)
        (try clear hk)
        (try clear hi)
        refine hK.out _ _ ⟨((HB.out.cell (World.block_lt_of_cell? w _ hw229_0)).trans hw229_0), ((HB.out.cell (World.block_lt_of_cell? w _ hw230_0)).trans hw230_0)⟩ (fun hHeld => ?_)
        clear hK K
        refine norm_ (a' := ?_) ?_ ?_
        rotate_left
        ·show Act.put _ (some 25) _ = _
         simp only [Act.put, List.setIfInBounds_toArray, List.set_cons_zero, List.set_cons_succ, i64_w, i32_w]
         rfl
        refine pT 9 26 (bm 10 1023) ?_
        refine done_ (done_of HT_.out (by kernel_rfl)) ?_
        try go_wp2
        go_ret
        exact ⟨fT, bT⟩
      ·rw [if_neg c6] at H
       exact absurd H (by simp)
     ·rw [if_neg c5] at H
      exact absurd H (by simp)
    ·rw [if_neg c4] at H
     have c4b0 := decide_eq_false c4
     clear c4
     obtain rfl := Option.some.inj H
     go_wp2
     go_ret
     exact ⟨fT, bT⟩
 ·rw [if_neg c3] at H
  have c3b0 : ((l0.length : Int) == (l1.length : Int)) = false := beq_eq_false_iff_ne.mpr c3
  have c3b1 : ((l0.length : Int) != (l1.length : Int)) = true := bne_iff_ne.mpr c3
  have c3b2 : (l0.length == l1.length) = false := by first | simpa using c3 | (simp at c3 ⊢; omega)
  obtain rfl := Option.some.inj H
  go_enter Tryz.func10, Tryz.ntmps10
  go_wp2
  go_ret
  exact ⟨fT, bT⟩
end Go.Proofs.YtgmolmpfihkolaaGreat.Pj
