/- Part of the proof. -/
import Derived.Test.YtgmolmpfihkolaaGreatD19
namespace Go.Proofs.YtgmolmpfihkolaaGreat.Pj
open Go.RowKit Go.Proofs.YtgmolmpfihkolaaGreatW.PrintWords Go.Proofs.YtgmolmpfihkolaaGreatW.PrintLast Go.Proofs.YtgmolmpfihkolaaGreatW.PrintMore
attribute [local go_sem] run_store_flt max2_int min2_int max_two min_two max_three min_three max_four min_four
set_option linter.unusedVariables false
set_option linter.unusedSimpArgs false
mutual
def joins_Union.l0 : Nat → T2 → T2 → T2 → Int → Int → Option (T2)
 | 0, _, _, _, _, _ => none
 | k + 1, x0, x1, x5, x12, x13 => if x13 < x12 then (if x13 < (x0.length : Int) then (if 0 ≤ x13 then (joins_Union.j1 k x0 x1 x5 x13 ([] : List (S39)) x12 x13 (decide (((rd_L5 x0 x13).length : Int) > 0))) else (none)) else (joins_Union.j1 k x0 x1 x5 x13 ([] : List (S39)) x12 x13 false)) else (some x5)
def joins_Union.j1 : Nat → T2 → T2 → T2 → Int → List (S39) → Int → Int → Bool → Option (T2)
 | 0, _, _, _, _, _, _, _, _ => none
 | k + 1, x0, x1, x5, x6, x7, x12, x13, x16 => if x16 = true then ((some (([] : List (S39)) : List (S39))).bind fun y136 => (if 0 ≤ x6 then (if x6 < (x0.length : Int) then (if y136.length + (rd_L5 x0 x6).length < 3518437208883 then (if x5.length < 5864062014805 then (joins_Union.l0 k x0 x1 (x5 ++ [(y136 ++ (rd_L5 x0 x6))]) x12 (wrap64 (x13 + 1))) else (none)) else (none)) else (none)) else (none))) else (if x6 < (x1.length : Int) then (if 0 ≤ x6 then (if ((rd_L5 x1 x6).length : Int) > 0 then ((some (([] : List (S39)) : List (S39))).bind fun y147 => (if y147.length + (rd_L5 x1 x6).length < 3518437208883 then (if x5.length < 5864062014805 then (joins_Union.l0 k x0 x1 (x5 ++ [(y147 ++ (rd_L5 x1 x6))]) x12 (wrap64 (x13 + 1))) else (none)) else (none))) else (if x5.length < 5864062014805 then (joins_Union.l0 k x0 x1 (x5 ++ [x7]) x12 (wrap64 (x13 + 1))) else (none))) else (none)) else (if x5.length < 5864062014805 then (joins_Union.l0 k x0 x1 (x5 ++ [x7]) x12 (wrap64 (x13 + 1))) else (none)))
end
def joins_Union.f (k : Nat) (l0 : T2) (l1 : T2) : Option (T2) := joins_Union.l0 k l0 l1 ([] : T2) (mx (l0.length : Int) (l1.length : Int)) 0
set_option maxHeartbeats 8000000 in
set_option maxRecDepth 100000 in
theorem joins_Union.calls (k : Nat) (A0 : Option Addr) (c0 : Nat) (l0 : T2) (A1 : Option Addr) (c1 : Nat) (l1 : T2) (r : T2) (w : World) (hr0 : Kd.C (Kd.slice 39 k39) w A0 l0.length l0) (hc0 : l0.length ≤ c0) (hr1 : Kd.C (Kd.slice 39 k39) w A1 l1.length l1) (hc1 : l1.length ≤ c1) (h : joins_Union.f k l0 l1 = some r) :
 Calls Tryz.prog 9 #[.slice A0 l0.length c0, .slice A1 l1.length c1] w fun e w' => ∃ v0_ : Value, e = .returned (v0_) ∧ Kd.S (Kd.slice 39 k39) 29 w' w.heap.size (fun _ => True) v0_ r ∧ Below w.heap.size w w' := by
 have HR0 := akk hr0
 have HC0 := akk hc0
 clear hr0 hc0
 have HR1 := akk hr1
 have HC1 := akk hc1
 clear hr1 hc1
 have HB := akk (Below.refl w.heap.size w)
 have H : (joins_Union.l0 k l0 l1 ([] : T2) (mx (l0.length : Int) (l1.length : Int)) 0) = some r := h
 clear h
 obtain ⟨ji3, hji3⟩ : ∃ j_ : Int, (mx (l0.length : Int) (l1.length : Int)) = j_ := ⟨_, rfl⟩
 replace H : (joins_Union.l0 k l0 l1 ([] : T2) ji3 0) = some r := by first | (rw [hji3] at H; exact H) | (simp only [hji3] at H ⊢; exact H)
 (try (have hji3l : 0 ≤ ji3 := by (rw [← hji3]; unfold mx; (repeat' split) <;> omega)))
 (try (have hji3m : 0 ≤ ji3 := by omega))
 have hji3_ : (if (l0.length : Int) < (l1.length : Int) then (l1.length : Int) else (l0.length : Int)) = ji3 := hji3
 have hji3n_ : (if l0.length < l1.length then (l1.length : Int) else (l0.length : Int)) = ji3 := by simpa using hji3_
 have H' := akk H
 clear H
 go_enter Tryz.func9, Tryz.ntmps9
 go_wp2
 go_loopg [5, 13] k (fun kq v5 v13 w' => ∃ (x5_1 : T2) (x13_1 : Int), v13 = .int .i64 x13_1 ∧ Aside0 (joins_Union.l0 kq l0 l1 x5_1 ji3 x13_1 = some r) ∧ Aside0 (kq ≤ k) ∧ Aside0 (Kd.S (Kd.slice 39 k39) 29 w' w.heap.size (fun _ => True) v5 x5_1) ∧ Aside0 (Below w.heap.size w w'))
 case atStart => exact ⟨(([] : T2)), (0), eT, H', ⟨Nat.le_refl _⟩, ⟨by first | exact Kd.S_nil _ _ _ _ _ | exact Kd.N_nil _ _ _ _ _ | exact Kd.V_nil _ _ _ _ _ | exact Kd.Q_nil _ _ _ _ _ | exact Kd.R_nil _ _ _ _ _⟩, ⟨bT⟩⟩
 case round =>
  clear H'
  obtain ⟨x5_1, x13_1, rfl, HA, HK1, HO_5, HB⟩ := hrel
  cases gk with
  | zero => exact absurd HA.out (by simp [joins_Union.l0])
  | succ k1 =>
   have H := HA.out
   clear HA
   simp only [joins_Union.l0] at H
   by_cases c4 : x13_1 < ji3
   ·rw [if_pos c4] at H
    have c4b0 := decide_eq_true c4
    clear c4
    have HC5 := akk H
    clear H
    go_upto_region 6 with (fail)
    go_cut [16] (fun v16 wc => ∃ (kq : Nat) (x16_4 : Bool), v16 = .bool x16_4 ∧ Aside0 (joins_Union.j1 kq l0 l1 x5_1 x13_1 ([] : List (S39)) ji3 x13_1 x16_4 = some r) ∧ Aside0 (kq ≤ k1) ∧ Aside0 (Kd.S (Kd.slice 39 k39) 29 wc w.heap.size (fun k_ => some k_ ≠ ((.slice none 0 0) : Value).ownBlock) u5 x5_1) ∧ Aside0 (Kd.R k39 39 wc w.heap.size (fun _ => True) (.slice none 0 0) ([] : List (S39))) ∧ Aside0 (Below w.heap.size w wc))
    case first =>
     have H := HC5.out
     clear HC5
     by_cases c6 : x13_1 < (l0.length : Int)
     ·rw [if_pos c6] at H
      have c6b0 := decide_eq_true c6
      clear c6
      (first | rw [c6b0] | (simp only [i64_w, i32_w]; rw [c6b0]) | skip)
      by_cases c7 : 0 ≤ x13_1
      ·rw [if_pos c7] at H
       have c7b0 := decide_eq_true c7
       clear c7
       have H' := akk H
       clear H
       obtain ⟨ad135, A135_0, c135_0, e135, hx135_0, HR135_0, HC135_0, p135, q135⟩ := gC5 HR0 x13_1
       cases e135
       replace hx135_0 := hxT HB.out hx135_0
       go_wp2
       go_meet
       case rel => exact ⟨_, (decide (((rd_L5 l0 x13_1).length : Int) > 0)), eT, H', ⟨by have := HK1.out; first | omega | exact Nat.le_refl _⟩, ⟨sT' (Kd.S_mono HO_5.out (fun _ hk => (by simp [Value.ownBlock])))⟩, ⟨zT⟩, ⟨bT⟩⟩
      ·rw [if_neg c7] at H
       exact absurd H (by simp)
     ·rw [if_neg c6] at H
      have c6b0 := decide_eq_false c6
      clear c6
      (first | rw [c6b0] | (simp only [i64_w, i32_w]; rw [c6b0]) | skip)
      have H' := akk H
      clear H
      go_wp2
      go_meet
      case rel => exact ⟨_, (false), eT, H', ⟨by have := HK1.out; first | omega | exact Nat.le_refl _⟩, ⟨sT' (Kd.S_mono HO_5.out (fun _ hk => (by simp [Value.ownBlock])))⟩, ⟨zT⟩, ⟨bT⟩⟩
    case rest =>
     clear HC5
     try clear c4b0
     obtain ⟨kq, x16_4, rfl, HA, HJ4, HO_5, HO_7, HB⟩ := hcut
     cases kq with
     | zero => exact absurd HA.out (by simp [joins_Union.j1])
     | succ kj4 =>
      have H := HA.out
      clear HA
      simp only [joins_Union.j1] at H
      by_cases c8 : x16_4 = true
      ·subst c8
       rw [if_pos rfl] at H
       obtain ⟨y136, hy136⟩ : ∃ y_ : List (S39), y_ = (([] : List (S39))) := ⟨_, rfl⟩
       replace H : (if 0 ≤ x13_1 then (if x13_1 < (l0.length : Int) then (if y136.length + (rd_L5 l0 x13_1).length < 3518437208883 then (if x5_1.length < 5864062014805 then (joins_Union.l0 kj4 l0 l1 (x5_1 ++ [(y136 ++ (rd_L5 l0 x13_1))]) ji3 (wrap64 (x13_1 + 1))) else (none)) else (none)) else (none)) else (none)) = some r := jT hy136 H
       have Ny136 := akk hy136
       clear hy136
       by_cases c9 : 0 ≤ x13_1
       ·rw [if_pos c9] at H
        have c9b0 := decide_eq_true c9
        clear c9
        by_cases c10 : x13_1 < (l0.length : Int)
        ·rw [if_pos c10] at H
         have c10b0 := decide_eq_true c10
         clear c10
         by_cases c11 : y136.length + (rd_L5 l0 x13_1).length < 3518437208883
         ·rw [if_pos c11] at H
          have LMc11 := akk c11
          clear c11
          obtain ⟨y140, hy140⟩ : ∃ y_ : List (S39), y_ = (y136 ++ (rd_L5 l0 x13_1)) := ⟨_, rfl⟩
          replace H : (if x5_1.length < 5864062014805 then (joins_Union.l0 kj4 l0 l1 (x5_1 ++ [y140]) ji3 (wrap64 (x13_1 + 1))) else (none)) = some r := jT hy140 H
          have Ny140 := akk hy140
          clear hy140
          by_cases c12 : x5_1.length < 5864062014805
          ·rw [if_pos c12] at H
           have LMc12 := akk c12
           clear c12
           obtain ⟨y143, hy143⟩ : ∃ y_ : T2, y_ = (x5_1 ++ [y140]) := ⟨_, rfl⟩
           replace H : (joins_Union.l0 kj4 l0 l1 y143 ji3 (wrap64 (x13_1 + 1))) = some r := jT hy143 H
           have Ny143 := akk hy143
           clear hy143
           have H' := akk H
           clear H
           go_wp2_with (first | ((with_reducible refine gate_dst (N := 29) rfl ?_); (try (refine gate_guard (by rfl) ?_; dsimp only)); refine Kd.R_lit k39 _ 39 ?hg (N := 29) ?hd (xs := ([] : List (S39))) (inner := []) (ok := fun _ => True) (okp := fun _ => True) ?hr ?hp (fun _ hk => hk) trivial (Below.refl _ _) (Nat.le_refl _) (by simp) ?_; (case hd => rfl); (case hg => rfl); (case hr => first | (go_simp; done) | (go_simp; rfl)); (case hp => exact (Reps.none _ _)); intro v137 w13 ho14 hb hg_ hnew_; clear hg_ hnew_; (first | rw [← Ny136.out] at ho14 | (simp only [Int.reduceToNat] at ho14; rw [← Ny136.out] at ho14)); replace HO_5 := se HO_5 ho14 hb; have HO138 := akk (Kd.R_lower (Kd.R_new' ho14 (Kd.R_lt (rT HO_7.out))) (below_size bT)); replace HO_7 := re HO_7 ho14 hb; replace HB := bb HB hb; clear hb ho14; have p139 : 0 ≤ (x13_1 : Int) := of_decide_eq_true aT; have q139 : x13_1 < (l0.length : Int) := of_decide_eq_true aT; obtain ⟨ad139, A139_0, c139_0, e139, hx139_0, hl139_0, hi139_0⟩ := at_L5 HR0.out x13_1 p139 q139; cases e139; replace hx139_0 := hxT HB.out hx139_0; have HR139_0 := akk hi139_0; have HC139_0 := akk hl139_0; clear hi139_0 hl139_0; replace p139 := eq_true p139; replace q139 := eq_true q139) | ((with_reducible refine gA #[.tmp 29, .tmp 33] rfl ?_); (try (refine gate_guard (by rfl) ?_; dsimp only)); at_builtin; refine Kd.R_append_rows k39 (w0 := w) w.heap.size rfl (.tmp 29) (.tmp 33) 29 39 (.agg #[(.int .i64 0), (.int .i64 0), (.float .f64 0), (.string ⟨#[]⟩)]) 40 rfl Tryz.underlying29 info39 rfl (by decide) (by omega) v137 y136 (rd_L5 l0 x13_1) _ _ _ (fun k_ => some k_ ≠ (.slice none 0 0 : Value).ownBlock) (fun _ => False) rfl rfl ?aO ?aR (fun _ _ h => h) (fun _ h => h.elim) ?aF ?aB ?aS ?aL ?_; (case aR => exact cT HR139_0.out); (case aB => exact bT); (case aF => exact (fun k_ hk => Kd.fresh' (Kd.R_lt (rT HO_7.out)) k_ hk)); (case aO => exact (rT' (Kd.R_mono HO138.out (fun _ hk => hk.2)))); (case aS => exact (below_size bT)); (case aL => have := LMc11.out; omega); intro v141 w15 ho hb hg hat; rw [← Ny140.out] at ho; replace HO_5 := sa HO_5 hg hat; replace HO_7 := ra HO_7 hg hat; replace HB := akk (hb); have HO142 := akk (ho); clear HO138; clear ho hb hg hat; obtain ⟨Ao17, co17, eo17⟩ := Kd.R_slice HO142.out; subst eo17) | ((with_reducible refine gA #[.tmp 54, .tmp 56] rfl ?_); (try (refine gate_guard (by rfl) ?_; dsimp only)); at_builtin; refine Kd.S_append (Kd.slice 39 k39) (w0 := w) w.heap.size rfl (.tmp 54) (.tmp 56) 22 29 (.slice none 0 0) 24 rfl Tryz.underlying22 info29 rfl (by decide) (by omega) u5 x5_1 y140 [.slice Ao17 y140.length co17] (fun k_ => some k_ ≠ (.slice none 0 0 : Value).ownBlock) (fun k_ => some k_ = (.slice Ao17 y140.length co17 : Value).ownBlock) rfl rfl ?aP (fun k_ hk_ => ((Kd.R_mono (ok' := fun k_ => ((fun k_ => some k_ ≠ (.slice none 0 0 : Value).ownBlock)) k_ ∧ some k_ ≠ (u5 : Value).ownBlock) (Kd.R_apart' (HO142.out) (Kd.S_typed HO_5.out) (by decide)) (fun k_ hk => ⟨hk.1, hk.2⟩))).1 k_ hk_.symm) ?aF ?aO ?aB ?aS ?aL ?_; (case aP => exact Kd.M_row (Kd.R_mono (Kd.R_tight rfl (Kd.R_mono (ok' := fun k_ => ((fun k_ => some k_ ≠ (.slice none 0 0 : Value).ownBlock)) k_ ∧ some k_ ≠ (u5 : Value).ownBlock) (Kd.R_apart' (HO142.out) (Kd.S_typed HO_5.out) (by decide)) (fun k_ hk => ⟨hk.1, hk.2⟩))) (fun _ h_ => h_))); (case aB => exact bT); (case aF => exact (fun k_ hk => Kd.fresh' (Kd.R_lt (rT HO_7.out)) k_ hk)); (case aO => exact (sT' (Kd.S_mono HO_5.out (fun k_ hk => ⟨hk.1, fun e_ => hk.2 e_⟩)))); (case aS => exact (below_size bT)); (case aL => have := LMc12.out; omega); intro v144 w16 ho hb hg hat; rw [← Ny143.out] at ho; replace HO_7 := akk (Kd.R_over' (rT HO_7.out) (Kd.S_typed (sT' HO_5.out)) (by decide) hg); replace HB := akk (hb); have HO145 := akk (ho); clear HO_5 HO142; clear ho hb hg hat))
           go_roundg kj4
           case measure => have := HK1.out; have := HJ4.out; omega
           case rel => exact ⟨(y143), (wrap64 (x13_1 + 1)), eT, H', ⟨by have := HK1.out; have := HJ4.out; omega⟩, ⟨sT' (Kd.S_mono HO145.out (fun _ hk => trivial))⟩, ⟨bT⟩⟩
          ·rw [if_neg c12] at H
           exact absurd H (by simp)
         ·rw [if_neg c11] at H
          exact absurd H (by simp)
        ·rw [if_neg c10] at H
         exact absurd H (by simp)
       ·rw [if_neg c9] at H
        exact absurd H (by simp)
      ·replace c8 := Bool.eq_false_iff.mpr c8
       subst c8
       rw [if_neg (show ¬ (false = true) by decide)] at H
       by_cases c18 : x13_1 < (l1.length : Int)
       ·rw [if_pos c18] at H
        have c18b0 := decide_eq_true c18
        clear c18
        by_cases c19 : 0 ≤ x13_1
        ·rw [if_pos c19] at H
         have c19b0 := decide_eq_true c19
         clear c19
         by_cases c20 : ((rd_L5 l1 x13_1).length : Int) > 0
         ·rw [if_pos c20] at H
          have c20b0 := decide_eq_true c20
          have c20b1 : decide (0 < (rd_L5 l1 x13_1).length) = true := decide_eq_true (by omega)
          clear c20
          obtain ⟨y147, hy147⟩ : ∃ y_ : List (S39), y_ = (([] : List (S39))) := ⟨_, rfl⟩
          replace H : (if y147.length + (rd_L5 l1 x13_1).length < 3518437208883 then (if x5_1.length < 5864062014805 then (joins_Union.l0 kj4 l0 l1 (x5_1 ++ [(y147 ++ (rd_L5 l1 x13_1))]) ji3 (wrap64 (x13_1 + 1))) else (none)) else (none)) = some r := jT hy147 H
          have Ny147 := akk hy147
          clear hy147
          by_cases c21 : y147.length + (rd_L5 l1 x13_1).length < 3518437208883
          ·rw [if_pos c21] at H
           have LMc21 := akk c21
           clear c21
           obtain ⟨y151, hy151⟩ : ∃ y_ : List (S39), y_ = (y147 ++ (rd_L5 l1 x13_1)) := ⟨_, rfl⟩
           replace H : (if x5_1.length < 5864062014805 then (joins_Union.l0 kj4 l0 l1 (x5_1 ++ [y151]) ji3 (wrap64 (x13_1 + 1))) else (none)) = some r := jT hy151 H
           have Ny151 := akk hy151
           clear hy151
           by_cases c22 : x5_1.length < 5864062014805
           ·rw [if_pos c22] at H
            have LMc22 := akk c22
            clear c22
            obtain ⟨y154, hy154⟩ : ∃ y_ : T2, y_ = (x5_1 ++ [y151]) := ⟨_, rfl⟩
            replace H : (joins_Union.l0 kj4 l0 l1 y154 ji3 (wrap64 (x13_1 + 1))) = some r := jT hy154 H
            have Ny154 := akk hy154
            clear hy154
            have H' := akk H
            clear H
            obtain ⟨ad146, A146_0, c146_0, e146, hx146_0, HR146_0, HC146_0, p146, q146⟩ := gC5 HR1 x13_1
            cases e146
            replace hx146_0 := hxT HB.out hx146_0
            go_wp2_with (first | ((with_reducible refine gate_dst (N := 48) rfl ?_); (try (refine gate_guard (by rfl) ?_; dsimp only)); refine Kd.R_lit k39 _ 39 ?hg (N := 48) ?hd (xs := ([] : List (S39))) (inner := []) (ok := fun _ => True) (okp := fun _ => True) ?hr ?hp (fun _ hk => hk) trivial (Below.refl _ _) (Nat.le_refl _) (by simp) ?_; (case hd => rfl); (case hg => rfl); (case hr => first | (go_simp; done) | (go_simp; rfl)); (case hp => exact (Reps.none _ _)); intro v148 w23 ho24 hb hg_ hnew_; clear hg_ hnew_; (first | rw [← Ny147.out] at ho24 | (simp only [Int.reduceToNat] at ho24; rw [← Ny147.out] at ho24)); replace HO_5 := se HO_5 ho24 hb; have HO149 := akk (Kd.R_lower (Kd.R_new' ho24 (Kd.R_lt (rT HO_7.out))) (below_size bT)); replace HO_7 := re HO_7 ho24 hb; replace HB := bb HB hb; clear hb ho24; have p150 : 0 ≤ (x13_1 : Int) := of_decide_eq_true aT; have q150 : x13_1 < (l1.length : Int) := of_decide_eq_true aT; obtain ⟨ad150, A150_0, c150_0, e150, hx150_0, hl150_0, hi150_0⟩ := at_L5 HR1.out x13_1 p150 q150; obtain rfl : ad146 = ad150 := (by injection e150); replace hx150_0 := hxT HB.out hx150_0; have HR150_0 := akk hi150_0; have HC150_0 := akk hl150_0; clear hi150_0 hl150_0; replace p150 := eq_true p150; replace q150 := eq_true q150) | ((with_reducible refine gA #[.tmp 48, .tmp 52] rfl ?_); (try (refine gate_guard (by rfl) ?_; dsimp only)); at_builtin; refine Kd.R_append_rows k39 (w0 := w) w.heap.size rfl (.tmp 48) (.tmp 52) 29 39 (.agg #[(.int .i64 0), (.int .i64 0), (.float .f64 0), (.string ⟨#[]⟩)]) 40 rfl Tryz.underlying29 info39 rfl (by decide) (by omega) v148 y147 (rd_L5 l1 x13_1) _ _ _ (fun k_ => some k_ ≠ (.slice none 0 0 : Value).ownBlock) (fun _ => False) rfl rfl ?aO ?aR (fun _ _ h => h) (fun _ h => h.elim) ?aF ?aB ?aS ?aL ?_; (case aR => exact cT HR150_0.out); (case aB => exact bT); (case aF => exact (fun k_ hk => Kd.fresh' (Kd.R_lt (rT HO_7.out)) k_ hk)); (case aO => exact (rT' (Kd.R_mono HO149.out (fun _ hk => hk.2)))); (case aS => exact (below_size bT)); (case aL => have := LMc21.out; omega); intro v152 w25 ho hb hg hat; rw [← Ny151.out] at ho; replace HO_5 := sa HO_5 hg hat; replace HO_7 := ra HO_7 hg hat; replace HB := akk (hb); have HO153 := akk (ho); clear HO149; clear ho hb hg hat; obtain ⟨Ao27, co27, eo27⟩ := Kd.R_slice HO153.out; subst eo27) | ((with_reducible refine gA #[.tmp 54, .tmp 56] rfl ?_); (try (refine gate_guard (by rfl) ?_; dsimp only)); at_builtin; refine Kd.S_append (Kd.slice 39 k39) (w0 := w) w.heap.size rfl (.tmp 54) (.tmp 56) 22 29 (.slice none 0 0) 24 rfl Tryz.underlying22 info29 rfl (by decide) (by omega) u5 x5_1 y151 [.slice Ao27 y151.length co27] (fun k_ => some k_ ≠ (.slice none 0 0 : Value).ownBlock) (fun k_ => some k_ = (.slice Ao27 y151.length co27 : Value).ownBlock) rfl rfl ?aP (fun k_ hk_ => ((Kd.R_mono (ok' := fun k_ => ((fun k_ => some k_ ≠ (.slice none 0 0 : Value).ownBlock)) k_ ∧ some k_ ≠ (u5 : Value).ownBlock) (Kd.R_apart' (HO153.out) (Kd.S_typed HO_5.out) (by decide)) (fun k_ hk => ⟨hk.1, hk.2⟩))).1 k_ hk_.symm) ?aF ?aO ?aB ?aS ?aL ?_; (case aP => exact Kd.M_row (Kd.R_mono (Kd.R_tight rfl (Kd.R_mono (ok' := fun k_ => ((fun k_ => some k_ ≠ (.slice none 0 0 : Value).ownBlock)) k_ ∧ some k_ ≠ (u5 : Value).ownBlock) (Kd.R_apart' (HO153.out) (Kd.S_typed HO_5.out) (by decide)) (fun k_ hk => ⟨hk.1, hk.2⟩))) (fun _ h_ => h_))); (case aB => exact bT); (case aF => exact (fun k_ hk => Kd.fresh' (Kd.R_lt (rT HO_7.out)) k_ hk)); (case aO => exact (sT' (Kd.S_mono HO_5.out (fun k_ hk => ⟨hk.1, fun e_ => hk.2 e_⟩)))); (case aS => exact (below_size bT)); (case aL => have := LMc22.out; omega); intro v155 w26 ho hb hg hat; rw [← Ny154.out] at ho; replace HO_7 := akk (Kd.R_over' (rT HO_7.out) (Kd.S_typed (sT' HO_5.out)) (by decide) hg); replace HB := akk (hb); have HO156 := akk (ho); clear HO_5 HO153; clear ho hb hg hat))
            go_roundg kj4
            case measure => have := HK1.out; have := HJ4.out; omega
            case rel => exact ⟨(y154), (wrap64 (x13_1 + 1)), eT, H', ⟨by have := HK1.out; have := HJ4.out; omega⟩, ⟨sT' (Kd.S_mono HO156.out (fun _ hk => trivial))⟩, ⟨bT⟩⟩
           ·rw [if_neg c22] at H
            exact absurd H (by simp)
          ·rw [if_neg c21] at H
           exact absurd H (by simp)
         ·rw [if_neg c20] at H
          have c20b0 := decide_eq_false c20
          have c20b1 : decide (0 < (rd_L5 l1 x13_1).length) = false := decide_eq_false (by omega)
          clear c20
          by_cases c28 : x5_1.length < 5864062014805
          ·rw [if_pos c28] at H
           have LMc28 := akk c28
           clear c28
           obtain ⟨y157, hy157⟩ : ∃ y_ : T2, y_ = (x5_1 ++ [([] : List (S39))]) := ⟨_, rfl⟩
           replace H : (joins_Union.l0 kj4 l0 l1 y157 ji3 (wrap64 (x13_1 + 1))) = some r := jT hy157 H
           have Ny157 := akk hy157
           clear hy157
           have H' := akk H
           clear H
           obtain ⟨ad146, A146_0, c146_0, e146, hx146_0, HR146_0, HC146_0, p146, q146⟩ := gC5 HR1 x13_1
           cases e146
           replace hx146_0 := hxT HB.out hx146_0
           go_wp2_with ((with_reducible refine gA #[.tmp 54, .tmp 56] rfl ?_); (try (refine gate_guard (by rfl) ?_; dsimp only)); at_builtin; refine Kd.S_append (Kd.slice 39 k39) (w0 := w) w.heap.size rfl (.tmp 54) (.tmp 56) 22 29 (.slice none 0 0) 24 rfl Tryz.underlying22 info29 rfl (by decide) (by omega) u5 x5_1 ([] : List (S39)) [.slice none 0 0] (fun _ => True) (fun k_ => some k_ = (.slice none 0 0 : Value).ownBlock) rfl rfl ?aP (fun k_ hk_ => ((Kd.R_mono (ok' := fun k_ => ((fun _ => True)) k_ ∧ some k_ ≠ (u5 : Value).ownBlock) (Kd.R_apart' (HO_7.out) (Kd.S_typed HO_5.out) (by decide)) (fun k_ hk => ⟨trivial, hk.2⟩))).1 k_ hk_.symm) ?aF ?aO ?aB ?aS ?aL ?_; (case aP => exact Kd.M_row (Kd.R_mono (Kd.R_tight rfl (Kd.R_mono (ok' := fun k_ => ((fun _ => True)) k_ ∧ some k_ ≠ (u5 : Value).ownBlock) (Kd.R_apart' (HO_7.out) (Kd.S_typed HO_5.out) (by decide)) (fun k_ hk => ⟨trivial, hk.2⟩))) (fun _ h_ => h_))); (case aB => exact bT); (case aF => exact (fun _ _ => trivial)); (case aO => exact (sT' (Kd.S_mono HO_5.out (fun k_ hk => ⟨trivial, fun e_ => hk e_⟩)))); (case aS => exact (below_size bT)); (case aL => have := LMc28.out; omega); intro v158 w29 ho hb hg hat; rw [← Ny157.out] at ho; replace HB := akk (hb); have HO159 := akk (ho); clear HO_5 HO_7; clear ho hb hg hat)
           go_roundg kj4
           case measure => have := HK1.out; have := HJ4.out; omega
           case rel => exact ⟨(y157), (wrap64 (x13_1 + 1)), eT, H', ⟨by have := HK1.out; have := HJ4.out; omega⟩, ⟨sT' HO159.out⟩, ⟨bT⟩⟩
          ·rw [if_neg c28] at H
           exact absurd H (by simp)
        ·rw [if_neg c19] at H
         exact absurd H (by simp)
       ·rw [if_neg c18] at H
        have c18b0 := decide_eq_false c18
        clear c18
        by_cases c30 : x5_1.length < 5864062014805
        ·rw [if_pos c30] at H
         have LMc30 := akk c30
         clear c30
         obtain ⟨y160, hy160⟩ : ∃ y_ : T2, y_ = (x5_1 ++ [([] : List (S39))]) := ⟨_, rfl⟩
         replace H : (joins_Union.l0 kj4 l0 l1 y160 ji3 (wrap64 (x13_1 + 1))) = some r := jT hy160 H
         have Ny160 := akk hy160
         clear hy160
         have H' := akk H
         clear H
         go_wp2_with ((with_reducible refine gA #[.tmp 54, .tmp 56] rfl ?_); (try (refine gate_guard (by rfl) ?_; dsimp only)); at_builtin; refine Kd.S_append (Kd.slice 39 k39) (w0 := w) w.heap.size rfl (.tmp 54) (.tmp 56) 22 29 (.slice none 0 0) 24 rfl Tryz.underlying22 info29 rfl (by decide) (by omega) u5 x5_1 ([] : List (S39)) [.slice none 0 0] (fun _ => True) (fun k_ => some k_ = (.slice none 0 0 : Value).ownBlock) rfl rfl ?aP (fun k_ hk_ => ((Kd.R_mono (ok' := fun k_ => ((fun _ => True)) k_ ∧ some k_ ≠ (u5 : Value).ownBlock) (Kd.R_apart' (HO_7.out) (Kd.S_typed HO_5.out) (by decide)) (fun k_ hk => ⟨trivial, hk.2⟩))).1 k_ hk_.symm) ?aF ?aO ?aB ?aS ?aL ?_; (case aP => exact Kd.M_row (Kd.R_mono (Kd.R_tight rfl (Kd.R_mono (ok' := fun k_ => ((fun _ => True)) k_ ∧ some k_ ≠ (u5 : Value).ownBlock) (Kd.R_apart' (HO_7.out) (Kd.S_typed HO_5.out) (by decide)) (fun k_ hk => ⟨trivial, hk.2⟩))) (fun _ h_ => h_))); (case aB => exact bT); (case aF => exact (fun _ _ => trivial)); (case aO => exact (sT' (Kd.S_mono HO_5.out (fun k_ hk => ⟨trivial, fun e_ => hk e_⟩)))); (case aS => exact (below_size bT)); (case aL => have := LMc30.out; omega); intro v161 w31 ho hb hg hat; rw [← Ny160.out] at ho; replace HB := akk (hb); have HO162 := akk (ho); clear HO_5 HO_7; clear ho hb hg hat)
         go_roundg kj4
         case measure => have := HK1.out; have := HJ4.out; omega
         case rel => exact ⟨(y160), (wrap64 (x13_1 + 1)), eT, H', ⟨by have := HK1.out; have := HJ4.out; omega⟩, ⟨sT' HO162.out⟩, ⟨bT⟩⟩
        ·rw [if_neg c30] at H
         exact absurd H (by simp)
   ·rw [if_neg c4] at H
    have c4b0 := decide_eq_false c4
    clear c4
    obtain rfl := Option.some.inj H
    go_wp2
    go_ret
    exact ⟨_, by first | rfl | (simp [errW_none, errW_some] <;> rfl) | (simp only [← hji3]; first | rfl | (simp [errW_none, errW_some] <;> rfl)) | (simp [*, errW_none, errW_some] <;> rfl), sT' HO_5.out, bT⟩
def expr_Eval.f (a0_0 : Int) (a0_1 : Int) (a0_2 : Int) (a0_3 : Int) (a0_4 : Int) (a0_5 : Nat) (a0_6 : ByteArray) (l0_7 : List (S53)) (l1 : T2) : Option (Int × Int × Nat × ByteArray × Int) := evalF ⟨a0_0, a0_1, a0_2, ⟨a0_3, a0_4, a0_5, a0_6⟩, l0_7⟩ l1
theorem expr_Eval.calls (a0_0 : Int) (a0_1 : Int) (a0_2 : Int) (a0_3 : Int) (a0_4 : Int) (a0_5 : Nat) (a0_6 : ByteArray) (A0_7 : Option Addr) (c0_7 : Nat) (l0_7 : List (S53)) (A1 : Option Addr) (c1 : Nat) (l1 : T2) (r1 : Int) (r2 : Int) (r3 : Nat) (r4 : ByteArray) (r5 : Int) (w : World) (hr0_7 : Kd.C k53 w A0_7 l0_7.length l0_7) (hc0_7 : l0_7.length ≤ c0_7) (hr1 : Kd.C (Kd.slice 39 k39) w A1 l1.length l1) (hc1 : l1.length ≤ c1) (h : expr_Eval.f a0_0 a0_1 a0_2 a0_3 a0_4 a0_5 a0_6 l0_7 l1 = some (r1, r2, r3, r4, r5)) :
 Calls Tryz.prog 22 #[.agg #[.int .i64 a0_0, .int .i64 a0_1, .int .i64 a0_2, .int .i64 a0_3, .int .i64 a0_4, .float .f64 a0_5, .string a0_6, .slice A0_7 l0_7.length c0_7], .slice A1 l1.length c1] w fun e w' => e = .returned (.tuple #[.agg #[.int .i64 r1, .int .i64 r2, .float .f64 r3, .string r4], .int .i64 r5]) ∧ Below w.heap.size w w' := by
 unfold expr_Eval.f evalF at h
 split at h
 ·rename_i hc
  simp only [Bool.and_eq_true] at hc
  obtain ⟨D, hx⟩ := ex_of (k53_mk w ⟨a0_0, a0_1, a0_2, ⟨a0_3, a0_4, a0_5, a0_6⟩, l0_7⟩ hc0_7 hr0_7) hc.1
  obtain ⟨R, hR, hRl⟩ := rows_of hr1 hc1 hc.2
  have hE := Eval_any D _ _ A1 _ c1 R w hx hR
  rw [hRl] at hE
  simp only [Option.some.injEq, Prod.mk.injEq] at h
  obtain ⟨rfl, rfl, rfl, rfl, rfl⟩ := h
  exact hE
 ·cases h
def expr_Holds.l0 : Nat → T2 → List (S53) → Int → Int → Option (Bool × Int)
 | 0, _, _, _, _ => none
 | k + 1, x1, x10, x11, x12 => if x12 < x11 then (if 0 ≤ x12 then (if x12 < (x10.length : Int) then ((expr_Eval.f ((rd_T53 x10 x12).f0) ((rd_T53 x10 x12).f1) ((rd_T53 x10 x12).f2) ((rd_T53 x10 x12).f3.f0) ((rd_T53 x10 x12).f3.f1) ((rd_T53 x10 x12).f3.f2) ((rd_T53 x10 x12).f3.f3) ((rd_T53 x10 x12).f4) x1).bind fun bt165 => (if bt165.2.2.2.2 = 0 then (if bt165.1 = 1 then (if bt165.2.1 = 1 then (expr_Holds.l0 k x1 x10 x11 (wrap64 (x12 + 1))) else (some (false, 0))) else (some (false, 0))) else (some (false, bt165.2.2.2.2)))) else (none)) else (none)) else (some (true, 0))
def expr_Holds.f (k : Nat) (l0 : List (S53)) (l1 : T2) : Option (Bool × Int) := expr_Holds.l0 k l1 l0 (l0.length : Int) 0
set_option maxHeartbeats 8000000 in
set_option maxRecDepth 100000 in
theorem expr_Holds.calls (k : Nat) (A0 : Option Addr) (c0 : Nat) (l0 : List (S53)) (A1 : Option Addr) (c1 : Nat) (l1 : T2) (r1 : Bool) (r2 : Int) (w : World) (hr0 : Kd.C k53 w A0 l0.length l0) (hc0 : l0.length ≤ c0) (hr1 : Kd.C (Kd.slice 39 k39) w A1 l1.length l1) (hc1 : l1.length ≤ c1) (h : expr_Holds.f k l0 l1 = some (r1, r2)) :
 Calls Tryz.prog 25 #[.slice A0 l0.length c0, .slice A1 l1.length c1] w fun e w' => e = .returned (.tuple #[.bool r1, .int .i64 r2]) ∧ Below w.heap.size w w' := by
 have hu53 := Tryz.underlying53
 have hu39 := Tryz.underlying39
 have HR0 := akk hr0
 have HC0 := akk hc0
 clear hr0 hc0
 have HR1 := akk hr1
 have HC1 := akk hc1
 clear hr1 hc1
 have HB := akk (Below.refl w.heap.size w)
 have H : (expr_Holds.l0 k l1 l0 (l0.length : Int) 0) = some (r1, r2) := h
 clear h
 have H' := akk H
 clear H
 go_enter Tryz.func25, Tryz.ntmps25
 go_wp2
 go_loopg [12] k (fun kq v12 w' => ∃ (x12_1 : Int), v12 = .int .i64 x12_1 ∧ Aside0 (expr_Holds.l0 kq l1 l0 (l0.length : Int) x12_1 = some (r1, r2)) ∧ Aside0 (kq ≤ k) ∧ Aside0 (Below w.heap.size w w'))
 case atStart => exact ⟨(0), eT, H', ⟨Nat.le_refl _⟩, ⟨bT⟩⟩
 case round =>
  clear H'
  obtain ⟨x12_1, rfl, HA, HK1, HB⟩ := hrel
  cases gk with
  | zero => exact absurd HA.out (by simp [expr_Holds.l0])
  | succ k1 =>
   have H := HA.out
   clear HA
   simp only [expr_Holds.l0] at H
   by_cases c3 : x12_1 < (l0.length : Int)
   ·rw [if_pos c3] at H
    have c3b0 := decide_eq_true c3
    clear c3
    by_cases c4 : 0 ≤ x12_1
    ·rw [if_pos c4] at H
     have c4b0 := decide_eq_true c4
     clear c4
     by_cases c5 : x12_1 < (l0.length : Int)
     ·rw [if_pos c5] at H
      have c5b0 := decide_eq_true c5
      clear c5
      obtain ⟨⟨t165, t166, t167, t168, t169⟩, A6, H⟩ := bi H
      try dsimp only at H
      by_cases c7 : t169 = 0
      ·rw [if_pos c7] at H
       have c7b0 : (t169 == 0) = true := beq_iff_eq.mpr c7
       have c7b1 : (t169 != 0) = false := bne_eq_false_iff_eq.mpr c7
       clear c7
       by_cases c8 : t165 = 1
       ·rw [if_pos c8] at H
        have c8b0 : (t165 == 1) = true := beq_iff_eq.mpr c8
        have c8b1 : (t165 != 1) = false := bne_eq_false_iff_eq.mpr c8
        clear c8
        by_cases c9 : t166 = 1
        ·rw [if_pos c9] at H
         have c9b0 : (t166 == 1) = true := beq_iff_eq.mpr c9
         have c9b1 : (t166 != 1) = false := bne_eq_false_iff_eq.mpr c9
         clear c9
         have H' := akk H
         clear H
         have p163 : 0 ≤ (x12_1 : Int) := of_decide_eq_true aT
         have q163 : x12_1 < (l0.length : Int) := of_decide_eq_true aT
         obtain ⟨ad163, A163_7, c163_7, e163, hx163_0, hx163_1, hx163_2, hx163_3, hx163_4, hx163_5, hx163_6, hx163_7, hl163_7, hi163_7⟩ := at_T53 HR0.out x12_1 p163 q163
         cases e163
         replace hx163_0 := hxT HB.out hx163_0
         replace hx163_1 := hxT HB.out hx163_1
         replace hx163_2 := hxT HB.out hx163_2
         replace hx163_3 := hxT HB.out hx163_3
         replace hx163_4 := hxT HB.out hx163_4
         replace hx163_5 := hxT HB.out hx163_5
         replace hx163_6 := hxT HB.out hx163_6
         replace hx163_7 := hxT HB.out hx163_7
         have HR163_7 := akk hi163_7
         have HC163_7 := akk hl163_7
         clear hi163_7 hl163_7
         replace p163 := eq_true p163
         replace q163 := eq_true q163
         go_wp2_with (first | ((with_reducible refine gate_dst (N := 7) rfl ?_); refine box_event ?hg (N := 7) ?hd (cs := #[.int .i64 0, .int .i64 0, .int .i64 0, .int .i64 0, .int .i64 0, .float .f64 0, .string (⟨#[]⟩ : ByteArray), .slice none 0 0]) (t := 53) ?hr ?_; (case hd => rfl); (case hg => rfl); (case hr => first | (go_simp; done) | (go_simp; rfl)); intro gb164 hg w10 hbox hb; have BK164 := akk (hbox); have GW164 := gw (p := w.heap.size ≤ gb164) hg; have GE164 := gw (p := w.heap.size ≤ gb164) hg; replace HB := bb HB hb; clear hb hbox hg; obtain ⟨hcz11_0, hcz11_1, hcz11_2, hcz11_3, hcz11_4, hcz11_5, hcz11_6, hcz11_7⟩ := cz8 BK164; obtain ⟨hfz11_0, hfz11_1, hfz11_2, hfz11_3, hfz11_4, hfz11_5, hfz11_6, hfz11_7⟩ := fz8 BK164) | (refine gT 22 (some 19) Tryz.func22 #[.agg #[.int .i64 ((rd_T53 l0 x12_1).f0), .int .i64 ((rd_T53 l0 x12_1).f1), .int .i64 ((rd_T53 l0 x12_1).f2), .int .i64 ((rd_T53 l0 x12_1).f3.f0), .int .i64 ((rd_T53 l0 x12_1).f3.f1), .float .f64 ((rd_T53 l0 x12_1).f3.f2), .string ((rd_T53 l0 x12_1).f3.f3), .slice A163_7 ((rd_T53 l0 x12_1).f4).length c163_7], .slice A1 l1.length c1] ?_; (with_reducible refine (expr_Eval.calls ((rd_T53 l0 x12_1).f0) ((rd_T53 l0 x12_1).f1) ((rd_T53 l0 x12_1).f2) ((rd_T53 l0 x12_1).f3.f0) ((rd_T53 l0 x12_1).f3.f1) ((rd_T53 l0 x12_1).f3.f2) ((rd_T53 l0 x12_1).f3.f3) _ _ ((rd_T53 l0 x12_1).f4) _ _ l1 t165 t166 t167 t168 t169 _ ?_ ?_ ?_ ?_ A6.out).mono ?_); exact Kd.C_below HR163_7.out (bS GE164.out); exact HC163_7.out; exact Kd.C_below HR1.out (bS GE164.out); exact HC1.out; rintro e w12 ⟨rfl, hb⟩; refine ⟨_, rfl, ?_⟩; replace BK164 := kq (o := .cells #[.int .i64 ((rd_T53 l0 x12_1).f0), .int .i64 ((rd_T53 l0 x12_1).f1), .int .i64 ((rd_T53 l0 x12_1).f2), .int .i64 ((rd_T53 l0 x12_1).f3.f0), .int .i64 ((rd_T53 l0 x12_1).f3.f1), .float .f64 ((rd_T53 l0 x12_1).f3.f2), .string ((rd_T53 l0 x12_1).f3.f3), .slice A163_7 ((rd_T53 l0 x12_1).f4).length c163_7] 53 (0, 0)) BK164.out hb; replace HB := bg GE164 hb; clear hb) | ((with_reducible refine gate_dst (N := 8) rfl ?_); refine box_event ?hg (N := 8) ?hd (cs := #[.int .i64 0, .int .i64 0, .float .f64 0, .string (⟨#[]⟩ : ByteArray)]) (t := 39) ?hr ?_; (case hd => rfl); (case hg => rfl); (case hr => first | (go_simp; done) | (go_simp; rfl)); intro gb170 hg w13 hbox hb; have BK170 := akk (hbox); have GW170 := akk ((by rw [hg]; exact (below_size (bS GE164.out)) : w.heap.size ≤ gb170)); have GE170 := akk ((by rw [hg]; exact (below_size (bS GE164.out)) : w.heap.size ≤ gb170)); replace HB := bg GE164 hb; have NB164_170 := akk ((by rw [hg]; exact Nat.ne_of_lt (blk_lt (kT BK164.out)) : gb164 ≠ gb170)); have NB170_164 := akk ((by rw [hg]; exact Nat.ne_of_gt (blk_lt (kT BK164.out)) : gb170 ≠ gb164)); replace BK164 := kb BK164 hb; clear hb hbox hg; have hnb14 := NB170_164.out; have hnc14 := NB164_170.out; obtain ⟨hcz15_0, hcz15_1, hcz15_2, hcz15_3⟩ := cz4 BK170; obtain ⟨hfz15_0, hfz15_1, hfz15_2, hfz15_3⟩ := fz4 BK170))
         go_roundg k1
         case measure => have := HK1.out; omega
         case rel => exact ⟨(wrap64 (x12_1 + 1)), eT, H', ⟨by have := HK1.out; omega⟩, ⟨by repeat (first | (with_reducible first | exact HB.out | apply below_alloc | apply pw_below_drewN | apply below_drew1 | refine below_set ?_ GE164.out | refine below_set ?_ GE170.out) | exact HB.out)⟩⟩
        ·rw [if_neg c9] at H
         have c9b0 : (t166 == 1) = false := beq_eq_false_iff_ne.mpr c9
         have c9b1 : (t166 != 1) = true := bne_iff_ne.mpr c9
         simp only [Option.some.injEq, Prod.mk.injEq] at H
         obtain ⟨rfl, rfl⟩ := H
         have p163 : 0 ≤ (x12_1 : Int) := of_decide_eq_true aT
         have q163 : x12_1 < (l0.length : Int) := of_decide_eq_true aT
         obtain ⟨ad163, A163_7, c163_7, e163, hx163_0, hx163_1, hx163_2, hx163_3, hx163_4, hx163_5, hx163_6, hx163_7, hl163_7, hi163_7⟩ := at_T53 HR0.out x12_1 p163 q163
         cases e163
         replace hx163_0 := hxT HB.out hx163_0
         replace hx163_1 := hxT HB.out hx163_1
         replace hx163_2 := hxT HB.out hx163_2
         replace hx163_3 := hxT HB.out hx163_3
         replace hx163_4 := hxT HB.out hx163_4
         replace hx163_5 := hxT HB.out hx163_5
         replace hx163_6 := hxT HB.out hx163_6
         replace hx163_7 := hxT HB.out hx163_7
         have HR163_7 := akk hi163_7
         have HC163_7 := akk hl163_7
         clear hi163_7 hl163_7
         replace p163 := eq_true p163
         replace q163 := eq_true q163
         go_wp2_with (first | ((with_reducible refine gate_dst (N := 7) rfl ?_); refine box_event ?hg (N := 7) ?hd (cs := #[.int .i64 0, .int .i64 0, .int .i64 0, .int .i64 0, .int .i64 0, .float .f64 0, .string (⟨#[]⟩ : ByteArray), .slice none 0 0]) (t := 53) ?hr ?_; (case hd => rfl); (case hg => rfl); (case hr => first | (go_simp; done) | (go_simp; rfl)); intro gb164 hg w16 hbox hb; have BK164 := akk (hbox); have GW164 := gw (p := w.heap.size ≤ gb164) hg; have GE164 := gw (p := w.heap.size ≤ gb164) hg; replace HB := bb HB hb; clear hb hbox hg; obtain ⟨hcz17_0, hcz17_1, hcz17_2, hcz17_3, hcz17_4, hcz17_5, hcz17_6, hcz17_7⟩ := cz8 BK164; obtain ⟨hfz17_0, hfz17_1, hfz17_2, hfz17_3, hfz17_4, hfz17_5, hfz17_6, hfz17_7⟩ := fz8 BK164) | (refine gT 22 (some 19) Tryz.func22 #[.agg #[.int .i64 ((rd_T53 l0 x12_1).f0), .int .i64 ((rd_T53 l0 x12_1).f1), .int .i64 ((rd_T53 l0 x12_1).f2), .int .i64 ((rd_T53 l0 x12_1).f3.f0), .int .i64 ((rd_T53 l0 x12_1).f3.f1), .float .f64 ((rd_T53 l0 x12_1).f3.f2), .string ((rd_T53 l0 x12_1).f3.f3), .slice A163_7 ((rd_T53 l0 x12_1).f4).length c163_7], .slice A1 l1.length c1] ?_; (with_reducible refine (expr_Eval.calls ((rd_T53 l0 x12_1).f0) ((rd_T53 l0 x12_1).f1) ((rd_T53 l0 x12_1).f2) ((rd_T53 l0 x12_1).f3.f0) ((rd_T53 l0 x12_1).f3.f1) ((rd_T53 l0 x12_1).f3.f2) ((rd_T53 l0 x12_1).f3.f3) _ _ ((rd_T53 l0 x12_1).f4) _ _ l1 t165 t166 t167 t168 t169 _ ?_ ?_ ?_ ?_ A6.out).mono ?_); exact Kd.C_below HR163_7.out (bS GE164.out); exact HC163_7.out; exact Kd.C_below HR1.out (bS GE164.out); exact HC1.out; rintro e w18 ⟨rfl, hb⟩; refine ⟨_, rfl, ?_⟩; replace BK164 := kq (o := .cells #[.int .i64 ((rd_T53 l0 x12_1).f0), .int .i64 ((rd_T53 l0 x12_1).f1), .int .i64 ((rd_T53 l0 x12_1).f2), .int .i64 ((rd_T53 l0 x12_1).f3.f0), .int .i64 ((rd_T53 l0 x12_1).f3.f1), .float .f64 ((rd_T53 l0 x12_1).f3.f2), .string ((rd_T53 l0 x12_1).f3.f3), .slice A163_7 ((rd_T53 l0 x12_1).f4).length c163_7] 53 (0, 0)) BK164.out hb; replace HB := bg GE164 hb; clear hb) | ((with_reducible refine gate_dst (N := 8) rfl ?_); refine box_event ?hg (N := 8) ?hd (cs := #[.int .i64 0, .int .i64 0, .float .f64 0, .string (⟨#[]⟩ : ByteArray)]) (t := 39) ?hr ?_; (case hd => rfl); (case hg => rfl); (case hr => first | (go_simp; done) | (go_simp; rfl)); intro gb170 hg w19 hbox hb; have BK170 := akk (hbox); have GW170 := akk ((by rw [hg]; exact (below_size (bS GE164.out)) : w.heap.size ≤ gb170)); have GE170 := akk ((by rw [hg]; exact (below_size (bS GE164.out)) : w.heap.size ≤ gb170)); replace HB := bg GE164 hb; have NB164_170 := akk ((by rw [hg]; exact Nat.ne_of_lt (blk_lt (kT BK164.out)) : gb164 ≠ gb170)); have NB170_164 := akk ((by rw [hg]; exact Nat.ne_of_gt (blk_lt (kT BK164.out)) : gb170 ≠ gb164)); replace BK164 := kb BK164 hb; clear hb hbox hg; have hnb20 := NB170_164.out; have hnc20 := NB164_170.out; obtain ⟨hcz21_0, hcz21_1, hcz21_2, hcz21_3⟩ := cz4 BK170; obtain ⟨hfz21_0, hfz21_1, hfz21_2, hfz21_3⟩ := fz4 BK170))
         go_ret2
         exact ⟨fT, by repeat (first | (with_reducible first | exact HB.out | apply below_alloc | apply pw_below_drewN | apply below_drew1 | refine below_set ?_ GE164.out | refine below_set ?_ GE170.out) | exact HB.out)⟩
       ·rw [if_neg c8] at H
        have c8b0 : (t165 == 1) = false := beq_eq_false_iff_ne.mpr c8
        have c8b1 : (t165 != 1) = true := bne_iff_ne.mpr c8
        simp only [Option.some.injEq, Prod.mk.injEq] at H
        obtain ⟨rfl, rfl⟩ := H
        have p163 : 0 ≤ (x12_1 : Int) := of_decide_eq_true aT
        have q163 : x12_1 < (l0.length : Int) := of_decide_eq_true aT
        obtain ⟨ad163, A163_7, c163_7, e163, hx163_0, hx163_1, hx163_2, hx163_3, hx163_4, hx163_5, hx163_6, hx163_7, hl163_7, hi163_7⟩ := at_T53 HR0.out x12_1 p163 q163
        cases e163
        replace hx163_0 := hxT HB.out hx163_0
        replace hx163_1 := hxT HB.out hx163_1
        replace hx163_2 := hxT HB.out hx163_2
        replace hx163_3 := hxT HB.out hx163_3
        replace hx163_4 := hxT HB.out hx163_4
        replace hx163_5 := hxT HB.out hx163_5
        replace hx163_6 := hxT HB.out hx163_6
        replace hx163_7 := hxT HB.out hx163_7
        have HR163_7 := akk hi163_7
        have HC163_7 := akk hl163_7
        clear hi163_7 hl163_7
        replace p163 := eq_true p163
        replace q163 := eq_true q163
        go_wp2_with (first | ((with_reducible refine gate_dst (N := 7) rfl ?_); refine box_event ?hg (N := 7) ?hd (cs := #[.int .i64 0, .int .i64 0, .int .i64 0, .int .i64 0, .int .i64 0, .float .f64 0, .string (⟨#[]⟩ : ByteArray), .slice none 0 0]) (t := 53) ?hr ?_; (case hd => rfl); (case hg => rfl); (case hr => first | (go_simp; done) | (go_simp; rfl)); intro gb164 hg w22 hbox hb; have BK164 := akk (hbox); have GW164 := gw (p := w.heap.size ≤ gb164) hg; have GE164 := gw (p := w.heap.size ≤ gb164) hg; replace HB := bb HB hb; clear hb hbox hg; obtain ⟨hcz23_0, hcz23_1, hcz23_2, hcz23_3, hcz23_4, hcz23_5, hcz23_6, hcz23_7⟩ := cz8 BK164; obtain ⟨hfz23_0, hfz23_1, hfz23_2, hfz23_3, hfz23_4, hfz23_5, hfz23_6, hfz23_7⟩ := fz8 BK164) | (refine gT 22 (some 19) Tryz.func22 #[.agg #[.int .i64 ((rd_T53 l0 x12_1).f0), .int .i64 ((rd_T53 l0 x12_1).f1), .int .i64 ((rd_T53 l0 x12_1).f2), .int .i64 ((rd_T53 l0 x12_1).f3.f0), .int .i64 ((rd_T53 l0 x12_1).f3.f1), .float .f64 ((rd_T53 l0 x12_1).f3.f2), .string ((rd_T53 l0 x12_1).f3.f3), .slice A163_7 ((rd_T53 l0 x12_1).f4).length c163_7], .slice A1 l1.length c1] ?_; (with_reducible refine (expr_Eval.calls ((rd_T53 l0 x12_1).f0) ((rd_T53 l0 x12_1).f1) ((rd_T53 l0 x12_1).f2) ((rd_T53 l0 x12_1).f3.f0) ((rd_T53 l0 x12_1).f3.f1) ((rd_T53 l0 x12_1).f3.f2) ((rd_T53 l0 x12_1).f3.f3) _ _ ((rd_T53 l0 x12_1).f4) _ _ l1 t165 t166 t167 t168 t169 _ ?_ ?_ ?_ ?_ A6.out).mono ?_); exact Kd.C_below HR163_7.out (bS GE164.out); exact HC163_7.out; exact Kd.C_below HR1.out (bS GE164.out); exact HC1.out; rintro e w24 ⟨rfl, hb⟩; refine ⟨_, rfl, ?_⟩; replace BK164 := kq (o := .cells #[.int .i64 ((rd_T53 l0 x12_1).f0), .int .i64 ((rd_T53 l0 x12_1).f1), .int .i64 ((rd_T53 l0 x12_1).f2), .int .i64 ((rd_T53 l0 x12_1).f3.f0), .int .i64 ((rd_T53 l0 x12_1).f3.f1), .float .f64 ((rd_T53 l0 x12_1).f3.f2), .string ((rd_T53 l0 x12_1).f3.f3), .slice A163_7 ((rd_T53 l0 x12_1).f4).length c163_7] 53 (0, 0)) BK164.out hb; replace HB := bg GE164 hb; clear hb) | ((with_reducible refine gate_dst (N := 8) rfl ?_); refine box_event ?hg (N := 8) ?hd (cs := #[.int .i64 0, .int .i64 0, .float .f64 0, .string (⟨#[]⟩ : ByteArray)]) (t := 39) ?hr ?_; (case hd => rfl); (case hg => rfl); (case hr => first | (go_simp; done) | (go_simp; rfl)); intro gb170 hg w25 hbox hb; have BK170 := akk (hbox); have GW170 := akk ((by rw [hg]; exact (below_size (bS GE164.out)) : w.heap.size ≤ gb170)); have GE170 := akk ((by rw [hg]; exact (below_size (bS GE164.out)) : w.heap.size ≤ gb170)); replace HB := bg GE164 hb; have NB164_170 := akk ((by rw [hg]; exact Nat.ne_of_lt (blk_lt (kT BK164.out)) : gb164 ≠ gb170)); have NB170_164 := akk ((by rw [hg]; exact Nat.ne_of_gt (blk_lt (kT BK164.out)) : gb170 ≠ gb164)); replace BK164 := kb BK164 hb; clear hb hbox hg; have hnb26 := NB170_164.out; have hnc26 := NB164_170.out; obtain ⟨hcz27_0, hcz27_1, hcz27_2, hcz27_3⟩ := cz4 BK170; obtain ⟨hfz27_0, hfz27_1, hfz27_2, hfz27_3⟩ := fz4 BK170))
        go_ret2
        exact ⟨fT, by repeat (first | (with_reducible first | exact HB.out | apply below_alloc | apply pw_below_drewN | apply below_drew1 | refine below_set ?_ GE164.out | refine below_set ?_ GE170.out) | exact HB.out)⟩
      ·rw [if_neg c7] at H
       have c7b0 : (t169 == 0) = false := beq_eq_false_iff_ne.mpr c7
       have c7b1 : (t169 != 0) = true := bne_iff_ne.mpr c7
       simp only [Option.some.injEq, Prod.mk.injEq] at H
       obtain ⟨rfl, rfl⟩ := H
       have p163 : 0 ≤ (x12_1 : Int) := of_decide_eq_true aT
       have q163 : x12_1 < (l0.length : Int) := of_decide_eq_true aT
       obtain ⟨ad163, A163_7, c163_7, e163, hx163_0, hx163_1, hx163_2, hx163_3, hx163_4, hx163_5, hx163_6, hx163_7, hl163_7, hi163_7⟩ := at_T53 HR0.out x12_1 p163 q163
       cases e163
       replace hx163_0 := hxT HB.out hx163_0
       replace hx163_1 := hxT HB.out hx163_1
       replace hx163_2 := hxT HB.out hx163_2
       replace hx163_3 := hxT HB.out hx163_3
       replace hx163_4 := hxT HB.out hx163_4
       replace hx163_5 := hxT HB.out hx163_5
       replace hx163_6 := hxT HB.out hx163_6
       replace hx163_7 := hxT HB.out hx163_7
       have HR163_7 := akk hi163_7
       have HC163_7 := akk hl163_7
       clear hi163_7 hl163_7
       replace p163 := eq_true p163
       replace q163 := eq_true q163
       go_wp2_with (first | ((with_reducible refine gate_dst (N := 7) rfl ?_); refine box_event ?hg (N := 7) ?hd (cs := #[.int .i64 0, .int .i64 0, .int .i64 0, .int .i64 0, .int .i64 0, .float .f64 0, .string (⟨#[]⟩ : ByteArray), .slice none 0 0]) (t := 53) ?hr ?_; (case hd => rfl); (case hg => rfl); (case hr => first | (go_simp; done) | (go_simp; rfl)); intro gb164 hg w28 hbox hb; have BK164 := akk (hbox); have GW164 := gw (p := w.heap.size ≤ gb164) hg; have GE164 := gw (p := w.heap.size ≤ gb164) hg; replace HB := bb HB hb; clear hb hbox hg; obtain ⟨hcz29_0, hcz29_1, hcz29_2, hcz29_3, hcz29_4, hcz29_5, hcz29_6, hcz29_7⟩ := cz8 BK164; obtain ⟨hfz29_0, hfz29_1, hfz29_2, hfz29_3, hfz29_4, hfz29_5, hfz29_6, hfz29_7⟩ := fz8 BK164) | (refine gT 22 (some 19) Tryz.func22 #[.agg #[.int .i64 ((rd_T53 l0 x12_1).f0), .int .i64 ((rd_T53 l0 x12_1).f1), .int .i64 ((rd_T53 l0 x12_1).f2), .int .i64 ((rd_T53 l0 x12_1).f3.f0), .int .i64 ((rd_T53 l0 x12_1).f3.f1), .float .f64 ((rd_T53 l0 x12_1).f3.f2), .string ((rd_T53 l0 x12_1).f3.f3), .slice A163_7 ((rd_T53 l0 x12_1).f4).length c163_7], .slice A1 l1.length c1] ?_; (with_reducible refine (expr_Eval.calls ((rd_T53 l0 x12_1).f0) ((rd_T53 l0 x12_1).f1) ((rd_T53 l0 x12_1).f2) ((rd_T53 l0 x12_1).f3.f0) ((rd_T53 l0 x12_1).f3.f1) ((rd_T53 l0 x12_1).f3.f2) ((rd_T53 l0 x12_1).f3.f3) _ _ ((rd_T53 l0 x12_1).f4) _ _ l1 t165 t166 t167 t168 t169 _ ?_ ?_ ?_ ?_ A6.out).mono ?_); exact Kd.C_below HR163_7.out (bS GE164.out); exact HC163_7.out; exact Kd.C_below HR1.out (bS GE164.out); exact HC1.out; rintro e w30 ⟨rfl, hb⟩; refine ⟨_, rfl, ?_⟩; replace BK164 := kq (o := .cells #[.int .i64 ((rd_T53 l0 x12_1).f0), .int .i64 ((rd_T53 l0 x12_1).f1), .int .i64 ((rd_T53 l0 x12_1).f2), .int .i64 ((rd_T53 l0 x12_1).f3.f0), .int .i64 ((rd_T53 l0 x12_1).f3.f1), .float .f64 ((rd_T53 l0 x12_1).f3.f2), .string ((rd_T53 l0 x12_1).f3.f3), .slice A163_7 ((rd_T53 l0 x12_1).f4).length c163_7] 53 (0, 0)) BK164.out hb; replace HB := bg GE164 hb; clear hb) | ((with_reducible refine gate_dst (N := 8) rfl ?_); refine box_event ?hg (N := 8) ?hd (cs := #[.int .i64 0, .int .i64 0, .float .f64 0, .string (⟨#[]⟩ : ByteArray)]) (t := 39) ?hr ?_; (case hd => rfl); (case hg => rfl); (case hr => first | (go_simp; done) | (go_simp; rfl)); intro gb170 hg w31 hbox hb; have BK170 := akk (hbox); have GW170 := akk ((by rw [hg]; exact (below_size (bS GE164.out)) : w.heap.size ≤ gb170)); have GE170 := akk ((by rw [hg]; exact (below_size (bS GE164.out)) : w.heap.size ≤ gb170)); replace HB := bg GE164 hb; have NB164_170 := akk ((by rw [hg]; exact Nat.ne_of_lt (blk_lt (kT BK164.out)) : gb164 ≠ gb170)); have NB170_164 := akk ((by rw [hg]; exact Nat.ne_of_gt (blk_lt (kT BK164.out)) : gb170 ≠ gb164)); replace BK164 := kb BK164 hb; clear hb hbox hg; have hnb32 := NB170_164.out; have hnc32 := NB164_170.out; obtain ⟨hcz33_0, hcz33_1, hcz33_2, hcz33_3⟩ := cz4 BK170; obtain ⟨hfz33_0, hfz33_1, hfz33_2, hfz33_3⟩ := fz4 BK170))
       go_ret2
       exact ⟨fT, by repeat (first | (with_reducible first | exact HB.out | apply below_alloc | apply pw_below_drewN | apply below_drew1 | refine below_set ?_ GE164.out | refine below_set ?_ GE170.out) | exact HB.out)⟩
     ·rw [if_neg c5] at H
      exact absurd H (by simp)
    ·rw [if_neg c4] at H
     exact absurd H (by simp)
   ·rw [if_neg c3] at H
    have c3b0 := decide_eq_false c3
    clear c3
    simp only [Option.some.injEq, Prod.mk.injEq] at H
    obtain ⟨rfl, rfl⟩ := H
    go_wp2
    go_ret2
    exact ⟨fT, bT⟩
end Go.Proofs.YtgmolmpfihkolaaGreat.Pj
