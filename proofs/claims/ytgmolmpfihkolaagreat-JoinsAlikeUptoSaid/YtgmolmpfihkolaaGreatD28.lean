/- Part of the proof. -/
import Derived.Test.YtgmolmpfihkolaaGreatD27
namespace Go.Proofs.YtgmolmpfihkolaaGreat.Pj
open Go.RowKit Go.Proofs.YtgmolmpfihkolaaGreatW.PrintWords Go.Proofs.YtgmolmpfihkolaaGreatW.PrintLast Go.Proofs.YtgmolmpfihkolaaGreatW.PrintMore
attribute [local go_sem] run_store_flt max2_int min2_int max_two min_two max_three min_three max_four min_four
set_option linter.unusedVariables false
set_option linter.unusedSimpArgs false
mutual
def r05_Bulk.l0 : Nat → T2 → Int → Int → Int → Option (Int)
 | 0, _, _, _, _ => none
 | k + 1, x0, x1, x5, x6 => if x6 < (x0.length : Int) then (if 0 ≤ x6 then (if ((rd_L5 x0 x6).length : Int) > x1 then (some (wrap64 (x1 + 1))) else (r05_Bulk.l1 k x0 x1 x5 x6 0)) else (none)) else (some x5)
def r05_Bulk.l1 : Nat → T2 → Int → Int → Int → Int → Option (Int)
 | 0, _, _, _, _, _ => none
 | k + 1, x0, x1, x5, x6, x7 => if 0 ≤ x6 then (if x6 < (x0.length : Int) then (if x7 < ((rd_L5 x0 x6).length : Int) then (if x5 > x1 then (some (wrap64 (x1 + 1))) else (if 0 ≤ x7 then (if (((rd_T39 (rd_L5 x0 x6) x7).f3).size : Int) > x1 then (some (wrap64 (x1 + 1))) else (r05_Bulk.l1 k x0 x1 (wrap64 ((wrap64 (x5 + 1)) + (((rd_T39 (rd_L5 x0 x6) x7).f3).size : Int))) x6 (wrap64 (x7 + 1)))) else (none))) else (r05_Bulk.l0 k x0 x1 x5 (wrap64 (x6 + 1)))) else (none)) else (none)
end
def r05_Bulk.f (k : Nat) (l0 : T2) (a1 : Int) : Option (Int) := if (l0.length : Int) > a1 then (some (wrap64 (a1 + 1))) else (r05_Bulk.l0 k l0 a1 (l0.length : Int) 0)
set_option maxHeartbeats 8000000 in
set_option maxRecDepth 100000 in
theorem r05_Bulk.calls (k : Nat) (A0 : Option Addr) (c0 : Nat) (l0 : T2) (a1 : Int) (r : Int) (w : World) (hr0 : Kd.C (Kd.slice 39 k39) w A0 l0.length l0) (hc0 : l0.length ≤ c0) (h : r05_Bulk.f k l0 a1 = some r) :
 Calls Tryz.prog 29 #[.slice A0 l0.length c0, .int .i64 a1] w fun e w' => e = .returned (.int .i64 r) ∧ Drawn0 w w' := by
 have HR0 := akk hr0
 have HC0 := akk hc0
 clear hr0 hc0
 have H : (if (l0.length : Int) > a1 then (some (wrap64 (a1 + 1))) else (r05_Bulk.l0 k l0 a1 (l0.length : Int) 0)) = some r := h
 clear h
 by_cases c3 : (l0.length : Int) > a1
 ·rw [if_pos c3] at H
  have c3b0 := decide_eq_true c3
  clear c3
  obtain rfl := Option.some.inj H
  go_enter Tryz.func29, Tryz.ntmps29
  go_wp2
  go_ret
  exact ⟨by first | rfl | (simp; done) | (simp [*]; done), by repeat (first | exact Drawn0.refl _ | apply Drawn0.step)⟩
 ·rw [if_neg c3] at H
  have c3b0 := decide_eq_false c3
  clear c3
  have H' := akk H
  clear H
  go_enter Tryz.func29, Tryz.ntmps29
  go_wp2
  go_loopg [5, 6] k (fun kq v5 v6 w' => ∃ (x5_1 : Int) (x6_1 : Int), v5 = .int .i64 x5_1 ∧ v6 = .int .i64 x6_1 ∧ Aside0 (r05_Bulk.l0 kq l0 a1 x5_1 x6_1 = some r) ∧ Aside0 (kq ≤ k) ∧ Drawn0 w w')
  case atStart => exact ⟨((l0.length : Int)), (0), eT, eT, H', ⟨Nat.le_refl _⟩, by repeat (first | exact Drawn0.refl _ | apply Drawn0.step)⟩
  case round =>
   clear H'
   try clear c3b0
   obtain ⟨x5_1, x6_1, rfl, rfl, HA, HK1, ⟨m1, rfl⟩⟩ := hrel
   cases gk with
   | zero => exact absurd HA.out (by simp [r05_Bulk.l0])
   | succ k1 =>
    have H := HA.out
    clear HA
    simp only [r05_Bulk.l0] at H
    by_cases c4 : x6_1 < (l0.length : Int)
    ·rw [if_pos c4] at H
     have c4b0 := decide_eq_true c4
     clear c4
     by_cases c5 : 0 ≤ x6_1
     ·rw [if_pos c5] at H
      have c5b0 := decide_eq_true c5
      clear c5
      by_cases c6 : ((rd_L5 l0 x6_1).length : Int) > a1
      ·rw [if_pos c6] at H
       have c6b0 := decide_eq_true c6
       clear c6
       obtain rfl := Option.some.inj H
       obtain ⟨ad105, A105_0, c105_0, e105, hx105_0, HR105_0, HC105_0, p105, q105⟩ := gC5 HR0 x6_1
       cases e105
       go_wp2
       go_ret
       exact ⟨by first | rfl | (simp; done) | (simp [*]; done), by repeat (first | exact Drawn0.refl _ | apply Drawn0.step)⟩
      ·rw [if_neg c6] at H
       have c6b0 := decide_eq_false c6
       clear c6
       have H' := akk H
       clear H
       obtain ⟨ad105, A105_0, c105_0, e105, hx105_0, HR105_0, HC105_0, p105, q105⟩ := gC5 HR0 x6_1
       cases e105
       go_wp2
       go_loopg [5, 7] k1 (fun kq v5 v7 w' => ∃ (x5_2 : Int) (x7_2 : Int), v5 = .int .i64 x5_2 ∧ v7 = .int .i64 x7_2 ∧ Aside0 (r05_Bulk.l1 kq l0 a1 x5_2 x6_1 x7_2 = some r) ∧ Aside0 (kq ≤ k1) ∧ Drawn0 w w')
       case atStart => exact ⟨(x5_1), (0), eT, eT, H', ⟨Nat.le_refl _⟩, by repeat (first | exact Drawn0.refl _ | apply Drawn0.step)⟩
       case round =>
        clear H'
        try clear c4b0
        try clear c5b0
        try clear c6b0
        try clear hx105_0
        try clear p105
        try clear q105
        obtain ⟨x5_2, x7_2, rfl, rfl, HA, HK2, ⟨m2, rfl⟩⟩ := hrel
        cases gk with
        | zero => exact absurd HA.out (by simp [r05_Bulk.l1])
        | succ k2 =>
         have H := HA.out
         clear HA
         simp only [r05_Bulk.l1] at H
         by_cases c7 : 0 ≤ x6_1
         ·rw [if_pos c7] at H
          have c7b0 := decide_eq_true c7
          clear c7
          by_cases c8 : x6_1 < (l0.length : Int)
          ·rw [if_pos c8] at H
           have c8b0 := decide_eq_true c8
           clear c8
           by_cases c9 : x7_2 < ((rd_L5 l0 x6_1).length : Int)
           ·rw [if_pos c9] at H
            have c9b0 := decide_eq_true c9
            clear c9
            by_cases c10 : x5_2 > a1
            ·rw [if_pos c10] at H
             have c10b0 := decide_eq_true c10
             clear c10
             obtain rfl := Option.some.inj H
             obtain ⟨ad106, A106_0, c106_0, e106, hx106_0, HR106_0, HC106_0, p106, q106⟩ := gC5 HR0 x6_1
             obtain rfl : ad105 = ad106 := (by injection e106)
             go_wp2
             go_ret
             exact ⟨by first | rfl | (simp; done) | (simp [*]; done), by repeat (first | exact Drawn0.refl _ | apply Drawn0.step)⟩
            ·rw [if_neg c10] at H
             have c10b0 := decide_eq_false c10
             clear c10
             by_cases c11 : 0 ≤ x7_2
             ·rw [if_pos c11] at H
              have c11b0 := decide_eq_true c11
              clear c11
              by_cases c12 : (((rd_T39 (rd_L5 l0 x6_1) x7_2).f3).size : Int) > a1
              ·rw [if_pos c12] at H
               have c12b0 := decide_eq_true c12
               clear c12
               obtain rfl := Option.some.inj H
               obtain ⟨ad106, A106_0, c106_0, e106, hx106_0, HR106_0, HC106_0, p106, q106⟩ := gC5 HR0 x6_1
               obtain rfl : ad105 = ad106 := (by injection e106)
               obtain ⟨ad107, A107_0, c107_0, e107, hx107_0, HR107_0, HC107_0, p107, q107⟩ := gC5 HR0 x6_1
               obtain rfl : ad105 = ad107 := (by injection e107)
               have ea_ := Option.some.inj (hx106_0.symm.trans hx107_0)
               injection ea_ with ea_ en_ ec_
               subst ea_
               subst ec_
               clear en_
               have p108 : 0 ≤ (x7_2 : Int) := of_decide_eq_true aT
               have q108 : x7_2 < ((rd_L5 l0 x6_1).length : Int) := of_decide_eq_true aT
               obtain ⟨ad108, e108, hx108_0, hx108_1, hx108_2, hx108_3⟩ := at_T39 HR107_0.out x7_2 p108 q108
               cases e108
               replace p108 := eq_true p108
               replace q108 := eq_true q108
               go_wp2
               go_ret
               exact ⟨by first | rfl | (simp; done) | (simp [*]; done), by repeat (first | exact Drawn0.refl _ | apply Drawn0.step)⟩
              ·rw [if_neg c12] at H
               have c12b0 := decide_eq_false c12
               clear c12
               have H' := akk H
               clear H
               obtain ⟨ad106, A106_0, c106_0, e106, hx106_0, HR106_0, HC106_0, p106, q106⟩ := gC5 HR0 x6_1
               obtain rfl : ad105 = ad106 := (by injection e106)
               obtain ⟨ad107, A107_0, c107_0, e107, hx107_0, HR107_0, HC107_0, p107, q107⟩ := gC5 HR0 x6_1
               obtain rfl : ad105 = ad107 := (by injection e107)
               have ea_ := Option.some.inj (hx106_0.symm.trans hx107_0)
               injection ea_ with ea_ en_ ec_
               subst ea_
               subst ec_
               clear en_
               have p108 : 0 ≤ (x7_2 : Int) := of_decide_eq_true aT
               have q108 : x7_2 < ((rd_L5 l0 x6_1).length : Int) := of_decide_eq_true aT
               obtain ⟨ad108, e108, hx108_0, hx108_1, hx108_2, hx108_3⟩ := at_T39 HR107_0.out x7_2 p108 q108
               cases e108
               replace p108 := eq_true p108
               replace q108 := eq_true q108
               obtain ⟨ad109, A109_0, c109_0, e109, hx109_0, HR109_0, HC109_0, p109, q109⟩ := gC5 HR0 x6_1
               obtain rfl : ad105 = ad109 := (by injection e109)
               have ea_ := Option.some.inj (hx106_0.symm.trans hx109_0)
               injection ea_ with ea_ en_ ec_
               subst ea_
               subst ec_
               clear en_
               have p110 : 0 ≤ (x7_2 : Int) := of_decide_eq_true aT
               have q110 : x7_2 < ((rd_L5 l0 x6_1).length : Int) := of_decide_eq_true aT
               obtain ⟨ad110, e110, hx110_0, hx110_1, hx110_2, hx110_3⟩ := at_T39 HR109_0.out x7_2 p110 q110
               cases e110
               replace p110 := eq_true p110
               replace q110 := eq_true q110
               go_wp2
               go_roundg k2
               case measure => have := HK1.out; have := HK2.out; omega
               case rel => exact ⟨(wrap64 ((wrap64 (x5_2 + 1)) + (((rd_T39 (rd_L5 l0 x6_1) x7_2).f3).size : Int))), (wrap64 (x7_2 + 1)), eT, eT, H', ⟨by have := HK1.out; have := HK2.out; omega⟩, by repeat (first | exact Drawn0.refl _ | apply Drawn0.step)⟩
             ·rw [if_neg c11] at H
              exact absurd H (by simp)
           ·rw [if_neg c9] at H
            have c9b0 := decide_eq_false c9
            clear c9
            have H' := akk H
            clear H
            obtain ⟨ad106, A106_0, c106_0, e106, hx106_0, HR106_0, HC106_0, p106, q106⟩ := gC5 HR0 x6_1
            obtain rfl : ad105 = ad106 := (by injection e106)
            go_wp2
            go_roundg k2
            case measure => have := HK1.out; have := HK2.out; omega
            case rel => exact ⟨(x5_2), (wrap64 (x6_1 + 1)), eT, eT, H', ⟨by have := HK1.out; have := HK2.out; omega⟩, by repeat (first | exact Drawn0.refl _ | apply Drawn0.step)⟩
          ·rw [if_neg c8] at H
           exact absurd H (by simp)
         ·rw [if_neg c7] at H
          exact absurd H (by simp)
     ·rw [if_neg c5] at H
      exact absurd H (by simp)
    ·rw [if_neg c4] at H
     have c4b0 := decide_eq_false c4
     clear c4
     obtain rfl := Option.some.inj H
     go_wp2
     go_ret
     exact ⟨by first | rfl | (simp; done) | (simp [*]; done), by repeat (first | exact Drawn0.refl _ | apply Drawn0.step)⟩
mutual
def a27_Great.j0 : Nat → T3 → T3 → Bool → Option (Bool)
 | 0, _, _, _ => none
 | k + 1, x0, x1, x21 => if x21 = true then (some true) else ((some (([] : T3) : T3)).bind fun y112 => (if y112.length + x0.length < 5864062014805 then ((some (y112 ++ x0 : T3)).bind fun y115 => (if y115.length + x1.length < 5864062014805 then ((some (y115 ++ x1 : T3)).bind fun y118 => (a27_Great.l0 k y118 (y118.length : Int) 0)) else (none))) else (none)))
def a27_Great.l0 : Nat → T3 → Int → Int → Option (Bool)
 | 0, _, _, _ => none
 | k + 1, x26, x27, x28 => if x28 < x27 then (if 0 ≤ x28 then (if x28 < (x26.length : Int) then (if ((rd_L6 x26 x28).length : Int) > 13 then (some true) else ((r05_Bulk.f k (rd_L6 x26 x28) 200).bind fun t122 => (if t122 > 200 then (some true) else (a27_Great.l0 k x26 x27 (wrap64 (x28 + 1)))))) else (none)) else (none)) else (some false)
end
def a27_Great.f (k : Nat) (l0 : T3) (l1 : T3) (l2 : List (S53)) : Option (Bool) := if (l0.length : Int) > 30 then (a27_Great.j0 k l0 l1 true) else (if (l1.length : Int) > 30 then (a27_Great.j0 k l0 l1 true) else ((r22_Bulk.f k l2 200).bind fun t111 => (a27_Great.j0 k l0 l1 (decide (t111 > 200)))))
set_option maxHeartbeats 8000000 in
set_option maxRecDepth 100000 in
theorem a27_Great.calls (k : Nat) (P0_ : Nat → Prop) (A0 : Option Addr) (c0 : Nat) (l0 : T3) (P1_ : Nat → Prop) (A1 : Option Addr) (c1 : Nat) (l1 : T3) (A2 : Option Addr) (c2 : Nat) (l2 : List (S53)) (r : Bool) (w : World) (hs0 : Kd.V (Kd.slice 29 (Kd.slice 39 k39)) 22 w w.heap.size (fun k_ => P0_ k_) (.slice A0 l0.length c0) l0) (hs1 : Kd.V (Kd.slice 29 (Kd.slice 39 k39)) 22 w w.heap.size (fun k_ => P1_ k_) (.slice A1 l1.length c1) l1) (hr2 : Kd.C k53 w A2 l2.length l2) (hc2 : l2.length ≤ c2) (h : a27_Great.f k l0 l1 l2 = some r) :
 Calls Tryz.prog 7 #[.slice A0 l0.length c0, .slice A1 l1.length c1, .slice A2 l2.length c2] w fun e w' => e = .returned (.bool r) ∧ Below w.heap.size w w' := by
 have HO0 := akk (show Kd.V (Kd.slice 29 (Kd.slice 39 k39)) 22 w w.heap.size (fun k_ => ((P0_ k_ ∨ P1_ k_) ∨ w.heap.size ≤ k_)) (.slice A0 l0.length c0) l0 from Kd.V_mono hs0 (fun k_ hk => .inl (.inl hk)))
 have HO1 := akk (show Kd.V (Kd.slice 29 (Kd.slice 39 k39)) 22 w w.heap.size (fun k_ => ((P0_ k_ ∨ P1_ k_) ∨ w.heap.size ≤ k_)) (.slice A1 l1.length c1) l1 from Kd.V_mono hs1 (fun k_ hk => .inl (.inr hk)))
 have HR2 := akk hr2
 have HC2 := akk hc2
 clear hr2 hc2
 have HB := akk (Below.refl w.heap.size w)
 have H : (if (l0.length : Int) > 30 then (a27_Great.j0 k l0 l1 true) else (if (l1.length : Int) > 30 then (a27_Great.j0 k l0 l1 true) else ((r22_Bulk.f k l2 200).bind fun t111 => (a27_Great.j0 k l0 l1 (decide (t111 > 200)))))) = some r := h
 clear h
 have HC4 := akk H
 clear H
 go_enter Tryz.func7, Tryz.ntmps7
 go_upto_region 1 with (fail)
 go_cut [21] (fun v21 wc => ∃ (kq : Nat) (x21_3 : Bool), v21 = .bool x21_3 ∧ Aside0 (a27_Great.j0 kq l0 l1 x21_3 = some r) ∧ Aside0 (kq ≤ k) ∧ Aside0 (Kd.V (Kd.slice 29 (Kd.slice 39 k39)) 22 wc w.heap.size (fun k_ => ((P0_ k_ ∨ P1_ k_) ∨ w.heap.size ≤ k_)) (.slice A0 l0.length c0) l0) ∧ Aside0 (Kd.V (Kd.slice 29 (Kd.slice 39 k39)) 22 wc w.heap.size (fun k_ => ((P0_ k_ ∨ P1_ k_) ∨ w.heap.size ≤ k_)) (.slice A1 l1.length c1) l1) ∧ Aside0 (Below w.heap.size w wc))
 case first =>
  have H := HC4.out
  clear HC4
  by_cases c5 : (l0.length : Int) > 30
  ·rw [if_pos c5] at H
   have c5b0 := decide_eq_true c5
   have c5b1 : decide (30 < l0.length) = true := decide_eq_true (by omega)
   clear c5
   (first | rw [c5b0] | (simp only [i64_w, i32_w]; rw [c5b0]) | skip)
   have H' := akk H
   clear H
   go_wp2
   go_meet
   case rel => exact ⟨_, (true), eT, H', ⟨by first | omega | exact Nat.le_refl _⟩, ⟨vT HO0.out⟩, ⟨vT HO1.out⟩, ⟨bT⟩⟩
  ·rw [if_neg c5] at H
   have c5b0 := decide_eq_false c5
   have c5b1 : decide (30 < l0.length) = false := decide_eq_false (by omega)
   clear c5
   (first | rw [c5b0] | (simp only [i64_w, i32_w]; rw [c5b0]) | skip)
   by_cases c6 : (l1.length : Int) > 30
   ·rw [if_pos c6] at H
    have c6b0 := decide_eq_true c6
    have c6b1 : decide (30 < l1.length) = true := decide_eq_true (by omega)
    clear c6
    have H' := akk H
    clear H
    go_wp2
    go_meet
    case rel => exact ⟨_, (true), eT, H', ⟨by first | omega | exact Nat.le_refl _⟩, ⟨vT HO0.out⟩, ⟨vT HO1.out⟩, ⟨bT⟩⟩
   ·rw [if_neg c6] at H
    have c6b0 := decide_eq_false c6
    have c6b1 : decide (30 < l1.length) = false := decide_eq_false (by omega)
    clear c6
    obtain ⟨t111, A7, H⟩ := bi H
    try dsimp only at H
    have H' := akk H
    clear H
    go_wp2_with (go_at_call 28; (with_reducible refine (r22_Bulk.calls k _ _ l2 200 t111 _ ?_ ?_ A7.out).mono ?_); exact cT HR2.out; exact HC2.out; rintro e w' ⟨rfl, ⟨nd, rfl⟩⟩)
    go_meet
    case rel => exact ⟨_, (decide (t111 > 200)), eT, H', ⟨by first | omega | exact Nat.le_refl _⟩, ⟨vT HO0.out⟩, ⟨vT HO1.out⟩, ⟨bT⟩⟩
 case rest =>
  clear HC4
  try clear c1
  obtain ⟨kq, x21_3, rfl, HA, HJ3, HO_0, HO_1, HB⟩ := hcut
  cases kq with
  | zero => exact absurd HA.out (by simp [a27_Great.j0])
  | succ kj3 =>
   have H := HA.out
   clear HA
   simp only [a27_Great.j0] at H
   by_cases c8 : x21_3 = true
   ·subst c8
    rw [if_pos rfl] at H
    obtain rfl := Option.some.inj H
    go_wp2
    go_ret
    exact ⟨fT, bT⟩
   ·replace c8 := Bool.eq_false_iff.mpr c8
    subst c8
    rw [if_neg (show ¬ (false = true) by decide)] at H
    obtain ⟨y112, hy112⟩ : ∃ y_ : T3, y_ = (([] : T3)) := ⟨_, rfl⟩
    replace H : (if y112.length + l0.length < 5864062014805 then ((some (y112 ++ l0 : T3)).bind fun y115 => (if y115.length + l1.length < 5864062014805 then ((some (y115 ++ l1 : T3)).bind fun y118 => (a27_Great.l0 kj3 y118 (y118.length : Int) 0)) else (none))) else (none)) = some r := jT hy112 H
    have Ny112 := akk hy112
    clear hy112
    by_cases c9 : y112.length + l0.length < 5864062014805
    ·rw [if_pos c9] at H
     have LMc9 := akk c9
     clear c9
     obtain ⟨y115, hy115⟩ : ∃ y_ : T3, y_ = (y112 ++ l0) := ⟨_, rfl⟩
     replace H : (if y115.length + l1.length < 5864062014805 then ((some (y115 ++ l1 : T3)).bind fun y118 => (a27_Great.l0 kj3 y118 (y118.length : Int) 0)) else (none)) = some r := jT hy115 H
     have Ny115 := akk hy115
     clear hy115
     by_cases c10 : y115.length + l1.length < 5864062014805
     ·rw [if_pos c10] at H
      have LMc10 := akk c10
      clear c10
      obtain ⟨y118, hy118⟩ : ∃ y_ : T3, y_ = (y115 ++ l1) := ⟨_, rfl⟩
      replace H : (a27_Great.l0 kj3 y118 (y118.length : Int) 0) = some r := jT hy118 H
      have Ny118 := akk hy118
      clear hy118
      have H' := akk H
      clear H
      go_wp2_with (first | ((with_reducible refine gate_dst (N := 22) rfl ?_); (try (refine gate_guard (by rfl) ?_; dsimp only)); refine Kd.N_lit (Kd.slice 29 (Kd.slice 39 k39)) _ 22 ?hg (N' := 22) ?hd (xs := ([] : T3)) (inner := []) (ok := (fun k_ => ((P0_ k_ ∨ P1_ k_) ∨ w.heap.size ≤ k_))) (okp := (fun k_ => ((P0_ k_ ∨ P1_ k_) ∨ w.heap.size ≤ k_))) ?hr ?hp (fun _ hk => hk) ((show ∀ k_, wc.heap.size ≤ k_ → (fun k_ => ((P0_ k_ ∨ P1_ k_) ∨ w.heap.size ≤ k_)) k_ from fun k_ hk => (.inr (Nat.le_trans (below_size bT) hk))) _ (Nat.le_refl _)) (Below.refl _ _) (Nat.le_refl _) (by simp) ?_; (case hd => rfl); (case hg => rfl); (case hr => first | (go_simp; done) | (go_simp; rfl)); (case hp => exact (Reps.none _ _)); intro v113 w11 ho12 hb hg_ hnew_; clear hg_ hnew_; (first | rw [← Ny112.out] at ho12 | (simp only [Int.reduceToNat] at ho12; rw [← Ny112.out] at ho12)); replace HO_0 := ve HO_0 ho12 hb; replace HO_1 := ve HO_1 ho12 hb; have HO114 := akk (Kd.N_lower ho12 (below_size bT)); replace HB := bb HB hb; clear hb ho12) | ((with_reducible refine gA #[.tmp 22, .tmp 23] rfl ?_); (try (refine gate_guard (by rfl) ?_; dsimp only)); at_builtin; refine Kd.N_append_rows (Kd.slice 29 (Kd.slice 39 k39)) (w0 := w) w.heap.size rfl (.tmp 22) (.tmp 23) 25 22 (.slice none 0 0) 24 rfl Tryz.underlying25 info22 rfl (by decide) (by omega) v113 y112 l0 _ _ _ (fun k_ => ((P0_ k_ ∨ P1_ k_) ∨ w.heap.size ≤ k_)) (fun k_ => ((fun k_ => ((P0_ k_ ∨ P1_ k_) ∨ w.heap.size ≤ k_))) k_ ∧ some k_ ≠ (v113 : Value).ownBlock) rfl rfl ?aO ?aR (fun _ hk => hk) ?aF ?aB ?aS ?aL ?_; (case aR => exact (by skip; exact Kd.V_F (Kd.V_mono (ok' := (fun k_ => ((fun k_ => ((P0_ k_ ∨ P1_ k_) ∨ w.heap.size ≤ k_))) k_ ∧ some k_ ≠ (v113 : Value).ownBlock)) (HO_0.out) (fun k_ hk => ⟨hk.1, hk.2⟩)))); (case aB => exact bT); (case aF => exact (fun k_ hk => (.inr (Nat.le_trans (below_size bT) hk)))); (case aO => exact (nT HO114.out)); (case aS => exact (below_size bT)); (case aL => have := LMc9.out; omega); intro v116 w13 ho hb hg hat; rw [← Ny115.out] at ho; replace HO_0 := va HO_0 hg hat; replace HO_1 := va HO_1 hg hat; replace HB := akk (hb); have HO117 := akk (ho); clear HO114; clear ho hb hg hat) | ((with_reducible refine gA #[.tmp 24, .tmp 25] rfl ?_); (try (refine gate_guard (by rfl) ?_; dsimp only)); at_builtin; refine Kd.N_append_rows (Kd.slice 29 (Kd.slice 39 k39)) (w0 := w) w.heap.size rfl (.tmp 24) (.tmp 25) 25 22 (.slice none 0 0) 24 rfl Tryz.underlying25 info22 rfl (by decide) (by omega) v116 y115 l1 _ _ _ (fun k_ => ((P0_ k_ ∨ P1_ k_) ∨ w.heap.size ≤ k_)) (fun k_ => ((fun k_ => ((P0_ k_ ∨ P1_ k_) ∨ w.heap.size ≤ k_))) k_ ∧ some k_ ≠ (v116 : Value).ownBlock) rfl rfl ?aO ?aR (fun _ hk => hk) ?aF ?aB ?aS ?aL ?_; (case aR => exact (by skip; exact Kd.V_F (Kd.V_mono (ok' := (fun k_ => ((fun k_ => ((P0_ k_ ∨ P1_ k_) ∨ w.heap.size ≤ k_))) k_ ∧ some k_ ≠ (v116 : Value).ownBlock)) (HO_1.out) (fun k_ hk => ⟨hk.1, hk.2⟩)))); (case aB => exact bT); (case aF => exact (fun k_ hk => (.inr (Nat.le_trans (below_size bT) hk)))); (case aO => exact (nT HO117.out)); (case aS => exact (below_size bT)); (case aL => have := LMc10.out; omega); intro v119 w14 ho hb hg hat; rw [← Ny118.out] at ho; replace HO_0 := va HO_0 hg hat; replace HO_1 := va HO_1 hg hat; replace HB := akk (hb); have HO120 := akk (ho); clear HO117; clear ho hb hg hat; obtain ⟨Ao15, co15, eo15⟩ := Kd.N_slice HO120.out; subst eo15))
      go_loopg [28] kj3 (fun kq v28 w' => ∃ (x28_2 : Int), v28 = .int .i64 x28_2 ∧ Aside0 (a27_Great.l0 kq y118 (y118.length : Int) x28_2 = some r) ∧ Aside0 (kq ≤ kj3) ∧ Aside0 (Kd.N (Kd.slice 29 (Kd.slice 39 k39)) 22 w' w.heap.size (fun k_ => ((P0_ k_ ∨ P1_ k_) ∨ w.heap.size ≤ k_)) (.slice Ao15 y118.length co15) y118) ∧ Aside0 (Below w.heap.size w w'))
      case atStart => exact ⟨(0), eT, H', ⟨Nat.le_refl _⟩, ⟨nT HO120.out⟩, ⟨bT⟩⟩
      case round =>
       clear H'
       try clear c8
       obtain ⟨x28_2, rfl, HA, HK2, HO_26, HB⟩ := hrel
       cases gk with
       | zero => exact absurd HA.out (by simp [a27_Great.l0])
       | succ k2 =>
        have H := HA.out
        clear HA
        simp only [a27_Great.l0] at H
        by_cases c16 : x28_2 < (y118.length : Int)
        ·rw [if_pos c16] at H
         have c16b0 := decide_eq_true c16
         clear c16
         by_cases c17 : 0 ≤ x28_2
         ·rw [if_pos c17] at H
          have c17b0 := decide_eq_true c17
          clear c17
          by_cases c18 : x28_2 < (y118.length : Int)
          ·rw [if_pos c18] at H
           have c18b0 := decide_eq_true c18
           clear c18
           by_cases c19 : ((rd_L6 y118 x28_2).length : Int) > 13
           ·rw [if_pos c19] at H
            have c19b0 := decide_eq_true c19
            have c19b1 : decide (13 < (rd_L6 y118 x28_2).length) = true := decide_eq_true (by omega)
            clear c19
            obtain rfl := Option.some.inj H
            obtain ⟨ad121, A121_0, c121_0, rfl, hx121_0, HL121_0, HR121_0, HC121_0, p121, q121⟩ := gN6 HO_26 x28_2
            go_wp2
            go_ret
            exact ⟨fT, bT⟩
           ·rw [if_neg c19] at H
            have c19b0 := decide_eq_false c19
            have c19b1 : decide (13 < (rd_L6 y118 x28_2).length) = false := decide_eq_false (by omega)
            clear c19
            obtain ⟨t122, A20, H⟩ := bi H
            try dsimp only at H
            by_cases c21 : t122 > 200
            ·rw [if_pos c21] at H
             have c21b0 := decide_eq_true c21
             clear c21
             obtain rfl := Option.some.inj H
             obtain ⟨ad121, A121_0, c121_0, rfl, hx121_0, HL121_0, HR121_0, HC121_0, p121, q121⟩ := gN6 HO_26 x28_2
             go_wp2_with (go_at_call 29; (with_reducible refine (r05_Bulk.calls k2 _ _ (rd_L6 y118 x28_2) 200 t122 _ ?_ ?_ A20.out).mono ?_); exact cV HR121_0.out; exact HC121_0.out; rintro e w' ⟨rfl, ⟨nd, rfl⟩⟩)
             go_ret
             exact ⟨fT, bT⟩
            ·rw [if_neg c21] at H
             have c21b0 := decide_eq_false c21
             clear c21
             have H' := akk H
             clear H
             obtain ⟨ad121, A121_0, c121_0, rfl, hx121_0, HL121_0, HR121_0, HC121_0, p121, q121⟩ := gN6 HO_26 x28_2
             go_wp2_with (go_at_call 29; (with_reducible refine (r05_Bulk.calls k2 _ _ (rd_L6 y118 x28_2) 200 t122 _ ?_ ?_ A20.out).mono ?_); exact cV HR121_0.out; exact HC121_0.out; rintro e w' ⟨rfl, ⟨nd, rfl⟩⟩)
             go_roundg k2
             case measure => have := HJ3.out; have := HK2.out; omega
             case rel => exact ⟨(wrap64 (x28_2 + 1)), eT, H', ⟨by have := HJ3.out; have := HK2.out; omega⟩, ⟨nT HO_26.out⟩, ⟨bT⟩⟩
          ·rw [if_neg c18] at H
           exact absurd H (by simp)
         ·rw [if_neg c17] at H
          exact absurd H (by simp)
        ·rw [if_neg c16] at H
         have c16b0 := decide_eq_false c16
         clear c16
         obtain rfl := Option.some.inj H
         go_wp2
         go_ret
         exact ⟨fT, bT⟩
     ·rw [if_neg c10] at H
      exact absurd H (by simp)
    ·rw [if_neg c9] at H
     exact absurd H (by simp)
def a27_all.f (l0 : List (S53)) (l1 : List (S53)) (l2 : List (S53)) : Option ((List (S53))) := (some (([] : List (S53)) : List (S53))).bind fun y123 => (if y123.length + l0.length < 1599289640401 then ((some (y123 ++ l0 : List (S53))).bind fun y126 => (if y126.length + l1.length < 1599289640401 then ((some (y126 ++ l1 : List (S53))).bind fun y129 => (if y129.length + l2.length < 1599289640401 then (some (y129 ++ l2)) else (none))) else (none))) else (none))
set_option maxHeartbeats 8000000 in
set_option maxRecDepth 100000 in
theorem a27_all.calls (P0_ : Nat → Prop) (A0 : Option Addr) (c0 : Nat) (l0 : List (S53)) (P1_ : Nat → Prop) (A1 : Option Addr) (c1 : Nat) (l1 : List (S53)) (P2_ : Nat → Prop) (A2 : Option Addr) (c2 : Nat) (l2 : List (S53)) (r : List (S53)) (w : World) (hs0 : Kd.V k53 53 w w.heap.size (fun k_ => P0_ k_) (.slice A0 l0.length c0) l0) (hs1 : Kd.V k53 53 w w.heap.size (fun k_ => P1_ k_) (.slice A1 l1.length c1) l1) (hs2 : Kd.V k53 53 w w.heap.size (fun k_ => P2_ k_) (.slice A2 l2.length c2) l2) (h : a27_all.f l0 l1 l2 = some r) :
 Calls Tryz.prog 15 #[.slice A0 l0.length c0, .slice A1 l1.length c1, .slice A2 l2.length c2] w fun e w' => ∃ v0_ : Value, e = .returned (v0_) ∧ Kd.N k53 53 w' w.heap.size (fun k_ => ((P0_ k_ ∨ P1_ k_ ∨ P2_ k_) ∨ w.heap.size ≤ k_)) v0_ r ∧ Below w.heap.size w w' := by
 have HO0 := akk (show Kd.V k53 53 w w.heap.size (fun k_ => ((P0_ k_ ∨ P1_ k_ ∨ P2_ k_) ∨ w.heap.size ≤ k_)) (.slice A0 l0.length c0) l0 from Kd.V_mono hs0 (fun k_ hk => .inl (.inl hk)))
 have HO1 := akk (show Kd.V k53 53 w w.heap.size (fun k_ => ((P0_ k_ ∨ P1_ k_ ∨ P2_ k_) ∨ w.heap.size ≤ k_)) (.slice A1 l1.length c1) l1 from Kd.V_mono hs1 (fun k_ hk => .inl (.inr (.inl hk))))
 have HO2 := akk (show Kd.V k53 53 w w.heap.size (fun k_ => ((P0_ k_ ∨ P1_ k_ ∨ P2_ k_) ∨ w.heap.size ≤ k_)) (.slice A2 l2.length c2) l2 from Kd.V_mono hs2 (fun k_ hk => .inl (.inr (.inr hk))))
 have HB := akk (Below.refl w.heap.size w)
 have H : ((some (([] : List (S53)) : List (S53))).bind fun y123 => (if y123.length + l0.length < 1599289640401 then ((some (y123 ++ l0 : List (S53))).bind fun y126 => (if y126.length + l1.length < 1599289640401 then ((some (y126 ++ l1 : List (S53))).bind fun y129 => (if y129.length + l2.length < 1599289640401 then (some (y129 ++ l2)) else (none))) else (none))) else (none))) = some r := h
 clear h
 obtain ⟨y123, hy123⟩ : ∃ y_ : List (S53), y_ = (([] : List (S53))) := ⟨_, rfl⟩
 replace H : (if y123.length + l0.length < 1599289640401 then ((some (y123 ++ l0 : List (S53))).bind fun y126 => (if y126.length + l1.length < 1599289640401 then ((some (y126 ++ l1 : List (S53))).bind fun y129 => (if y129.length + l2.length < 1599289640401 then (some (y129 ++ l2)) else (none))) else (none))) else (none)) = some r := jT hy123 H
 have Ny123 := akk hy123
 clear hy123
 by_cases c4 : y123.length + l0.length < 1599289640401
 ·rw [if_pos c4] at H
  have LMc4 := akk c4
  clear c4
  obtain ⟨y126, hy126⟩ : ∃ y_ : List (S53), y_ = (y123 ++ l0) := ⟨_, rfl⟩
  replace H : (if y126.length + l1.length < 1599289640401 then ((some (y126 ++ l1 : List (S53))).bind fun y129 => (if y129.length + l2.length < 1599289640401 then (some (y129 ++ l2)) else (none))) else (none)) = some r := jT hy126 H
  have Ny126 := akk hy126
  clear hy126
  by_cases c5 : y126.length + l1.length < 1599289640401
  ·rw [if_pos c5] at H
   have LMc5 := akk c5
   clear c5
   obtain ⟨y129, hy129⟩ : ∃ y_ : List (S53), y_ = (y126 ++ l1) := ⟨_, rfl⟩
   replace H : (if y129.length + l2.length < 1599289640401 then (some (y129 ++ l2)) else (none)) = some r := jT hy129 H
   have Ny129 := akk hy129
   clear hy129
   by_cases c6 : y129.length + l2.length < 1599289640401
   ·rw [if_pos c6] at H
    have LMc6 := akk c6
    clear c6
    obtain ⟨y132, hy132⟩ : ∃ y_ : List (S53), y_ = (y129 ++ l2) := ⟨_, rfl⟩
    replace H : (some y132) = some r := jT hy132 H
    have Ny132 := akk hy132
    clear hy132
    obtain rfl := Option.some.inj H
    go_enter Tryz.func15, Tryz.ntmps15
    go_wp2_with (first | ((with_reducible refine gate_dst (N := 7) rfl ?_); refine Kd.N_lit k53 _ 53 ?hg (N' := 7) ?hd (xs := ([] : List (S53))) (inner := []) (ok := (fun k_ => ((P0_ k_ ∨ P1_ k_ ∨ P2_ k_) ∨ w.heap.size ≤ k_))) (okp := (fun k_ => ((P0_ k_ ∨ P1_ k_ ∨ P2_ k_) ∨ w.heap.size ≤ k_))) ?hr ?hp (fun _ hk => hk) ((show ∀ k_, w.heap.size ≤ k_ → (fun k_ => ((P0_ k_ ∨ P1_ k_ ∨ P2_ k_) ∨ w.heap.size ≤ k_)) k_ from fun k_ hk => (.inr (Nat.le_trans (below_size bT) hk))) _ (Nat.le_refl _)) (Below.refl _ _) (Nat.le_refl _) (by simp) ?_; (case hd => rfl); (case hg => rfl); (case hr => first | (go_simp; done) | (go_simp; rfl)); (case hp => exact (Reps.none _ _)); intro v124 w7 ho8 hb hg_ hnew_; clear hg_ hnew_; (first | rw [← Ny123.out] at ho8 | (simp only [Int.reduceToNat] at ho8; rw [← Ny123.out] at ho8)); replace HO0 := ve HO0 ho8 hb; replace HO1 := ve HO1 ho8 hb; replace HO2 := ve HO2 ho8 hb; have HO125 := akk (Kd.N_lower ho8 (below_size bT)); replace HB := bb HB hb; clear hb ho8) | ((with_reducible refine gA #[.tmp 7, .tmp 8] rfl ?_); at_builtin; refine Kd.N_append_rows k53 (w0 := w) w.heap.size rfl (.tmp 7) (.tmp 8) 23 53 (.agg #[(.int .i64 0), (.int .i64 0), (.int .i64 0), (.int .i64 0), (.int .i64 0), (.float .f64 0), (.string ⟨#[]⟩), (.slice none 0 0)]) 88 rfl Tryz.underlying23 info53 rfl (by decide) (by omega) v124 y123 l0 _ _ _ (fun k_ => ((P0_ k_ ∨ P1_ k_ ∨ P2_ k_) ∨ w.heap.size ≤ k_)) (fun k_ => ((fun k_ => ((P0_ k_ ∨ P1_ k_ ∨ P2_ k_) ∨ w.heap.size ≤ k_))) k_ ∧ some k_ ≠ (v124 : Value).ownBlock) rfl rfl ?aO ?aR (fun _ hk => hk) ?aF ?aB ?aS ?aL ?_; (case aR => exact (by skip; exact Kd.V_F (Kd.V_mono (ok' := (fun k_ => ((fun k_ => ((P0_ k_ ∨ P1_ k_ ∨ P2_ k_) ∨ w.heap.size ≤ k_))) k_ ∧ some k_ ≠ (v124 : Value).ownBlock)) (HO0.out) (fun k_ hk => ⟨hk.1, hk.2⟩)))); (case aB => exact bT); (case aF => exact (fun k_ hk => (.inr (Nat.le_trans (below_size bT) hk)))); (case aO => exact (nT HO125.out)); (case aS => exact (below_size bT)); (case aL => have := LMc4.out; omega); intro v127 w9 ho hb hg hat; rw [← Ny126.out] at ho; replace HO0 := va HO0 hg hat; replace HO1 := va HO1 hg hat; replace HO2 := va HO2 hg hat; replace HB := akk (hb); have HO128 := akk (ho); clear HO125; clear ho hb hg hat) | ((with_reducible refine gA #[.tmp 9, .tmp 10] rfl ?_); at_builtin; refine Kd.N_append_rows k53 (w0 := w) w.heap.size rfl (.tmp 9) (.tmp 10) 23 53 (.agg #[(.int .i64 0), (.int .i64 0), (.int .i64 0), (.int .i64 0), (.int .i64 0), (.float .f64 0), (.string ⟨#[]⟩), (.slice none 0 0)]) 88 rfl Tryz.underlying23 info53 rfl (by decide) (by omega) v127 y126 l1 _ _ _ (fun k_ => ((P0_ k_ ∨ P1_ k_ ∨ P2_ k_) ∨ w.heap.size ≤ k_)) (fun k_ => ((fun k_ => ((P0_ k_ ∨ P1_ k_ ∨ P2_ k_) ∨ w.heap.size ≤ k_))) k_ ∧ some k_ ≠ (v127 : Value).ownBlock) rfl rfl ?aO ?aR (fun _ hk => hk) ?aF ?aB ?aS ?aL ?_; (case aR => exact (by skip; exact Kd.V_F (Kd.V_mono (ok' := (fun k_ => ((fun k_ => ((P0_ k_ ∨ P1_ k_ ∨ P2_ k_) ∨ w.heap.size ≤ k_))) k_ ∧ some k_ ≠ (v127 : Value).ownBlock)) (HO1.out) (fun k_ hk => ⟨hk.1, hk.2⟩)))); (case aB => exact bT); (case aF => exact (fun k_ hk => (.inr (Nat.le_trans (below_size bT) hk)))); (case aO => exact (nT HO128.out)); (case aS => exact (below_size bT)); (case aL => have := LMc5.out; omega); intro v130 w10 ho hb hg hat; rw [← Ny129.out] at ho; replace HO0 := va HO0 hg hat; replace HO1 := va HO1 hg hat; replace HO2 := va HO2 hg hat; replace HB := akk (hb); have HO131 := akk (ho); clear HO128; clear ho hb hg hat) | ((with_reducible refine gA #[.tmp 11, .tmp 12] rfl ?_); at_builtin; refine Kd.N_append_rows k53 (w0 := w) w.heap.size rfl (.tmp 11) (.tmp 12) 23 53 (.agg #[(.int .i64 0), (.int .i64 0), (.int .i64 0), (.int .i64 0), (.int .i64 0), (.float .f64 0), (.string ⟨#[]⟩), (.slice none 0 0)]) 88 rfl Tryz.underlying23 info53 rfl (by decide) (by omega) v130 y129 l2 _ _ _ (fun k_ => ((P0_ k_ ∨ P1_ k_ ∨ P2_ k_) ∨ w.heap.size ≤ k_)) (fun k_ => ((fun k_ => ((P0_ k_ ∨ P1_ k_ ∨ P2_ k_) ∨ w.heap.size ≤ k_))) k_ ∧ some k_ ≠ (v130 : Value).ownBlock) rfl rfl ?aO ?aR (fun _ hk => hk) ?aF ?aB ?aS ?aL ?_; (case aR => exact (by skip; exact Kd.V_F (Kd.V_mono (ok' := (fun k_ => ((fun k_ => ((P0_ k_ ∨ P1_ k_ ∨ P2_ k_) ∨ w.heap.size ≤ k_))) k_ ∧ some k_ ≠ (v130 : Value).ownBlock)) (HO2.out) (fun k_ hk => ⟨hk.1, hk.2⟩)))); (case aB => exact bT); (case aF => exact (fun k_ hk => (.inr (Nat.le_trans (below_size bT) hk)))); (case aO => exact (nT HO131.out)); (case aS => exact (below_size bT)); (case aL => have := LMc6.out; omega); intro v133 w11 ho hb hg hat; rw [← Ny132.out] at ho; replace HO0 := va HO0 hg hat; replace HO1 := va HO1 hg hat; replace HO2 := va HO2 hg hat; replace HB := akk (hb); have HO134 := akk (ho); clear HO131; clear ho hb hg hat))
    go_ret
    exact ⟨_, fT, nT' HO134.out, bT⟩
   ·rw [if_neg c6] at H
    exact absurd H (by simp)
  ·rw [if_neg c5] at H
   exact absurd H (by simp)
 ·rw [if_neg c4] at H
  exact absurd H (by simp)
end Go.Proofs.YtgmolmpfihkolaaGreat.Pj
namespace Go.Proofs.YtgmolmpfihkolaaGreat
open Go.RowKit Go.Proofs.YtgmolmpfihkolaaGreatW.PrintWords Go.Proofs.YtgmolmpfihkolaaGreatW.PrintMore Go.Proofs.YtgmolmpfihkolaaGreat.Pj
set_option linter.unusedVariables false
set_option maxRecDepth 100000
theorem w64n {i : Int} (h : -9223372036854775808 ≤ i) (h2 : i < 9223372036854775808) : wrap64 i = i := by unfold wrap64; omega
def gB : Nat → Nat
 | 0 => 10
 | n + 1 => gB n + 2 * (n + 1) + 6
theorem gB_step (n : Nat) : gB (n + 1) = gB n + 2 * (n + 1) + 6 := rfl
theorem gB_mono : ∀ {n m : Nat}, n ≤ m → gB n ≤ gB m
 | n, 0, h => by
  obtain rfl : n = 0 := by omega
  exact Nat.le_refl _
 | n, m + 1, h => by
  by_cases e : n = m + 1
  ·rw [e]; exact Nat.le_refl _
  ·have := gB_mono (n := n) (m := m) (by omega)
   rw [gB_step]; omega
theorem bulkE_go (n : Nat) (hn : n ≤ 1000) (ihn : ∀ n' : Nat, n' < n → ∀ (l : List PE) (K : Nat), gB n' ≤ K → ∃ r : Int, r22_Bulk.f K l (n' : Int) = some r ∧ 0 ≤ r ∧ r ≤ 2 * n' + 1) (l : List PE) (hl : l.length ≤ n) :
 ∀ (m i : Nat) (x5 : Int), l.length - i = m → i ≤ l.length → (l.length : Int) ≤ x5 → x5 ≤ 2 * n + 1 → ∀ K, gB (n - 1) + 2 * m + 2 ≤ K → ∃ r : Int, r22_Bulk.l0 K l (n : Int) x5 (i : Int) = some r ∧ 0 ≤ r ∧ r ≤ 2 * n + 1 := by
 intro m
 induction m with
 | zero =>
  intro i x5 hm hi h1 h2 K hK
  obtain ⟨K, rfl⟩ : ∃ K', K = K' + 1 + 1 := ⟨K - 2, by omega⟩
  rw [r22_Bulk.l0, if_neg (by omega), r22_Bulk.j1, if_neg (by simp)]
  exact ⟨x5, rfl, by omega, h2⟩
 | succ m ih =>
  intro i x5 hm hi h1 h2 K hK
  obtain ⟨K, rfl⟩ : ∃ K', K = K' + 1 + 1 := ⟨K - 2, by omega⟩
  have hil : i < l.length := by omega
  rw [r22_Bulk.l0, if_pos (by omega), r22_Bulk.j1]
  by_cases c1 : x5 ≤ (n : Int)
  ·rw [if_pos (show decide (x5 ≤ (n : Int)) = true from decide_eq_true c1), if_pos (by omega), if_pos (by omega), rd53 l i hil]
   obtain ⟨s, hs⟩ : ∃ s : Nat, s = l[i].f3.f3.size := ⟨_, rfl⟩
   rw [← hs]
   by_cases c2 : (s : Int) > (n : Int)
   ·rw [if_pos c2, w64n (by omega) (by omega)]
    exact ⟨_, rfl, by omega, by omega⟩
   ·rw [if_neg c2, w64n (i := x5 + (s : Int)) (by omega) (by omega), w64 (by omega)]
    by_cases c3 : x5 + (s : Int) ≤ (n : Int)
    ·rw [if_pos c3, w64n (i := (n : Int) - (x5 + (s : Int))) (by omega) (by omega)]
     obtain ⟨n', hn'⟩ : ∃ n' : Nat, (n : Int) - (x5 + (s : Int)) = (n' : Int) := ⟨((n : Int) - (x5 + (s : Int))).toNat, by omega⟩
     rw [hn']
     have hg := gB_mono (show n' ≤ n - 1 by omega)
     obtain ⟨r, hr, r0, r1⟩ := ihn n' (by omega) l[i].f4 K (by omega)
     rw [hr, Option.bind_some, w64n (i := x5 + (s : Int) + r) (by omega) (by omega)]
     exact ih (i + 1) _ (by omega) (by omega) (by omega) (by omega) K (by omega)
    ·rw [if_neg c3]
     exact ih (i + 1) _ (by omega) (by omega) (by omega) (by omega) K (by omega)
  ·rw [if_neg (show ¬ decide (x5 ≤ (n : Int)) = true by simpa using c1)]
   exact ⟨x5, rfl, by omega, h2⟩
theorem bulkE_f : ∀ (n : Nat), n ≤ 1000 → ∀ (l : List PE) (K : Nat), gB n ≤ K → ∃ r : Int, r22_Bulk.f K l (n : Int) = some r ∧ 0 ≤ r ∧ r ≤ 2 * n + 1 ∧ (r ≤ (n : Int) → l.length ≤ n) := by
 intro n
 induction n using Nat.strongRecOn with
 | ind n ihn =>
  intro hn l K hK
  have h10 : 10 ≤ gB n := gB_mono (Nat.zero_le n)
  obtain ⟨K, rfl⟩ : ∃ K', K = K' + 1 := ⟨K - 1, by omega⟩
  rw [r22_Bulk.f]
  by_cases c : (l.length : Int) > (n : Int)
  ·rw [if_pos c, w64n (by omega) (by omega)]
   exact ⟨_, rfl, by omega, by omega, fun h => by omega⟩
  ·rw [if_neg c]
   cases n with
   | zero =>
    obtain ⟨K, rfl⟩ : ∃ K', K = K' + 1 + 1 := ⟨K - 2, by omega⟩
    rw [r22_Bulk.l0, if_neg (by omega), r22_Bulk.j1, if_neg (by simp)]
    exact ⟨_, rfl, by omega, by omega, fun _ => by omega⟩
   | succ n =>
    have hK2 : gB (n + 1 - 1) + 2 * l.length + 2 ≤ K := by rw [Nat.add_sub_cancel]; rw [gB_step] at hK; omega
    obtain ⟨r, hr, r0, r1⟩ := bulkE_go (n + 1) hn (fun n' hn' l' K' hK' => by
     obtain ⟨r, a1, a2, a3, _⟩ := ihn n' hn' (by omega) l' K' hK'
     exact ⟨r, a1, a2, a3⟩) l (by omega) l.length 0 _ (by omega) (Nat.zero_le _) (Int.le_refl _) (by omega) K hK2
    exact ⟨r, hr, r0, r1, fun _ => by omega⟩
theorem bulkR_one (t : Tup) (i : Nat) (hi : i < t.length) (F : Nat)
 (H : ∀ (x5 : Int) (K : Nat), F ≤ K → 0 ≤ x5 → x5 ≤ 500 → ∃ r : Int, r05_Bulk.l0 K t 200 x5 ((i + 1 : Nat) : Int) = some r ∧ (r ≤ 200 → ∀ k, i + 1 ≤ k → (t.getD k []).length ≤ 200)) (ht : t.length ≤ 1000) (hr : (t.getD i []).length ≤ 200) :
 ∀ (m j : Nat) (x5 : Int), (t.getD i []).length - j = m → j ≤ (t.getD i []).length → 0 ≤ x5 → x5 ≤ 500 → ∀ K, F + m + 1 ≤ K → ∃ r : Int, r05_Bulk.l1 K t 200 x5 (i : Int) (j : Int) = some r ∧ (r ≤ 200 → ∀ k, i ≤ k → (t.getD k []).length ≤ 200) := by
 intro m
 have ext : ∀ r : Int, (r ≤ 200 → ∀ k, i + 1 ≤ k → (t.getD k []).length ≤ 200) → (r ≤ 200 → ∀ k, i ≤ k → (t.getD k []).length ≤ 200) := by
  intro r h h1 k hk
  by_cases e : k = i
  ·rw [e]; exact hr
  ·exact h h1 k (by omega)
 induction m with
 | zero =>
  intro j x5 hm hj h0 h5 K hK
  obtain ⟨K, rfl⟩ : ∃ K', K = K' + 1 := ⟨K - 1, by omega⟩
  rw [r05_Bulk.l1, if_pos (by omega), if_pos (by omega), rd5, if_neg (by omega), w64 (by omega)]
  obtain ⟨r, a1, a2⟩ := H x5 K (by omega) h0 h5
  exact ⟨r, a1, ext r a2⟩
 | succ m ih =>
  intro j x5 hm hj h0 h5 K hK
  obtain ⟨K, rfl⟩ : ∃ K', K = K' + 1 := ⟨K - 1, by omega⟩
  have hjl : j < (t.getD i []).length := by omega
  rw [r05_Bulk.l1, if_pos (by omega), if_pos (by omega), rd5, if_pos (by omega)]
  by_cases c1 : x5 > 200
  ·rw [if_pos c1, w64n (by omega) (by omega)]
   exact ⟨_, rfl, fun h => by omega⟩
  ·rw [if_neg c1, if_pos (by omega), rd39 _ j hjl]
   obtain ⟨s, hs⟩ : ∃ s : Nat, s = ((t.getD i [])[j]).f3.size := ⟨_, rfl⟩
   rw [← hs]
   by_cases c2 : (s : Int) > 200
   ·rw [if_pos c2, w64n (by omega) (by omega)]
    exact ⟨_, rfl, fun h => by omega⟩
   ·rw [if_neg c2, w64n (i := x5 + 1) (by omega) (by omega), w64n (i := x5 + 1 + (s : Int)) (by omega) (by omega), w64 (by omega)]
    exact ih (j + 1) _ (by omega) (by omega) (by omega) (by omega) K (by omega)
theorem bulkR_go (t : Tup) (ht : t.length ≤ 1000) : ∀ (m i : Nat), t.length - i = m → i ≤ t.length → ∀ (x5 : Int) (K : Nat), m * 300 + 1 ≤ K → 0 ≤ x5 → x5 ≤ 500 → ∃ r : Int, r05_Bulk.l0 K t 200 x5 (i : Int) = some r ∧ (r ≤ 200 → ∀ k, i ≤ k → (t.getD k []).length ≤ 200) := by
 intro m
 induction m with
 | zero =>
  intro i hm hi x5 K hK h0 h5
  obtain ⟨K, rfl⟩ : ∃ K', K = K' + 1 := ⟨K - 1, by omega⟩
  rw [r05_Bulk.l0, if_neg (by omega)]
  exact ⟨x5, rfl, fun _ k hk => by rw [getD_no _ _ _ (by omega)]; simp⟩
 | succ m ih =>
  intro i hm hi x5 K hK h0 h5
  obtain ⟨K, rfl⟩ : ∃ K', K = K' + 1 := ⟨K - 1, by omega⟩
  rw [r05_Bulk.l0, if_pos (by omega), if_pos (by omega), rd5]
  by_cases c : ((t.getD i []).length : Int) > 200
  ·rw [if_pos c, w64n (by omega) (by omega)]
   exact ⟨_, rfl, fun h => by omega⟩
  ·rw [if_neg c]
   exact bulkR_one t i (by omega) (m * 300 + 1) (fun x5 K hK h0 h5 => ih (i + 1) (by omega) (by omega) x5 K hK h0 h5) ht (by omega) (t.getD i []).length 0 x5 (by omega) (Nat.zero_le _) h0 h5 K (by omega)
theorem bulkR_f (t : Tup) (ht : t.length ≤ 13) (K : Nat) (hK : 4000 ≤ K) : ∃ r : Int, r05_Bulk.f K t 200 = some r ∧ (r ≤ 200 → okTup t) := by
 unfold r05_Bulk.f
 rw [if_neg (by omega)]
 obtain ⟨r, a1, a2⟩ := bulkR_go t (by omega) t.length 0 (by omega) (Nat.zero_le _) (t.length : Int) K (by omega) (by omega) (by omega)
 refine ⟨r, a1, fun h => ⟨by omega, fun row hrow => ?_⟩⟩
 obtain ⟨k, hk, e⟩ := List.mem_iff_getElem.1 hrow
 have := a2 h k (Nat.zero_le _)
 rw [getD_at _ _ _ hk, e] at this
 omega
theorem great_go (ts : List Tup) (ht : ts.length ≤ 1000) : ∀ (m i : Nat), ts.length - i = m → i ≤ ts.length → ∀ K, m + 4001 ≤ K → ∃ g : Bool, a27_Great.l0 K ts (ts.length : Int) (i : Int) = some g ∧ (g = false → ∀ k, i ≤ k → okTup (ts.getD k [])) := by
 intro m
 induction m with
 | zero =>
  intro i hm hi K hK
  obtain ⟨K, rfl⟩ : ∃ K', K = K' + 1 := ⟨K - 1, by omega⟩
  rw [a27_Great.l0, if_neg (by omega)]
  exact ⟨false, rfl, fun _ k hk => by rw [getD_no _ _ _ (by omega)]; simp [okTup]⟩
 | succ m ih =>
  intro i hm hi K hK
  obtain ⟨K, rfl⟩ : ∃ K', K = K' + 1 := ⟨K - 1, by omega⟩
  rw [a27_Great.l0, if_pos (by omega), if_pos (by omega), if_pos (by omega), rd6]
  by_cases c : ((ts.getD i []).length : Int) > 13
  ·rw [if_pos c]
   exact ⟨true, rfl, fun h => by cases h⟩
  ·rw [if_neg c]
   obtain ⟨r, a1, a2⟩ := bulkR_f (ts.getD i []) (by omega) K (by omega)
   rw [a1, Option.bind_some]
   by_cases c2 : r > 200
   ·rw [if_pos c2]
    exact ⟨true, rfl, fun h => by cases h⟩
   ·rw [if_neg c2, w64 (by omega)]
    obtain ⟨g, b1, b2⟩ := ih (i + 1) (by omega) (by omega) K (by omega)
    refine ⟨g, b1, fun h k hk => ?_⟩
    by_cases e : k = i
    ·rw [e]; exact a2 (by omega)
    ·exact b2 h k (by omega)
theorem great_f (a b : List Tup) (l : List PE) (K : Nat) (hK : gB 200 + 5000 ≤ K) : ∃ g : Bool, a27_Great.f K a b l = some g ∧ (g = false → a.length ≤ 30 ∧ b.length ≤ 30 ∧ l.length ≤ 200 ∧ (∀ t ∈ a, okTup t) ∧ ∀ t ∈ b, okTup t) := by
 obtain ⟨K, rfl⟩ : ∃ K', K = K' + 1 := ⟨K - 1, by omega⟩
 have tr : a27_Great.j0 (K + 1) a b true = some true := by rw [a27_Great.j0, if_pos rfl]
 unfold a27_Great.f
 by_cases c1 : (a.length : Int) > 30
 ·rw [if_pos c1, tr]; exact ⟨true, rfl, fun h => by cases h⟩
 ·rw [if_neg c1]
  by_cases c2 : (b.length : Int) > 30
  ·rw [if_pos c2, tr]; exact ⟨true, rfl, fun h => by cases h⟩
  ·rw [if_neg c2]
   obtain ⟨r, a1, _, _, a2⟩ := bulkE_f 200 (by omega) l (K + 1) (by omega)
   have a1 : r22_Bulk.f (K + 1) l 200 = some r := a1
   rw [a1, Option.bind_some]
   by_cases c3 : r > 200
   ·rw [show decide (r > 200) = true from decide_eq_true c3, tr]; exact ⟨true, rfl, fun h => by cases h⟩
   ·rw [show decide (r > 200) = false from decide_eq_false c3, a27_Great.j0, if_neg (by simp), Option.bind_some, if_pos (by simp; omega), Option.bind_some, if_pos (by simp; omega), Option.bind_some, List.nil_append]
    obtain ⟨g, b1, b2⟩ := great_go (a ++ b) (by rw [List.length_append]; omega) (a ++ b).length 0 (by omega) (Nat.zero_le _) K (by rw [List.length_append]; omega)
    refine ⟨g, b1, fun h => ⟨by omega, by omega, a2 (by omega), fun t ht => ?_, fun t ht => ?_⟩⟩
    ·obtain ⟨k, hk, e⟩ := List.mem_iff_getElem.1 (List.mem_append_left b ht)
     have := b2 h k (Nat.zero_le _)
     rw [getD_at _ _ _ hk, e] at this
     exact this
    ·obtain ⟨k, hk, e⟩ := List.mem_iff_getElem.1 (List.mem_append_right a ht)
     have := b2 h k (Nat.zero_le _)
     rw [getD_at _ _ _ hk, e] at this
     exact this
theorem exact_go (r : List PV) (hr : wfR r = true) (hn : r.length ≤ 1000) : ∀ (m i : Nat), r.length - i = m → i ≤ r.length → ∀ K, m + 1 ≤ K → r05_Exact.l0 K r r (i : Int) = some true := by
 intro m
 induction m with
 | zero =>
  intro i hm hi K hK
  obtain ⟨K, rfl⟩ : ∃ K', K = K' + 1 := ⟨K - 1, by omega⟩
  rw [r05_Exact.l0, if_neg (by omega)]
 | succ m ih =>
  intro i hm hi K hK
  obtain ⟨K, rfl⟩ : ∃ K', K = K' + 1 := ⟨K - 1, by omega⟩
  have hil : i < r.length := by omega
  have hv : wfV r[i] = true := List.all_eq_true.1 hr _ (List.getElem_mem hil)
  have he : r04_Exact.f r[i].f0 r[i].f1 r[i].f2 r[i].f3 r[i].f0 r[i].f1 r[i].f2 r[i].f3 = some true := by
   unfold r04_Exact.f
   show exactF r[i] r[i] = _
   unfold exactF
   rw [hv, decide_eq_true (Alike.refl _)]; rfl
  rw [r05_Exact.l0, if_pos (by omega), if_pos (by omega), if_pos (by omega), rd39 r i hil, he, Option.bind_some, if_pos rfl, w64 (by omega)]
  exact ih (i + 1) (by omega) (by omega) K (by omega)
theorem lists_go (t : Tup) (hw : wfRs t = true) (ht : okTup t) : ∀ (m i : Nat), t.length - i = m → i ≤ t.length → ∀ K, m + 1002 ≤ K → r05_Lists.l0 K t t (i : Int) = some true := by
 intro m
 induction m with
 | zero =>
  intro i hm hi K hK
  obtain ⟨K, rfl⟩ : ∃ K', K = K' + 1 := ⟨K - 1, by omega⟩
  rw [r05_Lists.l0, if_neg (by omega)]
 | succ m ih =>
  intro i hm hi K hK
  obtain ⟨K, rfl⟩ : ∃ K', K = K' + 1 := ⟨K - 1, by omega⟩
  have hil : i < t.length := by omega
  have h1 := ht.1
  have h2 := ht.2 _ (List.getElem_mem hil)
  have he : r05_Exact.f K t[i] t[i] = some true := by
   unfold r05_Exact.f
   rw [if_pos rfl]
   exact exact_go t[i] (List.all_eq_true.1 hw _ (List.getElem_mem hil)) h2 t[i].length 0 (by omega) (Nat.zero_le _) K (by omega)
  rw [r05_Lists.l0, if_pos (by omega), if_pos (by omega), if_pos (by omega), rd5, getD_at _ _ _ hil, he, Option.bind_some, if_pos rfl, w64 (by omega)]
  exact ih (i + 1) (by omega) (by omega) K (by omega)
theorem same_go2 (x : List Tup) (hx : ∀ t ∈ x, wfRs t = true ∧ okTup t) (hn : x.length ≤ 1000000) : ∀ (m i : Nat), x.length - i = m → i ≤ x.length → ∀ K, m + 3000 ≤ K → r26_Same.l0 K x x (i : Int) = some true := by
 intro m
 induction m with
 | zero =>
  intro i hm hi K hK
  obtain ⟨K, rfl⟩ : ∃ K', K = K' + 1 := ⟨K - 1, by omega⟩
  rw [r26_Same.l0, if_neg (by omega)]
 | succ m ih =>
  intro i hm hi K hK
  obtain ⟨K, rfl⟩ : ∃ K', K = K' + 1 := ⟨K - 1, by omega⟩
  have hil : i < x.length := by omega
  have h1 := hx _ (List.getElem_mem hil)
  have h3 := h1.2.1
  have he : r05_Lists.f K x[i] x[i] = some true := by
   unfold r05_Lists.f
   rw [if_pos rfl]
   exact lists_go x[i] h1.1 h1.2 x[i].length 0 (by omega) (Nat.zero_le _) K (by omega)
  rw [r26_Same.l0, if_pos (by omega), if_pos (by omega), if_pos (by omega), rd6, getD_at _ _ _ hil, he, Option.bind_some, if_pos rfl, w64 (by omega)]
  exact ih (i + 1) (by omega) (by omega) K (by omega)
theorem same_f2 (x : List Tup) (hx : ∀ t ∈ x, wfRs t = true ∧ okTup t) (hn : x.length ≤ 10000) (K : Nat) (hK : 20000 ≤ K) : r26_Same.f K x x = some true := by
 unfold r26_Same.f
 rw [if_pos rfl]
 exact same_go2 x hx (by omega) x.length 0 (by omega) (Nat.zero_le _) K (by omega)
theorem toldGo_ok (a b : List Tup) (l : List PE) (ha : okTups a) (hb : okTups b) : ∀ (p : List PP) (out : List Tup), (∀ t ∈ out, wfRs t = true ∧ okTup t) → ∀ t ∈ (toldGo a b l p out).1, wfRs t = true ∧ okTup t
 | [], out, ho => by rw [toldGo]; exact ho
 | x :: p, out, ho => by
  rw [toldGo]
  split
  ·intro t ht; cases ht
  ·refine toldGo_ok a b l ha hb p _ ?_
   split
   ·intro t ht
    rcases List.mem_append.1 ht with ht | ht
    ·exact ho t ht
    ·rw [List.mem_singleton.1 ht]
     have wa := ha.get x.f0.toNat
     have wb := hb.get x.f1.toNat
     exact ⟨unionP_wf wa.1 wb.1, unionP_ok wa.2 wb.2⟩
   ·exact ho
end Go.Proofs.YtgmolmpfihkolaaGreat
namespace Go.Proofs.YtgmolmpfihkolaaGreat
open Go.RowKit Go.Proofs.YtgmolmpfihkolaaGreatW.PrintWords Go.Proofs.YtgmolmpfihkolaaGreat.Pj
set_option linter.unusedVariables false
set_option maxRecDepth 100000
theorem SameV_any (a b : Val) (ha : a.wf) (hb : b.wf) (w : World) : Calls Tryz.prog 24 #[a.agg, b.agg] w fun e w' => e = .returned (.bool (decide (cmpV a b = 0))) ∧ Below w.heap.size w w' := by
 obtain ⟨c, hc⟩ : ∃ c, c = cmpV a b := ⟨_, rfl⟩
 have HC := hdq (Cmp_any a b ha hb)
 rw [← hc] at HC ⊢
 have hd : decide (c = 0) = (c == 0) := by by_cases h : c = 0 <;> simp [h]
 rw [hd]
 clear hc hd
 unfold Val.agg at HC ⊢
 go_enter Tryz.func24, Tryz.ntmps24
 go_wp2_with (go_at_call 55; refine (HC.out _).mono ?_; rintro e w' ⟨rfl, hb⟩; have HB := hdq hb; clear hb)
 go_ret
 exact ⟨rfl, (below_alloc (below_alloc (Below.refl _ _) _) _).trans (HB.out.mono (below_size (below_alloc (below_alloc (Below.refl _ _) _) _)))⟩
end Go.Proofs.YtgmolmpfihkolaaGreat
namespace Go.Proofs.YtgmolmpfihkolaaGreat
open Go.RowKit Go.Proofs.YtgmolmpfihkolaaGreatW.PrintWords Go.Proofs.YtgmolmpfihkolaaGreatW.PrintMore Go.Proofs.YtgmolmpfihkolaaGreat.Pj
set_option linter.unusedVariables false
set_option maxRecDepth 100000
theorem right_plain (v : Val) : rightV (plainV v) = true := by
 unfold plainV
 by_cases h : rightV v = true
 ·rw [if_pos h]
  split
  ·rename_i hk
   split
   ·rw [right_flt v _ hk]; exact h
   ·split
    ·rw [right_flt v _ hk]; exact h
    ·exact h
  ·exact h
 ·rw [if_neg h]; kernel_rfl
theorem right_truth (b : Bool) : rightV (truthV b) = true := by cases b <;> kernel_rfl
theorem plainK {v : Val} (h : rightV v = true) : (plainV v).kind = v.kind := by
 by_cases hk : v.kind = 3
 ·rw [(plain_flt v h hk).1]
 ·rw [(plain_else v h hk).1]
theorem right_null : rightV Val.null = true := by kernel_rfl
theorem right_col (rows : List (List Val)) (r c : Int) : rightV (colV rows r c) = true := by
 unfold colV
 split
 ·split
  ·split
   ·rename_i h; exact h
   ·exact right_null
  ·exact right_null
 ·exact right_null
theorem right_calcC (op : Int) (a b : Val) : rightV (calcC op a b).1 = true := by
 unfold calcC
 split
 ·exact right_null
 ·split
  ·split
   ·exact right_null
   ·split
    ·exact right_null
    ·split
     ·unfold Val.num rightV; simp
     ·exact right_plain _
  ·exact right_null
theorem right_calc (op : Int) (a b : Val) : rightV (calcV op a b).1 = true := right_calcC _ _ _
theorem right_test (op : Int) (a b : Val) : rightV (testV op a b).1 = true := by
 unfold testV
 split
 ·exact right_null
 ·split
  ·split
   ·exact right_null
   ·split
    ·exact right_null
    ·exact right_truth _
  ·exact right_null
theorem right_bothC (op : Int) (a b : Val) : rightV (bothC op a b).1 = true := by
 unfold bothC
 split
 ·exact right_null
 ·split
  ·split
   ·exact right_truth _
   ·split
    ·exact right_truth _
    ·split
     ·exact right_null
     ·split
      ·exact right_truth _
      ·exact right_truth _
  ·exact right_null
theorem right_both (op : Int) (a b : Val) : rightV (bothV op a b).1 = true := right_bothC _ _ _
theorem tell_right (rows : List (List Val)) (t : Tx) : rightV (tellV rows t).1 = true := by
 unfold tellV
 by_cases hf : formedT t = true
 ·rw [if_pos hf]
  obtain ⟨k, r, c, con, ks⟩ := t
  have hc : rightV con = true := by
   unfold formedT at hf
   simp only [okT, fieldsK, Bool.and_eq_true] at hf
   simp only [hf]
  simp only [evalV, combV]
  split
  ·exact right_null
  ·split
   ·exact right_null
   ·unfold opV
    split
    ·exact right_col _ _ _
    ·split
     ·exact hc
     ·split
      ·exact right_calc _ _ _
      ·split
       ·exact right_test _ _ _
       ·split
        ·exact right_both _ _ _
        ·exact right_truth _
 ·rw [if_neg hf]; exact right_null
theorem keysGo_ok (rows : List (List Val)) : ∀ (ts : List Tx) (acc : List Val) (sm : Bool), (∀ t ∈ ts, (tellV rows t).2 = 0) → keysGo rows acc sm ts = (acc ++ ts.map (fun t => plainV (tellV rows t).1), sm && ts.all (fun t => decide ((tellV rows t).1.kind ≠ 0)), 0)
 | [], acc, sm, _ => by simp [keysGo]
 | t :: ts, acc, sm, h => by
  rw [keysGo, if_neg (by rw [h t List.mem_cons_self]; simp), keysGo_ok rows ts _ _ (fun t ht => h t (List.mem_cons_of_mem _ ht))]
  simp [Bool.and_assoc]
def eqT (x y : Tx) : Tx := .mk 7 0 0 Val.null [x, y]
def eqE (x y : PE) : PE := ⟨7, 0, 0, ⟨0, 0, 0, ⟨#[]⟩⟩, [x, y]⟩
def eqsP (l m : List PE) : List PE := l.zipWith eqE m
theorem tOf_eq (x y : PE) : tOf (eqE x y) = eqT (tOf x) (tOf y) := by
 unfold eqE
 rw [tOf, tsOf, tsOf, tsOf]; rfl
def cpE (s t u : List (List Val)) (x y : Tx) : Prop := (tellV s x).2 = 0 ∧ (tellV t y).2 = 0 ∧ (tellV u x).2 = 0 ∧ (tellV u y).2 = 0 ∧ (tellV u (eqT x y)).2 = 0 ∧ cmpV (tellV s x).1 (tellV u x).1 = 0 ∧ cmpV (tellV t y).1 (tellV u y).1 = 0
theorem tell_eval {u : List (List Val)} {x : Tx} (h : (tellV u x).2 = 0) : evalV u x = tellV u x := by
 unfold tellV at h ⊢
 split
 ·rfl
 ·rename_i hf
  rw [if_neg hf] at h
  cases h
theorem comb_two (rows : List (List Val)) (k r c : Int) (con : Val) (p q : Val × Int) (hp : p.2 = 0) (hq : q.2 = 0) : combV rows k r c con [p, q] = opV rows k r c con p.1 q.1 := by
 unfold combV
 rw [if_neg (show ¬ ([p, q].headD (Val.null, 0)).2 ≠ 0 from fun h => h hp), if_neg (show ¬ ([p, q].tail.headD (Val.null, 0)).2 ≠ 0 from fun h => h hq)]; rfl
theorem eq_one {s t u : List (List Val)} {x y : Tx} (wx : ∀ rows ∈ [s, u], (tellV rows x).1.wf) (wy : ∀ rows ∈ [t, u], (tellV rows y).1.wf) (h : cpE s t u x y) :
 (decide ((tellV s x).1.kind ≠ 0) && (decide ((tellV t y).1.kind ≠ 0) && decide (cmpV (plainV (tellV s x).1) (plainV (tellV t y).1) = 0))) = isTrue (tellV u (eqT x y)).1 := by
 obtain ⟨h1, h2, h3, h4, h5, h6, h7⟩ := h
 have e1 := cmpV_one (wx s (by simp)) (wx u (by simp)) h6
 have e2 := cmpV_one (wy t (by simp)) (wy u (by simp)) h7
 have r1 := tell_right s x
 have r2 := tell_right t y
 have r3 := tell_right u x
 have r4 := tell_right u y
 have k1 : (tellV s x).1.kind = (tellV u x).1.kind := by rw [← plainK r1, e1, plainK r3]
 have k2 : (tellV t y).1.kind = (tellV u y).1.kind := by rw [← plainK r2, e2, plainK r4]
 have c1 : cmpV (plainV (tellV s x).1) (plainV (tellV t y).1) = cmpV (tellV u x).1 (tellV u y).1 := by
  rw [e1, e2]
  unfold cmpV
  rw [(plain_plain _ r3).1, (plain_plain _ r4).1]
 have ev : tellV u (eqT x y) = testV 7 (tellV u x).1 (tellV u y).1 := by
  rw [← tell_eval h5]
  have e : evalV u (eqT x y) = combV u 7 0 0 Val.null [evalV u x, evalV u y] := by unfold eqT; rw [evalV, evalVs, evalVs, evalVs]
  rw [e, tell_eval h3, tell_eval h4, comb_two _ _ _ _ _ _ _ h3 h4]
  rfl
 rw [k1, k2, c1, ev]
 rw [ev] at h5
 unfold testV at h5 ⊢
 rw [if_neg (by omega), r3, r4, if_pos (by rfl)] at h5 ⊢
 by_cases hz : (tellV u x).1.kind = 0 ∨ (tellV u y).1.kind = 0
 ·rw [if_pos hz]
  rcases hz with hz | hz
  ·rw [hz]; simp [isTrue, Val.null]
  ·rw [hz]; simp [isTrue, Val.null]
 ·rw [if_neg hz] at h5 ⊢
  by_cases hk : (tellV u x).1.kind = (tellV u y).1.kind
  ·rw [if_neg (fun h => h hk), if_pos rfl]
   have z1 : (tellV u x).1.kind ≠ 0 := fun h => hz (.inl h)
   have z2 : (tellV u y).1.kind ≠ 0 := fun h => hz (.inr h)
   rw [decide_eq_true z1, decide_eq_true z2, Bool.true_and, Bool.true_and]
   by_cases hc : cmpV (tellV u x).1 (tellV u y).1 = 0
   ·rw [decide_eq_true hc]; rfl
   ·rw [decide_eq_false hc]; rfl
  ·rw [if_pos hk] at h5
   cases h5
def cpEs (s t u : List (List Val)) (xs ys : List Tx) : Prop := ∀ (n : Nat) (x y : Tx), xs[n]? = some x → ys[n]? = some y → cpE s t u x y
theorem cpEs.tail {s t u : List (List Val)} {x y : Tx} {xs ys : List Tx} (h : cpEs s t u (x :: xs) (y :: ys)) : cpEs s t u xs ys := fun n a b ha hb => h (n + 1) a b (by simpa using ha) (by simpa using hb)
theorem cpEs.head {s t u : List (List Val)} {x y : Tx} {xs ys : List Tx} (h : cpEs s t u (x :: xs) (y :: ys)) : cpE s t u x y := h 0 x y rfl rfl
theorem keys_eqs {s t u : List (List Val)} : ∀ (xs ys : List Tx), xs.length = ys.length → (∀ x ∈ xs, ∀ rows ∈ [s, u], (tellV rows x).1.wf) → (∀ y ∈ ys, ∀ rows ∈ [t, u], (tellV rows y).1.wf) → cpEs s t u xs ys →
 ((xs.all (fun x => decide ((tellV s x).1.kind ≠ 0))) && ((ys.all (fun y => decide ((tellV t y).1.kind ≠ 0))) && decide (cmpRow (xs.map (fun x => plainV (tellV s x).1)) (ys.map (fun y => plainV (tellV t y).1)) = 0))) = (List.zipWith eqT xs ys).all (fun z => isTrue (tellV u z).1)
 | [], [], _, _, _, _ => rfl
 | [], _ :: _, h, _, _, _ => by simp at h
 | _ :: _, [], h, _, _, _ => by simp at h
 | x :: xs, y :: ys, hl, wx, wy, h => by
  have ih := keys_eqs xs ys (by simpa using hl) (fun a ha => wx a (List.mem_cons_of_mem _ ha)) (fun a ha => wy a (List.mem_cons_of_mem _ ha)) h.tail
  have e := eq_one (wx x List.mem_cons_self) (wy y List.mem_cons_self) h.head
  simp only [List.all_cons, List.map_cons, List.zipWith_cons_cons, cmpRow]
  rw [← e, ← ih]
  by_cases hc : cmpV (plainV (tellV s x).1) (plainV (tellV t y).1) = 0
  ·rw [if_neg (fun h => h hc), decide_eq_true hc, Bool.and_true]
   generalize decide ((tellV s x).1.kind ≠ 0) = b1
   generalize decide ((tellV t y).1.kind ≠ 0) = b2
   cases b1 <;> cases b2 <;> simp
  ·rw [if_pos hc, decide_eq_false hc]
   simp
theorem holds_eqs {s t u : List (List Val)} (w : List Tx) : ∀ (xs ys : List Tx), cpEs s t u xs ys → holdsV u (List.zipWith eqT xs ys ++ w) = if (List.zipWith eqT xs ys).all (fun z => isTrue (tellV u z).1) then holdsV u w else (false, 0)
 | [], ys, h => by simp
 | x :: xs, [], h => by simp
 | x :: xs, y :: ys, h => by
  have h5 := h.head.2.2.2.2.1
  rw [List.zipWith_cons_cons, List.cons_append, holdsV, if_neg (fun h => h h5), holds_eqs w xs ys h.tail, List.all_cons]
  cases isTrue (tellV u (eqT x y)).1 <;> simp
end Go.Proofs.YtgmolmpfihkolaaGreat
