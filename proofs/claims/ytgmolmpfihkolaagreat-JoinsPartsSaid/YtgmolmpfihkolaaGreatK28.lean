/- Part of the proof. -/
import Derived.Test.YtgmolmpfihkolaaGreatK27
namespace Go.Proofs.YtgmolmpfihkolaaGreat.Pj
open Go.RowKit Go.Proofs.YtgmolmpfihkolaaGreatW.PrintWords Go.Proofs.YtgmolmpfihkolaaGreatW.PrintLast Go.Proofs.YtgmolmpfihkolaaGreatW.PrintMore
attribute [local go_sem] run_store_flt max2_int min2_int max_two min_two max_three min_three max_four min_four
set_option linter.unusedVariables false
set_option linter.unusedSimpArgs false
mutual
def r05_Bulk.l0 : Nat → T2 → Int → Int → Int → Option (Int)
 | 0, _, _, _, _ => none
 | k + 1, x0, x1, x5, x6 => if x6 < (x0.length : Int) then (if 0 ≤ x6 then (if ((rd_L5 x0 x6).length : Int) > x1 then (some (wrap64 (x1 + 1))) else (r05_Bulk.l1 k x0 x1 x5 x6 0)) else (none)) else (some x5)
def r05_Bulk.l1 : Nat → T2 → Int → Int → Int → Int → Option (Int)
 | 0, _, _, _, _, _ => none
 | k + 1, x0, x1, x5, x6, x7 => if 0 ≤ x6 then (if x6 < (x0.length : Int) then (if x7 < ((rd_L5 x0 x6).length : Int) then (if x5 > x1 then (some (wrap64 (x1 + 1))) else (if 0 ≤ x7 then (if (((rd_T39 (rd_L5 x0 x6) x7).f3).size : Int) > x1 then (some (wrap64 (x1 + 1))) else (r05_Bulk.l1 k x0 x1 (wrap64 ((wrap64 (x5 + 1)) + (((rd_T39 (rd_L5 x0 x6) x7).f3).size : Int))) x6 (wrap64 (x7 + 1)))) else (none))) else (r05_Bulk.l0 k x0 x1 x5 (wrap64 (x6 + 1)))) else (none)) else (none)
end
def r05_Bulk.f (k : Nat) (l0 : T2) (a1 : Int) : Option (Int) := if (l0.length : Int) > a1 then (some (wrap64 (a1 + 1))) else (r05_Bulk.l0 k l0 a1 (l0.length : Int) 0)
set_option maxHeartbeats 8000000 in
set_option maxRecDepth 100000 in
theorem r05_Bulk.calls (k : Nat) (A0 : Option Addr) (c0 : Nat) (l0 : T2) (a1 : Int) (r : Int) (w : World) (hr0 : Kd.C (Kd.slice 39 k39) w A0 l0.length l0) (hc0 : l0.length ≤ c0) (h : r05_Bulk.f k l0 a1 = some r) :
 Calls Tryz.prog 29 #[.slice A0 l0.length c0, .int .i64 a1] w fun e w' => e = .returned (.int .i64 r) ∧ Drawn0 w w' := by
 have HR0 := akk hr0
 have HC0 := akk hc0
 clear hr0 hc0
 have H : (if (l0.length : Int) > a1 then (some (wrap64 (a1 + 1))) else (r05_Bulk.l0 k l0 a1 (l0.length : Int) 0)) = some r := h
 clear h
 by_cases c3 : (l0.length : Int) > a1
 ·rw [if_pos c3] at H
  have c3b0 := decide_eq_true c3
  clear c3
  obtain rfl := Option.some.inj H
  go_enter Tryz.func29, Tryz.ntmps29
  go_wp2
  go_ret
  exact ⟨by first | rfl | (simp; done) | (simp [*]; done), by repeat (first | exact Drawn0.refl _ | apply Drawn0.step)⟩
 ·rw [if_neg c3] at H
  have c3b0 := decide_eq_false c3
  clear c3
  have H' := akk H
  clear H
  go_enter Tryz.func29, Tryz.ntmps29
  go_wp2
  go_loopg [5, 6] k (fun kq v5 v6 w' => ∃ (x5_1 : Int) (x6_1 : Int), v5 = .int .i64 x5_1 ∧ v6 = .int .i64 x6_1 ∧ Aside0 (r05_Bulk.l0 kq l0 a1 x5_1 x6_1 = some r) ∧ Aside0 (kq ≤ k) ∧ Drawn0 w w')
  case atStart => exact ⟨((l0.length : Int)), (0), eT, eT, H', ⟨Nat.le_refl _⟩, by repeat (first | exact Drawn0.refl _ | apply Drawn0.step)⟩
  case round =>
   clear H'
   try clear c3b0
   obtain ⟨x5_1, x6_1, rfl, rfl, HA, HK1, ⟨m1, rfl⟩⟩ := hrel
   cases gk with
   | zero => exact absurd HA.out (by simp [r05_Bulk.l0])
   | succ k1 =>
    have H := HA.out
    clear HA
    simp only [r05_Bulk.l0] at H
    by_cases c4 : x6_1 < (l0.length : Int)
    ·rw [if_pos c4] at H
     have c4b0 := decide_eq_true c4
     clear c4
     by_cases c5 : 0 ≤ x6_1
     ·rw [if_pos c5] at H
      have c5b0 := decide_eq_true c5
      clear c5
      by_cases c6 : ((rd_L5 l0 x6_1).length : Int) > a1
      ·rw [if_pos c6] at H
       have c6b0 := decide_eq_true c6
       clear c6
       obtain rfl := Option.some.inj H
       obtain ⟨ad105, A105_0, c105_0, e105, hx105_0, HR105_0, HC105_0, p105, q105⟩ := gC5 HR0 x6_1
       cases e105
       go_wp2
       go_ret
       exact ⟨by first | rfl | (simp; done) | (simp [*]; done), by repeat (first | exact Drawn0.refl _ | apply Drawn0.step)⟩
      ·rw [if_neg c6] at H
       have c6b0 := decide_eq_false c6
       clear c6
       have H' := akk H
       clear H
       obtain ⟨ad105, A105_0, c105_0, e105, hx105_0, HR105_0, HC105_0, p105, q105⟩ := gC5 HR0 x6_1
       cases e105
       go_wp2
       go_loopg [5, 7] k1 (fun kq v5 v7 w' => ∃ (x5_2 : Int) (x7_2 : Int), v5 = .int .i64 x5_2 ∧ v7 = .int .i64 x7_2 ∧ Aside0 (r05_Bulk.l1 kq l0 a1 x5_2 x6_1 x7_2 = some r) ∧ Aside0 (kq ≤ k1) ∧ Drawn0 w w')
       case atStart => exact ⟨(x5_1), (0), eT, eT, H', ⟨Nat.le_refl _⟩, by repeat (first | exact Drawn0.refl _ | apply Drawn0.step)⟩
       case round =>
        clear H'
        try clear c4b0
        try clear c5b0
        try clear c6b0
        try clear hx105_0
        try clear p105
        try clear q105
        obtain ⟨x5_2, x7_2, rfl, rfl, HA, HK2, ⟨m2, rfl⟩⟩ := hrel
        cases gk with
        | zero => exact absurd HA.out (by simp [r05_Bulk.l1])
        | succ k2 =>
         have H := HA.out
         clear HA
         simp only [r05_Bulk.l1] at H
         by_cases c7 : 0 ≤ x6_1
         ·rw [if_pos c7] at H
          have c7b0 := decide_eq_true c7
          clear c7
          by_cases c8 : x6_1 < (l0.length : Int)
          ·rw [if_pos c8] at H
           have c8b0 := decide_eq_true c8
           clear c8
           by_cases c9 : x7_2 < ((rd_L5 l0 x6_1).length : Int)
           ·rw [if_pos c9] at H
            have c9b0 := decide_eq_true c9
            clear c9
            by_cases c10 : x5_2 > a1
            ·rw [if_pos c10] at H
             have c10b0 := decide_eq_true c10
             clear c10
             obtain rfl := Option.some.inj H
             obtain ⟨ad106, A106_0, c106_0, e106, hx106_0, HR106_0, HC106_0, p106, q106⟩ := gC5 HR0 x6_1
             obtain rfl : ad105 = ad106 := (by injection e106)
             go_wp2
             go_ret
             exact ⟨by first | rfl | (simp; done) | (simp [*]; done), by repeat (first | exact Drawn0.refl _ | apply Drawn0.step)⟩
            ·rw [if_neg c10] at H
             have c10b0 := decide_eq_false c10
             clear c10
             by_cases c11 : 0 ≤ x7_2
             ·rw [if_pos c11] at H
              have c11b0 := decide_eq_true c11
              clear c11
              by_cases c12 : (((rd_T39 (rd_L5 l0 x6_1) x7_2).f3).size : Int) > a1
              ·rw [if_pos c12] at H
               have c12b0 := decide_eq_true c12
               clear c12
               obtain rfl := Option.some.inj H
               obtain ⟨ad106, A106_0, c106_0, e106, hx106_0, HR106_0, HC106_0, p106, q106⟩ := gC5 HR0 x6_1
               obtain rfl : ad105 = ad106 := (by injection e106)
               obtain ⟨ad107, A107_0, c107_0, e107, hx107_0, HR107_0, HC107_0, p107, q107⟩ := gC5 HR0 x6_1
               obtain rfl : ad105 = ad107 := (by injection e107)
               have ea_ := Option.some.inj (hx106_0.symm.trans hx107_0)
               injection ea_ with ea_ en_ ec_
               subst ea_
               subst ec_
               clear en_
               have p108 : 0 ≤ (x7_2 : Int) := of_decide_eq_true aT
               have q108 : x7_2 < ((rd_L5 l0 x6_1).length : Int) := of_decide_eq_true aT
               obtain ⟨ad108, e108, hx108_0, hx108_1, hx108_2, hx108_3⟩ := at_T39 HR107_0.out x7_2 p108 q108
               cases e108
               replace p108 := eq_true p108
               replace q108 := eq_true q108
               go_wp2
               go_ret
               exact ⟨by first | rfl | (simp; done) | (simp [*]; done), by repeat (first | exact Drawn0.refl _ | apply Drawn0.step)⟩
              ·rw [if_neg c12] at H
               have c12b0 := decide_eq_false c12
               clear c12
               have H' := akk H
               clear H
               obtain ⟨ad106, A106_0, c106_0, e106, hx106_0, HR106_0, HC106_0, p106, q106⟩ := gC5 HR0 x6_1
               obtain rfl : ad105 = ad106 := (by injection e106)
               obtain ⟨ad107, A107_0, c107_0, e107, hx107_0, HR107_0, HC107_0, p107, q107⟩ := gC5 HR0 x6_1
               obtain rfl : ad105 = ad107 := (by injection e107)
               have ea_ := Option.some.inj (hx106_0.symm.trans hx107_0)
               injection ea_ with ea_ en_ ec_
               subst ea_
               subst ec_
               clear en_
               have p108 : 0 ≤ (x7_2 : Int) := of_decide_eq_true aT
               have q108 : x7_2 < ((rd_L5 l0 x6_1).length : Int) := of_decide_eq_true aT
               obtain ⟨ad108, e108, hx108_0, hx108_1, hx108_2, hx108_3⟩ := at_T39 HR107_0.out x7_2 p108 q108
               cases e108
               replace p108 := eq_true p108
               replace q108 := eq_true q108
               obtain ⟨ad109, A109_0, c109_0, e109, hx109_0, HR109_0, HC109_0, p109, q109⟩ := gC5 HR0 x6_1
               obtain rfl : ad105 = ad109 := (by injection e109)
               have ea_ := Option.some.inj (hx106_0.symm.trans hx109_0)
               injection ea_ with ea_ en_ ec_
               subst ea_
               subst ec_
               clear en_
               have p110 : 0 ≤ (x7_2 : Int) := of_decide_eq_true aT
               have q110 : x7_2 < ((rd_L5 l0 x6_1).length : Int) := of_decide_eq_true aT
               obtain ⟨ad110, e110, hx110_0, hx110_1, hx110_2, hx110_3⟩ := at_T39 HR109_0.out x7_2 p110 q110
               cases e110
               replace p110 := eq_true p110
               replace q110 := eq_true q110
               go_wp2
               go_roundg k2
               case measure => have := HK1.out; have := HK2.out; omega
               case rel => exact ⟨(wrap64 ((wrap64 (x5_2 + 1)) + (((rd_T39 (rd_L5 l0 x6_1) x7_2).f3).size : Int))), (wrap64 (x7_2 + 1)), eT, eT, H', ⟨by have := HK1.out; have := HK2.out; omega⟩, by repeat (first | exact Drawn0.refl _ | apply Drawn0.step)⟩
             ·rw [if_neg c11] at H
              exact absurd H (by simp)
           ·rw [if_neg c9] at H
            have c9b0 := decide_eq_false c9
            clear c9
            have H' := akk H
            clear H
            obtain ⟨ad106, A106_0, c106_0, e106, hx106_0, HR106_0, HC106_0, p106, q106⟩ := gC5 HR0 x6_1
            obtain rfl : ad105 = ad106 := (by injection e106)
            go_wp2
            go_roundg k2
            case measure => have := HK1.out; have := HK2.out; omega
            case rel => exact ⟨(x5_2), (wrap64 (x6_1 + 1)), eT, eT, H', ⟨by have := HK1.out; have := HK2.out; omega⟩, by repeat (first | exact Drawn0.refl _ | apply Drawn0.step)⟩
          ·rw [if_neg c8] at H
           exact absurd H (by simp)
         ·rw [if_neg c7] at H
          exact absurd H (by simp)
     ·rw [if_neg c5] at H
      exact absurd H (by simp)
    ·rw [if_neg c4] at H
     have c4b0 := decide_eq_false c4
     clear c4
     obtain rfl := Option.some.inj H
     go_wp2
     go_ret
     exact ⟨by first | rfl | (simp; done) | (simp [*]; done), by repeat (first | exact Drawn0.refl _ | apply Drawn0.step)⟩
mutual
def a27_Great.j0 : Nat → T3 → T3 → Bool → Option (Bool)
 | 0, _, _, _ => none
 | k + 1, x0, x1, x21 => if x21 = true then (some true) else ((some (([] : T3) : T3)).bind fun y112 => (if y112.length + x0.length < 5864062014805 then ((some (y112 ++ x0 : T3)).bind fun y115 => (if y115.length + x1.length < 5864062014805 then ((some (y115 ++ x1 : T3)).bind fun y118 => (a27_Great.l0 k y118 (y118.length : Int) 0)) else (none))) else (none)))
def a27_Great.l0 : Nat → T3 → Int → Int → Option (Bool)
 | 0, _, _, _ => none
 | k + 1, x26, x27, x28 => if x28 < x27 then (if 0 ≤ x28 then (if x28 < (x26.length : Int) then (if ((rd_L6 x26 x28).length : Int) > 13 then (some true) else ((r05_Bulk.f k (rd_L6 x26 x28) 200).bind fun t122 => (if t122 > 200 then (some true) else (a27_Great.l0 k x26 x27 (wrap64 (x28 + 1)))))) else (none)) else (none)) else (some false)
end
def a27_Great.f (k : Nat) (l0 : T3) (l1 : T3) (l2 : List (S53)) : Option (Bool) := if (l0.length : Int) > 30 then (a27_Great.j0 k l0 l1 true) else (if (l1.length : Int) > 30 then (a27_Great.j0 k l0 l1 true) else ((r22_Bulk.f k l2 200).bind fun t111 => (a27_Great.j0 k l0 l1 (decide (t111 > 200)))))
set_option maxHeartbeats 8000000 in
set_option maxRecDepth 100000 in
theorem a27_Great.calls (k : Nat) (P0_ : Nat → Prop) (A0 : Option Addr) (c0 : Nat) (l0 : T3) (P1_ : Nat → Prop) (A1 : Option Addr) (c1 : Nat) (l1 : T3) (A2 : Option Addr) (c2 : Nat) (l2 : List (S53)) (r : Bool) (w : World) (hs0 : Kd.V (Kd.slice 29 (Kd.slice 39 k39)) 22 w w.heap.size (fun k_ => P0_ k_) (.slice A0 l0.length c0) l0) (hs1 : Kd.V (Kd.slice 29 (Kd.slice 39 k39)) 22 w w.heap.size (fun k_ => P1_ k_) (.slice A1 l1.length c1) l1) (hr2 : Kd.C k53 w A2 l2.length l2) (hc2 : l2.length ≤ c2) (h : a27_Great.f k l0 l1 l2 = some r) :
 Calls Tryz.prog 7 #[.slice A0 l0.length c0, .slice A1 l1.length c1, .slice A2 l2.length c2] w fun e w' => e = .returned (.bool r) ∧ Below w.heap.size w w' := by
 have HO0 := akk (show Kd.V (Kd.slice 29 (Kd.slice 39 k39)) 22 w w.heap.size (fun k_ => ((P0_ k_ ∨ P1_ k_) ∨ w.heap.size ≤ k_)) (.slice A0 l0.length c0) l0 from Kd.V_mono hs0 (fun k_ hk => .inl (.inl hk)))
 have HO1 := akk (show Kd.V (Kd.slice 29 (Kd.slice 39 k39)) 22 w w.heap.size (fun k_ => ((P0_ k_ ∨ P1_ k_) ∨ w.heap.size ≤ k_)) (.slice A1 l1.length c1) l1 from Kd.V_mono hs1 (fun k_ hk => .inl (.inr hk)))
 have HR2 := akk hr2
 have HC2 := akk hc2
 clear hr2 hc2
 have HB := akk (Below.refl w.heap.size w)
 have H : (if (l0.length : Int) > 30 then (a27_Great.j0 k l0 l1 true) else (if (l1.length : Int) > 30 then (a27_Great.j0 k l0 l1 true) else ((r22_Bulk.f k l2 200).bind fun t111 => (a27_Great.j0 k l0 l1 (decide (t111 > 200)))))) = some r := h
 clear h
 have HC4 := akk H
 clear H
 go_enter Tryz.func7, Tryz.ntmps7
 go_upto_region 1 with (fail)
 go_cut [21] (fun v21 wc => ∃ (kq : Nat) (x21_3 : Bool), v21 = .bool x21_3 ∧ Aside0 (a27_Great.j0 kq l0 l1 x21_3 = some r) ∧ Aside0 (kq ≤ k) ∧ Aside0 (Kd.V (Kd.slice 29 (Kd.slice 39 k39)) 22 wc w.heap.size (fun k_ => ((P0_ k_ ∨ P1_ k_) ∨ w.heap.size ≤ k_)) (.slice A0 l0.length c0) l0) ∧ Aside0 (Kd.V (Kd.slice 29 (Kd.slice 39 k39)) 22 wc w.heap.size (fun k_ => ((P0_ k_ ∨ P1_ k_) ∨ w.heap.size ≤ k_)) (.slice A1 l1.length c1) l1) ∧ Aside0 (Below w.heap.size w wc))
 case first =>
  have H := HC4.out
  clear HC4
  by_cases c5 : (l0.length : Int) > 30
  ·rw [if_pos c5] at H
   have c5b0 := decide_eq_true c5
   have c5b1 : decide (30 < l0.length) = true := decide_eq_true (by omega)
   clear c5
   (first | rw [c5b0] | (simp only [i64_w, i32_w]; rw [c5b0]) | skip)
   have H' := akk H
   clear H
   go_wp2
   go_meet
   case rel => exact ⟨_, (true), eT, H', ⟨by first | omega | exact Nat.le_refl _⟩, ⟨vT HO0.out⟩, ⟨vT HO1.out⟩, ⟨bT⟩⟩
  ·rw [if_neg c5] at H
   have c5b0 := decide_eq_false c5
   have c5b1 : decide (30 < l0.length) = false := decide_eq_false (by omega)
   clear c5
   (first | rw [c5b0] | (simp only [i64_w, i32_w]; rw [c5b0]) | skip)
   by_cases c6 : (l1.length : Int) > 30
   ·rw [if_pos c6] at H
    have c6b0 := decide_eq_true c6
    have c6b1 : decide (30 < l1.length) = true := decide_eq_true (by omega)
    clear c6
    have H' := akk H
    clear H
    go_wp2
    go_meet
    case rel => exact ⟨_, (true), eT, H', ⟨by first | omega | exact Nat.le_refl _⟩, ⟨vT HO0.out⟩, ⟨vT HO1.out⟩, ⟨bT⟩⟩
   ·rw [if_neg c6] at H
    have c6b0 := decide_eq_false c6
    have c6b1 : decide (30 < l1.length) = false := decide_eq_false (by omega)
    clear c6
    obtain ⟨t111, A7, H⟩ := bi H
    try dsimp only at H
    have H' := akk H
    clear H
    go_wp2_with (go_at_call 28; (with_reducible refine (r22_Bulk.calls k _ _ l2 200 t111 _ ?_ ?_ A7.out).mono ?_); exact cT HR2.out; exact HC2.out; rintro e w' ⟨rfl, ⟨nd, rfl⟩⟩)
    go_meet
    case rel => exact ⟨_, (decide (t111 > 200)), eT, H', ⟨by first | omega | exact Nat.le_refl _⟩, ⟨vT HO0.out⟩, ⟨vT HO1.out⟩, ⟨bT⟩⟩
 case rest =>
  clear HC4
  try clear c1
  obtain ⟨kq, x21_3, rfl, HA, HJ3, HO_0, HO_1, HB⟩ := hcut
  cases kq with
  | zero => exact absurd HA.out (by simp [a27_Great.j0])
  | succ kj3 =>
   have H := HA.out
   clear HA
   simp only [a27_Great.j0] at H
   by_cases c8 : x21_3 = true
   ·subst c8
    rw [if_pos rfl] at H
    obtain rfl := Option.some.inj H
    go_wp2
    go_ret
    exact ⟨fT, bT⟩
   ·replace c8 := Bool.eq_false_iff.mpr c8
    subst c8
    rw [if_neg (show ¬ (false = true) by decide)] at H
    obtain ⟨y112, hy112⟩ : ∃ y_ : T3, y_ = (([] : T3)) := ⟨_, rfl⟩
    replace H : (if y112.length + l0.length < 5864062014805 then ((some (y112 ++ l0 : T3)).bind fun y115 => (if y115.length + l1.length < 5864062014805 then ((some (y115 ++ l1 : T3)).bind fun y118 => (a27_Great.l0 kj3 y118 (y118.length : Int) 0)) else (none))) else (none)) = some r := jT hy112 H
    have Ny112 := akk hy112
    clear hy112
    by_cases c9 : y112.length + l0.length < 5864062014805
    ·rw [if_pos c9] at H
     have LMc9 := akk c9
     clear c9
     obtain ⟨y115, hy115⟩ : ∃ y_ : T3, y_ = (y112 ++ l0) := ⟨_, rfl⟩
     replace H : (if y115.length + l1.length < 5864062014805 then ((some (y115 ++ l1 : T3)).bind fun y118 => (a27_Great.l0 kj3 y118 (y118.length : Int) 0)) else (none)) = some r := jT hy115 H
     have Ny115 := akk hy115
     clear hy115
     by_cases c10 : y115.length + l1.length < 5864062014805
     ·rw [if_pos c10] at H
      have LMc10 := akk c10
      clear c10
      obtain ⟨y118, hy118⟩ : ∃ y_ : T3, y_ = (y115 ++ l1) := ⟨_, rfl⟩
      replace H : (a27_Great.l0 kj3 y118 (y118.length : Int) 0) = some r := jT hy118 H
      have Ny118 := akk hy118
      clear hy118
      have H' := akk H
      clear H
      go_wp2_with (first | ((with_reducible refine gate_dst (N := 22) rfl ?_); (try (refine gate_guard (by rfl) ?_; dsimp only)); refine Kd.N_lit (Kd.slice 29 (Kd.slice 39 k39)) _ 22 ?hg (N' := 22) ?hd (xs := ([] : T3)) (inner := []) (ok := (fun k_ => ((P0_ k_ ∨ P1_ k_) ∨ w.heap.size ≤ k_))) (okp := (fun k_ => ((P0_ k_ ∨ P1_ k_) ∨ w.heap.size ≤ k_))) ?hr ?hp (fun _ hk => hk) ((show ∀ k_, wc.heap.size ≤ k_ → (fun k_ => ((P0_ k_ ∨ P1_ k_) ∨ w.heap.size ≤ k_)) k_ from fun k_ hk => (.inr (Nat.le_trans (below_size bT) hk))) _ (Nat.le_refl _)) (Below.refl _ _) (Nat.le_refl _) (by simp) ?_; (case hd => rfl); (case hg => rfl); (case hr => first | (go_simp; done) | (go_simp; rfl)); (case hp => exact (Reps.none _ _)); intro v113 w11 ho12 hb hg_ hnew_; clear hg_ hnew_; (first | rw [← Ny112.out] at ho12 | (simp only [Int.reduceToNat] at ho12; rw [← Ny112.out] at ho12)); replace HO_0 := ve HO_0 ho12 hb; replace HO_1 := ve HO_1 ho12 hb; have HO114 := akk (Kd.N_lower ho12 (below_size bT)); replace HB := bb HB hb; clear hb ho12) | ((with_reducible refine gA #[.tmp 22, .tmp 23] rfl ?_); (try (refine gate_guard (by rfl) ?_; dsimp only)); at_builtin; refine Kd.N_append_rows (Kd.slice 29 (Kd.slice 39 k39)) (w0 := w) w.heap.size rfl (.tmp 22) (.tmp 23) 25 22 (.slice none 0 0) 24 rfl Tryz.underlying25 info22 rfl (by decide) (by omega) v113 y112 l0 _ _ _ (fun k_ => ((P0_ k_ ∨ P1_ k_) ∨ w.heap.size ≤ k_)) (fun k_ => ((fun k_ => ((P0_ k_ ∨ P1_ k_) ∨ w.heap.size ≤ k_))) k_ ∧ some k_ ≠ (v113 : Value).ownBlock) rfl rfl ?aO ?aR (fun _ hk => hk) ?aF ?aB ?aS ?aL ?_; (case aR => exact (by skip; exact Kd.V_F (Kd.V_mono (ok' := (fun k_ => ((fun k_ => ((P0_ k_ ∨ P1_ k_) ∨ w.heap.size ≤ k_))) k_ ∧ some k_ ≠ (v113 : Value).ownBlock)) (HO_0.out) (fun k_ hk => ⟨hk.1, hk.2⟩)))); (case aB => exact bT); (case aF => exact (fun k_ hk => (.inr (Nat.le_trans (below_size bT) hk)))); (case aO => exact (nT HO114.out)); (case aS => exact (below_size bT)); (case aL => have := LMc9.out; omega); intro v116 w13 ho hb hg hat; rw [← Ny115.out] at ho; replace HO_0 := va HO_0 hg hat; replace HO_1 := va HO_1 hg hat; replace HB := akk (hb); have HO117 := akk (ho); clear HO114; clear ho hb hg hat) | ((with_reducible refine gA #[.tmp 24, .tmp 25] rfl ?_); (try (refine gate_guard (by rfl) ?_; dsimp only)); at_builtin; refine Kd.N_append_rows (Kd.slice 29 (Kd.slice 39 k39)) (w0 := w) w.heap.size rfl (.tmp 24) (.tmp 25) 25 22 (.slice none 0 0) 24 rfl Tryz.underlying25 info22 rfl (by decide) (by omega) v116 y115 l1 _ _ _ (fun k_ => ((P0_ k_ ∨ P1_ k_) ∨ w.heap.size ≤ k_)) (fun k_ => ((fun k_ => ((P0_ k_ ∨ P1_ k_) ∨ w.heap.size ≤ k_))) k_ ∧ some k_ ≠ (v116 : Value).ownBlock) rfl rfl ?aO ?aR (fun _ hk => hk) ?aF ?aB ?aS ?aL ?_; (case aR => exact (by skip; exact Kd.V_F (Kd.V_mono (ok' := (fun k_ => ((fun k_ => ((P0_ k_ ∨ P1_ k_) ∨ w.heap.size ≤ k_))) k_ ∧ some k_ ≠ (v116 : Value).ownBlock)) (HO_1.out) (fun k_ hk => ⟨hk.1, hk.2⟩)))); (case aB => exact bT); (case aF => exact (fun k_ hk => (.inr (Nat.le_trans (below_size bT) hk)))); (case aO => exact (nT HO117.out)); (case aS => exact (below_size bT)); (case aL => have := LMc10.out; omega); intro v119 w14 ho hb hg hat; rw [← Ny118.out] at ho; replace HO_0 := va HO_0 hg hat; replace HO_1 := va HO_1 hg hat; replace HB := akk (hb); have HO120 := akk (ho); clear HO117; clear ho hb hg hat; obtain ⟨Ao15, co15, eo15⟩ := Kd.N_slice HO120.out; subst eo15))
      go_loopg [28] kj3 (fun kq v28 w' => ∃ (x28_2 : Int), v28 = .int .i64 x28_2 ∧ Aside0 (a27_Great.l0 kq y118 (y118.length : Int) x28_2 = some r) ∧ Aside0 (kq ≤ kj3) ∧ Aside0 (Kd.N (Kd.slice 29 (Kd.slice 39 k39)) 22 w' w.heap.size (fun k_ => ((P0_ k_ ∨ P1_ k_) ∨ w.heap.size ≤ k_)) (.slice Ao15 y118.length co15) y118) ∧ Aside0 (Below w.heap.size w w'))
      case atStart => exact ⟨(0), eT, H', ⟨Nat.le_refl _⟩, ⟨nT HO120.out⟩, ⟨bT⟩⟩
      case round =>
       clear H'
       try clear c8
       obtain ⟨x28_2, rfl, HA, HK2, HO_26, HB⟩ := hrel
       cases gk with
       | zero => exact absurd HA.out (by simp [a27_Great.l0])
       | succ k2 =>
        have H := HA.out
        clear HA
        simp only [a27_Great.l0] at H
        by_cases c16 : x28_2 < (y118.length : Int)
        ·rw [if_pos c16] at H
         have c16b0 := decide_eq_true c16
         clear c16
         by_cases c17 : 0 ≤ x28_2
         ·rw [if_pos c17] at H
          have c17b0 := decide_eq_true c17
          clear c17
          by_cases c18 : x28_2 < (y118.length : Int)
          ·rw [if_pos c18] at H
           have c18b0 := decide_eq_true c18
           clear c18
           by_cases c19 : ((rd_L6 y118 x28_2).length : Int) > 13
           ·rw [if_pos c19] at H
            have c19b0 := decide_eq_true c19
            have c19b1 : decide (13 < (rd_L6 y118 x28_2).length) = true := decide_eq_true (by omega)
            clear c19
            obtain rfl := Option.some.inj H
            obtain ⟨ad121, A121_0, c121_0, rfl, hx121_0, HL121_0, HR121_0, HC121_0, p121, q121⟩ := gN6 HO_26 x28_2
            go_wp2
            go_ret
            exact ⟨fT, bT⟩
           ·rw [if_neg c19] at H
            have c19b0 := decide_eq_false c19
            have c19b1 : decide (13 < (rd_L6 y118 x28_2).length) = false := decide_eq_false (by omega)
            clear c19
            obtain ⟨t122, A20, H⟩ := bi H
            try dsimp only at H
            by_cases c21 : t122 > 200
            ·rw [if_pos c21] at H
             have c21b0 := decide_eq_true c21
             clear c21
             obtain rfl := Option.some.inj H
             obtain ⟨ad121, A121_0, c121_0, rfl, hx121_0, HL121_0, HR121_0, HC121_0, p121, q121⟩ := gN6 HO_26 x28_2
             go_wp2_with (go_at_call 29; (with_reducible refine (r05_Bulk.calls k2 _ _ (rd_L6 y118 x28_2) 200 t122 _ ?_ ?_ A20.out).mono ?_); exact cV HR121_0.out; exact HC121_0.out; rintro e w' ⟨rfl, ⟨nd, rfl⟩⟩)
             go_ret
             exact ⟨fT, bT⟩
            ·rw [if_neg c21] at H
             have c21b0 := decide_eq_false c21
             clear c21
             have H' := akk H
             clear H
             obtain ⟨ad121, A121_0, c121_0, rfl, hx121_0, HL121_0, HR121_0, HC121_0, p121, q121⟩ := gN6 HO_26 x28_2
             go_wp2_with (go_at_call 29; (with_reducible refine (r05_Bulk.calls k2 _ _ (rd_L6 y118 x28_2) 200 t122 _ ?_ ?_ A20.out).mono ?_); exact cV HR121_0.out; exact HC121_0.out; rintro e w' ⟨rfl, ⟨nd, rfl⟩⟩)
             go_roundg k2
             case measure => have := HJ3.out; have := HK2.out; omega
             case rel => exact ⟨(wrap64 (x28_2 + 1)), eT, H', ⟨by have := HJ3.out; have := HK2.out; omega⟩, ⟨nT HO_26.out⟩, ⟨bT⟩⟩
          ·rw [if_neg c18] at H
           exact absurd H (by simp)
         ·rw [if_neg c17] at H
          exact absurd H (by simp)
        ·rw [if_neg c16] at H
         have c16b0 := decide_eq_false c16
         clear c16
         obtain rfl := Option.some.inj H
         go_wp2
         go_ret
         exact ⟨fT, bT⟩
     ·rw [if_neg c10] at H
      exact absurd H (by simp)
    ·rw [if_neg c9] at H
     exact absurd H (by simp)
end Go.Proofs.YtgmolmpfihkolaaGreat.Pj
namespace Go.Proofs.YtgmolmpfihkolaaGreat
open Go.RowKit Go.Proofs.YtgmolmpfihkolaaGreatW.PrintWords Go.Proofs.YtgmolmpfihkolaaGreatW.PrintMore Go.Proofs.YtgmolmpfihkolaaGreat.Pj
set_option linter.unusedVariables false
set_option maxRecDepth 100000
theorem w64n {i : Int} (h : -9223372036854775808 ≤ i) (h2 : i < 9223372036854775808) : wrap64 i = i := by unfold wrap64; omega
def gB : Nat → Nat
 | 0 => 10
 | n + 1 => gB n + 2 * (n + 1) + 6
theorem gB_step (n : Nat) : gB (n + 1) = gB n + 2 * (n + 1) + 6 := rfl
theorem gB_mono : ∀ {n m : Nat}, n ≤ m → gB n ≤ gB m
 | n, 0, h => by
  obtain rfl : n = 0 := by omega
  exact Nat.le_refl _
 | n, m + 1, h => by
  by_cases e : n = m + 1
  ·rw [e]; exact Nat.le_refl _
  ·have := gB_mono (n := n) (m := m) (by omega)
   rw [gB_step]; omega
theorem bulkE_go (n : Nat) (hn : n ≤ 1000) (ihn : ∀ n' : Nat, n' < n → ∀ (l : List PE) (K : Nat), gB n' ≤ K → ∃ r : Int, r22_Bulk.f K l (n' : Int) = some r ∧ 0 ≤ r ∧ r ≤ 2 * n' + 1) (l : List PE) (hl : l.length ≤ n) :
 ∀ (m i : Nat) (x5 : Int), l.length - i = m → i ≤ l.length → (l.length : Int) ≤ x5 → x5 ≤ 2 * n + 1 → ∀ K, gB (n - 1) + 2 * m + 2 ≤ K → ∃ r : Int, r22_Bulk.l0 K l (n : Int) x5 (i : Int) = some r ∧ 0 ≤ r ∧ r ≤ 2 * n + 1 := by
 intro m
 induction m with
 | zero =>
  intro i x5 hm hi h1 h2 K hK
  obtain ⟨K, rfl⟩ : ∃ K', K = K' + 1 + 1 := ⟨K - 2, by omega⟩
  rw [r22_Bulk.l0, if_neg (by omega), r22_Bulk.j1, if_neg (by simp)]
  exact ⟨x5, rfl, by omega, h2⟩
 | succ m ih =>
  intro i x5 hm hi h1 h2 K hK
  obtain ⟨K, rfl⟩ : ∃ K', K = K' + 1 + 1 := ⟨K - 2, by omega⟩
  have hil : i < l.length := by omega
  rw [r22_Bulk.l0, if_pos (by omega), r22_Bulk.j1]
  by_cases c1 : x5 ≤ (n : Int)
  ·rw [if_pos (show decide (x5 ≤ (n : Int)) = true from decide_eq_true c1), if_pos (by omega), if_pos (by omega), rd53 l i hil]
   obtain ⟨s, hs⟩ : ∃ s : Nat, s = l[i].f3.f3.size := ⟨_, rfl⟩
   rw [← hs]
   by_cases c2 : (s : Int) > (n : Int)
   ·rw [if_pos c2, w64n (by omega) (by omega)]
    exact ⟨_, rfl, by omega, by omega⟩
   ·rw [if_neg c2, w64n (i := x5 + (s : Int)) (by omega) (by omega), w64 (by omega)]
    by_cases c3 : x5 + (s : Int) ≤ (n : Int)
    ·rw [if_pos c3, w64n (i := (n : Int) - (x5 + (s : Int))) (by omega) (by omega)]
     obtain ⟨n', hn'⟩ : ∃ n' : Nat, (n : Int) - (x5 + (s : Int)) = (n' : Int) := ⟨((n : Int) - (x5 + (s : Int))).toNat, by omega⟩
     rw [hn']
     have hg := gB_mono (show n' ≤ n - 1 by omega)
     obtain ⟨r, hr, r0, r1⟩ := ihn n' (by omega) l[i].f4 K (by omega)
     rw [hr, Option.bind_some, w64n (i := x5 + (s : Int) + r) (by omega) (by omega)]
     exact ih (i + 1) _ (by omega) (by omega) (by omega) (by omega) K (by omega)
    ·rw [if_neg c3]
     exact ih (i + 1) _ (by omega) (by omega) (by omega) (by omega) K (by omega)
  ·rw [if_neg (show ¬ decide (x5 ≤ (n : Int)) = true by simpa using c1)]
   exact ⟨x5, rfl, by omega, h2⟩
theorem bulkE_f : ∀ (n : Nat), n ≤ 1000 → ∀ (l : List PE) (K : Nat), gB n ≤ K → ∃ r : Int, r22_Bulk.f K l (n : Int) = some r ∧ 0 ≤ r ∧ r ≤ 2 * n + 1 ∧ (r ≤ (n : Int) → l.length ≤ n) := by
 intro n
 induction n using Nat.strongRecOn with
 | ind n ihn =>
  intro hn l K hK
  have h10 : 10 ≤ gB n := gB_mono (Nat.zero_le n)
  obtain ⟨K, rfl⟩ : ∃ K', K = K' + 1 := ⟨K - 1, by omega⟩
  rw [r22_Bulk.f]
  by_cases c : (l.length : Int) > (n : Int)
  ·rw [if_pos c, w64n (by omega) (by omega)]
   exact ⟨_, rfl, by omega, by omega, fun h => by omega⟩
  ·rw [if_neg c]
   cases n with
   | zero =>
    obtain ⟨K, rfl⟩ : ∃ K', K = K' + 1 + 1 := ⟨K - 2, by omega⟩
    rw [r22_Bulk.l0, if_neg (by omega), r22_Bulk.j1, if_neg (by simp)]
    exact ⟨_, rfl, by omega, by omega, fun _ => by omega⟩
   | succ n =>
    have hK2 : gB (n + 1 - 1) + 2 * l.length + 2 ≤ K := by rw [Nat.add_sub_cancel]; rw [gB_step] at hK; omega
    obtain ⟨r, hr, r0, r1⟩ := bulkE_go (n + 1) hn (fun n' hn' l' K' hK' => by
     obtain ⟨r, a1, a2, a3, _⟩ := ihn n' hn' (by omega) l' K' hK'
     exact ⟨r, a1, a2, a3⟩) l (by omega) l.length 0 _ (by omega) (Nat.zero_le _) (Int.le_refl _) (by omega) K hK2
    exact ⟨r, hr, r0, r1, fun _ => by omega⟩
theorem bulkR_one (t : Tup) (i : Nat) (hi : i < t.length) (F : Nat)
 (H : ∀ (x5 : Int) (K : Nat), F ≤ K → 0 ≤ x5 → x5 ≤ 500 → ∃ r : Int, r05_Bulk.l0 K t 200 x5 ((i + 1 : Nat) : Int) = some r ∧ (r ≤ 200 → ∀ k, i + 1 ≤ k → (t.getD k []).length ≤ 200)) (ht : t.length ≤ 1000) (hr : (t.getD i []).length ≤ 200) :
 ∀ (m j : Nat) (x5 : Int), (t.getD i []).length - j = m → j ≤ (t.getD i []).length → 0 ≤ x5 → x5 ≤ 500 → ∀ K, F + m + 1 ≤ K → ∃ r : Int, r05_Bulk.l1 K t 200 x5 (i : Int) (j : Int) = some r ∧ (r ≤ 200 → ∀ k, i ≤ k → (t.getD k []).length ≤ 200) := by
 intro m
 have ext : ∀ r : Int, (r ≤ 200 → ∀ k, i + 1 ≤ k → (t.getD k []).length ≤ 200) → (r ≤ 200 → ∀ k, i ≤ k → (t.getD k []).length ≤ 200) := by
  intro r h h1 k hk
  by_cases e : k = i
  ·rw [e]; exact hr
  ·exact h h1 k (by omega)
 induction m with
 | zero =>
  intro j x5 hm hj h0 h5 K hK
  obtain ⟨K, rfl⟩ : ∃ K', K = K' + 1 := ⟨K - 1, by omega⟩
  rw [r05_Bulk.l1, if_pos (by omega), if_pos (by omega), rd5, if_neg (by omega), w64 (by omega)]
  obtain ⟨r, a1, a2⟩ := H x5 K (by omega) h0 h5
  exact ⟨r, a1, ext r a2⟩
 | succ m ih =>
  intro j x5 hm hj h0 h5 K hK
  obtain ⟨K, rfl⟩ : ∃ K', K = K' + 1 := ⟨K - 1, by omega⟩
  have hjl : j < (t.getD i []).length := by omega
  rw [r05_Bulk.l1, if_pos (by omega), if_pos (by omega), rd5, if_pos (by omega)]
  by_cases c1 : x5 > 200
  ·rw [if_pos c1, w64n (by omega) (by omega)]
   exact ⟨_, rfl, fun h => by omega⟩
  ·rw [if_neg c1, if_pos (by omega), rd39 _ j hjl]
   obtain ⟨s, hs⟩ : ∃ s : Nat, s = ((t.getD i [])[j]).f3.size := ⟨_, rfl⟩
   rw [← hs]
   by_cases c2 : (s : Int) > 200
   ·rw [if_pos c2, w64n (by omega) (by omega)]
    exact ⟨_, rfl, fun h => by omega⟩
   ·rw [if_neg c2, w64n (i := x5 + 1) (by omega) (by omega), w64n (i := x5 + 1 + (s : Int)) (by omega) (by omega), w64 (by omega)]
    exact ih (j + 1) _ (by omega) (by omega) (by omega) (by omega) K (by omega)
theorem bulkR_go (t : Tup) (ht : t.length ≤ 1000) : ∀ (m i : Nat), t.length - i = m → i ≤ t.length → ∀ (x5 : Int) (K : Nat), m * 300 + 1 ≤ K → 0 ≤ x5 → x5 ≤ 500 → ∃ r : Int, r05_Bulk.l0 K t 200 x5 (i : Int) = some r ∧ (r ≤ 200 → ∀ k, i ≤ k → (t.getD k []).length ≤ 200) := by
 intro m
 induction m with
 | zero =>
  intro i hm hi x5 K hK h0 h5
  obtain ⟨K, rfl⟩ : ∃ K', K = K' + 1 := ⟨K - 1, by omega⟩
  rw [r05_Bulk.l0, if_neg (by omega)]
  exact ⟨x5, rfl, fun _ k hk => by rw [getD_no _ _ _ (by omega)]; simp⟩
 | succ m ih =>
  intro i hm hi x5 K hK h0 h5
  obtain ⟨K, rfl⟩ : ∃ K', K = K' + 1 := ⟨K - 1, by omega⟩
  rw [r05_Bulk.l0, if_pos (by omega), if_pos (by omega), rd5]
  by_cases c : ((t.getD i []).length : Int) > 200
  ·rw [if_pos c, w64n (by omega) (by omega)]
   exact ⟨_, rfl, fun h => by omega⟩
  ·rw [if_neg c]
   exact bulkR_one t i (by omega) (m * 300 + 1) (fun x5 K hK h0 h5 => ih (i + 1) (by omega) (by omega) x5 K hK h0 h5) ht (by omega) (t.getD i []).length 0 x5 (by omega) (Nat.zero_le _) h0 h5 K (by omega)
theorem bulkR_f (t : Tup) (ht : t.length ≤ 13) (K : Nat) (hK : 4000 ≤ K) : ∃ r : Int, r05_Bulk.f K t 200 = some r ∧ (r ≤ 200 → okTup t) := by
 unfold r05_Bulk.f
 rw [if_neg (by omega)]
 obtain ⟨r, a1, a2⟩ := bulkR_go t (by omega) t.length 0 (by omega) (Nat.zero_le _) (t.length : Int) K (by omega) (by omega) (by omega)
 refine ⟨r, a1, fun h => ⟨by omega, fun row hrow => ?_⟩⟩
 obtain ⟨k, hk, e⟩ := List.mem_iff_getElem.1 hrow
 have := a2 h k (Nat.zero_le _)
 rw [getD_at _ _ _ hk, e] at this
 omega
theorem great_go (ts : List Tup) (ht : ts.length ≤ 1000) : ∀ (m i : Nat), ts.length - i = m → i ≤ ts.length → ∀ K, m + 4001 ≤ K → ∃ g : Bool, a27_Great.l0 K ts (ts.length : Int) (i : Int) = some g ∧ (g = false → ∀ k, i ≤ k → okTup (ts.getD k [])) := by
 intro m
 induction m with
 | zero =>
  intro i hm hi K hK
  obtain ⟨K, rfl⟩ : ∃ K', K = K' + 1 := ⟨K - 1, by omega⟩
  rw [a27_Great.l0, if_neg (by omega)]
  exact ⟨false, rfl, fun _ k hk => by rw [getD_no _ _ _ (by omega)]; simp [okTup]⟩
 | succ m ih =>
  intro i hm hi K hK
  obtain ⟨K, rfl⟩ : ∃ K', K = K' + 1 := ⟨K - 1, by omega⟩
  rw [a27_Great.l0, if_pos (by omega), if_pos (by omega), if_pos (by omega), rd6]
  by_cases c : ((ts.getD i []).length : Int) > 13
  ·rw [if_pos c]
   exact ⟨true, rfl, fun h => by cases h⟩
  ·rw [if_neg c]
   obtain ⟨r, a1, a2⟩ := bulkR_f (ts.getD i []) (by omega) K (by omega)
   rw [a1, Option.bind_some]
   by_cases c2 : r > 200
   ·rw [if_pos c2]
    exact ⟨true, rfl, fun h => by cases h⟩
   ·rw [if_neg c2, w64 (by omega)]
    obtain ⟨g, b1, b2⟩ := ih (i + 1) (by omega) (by omega) K (by omega)
    refine ⟨g, b1, fun h k hk => ?_⟩
    by_cases e : k = i
    ·rw [e]; exact a2 (by omega)
    ·exact b2 h k (by omega)
theorem great_f (a b : List Tup) (l : List PE) (K : Nat) (hK : gB 200 + 5000 ≤ K) : ∃ g : Bool, a27_Great.f K a b l = some g ∧ (g = false → a.length ≤ 30 ∧ b.length ≤ 30 ∧ l.length ≤ 200 ∧ (∀ t ∈ a, okTup t) ∧ ∀ t ∈ b, okTup t) := by
 obtain ⟨K, rfl⟩ : ∃ K', K = K' + 1 := ⟨K - 1, by omega⟩
 have tr : a27_Great.j0 (K + 1) a b true = some true := by rw [a27_Great.j0, if_pos rfl]
 unfold a27_Great.f
 by_cases c1 : (a.length : Int) > 30
 ·rw [if_pos c1, tr]; exact ⟨true, rfl, fun h => by cases h⟩
 ·rw [if_neg c1]
  by_cases c2 : (b.length : Int) > 30
  ·rw [if_pos c2, tr]; exact ⟨true, rfl, fun h => by cases h⟩
  ·rw [if_neg c2]
   obtain ⟨r, a1, _, _, a2⟩ := bulkE_f 200 (by omega) l (K + 1) (by omega)
   have a1 : r22_Bulk.f (K + 1) l 200 = some r := a1
   rw [a1, Option.bind_some]
   by_cases c3 : r > 200
   ·rw [show decide (r > 200) = true from decide_eq_true c3, tr]; exact ⟨true, rfl, fun h => by cases h⟩
   ·rw [show decide (r > 200) = false from decide_eq_false c3, a27_Great.j0, if_neg (by simp), Option.bind_some, if_pos (by simp; omega), Option.bind_some, if_pos (by simp; omega), Option.bind_some, List.nil_append]
    obtain ⟨g, b1, b2⟩ := great_go (a ++ b) (by rw [List.length_append]; omega) (a ++ b).length 0 (by omega) (Nat.zero_le _) K (by rw [List.length_append]; omega)
    refine ⟨g, b1, fun h => ⟨by omega, by omega, a2 (by omega), fun t ht => ?_, fun t ht => ?_⟩⟩
    ·obtain ⟨k, hk, e⟩ := List.mem_iff_getElem.1 (List.mem_append_left b ht)
     have := b2 h k (Nat.zero_le _)
     rw [getD_at _ _ _ hk, e] at this
     exact this
    ·obtain ⟨k, hk, e⟩ := List.mem_iff_getElem.1 (List.mem_append_right a ht)
     have := b2 h k (Nat.zero_le _)
     rw [getD_at _ _ _ hk, e] at this
     exact this
theorem exact_go (r : List PV) (hr : wfR r = true) (hn : r.length ≤ 1000) : ∀ (m i : Nat), r.length - i = m → i ≤ r.length → ∀ K, m + 1 ≤ K → r05_Exact.l0 K r r (i : Int) = some true := by
 intro m
 induction m with
 | zero =>
  intro i hm hi K hK
  obtain ⟨K, rfl⟩ : ∃ K', K = K' + 1 := ⟨K - 1, by omega⟩
  rw [r05_Exact.l0, if_neg (by omega)]
 | succ m ih =>
  intro i hm hi K hK
  obtain ⟨K, rfl⟩ : ∃ K', K = K' + 1 := ⟨K - 1, by omega⟩
  have hil : i < r.length := by omega
  have hv : wfV r[i] = true := List.all_eq_true.1 hr _ (List.getElem_mem hil)
  have he : r04_Exact.f r[i].f0 r[i].f1 r[i].f2 r[i].f3 r[i].f0 r[i].f1 r[i].f2 r[i].f3 = some true := by
   unfold r04_Exact.f
   show exactF r[i] r[i] = _
   unfold exactF
   rw [hv, decide_eq_true (Alike.refl _)]; rfl
  rw [r05_Exact.l0, if_pos (by omega), if_pos (by omega), if_pos (by omega), rd39 r i hil, he, Option.bind_some, if_pos rfl, w64 (by omega)]
  exact ih (i + 1) (by omega) (by omega) K (by omega)
theorem lists_go (t : Tup) (hw : wfRs t = true) (ht : okTup t) : ∀ (m i : Nat), t.length - i = m → i ≤ t.length → ∀ K, m + 1002 ≤ K → r05_Lists.l0 K t t (i : Int) = some true := by
 intro m
 induction m with
 | zero =>
  intro i hm hi K hK
  obtain ⟨K, rfl⟩ : ∃ K', K = K' + 1 := ⟨K - 1, by omega⟩
  rw [r05_Lists.l0, if_neg (by omega)]
 | succ m ih =>
  intro i hm hi K hK
  obtain ⟨K, rfl⟩ : ∃ K', K = K' + 1 := ⟨K - 1, by omega⟩
  have hil : i < t.length := by omega
  have h1 := ht.1
  have h2 := ht.2 _ (List.getElem_mem hil)
  have he : r05_Exact.f K t[i] t[i] = some true := by
   unfold r05_Exact.f
   rw [if_pos rfl]
   exact exact_go t[i] (List.all_eq_true.1 hw _ (List.getElem_mem hil)) h2 t[i].length 0 (by omega) (Nat.zero_le _) K (by omega)
  rw [r05_Lists.l0, if_pos (by omega), if_pos (by omega), if_pos (by omega), rd5, getD_at _ _ _ hil, he, Option.bind_some, if_pos rfl, w64 (by omega)]
  exact ih (i + 1) (by omega) (by omega) K (by omega)
theorem same_go2 (x : List Tup) (hx : ∀ t ∈ x, wfRs t = true ∧ okTup t) (hn : x.length ≤ 1000000) : ∀ (m i : Nat), x.length - i = m → i ≤ x.length → ∀ K, m + 3000 ≤ K → r26_Same.l0 K x x (i : Int) = some true := by
 intro m
 induction m with
 | zero =>
  intro i hm hi K hK
  obtain ⟨K, rfl⟩ : ∃ K', K = K' + 1 := ⟨K - 1, by omega⟩
  rw [r26_Same.l0, if_neg (by omega)]
 | succ m ih =>
  intro i hm hi K hK
  obtain ⟨K, rfl⟩ : ∃ K', K = K' + 1 := ⟨K - 1, by omega⟩
  have hil : i < x.length := by omega
  have h1 := hx _ (List.getElem_mem hil)
  have h3 := h1.2.1
  have he : r05_Lists.f K x[i] x[i] = some true := by
   unfold r05_Lists.f
   rw [if_pos rfl]
   exact lists_go x[i] h1.1 h1.2 x[i].length 0 (by omega) (Nat.zero_le _) K (by omega)
  rw [r26_Same.l0, if_pos (by omega), if_pos (by omega), if_pos (by omega), rd6, getD_at _ _ _ hil, he, Option.bind_some, if_pos rfl, w64 (by omega)]
  exact ih (i + 1) (by omega) (by omega) K (by omega)
theorem same_f2 (x : List Tup) (hx : ∀ t ∈ x, wfRs t = true ∧ okTup t) (hn : x.length ≤ 10000) (K : Nat) (hK : 20000 ≤ K) : r26_Same.f K x x = some true := by
 unfold r26_Same.f
 rw [if_pos rfl]
 exact same_go2 x hx (by omega) x.length 0 (by omega) (Nat.zero_le _) K (by omega)
end Go.Proofs.YtgmolmpfihkolaaGreat
namespace Go.Proofs.YtgmolmpfihkolaaGreat
open Go.RowKit Go.Proofs.YtgmolmpfihkolaaGreat.Pj Go.Proofs.YtgmolmpfihkolaaGreatW.PrintWords
set_option linter.unusedVariables false
set_option maxRecDepth 100000
theorem C_block {α : Type} {d : Kd α} {W : World} {g : Nat} {cs : Array Value} {e : TypeId} {xs : List α} {inner : List Value} (hb : W.heap[g]? = some (.cells cs e (0, 0))) (hi : cs.toList = inner) (hr : Reps (d.K W) d.sz xs inner) (hm : xs.length ≤ 9223372036854775807) : d.C W (some ⟨g, 0, none⟩) xs.length xs := by
 refine ⟨rfl, hm, fun _ => ⟨⟨g, 0, none⟩, rfl, fun j p hj => ⟨_, d.K_len (hr.2 j p hj), hr.2 j p hj, fun i u hu => ?_⟩⟩⟩
 rw [List.getElem?_take] at hu
 split at hu
 ·rw [List.getElem?_drop] at hu
  rw [add_plain, blk_cell hb, ← Array.getElem?_toList, hi]
  exact hu
 ·cases hu
theorem run_make2 (W : World) : (Instr.makeSlice 22 (.int .i64 2) (.int .i64 2)).run Tryz.prog W = .ok (.slice (some ⟨W.heap.size, 0, none⟩) 2 2) (W.alloc (.cells #[.slice none 0 0, .slice none 0 0] 29)) := by
 have h := print_make_of 22 29 _ 24 Tryz.underlying22 info29 rfl (by decide) 2 (by decide) W
 have e : madeCells #[Value.slice none 0 0] 2 = #[.slice none 0 0, .slice none 0 0] := by kernel_rfl
 rw [e] at h
 exact h
attribute [local go_sem] run_make2 run_f64bits run_f64from run_store_float
theorem blk_newAt (W : World) (o : Obj) {g : Nat} (h : g = W.heap.size) : (W.alloc o).heap[g]? = some o := by rw [h]; exact blk_new W o
theorem Reps.c1 {α : Type} {R : α → List Value → Prop} {ps : List α} {cs : List Value} {p : α} {v : Value} (hp : R p [v]) (h : Reps R 1 ps cs) : Reps R 1 (p :: ps) (v :: cs) := Reps.front hp rfl h rfl
abbrev KT : Kd (List (List PV)) := Kd.slice 29 (Kd.slice 39 k39)
def tupT (rel : Int) (v : PV) : List (List PV) := if rel = 0 then [[v], []] else [[], [v]]
theorem tuple_any (rel : Int) (hr : rel = 0 ∨ rel = 1) (a b : Int) (c : Nat) (d : ByteArray) (w : World) : Calls Tryz.prog 31 #[.int .i64 rel, .agg #[.int .i64 a, .int .i64 b, .float .f64 c, .string d]] w fun e w' => ∃ g, e = .returned (.slice (some ⟨g, 0, none⟩) 2 2) ∧ KT.K w' (tupT rel ⟨a, b, c, d⟩) [.slice (some ⟨g, 0, none⟩) 2 2] ∧ Below w.heap.size w w' := by
 rcases hr with rfl | rfl
 ·go_enter Tryz.func31, Tryz.ntmps31
  go_wp2
  go_ret
  refine ⟨_, rfl, ⟨_, _, rfl, Nat.le_refl _, ?_⟩, ?_⟩
  ·refine C_block (d := Kd.slice 39 k39) (xs := [[(⟨a, b, c, d⟩ : PV)], []]) (blk_alloc (blk_newAt _ _ (by simp)) _) rfl (Reps.c1 ⟨_, _, rfl, Nat.le_refl _, ?_⟩ (Reps.c1 ⟨_, _, rfl, Nat.le_refl _, Kd.C_nil _ _⟩ (Reps.none _ _))) (by simp)
   exact C_block (d := k39) (xs := [(⟨a, b, c, d⟩ : PV)]) (blk_newAt _ _ (by simp)) rfl (Reps.c4 (k39_mk _ (⟨a, b, c, d⟩ : PV)) (Reps.none _ _)) (by simp)
  ·exact below_alloc (below_alloc (below_alloc (Below.refl _ _) _) _) _
 ·go_enter Tryz.func31, Tryz.ntmps31
  go_wp2
  go_ret
  refine ⟨_, rfl, ⟨_, _, rfl, Nat.le_refl _, ?_⟩, ?_⟩
  ·refine C_block (d := Kd.slice 39 k39) (xs := [[], [(⟨a, b, c, d⟩ : PV)]]) (blk_alloc (blk_newAt _ _ (by simp)) _) rfl (Reps.c1 ⟨_, _, rfl, Nat.le_refl _, Kd.C_nil _ _⟩ (Reps.c1 ⟨_, _, rfl, Nat.le_refl _, ?_⟩ (Reps.none _ _))) (by simp)
   exact C_block (d := k39) (xs := [(⟨a, b, c, d⟩ : PV)]) (blk_newAt _ _ (by simp)) rfl (Reps.c4 (k39_mk _ (⟨a, b, c, d⟩ : PV)) (Reps.none _ _)) (by simp)
  ·exact below_alloc (below_alloc (below_alloc (Below.refl _ _) _) _) _
theorem f_exp (c : Nat) (w : World) : Calls Tryz.prog 32 #[.float .f64 c] w fun e w' => e = .returned (.agg #[.int .i64 3, .int .i64 0, .float .f64 c, .string ⟨#[]⟩]) ∧ Below w.heap.size w w' := by
 have HB := hdq ((Boxes.nil w).alloc (by simp) Val.null 39)
 go_enter Tryz.func32, Tryz.ntmps32
 go_wp2
 exact ret_val Tryz.results32 rfl rfl (LiesV.new w (⟨3, 0, c, ⟨#[]⟩⟩ : Val) _) ⟨rfl, (Below.refl _ w).alloc (Nat.le_refl _) _⟩
theorem NaN_any (w : World) : Calls Tryz.prog 34 #[] w fun e w' => e = .returned (.float .f64 9221120237041090561) ∧ w = w' := by
 go_enter Tryz.func34, Tryz.ntmps34
 go_wp2
 go_ret
 exact ⟨rfl, rfl⟩
theorem Copysign_zero (w : World) : Calls Tryz.prog 33 #[.float .f64 0, .float .f64 13830554455654793216] w fun e w' => e = .returned (.float .f64 9223372036854775808) ∧ w = w' := by
 go_enter Tryz.func33, Tryz.ntmps33
 go_wp2
 go_ret
 exact ⟨rfl, rfl⟩
end Go.Proofs.YtgmolmpfihkolaaGreat
namespace Go.Proofs.YtgmolmpfihkolaaGreat
open Go.RowKit Go.Proofs.YtgmolmpfihkolaaGreat.Pj
set_option maxRecDepth 100000
abbrev eV : ByteArray := ⟨#[]⟩
abbrev v1 : PV := ⟨2, 1, 0, eV⟩
abbrev v2 : PV := ⟨2, 2, 0, eV⟩
abbrev v3 : PV := ⟨2, 3, 0, eV⟩
abbrev vN : PV := ⟨0, 0, 0, eV⟩
abbrev vP : PV := ⟨3, 0, 0, eV⟩
abbrev vM : PV := ⟨3, 0, 9223372036854775808, eV⟩
abbrev vX : PV := ⟨3, 0, 9221120237041090561, eV⟩
abbrev TA : List (List (List PV)) := [tupT 0 v1, tupT 0 v2, tupT 0 v2, tupT 0 vN, tupT 0 vM, tupT 0 vX]
abbrev TB : List (List (List PV)) := [tupT 1 v2, tupT 1 v3, tupT 1 vN, tupT 1 vP, tupT 1 vX]
abbrev LA : List PE := [⟨1, 0, 0, vN, []⟩]
abbrev LB : List PE := [⟨1, 1, 0, vN, []⟩]
abbrev TX : List (List (List PV)) := [[[v2], [v2]], [[v2], [v2]], [[vM], [vP]], [[vX], [vX]]]
theorem little : keyedR TA TB LA LB [] = (TX, 0) := by kernel_rfl
end Go.Proofs.YtgmolmpfihkolaaGreat
namespace Go.Proofs.YtgmolmpfihkolaaGreat
open Go.RowKit Go.Proofs.YtgmolmpfihkolaaGreat.Pj Go.Proofs.YtgmolmpfihkolaaGreatW.PrintWords
set_option linter.unusedVariables false
set_option maxRecDepth 100000
def HdT (w0 W : World) (l : List (Value × List (List PV))) : Prop := Below w0.heap.size w0 W ∧ ∀ p ∈ l, KT.K W p.2 [p.1]
theorem HdT.step {w0 W W' : World} {l : List (Value × List (List PV))} (h : HdT w0 W l) (hb : Below W.heap.size W W') : HdT w0 W' l := ⟨h.1.trans (hb.mono h.1.size), fun p hp => KT.K_below hb (h.2 p hp)⟩
theorem HdT.add {w0 W W' : World} {l : List (Value × List (List PV))} {v : Value} {t : List (List PV)} (h : HdT w0 W l) (hk : KT.K W' t [v]) (hb : Below W.heap.size W W') : HdT w0 W' ((v, t) :: l) := by
 obtain ⟨h1, h2⟩ := h.step hb
 refine ⟨h1, fun p hp => ?_⟩
 rcases List.mem_cons.1 hp with rfl | hp
 ·exact hk
 ·exact h2 p hp
theorem HdT.start (w : World) : HdT w w [] := ⟨Below.refl _ _, fun p hp => by cases hp⟩
def HdR (w0 W : World) (a b l r : Nat) : Prop := Below w0.heap.size w0 W ∧ Kd.C KT W (some ⟨a, 0, none⟩) 6 TA ∧ Kd.C KT W (some ⟨b, 0, none⟩) 5 TB ∧ Kd.C k53 W (some ⟨l, 0, none⟩) 1 LA ∧ Kd.C k53 W (some ⟨r, 0, none⟩) 1 LB
theorem HdR.step {w0 W W' : World} {a b l r : Nat} (h : HdR w0 W a b l r) (hb : Below W.heap.size W W') : HdR w0 W' a b l r := ⟨h.1.trans (hb.mono h.1.size), Kd.C_below h.2.1 hb, Kd.C_below h.2.2.1 hb, Kd.C_below h.2.2.2.1 hb, Kd.C_below h.2.2.2.2 hb⟩
def RowA (w0 W : World) (a : Nat) : Prop := Below w0.heap.size w0 W ∧ Kd.C KT W (some ⟨a, 0, none⟩) 6 TA
theorem HdT.rowA {w W : World} {x1 x2 x3 x4 x5 x6 : Value} (h : HdT w W [(x6, tupT 0 vX), (x5, tupT 0 vM), (x4, tupT 0 vN), (x3, tupT 0 v2), (x2, tupT 0 v2), (x1, tupT 0 v1)]) : RowA w (W.alloc (.cells #[x1, x2, x3, x4, x5, x6] 22)) W.heap.size := by
 have h2 := h.step (below_new W (.cells #[x1, x2, x3, x4, x5, x6] 22))
 refine ⟨h2.1, C_block (d := KT) (xs := TA) (blk_new _ _) rfl ?_ (by decide)⟩
 refine Reps.c1 (h2.2 (x1, tupT 0 v1) (by simp)) (Reps.c1 (h2.2 (x2, tupT 0 v2) (by simp)) (Reps.c1 (h2.2 (x3, tupT 0 v2) (by simp)) (Reps.c1 (h2.2 (x4, tupT 0 vN) (by simp)) (Reps.c1 (h2.2 (x5, tupT 0 vM) (by simp)) (Reps.c1 (h2.2 (x6, tupT 0 vX) (by simp)) (Reps.none _ _))))))
theorem HdR.mk {w0 wa W : World} {ga : Nat} {x1 x2 x3 x4 x5 : Value} (hA : RowA w0 wa ga) (h : HdT wa W [(x5, tupT 1 vX), (x4, tupT 1 vP), (x3, tupT 1 vN), (x2, tupT 1 v3), (x1, tupT 1 v2)]) :
 HdR w0 (((W.alloc (.cells #[x1, x2, x3, x4, x5] 22)).alloc (.cells #[.int .i64 1, .int .i64 0, .int .i64 0, .int .i64 0, .int .i64 0, .float .f64 0, .string ⟨#[]⟩, .slice none 0 0] 53)).alloc (.cells #[.int .i64 1, .int .i64 1, .int .i64 0, .int .i64 0, .int .i64 0, .float .f64 0, .string ⟨#[]⟩, .slice none 0 0] 53)) ga W.heap.size (W.heap.size + 1) (W.heap.size + 1 + 1) := by
 obtain ⟨o1, h1⟩ : ∃ o, o = Obj.cells #[x1, x2, x3, x4, x5] 22 := ⟨_, rfl⟩
 obtain ⟨o2, h2⟩ : ∃ o, o = Obj.cells #[.int .i64 1, .int .i64 0, .int .i64 0, .int .i64 0, .int .i64 0, .float .f64 0, .string ⟨#[]⟩, .slice none 0 0] 53 := ⟨_, rfl⟩
 obtain ⟨o3, h3⟩ : ∃ o, o = Obj.cells #[.int .i64 1, .int .i64 1, .int .i64 0, .int .i64 0, .int .i64 0, .float .f64 0, .string ⟨#[]⟩, .slice none 0 0] 53 := ⟨_, rfl⟩
 rw [← h1, ← h2, ← h3]
 have hb : Below W.heap.size W (((W.alloc o1).alloc o2).alloc o3) := below_alloc (below_alloc (below_alloc (Below.refl _ _) _) _) _
 have hs := h.step hb
 have hA2 := hs.1
 refine ⟨hA.1.trans (hA2.mono hA.1.size), Kd.C_below hA.2 hA2, ?_, ?_, ?_⟩
 ·refine C_block (d := KT) (xs := TB) (blk_alloc (blk_alloc ((blk_new _ _).trans (congrArg some h1)) _) _) rfl ?_ (by decide)
  exact Reps.c1 (hs.2 (x1, tupT 1 v2) (by simp)) (Reps.c1 (hs.2 (x2, tupT 1 v3) (by simp)) (Reps.c1 (hs.2 (x3, tupT 1 vN) (by simp)) (Reps.c1 (hs.2 (x4, tupT 1 vP) (by simp)) (Reps.c1 (hs.2 (x5, tupT 1 vX) (by simp)) (Reps.none _ _)))))
 ·exact C_block (d := k53) (xs := LA) (blk_alloc ((blk_newAt _ _ (by simp)).trans (congrArg some h2)) _) rfl (Reps.c8 (k53_mk _ (⟨1, 0, 0, vN, []⟩ : PE) (Nat.le_refl _) (Kd.C_nil _ _)) (Reps.none _ _)) (by decide)
 ·exact C_block (d := k53) (xs := LB) ((blk_newAt _ _ (by simp)).trans (congrArg some h3)) rfl (Reps.c8 (k53_mk _ (⟨1, 1, 0, vN, []⟩ : PE) (Nat.le_refl _) (Kd.C_nil _ _)) (Reps.none _ _)) (by decide)
theorem okT_of {l : List (List (List PV))} (h1 : decide (l.length ≤ 1000) = true) (h2 : l.all (fun t => wfRs t && (decide (t.length ≤ 1000) && t.all (fun r => decide (r.length ≤ 1000)))) = true) : okTups l := by
 refine ⟨of_decide_eq_true h1, fun t ht => ?_⟩
 have h := List.all_eq_true.1 h2 t ht
 simp only [Bool.and_eq_true, decide_eq_true_eq, List.all_eq_true] at h
 exact ⟨h.1, h.2.1, h.2.2⟩
theorem littleA : okTups TA := okT_of (by kernel_rfl) (by kernel_rfl)
theorem littleB : okTups TB := okT_of (by kernel_rfl) (by kernel_rfl)
theorem littleX : okTups TX := okT_of (by kernel_rfl) (by kernel_rfl)
theorem littleL : okLs LA ∧ okLs LB ∧ okLs [] := ⟨⟨by kernel_rfl, by decide⟩, ⟨by kernel_rfl, by decide⟩, ⟨by kernel_rfl, by decide⟩⟩
theorem little_both : keyedF TA TB LA LB [] = some (TX, 0) ∧ hashF TA TB LA LB [] = some (TX, 0) := by
 have h := keyed_both TA TB LA LB [] littleA littleB littleL.1 littleL.2.1 littleL.2.2 (by decide) (by decide)
 rw [little] at h
 exact h
def HdX (w0 W : World) (v : Value) (c : Nat) (g : Nat) : Prop := v = .slice (some ⟨g, 0, none⟩) 4 c ∧ 4 ≤ c ∧ Kd.R KT 22 W w0.heap.size (fun _ => True) v TX
theorem HdX.step {w0 W W' : World} {v : Value} {c g : Nat} (h : HdX w0 W v c g) (hb : Below W.heap.size W W') : HdX w0 W' v c g := ⟨h.1, h.2.1, Kd.R_below h.2.2 hb⟩
theorem HdX.of {w W : World} {v : Value} (h : Kd.R KT 22 W w.heap.size (fun _ => True) v TX) (hb : w.heap.size ≤ W.heap.size) : ∃ g c, v = .slice (some ⟨g, 0, none⟩) 4 c ∧ HdX w W v c g := by
 obtain ⟨g, c, hv, -⟩ := Kd.R_form h (by decide)
 refine ⟨g, c, hv, hv, ?_, h⟩
 subst hv
 exact (Kd.R_reads' h).2.1
theorem Hash_little {w0 W : World} {a b l r : Nat} (h : HdR w0 W a b l r) : Calls Tryz.prog 19 #[.slice (some ⟨a, 0, none⟩) 6 6, .slice (some ⟨b, 0, none⟩) 5 5, .slice (some ⟨l, 0, none⟩) 1 1, .slice (some ⟨r, 0, none⟩) 1 1, .slice none 0 0] W fun e w' => ∃ g c, e = .returned (.tuple #[.slice (some ⟨g, 0, none⟩) 4 c, .int .i64 0]) ∧ HdX W w' (.slice (some ⟨g, 0, none⟩) 4 c) c g ∧ Below W.heap.size W w' := by
 refine (Hash_any (some ⟨a, 0, none⟩) 6 TA (some ⟨b, 0, none⟩) 5 TB (some ⟨l, 0, none⟩) 1 LA (some ⟨r, 0, none⟩) 1 LB none 0 [] TX 0 W h.2.1 (Nat.le_refl _) h.2.2.1 (Nat.le_refl _) h.2.2.2.1 (Nat.le_refl _) h.2.2.2.2 (Nat.le_refl _) (Kd.C_nil _ _) (Nat.le_refl _) little_both.2).mono ?_
 rintro e w' ⟨v, rfl, hR, hb⟩
 obtain ⟨g, c, rfl, hx⟩ := HdX.of hR hb.size
 exact ⟨g, c, rfl, hx, hb⟩
theorem Merge_little {w0 W : World} {a b l r : Nat} (h : HdR w0 W a b l r) : Calls Tryz.prog 21 #[.slice (some ⟨a, 0, none⟩) 6 6, .slice (some ⟨b, 0, none⟩) 5 5, .slice (some ⟨l, 0, none⟩) 1 1, .slice (some ⟨r, 0, none⟩) 1 1, .slice none 0 0] W fun e w' => ∃ g c, e = .returned (.tuple #[.slice (some ⟨g, 0, none⟩) 4 c, .int .i64 0]) ∧ HdX W w' (.slice (some ⟨g, 0, none⟩) 4 c) c g ∧ Below W.heap.size W w' := by
 refine (Merge_any sortsP (some ⟨a, 0, none⟩) 6 TA (some ⟨b, 0, none⟩) 5 TB (some ⟨l, 0, none⟩) 1 LA (some ⟨r, 0, none⟩) 1 LB none 0 [] TX 0 W h.2.1 (Nat.le_refl _) h.2.2.1 (Nat.le_refl _) h.2.2.2.1 (Nat.le_refl _) h.2.2.2.2 (Nat.le_refl _) (Kd.C_nil _ _) (Nat.le_refl _) little_both.1).mono ?_
 rintro e w' ⟨v, rfl, hR, hb⟩
 obtain ⟨g, c, rfl, hx⟩ := HdX.of hR hb.size
 exact ⟨g, c, rfl, hx, hb⟩
theorem Same_little {w1 w2 W : World} {v u : Value} {c d g k : Nat} (h : HdX w1 W (.slice (some ⟨g, 0, none⟩) 4 c) c g) (h2 : HdX w2 W (.slice (some ⟨k, 0, none⟩) 4 d) d k) : Calls Tryz.prog 18 #[.slice (some ⟨g, 0, none⟩) 4 c, .slice (some ⟨k, 0, none⟩) 4 d] W fun e w' => e = .returned (.bool true) ∧ Below W.heap.size W w' :=
 r26_Same.calls 20000 _ _ TX _ _ TX true W (Kd.R_reads' h.2.2).2.2 (Kd.R_reads' h.2.2).2.1 (Kd.R_reads' h2.2.2).2.2 (Kd.R_reads' h2.2.2).2.1 (same_f2 TX littleX.2 (by decide) 20000 (Nat.le_refl _))
theorem R_at {α : Type} {d : Kd α} {e e' : Nat} {w : World} {base : Nat} {ok : Nat → Prop} {g n c : Nat} {xs : List (List α)} {ys : List α} (h : Kd.R (Kd.slice e' d) e w base ok (.slice (some ⟨g, 0, none⟩) n c) xs) (j : Nat) (hj : xs[j]? = some ys) : ∃ v ok', w.cell? ⟨g, j, none⟩ = some v ∧ Kd.R d e' w base ok' v ys := by
 obtain ⟨_, inner, ho, hr⟩ := h
 obtain ⟨v, hv, hR⟩ := hr.2 j ys hj
 have h0 : inner[j]? = some v := by
  have : ((inner.drop (j * 1)).take 1)[0]? = some v := by
   have hv : (inner.drop (j * 1)).take 1 = [v] := hv
   rw [hv]; rfl
  rw [List.getElem?_take] at this
  simpa using this
 have hc := ho.cells (g := g) rfl j v h0
 rw [add_plain] at hc
 exact ⟨v, _, hc, hR⟩
theorem HdX.first {w0 W : World} {v : Value} {c g : Nat} (h : HdX w0 W v c g) : ∃ g1 c1 g2 c2, W.cell? ⟨g, 0, none⟩ = some (.slice (some ⟨g1, 0, none⟩) 2 c1) ∧ W.cell? ⟨g1, 1, none⟩ = some (.slice (some ⟨g2, 0, none⟩) 1 c2) ∧ W.cell? ⟨g2, 1, none⟩ = some (.int .i64 2) := by
 obtain ⟨rfl, _, h⟩ := h
 obtain ⟨x, _, q1, h1⟩ := R_at h 0 (ys := [[v2], [v2]]) rfl
 obtain ⟨g1, c1, rfl, -⟩ := Kd.R_form h1 (by decide)
 obtain ⟨y, _, q2, h2⟩ := R_at h1 1 (ys := [v2]) rfl
 obtain ⟨g2, c2, rfl, -⟩ := Kd.R_form h2 (by decide)
 obtain ⟨ad, ea, -, q3, -⟩ := at_T39 (Kd.R_reads' h2).2.2 0 (by omega) (by simp)
 injection ea with ea
 subst ea
 rw [Int.toNat_zero, Nat.zero_mul, add_plain] at q3
 exact ⟨g1, c1, g2, c2, q1, q2, q3⟩
end Go.Proofs.YtgmolmpfihkolaaGreat
namespace Go.Proofs.YtgmolmpfihkolaaGreat.Pj
open Go.RowKit Go.Proofs.YtgmolmpfihkolaaGreatW.PrintWords Go.Proofs.YtgmolmpfihkolaaGreat
set_option linter.unusedVariables false
set_option maxRecDepth 100000
def a27_works.f : Option Bool := some true
set_option maxHeartbeats 4000000 in
theorem a27_works.calls (r : Bool) (w : World) (h : a27_works.f = some r) :
 Calls Tryz.prog 8 #[] w fun e w' => e = .returned (.bool r) ∧ Below w.heap.size w w' := by
 obtain rfl : true = r := Option.some.inj h
 clear h
 have HD := hdq (HdT.start w)
 go_enter Tryz.func8, Tryz.ntmps8
 go_wp2_with (first
  | (go_at_call 30; refine (Number_exp _ _).mono ?_; rintro e w1 ⟨rfl, hb⟩; replace HD := hdq (HD.out.step hb); clear hb)
  | (go_at_call 31; refine (tuple_any _ (by decide) _ _ _ _ _).mono ?_; rintro e w1 ⟨g, rfl, hk, hb⟩; replace HD := hdq (HD.out.add hk hb); clear hk hb)
  | (go_at_call 32; refine (f_exp _ _).mono ?_; rintro e w1 ⟨rfl, hb⟩; replace HD := hdq (HD.out.step hb); clear hb)
  | (go_at_call 34; refine (NaN_any _).mono ?_; rintro e w1 ⟨rfl, rfl⟩)
  | (go_at_call 33; refine (Copysign_zero _).mono ?_; rintro e w1 ⟨rfl, rfl⟩))
 have HA := hdq HD.out.rowA
 clear HD
 revert HA
 generalize w1.alloc _ = wa
 generalize w1.heap.size = ga
 intro HA
 have HD := hdq (HdT.start wa)
 go_wp2_with (first
  | (go_at_call 30; refine (Number_exp _ _).mono ?_; rintro e w1 ⟨rfl, hb⟩; replace HD := hdq (HD.out.step hb); clear hb)
  | (go_at_call 31; refine (tuple_any _ (by decide) _ _ _ _ _).mono ?_; rintro e w1 ⟨g, rfl, hk, hb⟩; replace HD := hdq (HD.out.add hk hb); clear hk hb)
  | (go_at_call 32; refine (f_exp _ _).mono ?_; rintro e w1 ⟨rfl, hb⟩; replace HD := hdq (HD.out.step hb); clear hb)
  | (go_at_call 34; refine (NaN_any _).mono ?_; rintro e w1 ⟨rfl, rfl⟩))
 have HR := hdq (HdR.mk HA.out HD.out)
 clear HD HA
 revert HR
 generalize World.alloc (World.alloc (World.alloc _ _) _) _ = wb
 generalize w1.heap.size + 1 + 1 = gr
 generalize w1.heap.size + 1 = gl
 generalize w1.heap.size = gb
 intro HR
 go_wp2_with (first
  | (go_at_call 19; refine (Hash_little HR.out).mono ?_; rintro e w2 ⟨gx, cx, rfl, hx, hb⟩; replace HR := hdq (HR.out.step hb); have HX := hdq hx; clear hx hb)
  | (go_at_call 21; refine (Merge_little HR.out).mono ?_; rintro e w3 ⟨gy, cy, rfl, hy, hb⟩; replace HR := hdq (HR.out.step hb); replace HX := hdq (HX.out.step hb); have HY := hdq hy; clear hy hb)
  | (go_at_call 18; refine (Same_little (v := .bool true) (u := .bool true) HX.out HY.out).mono ?_; rintro e w4 ⟨rfl, hb⟩; replace HR := hdq (HR.out.step hb); replace HX := hdq (HX.out.step hb); obtain ⟨g1, c1, g2, c2, q1, q2, q3⟩ := HX.out.first; clear hb))
 go_ret
 exact ⟨rfl, HR.out.1⟩
end Go.Proofs.YtgmolmpfihkolaaGreat.Pj
