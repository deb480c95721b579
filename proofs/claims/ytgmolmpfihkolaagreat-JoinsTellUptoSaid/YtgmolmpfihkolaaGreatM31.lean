/- Part of the proof. -/
import Derived.Test.YtgmolmpfihkolaaGreatM30
namespace Go.Proofs.YtgmolmpfihkolaaGreat.Pj
open Go.RowKit Go.Proofs.YtgmolmpfihkolaaGreatW.PrintWords Go.Proofs.YtgmolmpfihkolaaGreatW.PrintLast Go.Proofs.YtgmolmpfihkolaaGreatW.PrintMore
attribute [local go_sem] run_store_flt max2_int min2_int max_two min_two max_three min_three max_four min_four
set_option linter.unusedVariables false
set_option linter.unusedSimpArgs false
mutual
def r27_Keyed.j0 : Nat → T3 → T3 → List (S53) → List (S53) → List (S53) → Bool → Option (T3 × Int)
 | 0, _, _, _, _, _, _ => none
 | k + 1, x0, x1, x2, x3, x4, x41 => if x41 = true then (some (([] : T3), 2)) else (r27_Keyed.l0 k x0 x1 x2 x3 x4 0)
def r27_Keyed.l0 : Nat → T3 → T3 → List (S53) → List (S53) → List (S53) → Int → Option (T3 × Int)
 | 0, _, _, _, _, _, _ => none
 | k + 1, x0, x1, x2, x3, x4, x12 => if x12 < (x0.length : Int) then (if 0 ≤ x12 then ((r27_Keys.f x2 (rd_L6 x0 x12)).bind fun bt236 => (if bt236.2.2 = 0 then (r27_Keyed.l0 k x0 x1 x2 x3 x4 (wrap64 (x12 + 1))) else (some (([] : T3), bt236.2.2)))) else (none)) else (r27_Keyed.l1 k x0 x1 x2 x3 x4 0)
def r27_Keyed.l1 : Nat → T3 → T3 → List (S53) → List (S53) → List (S53) → Int → Option (T3 × Int)
 | 0, _, _, _, _, _, _ => none
 | k + 1, x0, x1, x2, x3, x4, x16 => if x16 < (x1.length : Int) then (if 0 ≤ x16 then ((r27_Keys.f x3 (rd_L6 x1 x16)).bind fun bt242 => (if bt242.2.2 = 0 then (r27_Keyed.l1 k x0 x1 x2 x3 x4 (wrap64 (x16 + 1))) else (some (([] : T3), bt242.2.2)))) else (none)) else (r27_Keyed.l2 k x0 x1 x2 x3 x4 ([] : T3) 0)
def r27_Keyed.l2 : Nat → T3 → T3 → List (S53) → List (S53) → List (S53) → T3 → Int → Option (T3 × Int)
 | 0, _, _, _, _, _, _, _ => none
 | k + 1, x0, x1, x2, x3, x4, x20, x21 => if x21 < (x0.length : Int) then (if 0 ≤ x21 then ((r27_Keys.f x2 (rd_L6 x0 x21)).bind fun bt248 => (r27_Keyed.l3 k x0 x1 x2 x3 x4 x20 x21 bt248.1 bt248.2.1 0)) else (none)) else (some (x20, 0))
def r27_Keyed.l3 : Nat → T3 → T3 → List (S53) → List (S53) → List (S53) → T3 → Int → List (S39) → Bool → Int → Option (T3 × Int)
 | 0, _, _, _, _, _, _, _, _, _, _ => none
 | k + 1, x0, x1, x2, x3, x4, x20, x21, x22, x23, x25 => if x25 < (x1.length : Int) then (if 0 ≤ x25 then ((r27_Keys.f x3 (rd_L6 x1 x25)).bind fun bt254 => (if x23 = true then (if bt254.2.1 = true then ((r05_Cmp.f x22 bt254.1).bind fun t259 => (r27_Keyed.j5 k x0 x1 x2 x3 x4 x20 x21 x22 x23 x25 (t259 != 0))) else (r27_Keyed.j5 k x0 x1 x2 x3 x4 x20 x21 x22 x23 x25 true)) else (r27_Keyed.j5 k x0 x1 x2 x3 x4 x20 x21 x22 x23 x25 true))) else (none)) else (r27_Keyed.l2 k x0 x1 x2 x3 x4 x20 (wrap64 (x21 + 1)))
def r27_Keyed.j5 : Nat → T3 → T3 → List (S53) → List (S53) → List (S53) → T3 → Int → List (S39) → Bool → Int → Bool → Option (T3 × Int)
 | 0, _, _, _, _, _, _, _, _, _, _, _ => none
 | k + 1, x0, x1, x2, x3, x4, x20, x21, x22, x23, x25, x123 => if x123 = true then (r27_Keyed.l3 k x0 x1 x2 x3 x4 x20 x21 x22 x23 (wrap64 (x25 + 1))) else (if 0 ≤ x21 then (if x21 < (x0.length : Int) then (if 0 ≤ x25 then (if x25 < (x1.length : Int) then ((r27_Union.f k (rd_L6 x0 x21) (rd_L6 x1 x25)).bind fun t262 => ((r22_Holds.f x4 t262).bind fun bt265 => (if bt265.2 = 0 then (if bt265.1 = true then (if x20.length < 5864062014805 then (r27_Keyed.l3 k x0 x1 x2 x3 x4 (x20 ++ [t262]) x21 x22 x23 (wrap64 (x25 + 1))) else (none)) else (r27_Keyed.l3 k x0 x1 x2 x3 x4 x20 x21 x22 x23 (wrap64 (x25 + 1)))) else (some (([] : T3), bt265.2))))) else (none)) else (none)) else (none)) else (none))
end
def r27_Keyed.f (k : Nat) (l0 : T3) (l1 : T3) (l2 : List (S53)) (l3 : List (S53)) (l4 : List (S53)) : Option (T3 × Int) := if (l2.length : Int) = (l3.length : Int) then (r27_Keyed.j0 k l0 l1 l2 l3 l4 ((l2.length : Int) == 0)) else (r27_Keyed.j0 k l0 l1 l2 l3 l4 true)
def r27_Keyed.T25 : Bool × List (List Nat × List Nat) := (true, [([], []), ([], []), ([0, 1], [0, 1]), ([2], [2]), ([], []), ([], []), ([4, 5], [4, 5]), ([6], [6]), ([3, 7], [3, 7]), ([8, 8, 0, 1, 2, 3, 4, 5, 6, 7, 8], [8])])
def r27_Keyed.B25 : List Nat := [0, 0, 3, 7, 0, 0, 48, 112, 255, 511]
theorem r27_Keyed.tab25 : rtab .any (opsOf Tryz.f20 25) = r27_Keyed.T25 := by kernel_rfl
theorem r27_Keyed.bits25 : waitsOk r27_Keyed.T25.2 r27_Keyed.B25 = true := by kernel_rfl
set_option maxHeartbeats 8000000 in
set_option maxRecDepth 100000 in
theorem r27_Keyed.calls (k : Nat) (P0_ : Nat → Prop) (A0 : Option Addr) (c0 : Nat) (l0 : T3) (P1_ : Nat → Prop) (A1 : Option Addr) (c1 : Nat) (l1 : T3) (A2 : Option Addr) (c2 : Nat) (l2 : List (S53)) (A3 : Option Addr) (c3 : Nat) (l3 : List (S53)) (A4 : Option Addr) (c4 : Nat) (l4 : List (S53)) (r1 : T3) (r2 : Int) (w : World) (hs0 : Kd.V (Kd.slice 29 (Kd.slice 39 k39)) 22 w w.heap.size (fun k_ => P0_ k_) (.slice A0 l0.length c0) l0) (hs1 : Kd.V (Kd.slice 29 (Kd.slice 39 k39)) 22 w w.heap.size (fun k_ => P1_ k_) (.slice A1 l1.length c1) l1) (hr2 : Kd.C k53 w A2 l2.length l2) (hc2 : l2.length ≤ c2) (hr3 : Kd.C k53 w A3 l3.length l3) (hc3 : l3.length ≤ c3) (hr4 : Kd.C k53 w A4 l4.length l4) (hc4 : l4.length ≤ c4) (h : r27_Keyed.f k l0 l1 l2 l3 l4 = some (r1, r2)) :
 Calls Tryz.prog 20 #[.slice A0 l0.length c0, .slice A1 l1.length c1, .slice A2 l2.length c2, .slice A3 l3.length c3, .slice A4 l4.length c4] w fun e w' => ∃ v0_ : Value, e = .returned (.tuple #[v0_, .int .i64 r2]) ∧ Kd.N (Kd.slice 29 (Kd.slice 39 k39)) 22 w' w.heap.size (fun k_ => ((P0_ k_ ∨ P1_ k_) ∨ w.heap.size ≤ k_)) v0_ r1 ∧ Below w.heap.size w w' := by
 have HO0 := akk (show Kd.V (Kd.slice 29 (Kd.slice 39 k39)) 22 w w.heap.size (fun k_ => ((P0_ k_ ∨ P1_ k_) ∨ w.heap.size ≤ k_)) (.slice A0 l0.length c0) l0 from Kd.V_mono hs0 (fun k_ hk => .inl (.inl hk)))
 have HO1 := akk (show Kd.V (Kd.slice 29 (Kd.slice 39 k39)) 22 w w.heap.size (fun k_ => ((P0_ k_ ∨ P1_ k_) ∨ w.heap.size ≤ k_)) (.slice A1 l1.length c1) l1 from Kd.V_mono hs1 (fun k_ hk => .inl (.inr hk)))
 have HR2 := akk hr2
 have HC2 := akk hc2
 clear hr2 hc2
 have HR3 := akk hr3
 have HC3 := akk hc3
 clear hr3 hc3
 have HR4 := akk hr4
 have HC4 := akk hc4
 clear hr4 hc4
 have HB := akk (Below.refl w.heap.size w)
 have H : (if (l2.length : Int) = (l3.length : Int) then (r27_Keyed.j0 k l0 l1 l2 l3 l4 ((l2.length : Int) == 0)) else (r27_Keyed.j0 k l0 l1 l2 l3 l4 true)) = some (r1, r2) := h
 clear h
 have HC6 := akk H
 clear H
 go_enter Tryz.func20, Tryz.ntmps20
 go_upto_region 1 with (fail)
 go_cut [41] (fun v41 wc => ∃ (kq : Nat) (x41_5 : Bool), v41 = .bool x41_5 ∧ Aside0 (r27_Keyed.j0 kq l0 l1 l2 l3 l4 x41_5 = some (r1, r2)) ∧ Aside0 (kq ≤ k) ∧ Aside0 (Kd.V (Kd.slice 29 (Kd.slice 39 k39)) 22 wc w.heap.size (fun k_ => ((P0_ k_ ∨ P1_ k_) ∨ w.heap.size ≤ k_)) (.slice A0 l0.length c0) l0) ∧ Aside0 (Kd.V (Kd.slice 29 (Kd.slice 39 k39)) 22 wc w.heap.size (fun k_ => ((P0_ k_ ∨ P1_ k_) ∨ w.heap.size ≤ k_)) (.slice A1 l1.length c1) l1) ∧ Aside0 (Below w.heap.size w wc))
 case first =>
  have H := HC6.out
  clear HC6
  by_cases c7 : (l2.length : Int) = (l3.length : Int)
  ·rw [if_pos c7] at H
   have c7b0 : ((l2.length : Int) == (l3.length : Int)) = true := beq_iff_eq.mpr c7
   have c7b1 : ((l2.length : Int) != (l3.length : Int)) = false := bne_eq_false_iff_eq.mpr c7
   have c7b2 : (l2.length == l3.length) = true := by first | simpa using c7 | (simp at c7 ⊢; omega)
   clear c7
   (first | rw [c7b0] | (simp only [i64_w, i32_w]; rw [c7b0]) | skip)
   have H' := akk H
   clear H
   go_wp2
   go_meet
   case rel => exact ⟨_, (((l2.length : Int) == 0)), eT, H', ⟨by first | omega | exact Nat.le_refl _⟩, ⟨vT HO0.out⟩, ⟨vT HO1.out⟩, ⟨bT⟩⟩
  ·rw [if_neg c7] at H
   have c7b0 : ((l2.length : Int) == (l3.length : Int)) = false := beq_eq_false_iff_ne.mpr c7
   have c7b1 : ((l2.length : Int) != (l3.length : Int)) = true := bne_iff_ne.mpr c7
   have c7b2 : (l2.length == l3.length) = false := by first | simpa using c7 | (simp at c7 ⊢; omega)
   (first | rw [c7b0] | (simp only [i64_w, i32_w]; rw [c7b0]) | skip)
   have H' := akk H
   clear H
   go_wp2
   go_meet
   case rel => exact ⟨_, (true), eT, H', ⟨by first | omega | exact Nat.le_refl _⟩, ⟨vT HO0.out⟩, ⟨vT HO1.out⟩, ⟨bT⟩⟩
 case rest =>
  clear HC6
  try clear c1
  obtain ⟨kq, x41_5, rfl, HA, HJ5, HO_0, HO_1, HB⟩ := hcut
  cases kq with
  | zero => exact absurd HA.out (by simp [r27_Keyed.j0])
  | succ kj5 =>
   have H := HA.out
   clear HA
   simp only [r27_Keyed.j0] at H
   by_cases c8 : x41_5 = true
   ·subst c8
    rw [if_pos rfl] at H
    simp only [Option.some.injEq, Prod.mk.injEq] at H
    obtain ⟨rfl, rfl⟩ := H
    go_wp2
    go_ret2
    exact ⟨_, fT, zT, bT⟩
   ·replace c8 := Bool.eq_false_iff.mpr c8
    subst c8
    rw [if_neg (show ¬ (false = true) by decide)] at H
    have H' := akk H
    clear H
    go_wp2
    go_loopg [12] kj5 (fun kq v12 w' => ∃ (x12_2 : Int), v12 = .int .i64 x12_2 ∧ Aside0 (r27_Keyed.l0 kq l0 l1 l2 l3 l4 x12_2 = some (r1, r2)) ∧ Aside0 (kq ≤ kj5) ∧ Aside0 (Kd.V (Kd.slice 29 (Kd.slice 39 k39)) 22 w' w.heap.size (fun k_ => ((P0_ k_ ∨ P1_ k_) ∨ w.heap.size ≤ k_)) (.slice A0 l0.length c0) l0) ∧ Aside0 (Kd.V (Kd.slice 29 (Kd.slice 39 k39)) 22 w' w.heap.size (fun k_ => ((P0_ k_ ∨ P1_ k_) ∨ w.heap.size ≤ k_)) (.slice A1 l1.length c1) l1) ∧ Aside0 (Below w.heap.size w w'))
    case atStart => exact ⟨(0), eT, H', ⟨Nat.le_refl _⟩, ⟨vT HO_0.out⟩, ⟨vT HO_1.out⟩, ⟨bT⟩⟩
    case round =>
     clear H'
     try clear c8
     obtain ⟨x12_2, rfl, HA, HK2, HO_0, HO_1, HB⟩ := hrel
     cases gk with
     | zero => exact absurd HA.out (by simp [r27_Keyed.l0])
     | succ k2 =>
      have H := HA.out
      clear HA
      simp only [r27_Keyed.l0] at H
      by_cases c9 : x12_2 < (l0.length : Int)
      ·rw [if_pos c9] at H
       have c9b0 := decide_eq_true c9
       clear c9
       by_cases c10 : 0 ≤ x12_2
       ·rw [if_pos c10] at H
        have c10b0 := decide_eq_true c10
        clear c10
        obtain ⟨⟨t236, t237, t238⟩, A11, H⟩ := bi H
        try dsimp only at H
        by_cases c12 : t238 = 0
        ·rw [if_pos c12] at H
         have c12b0 : (t238 == 0) = true := beq_iff_eq.mpr c12
         have c12b1 : (t238 != 0) = false := bne_eq_false_iff_eq.mpr c12
         clear c12
         have H' := akk H
         clear H
         obtain ⟨ad235, A235_0, c235_0, rfl, hx235_0, HL235_0, HR235_0, HC235_0, p235, q235⟩ := gV6 HO_0 x12_2
         go_wp2_with (refine gT 13 (some 54) Tryz.func13 #[.slice A2 l2.length c2, .slice A235_0 (rd_L6 l0 x12_2).length c235_0] ?_; (with_reducible refine (r27_Keys.calls _ _ l2 _ _ (rd_L6 l0 x12_2) t236 t237 t238 _ ?_ ?_ ?_ ?_ A11.out).mono ?_); exact cT HR2.out; exact HC2.out; exact cV HR235_0.out; exact HC235_0.out; rintro e w13 ⟨v239, rfl, ho0, hb⟩; refine ⟨_, rfl, ?_⟩; replace HO_0 := ve HO_0 ho0 hb; replace HO_1 := ve HO_1 ho0 hb; replace HL235_0 := ve HL235_0 ho0 hb; have HO240 := akk (Kd.R_lower (Kd.R_newM (M := fun k_ => (w.heap.size ≤ k_)) ho0 (below_size bT) (fun k_ h_ => h_)) (below_size bT)); replace HR235_0 := cb HR235_0 hb; replace HB := bb HB hb; clear hb ho0)
         go_roundg k2
         case measure => have := HJ5.out; have := HK2.out; omega
         case rel => exact ⟨(wrap64 (x12_2 + 1)), eT, H', ⟨by have := HJ5.out; have := HK2.out; omega⟩, ⟨vT' (Kd.V_mono HO_0.out (fun _ hk => hk.1))⟩, ⟨vT' (Kd.V_mono HO_1.out (fun _ hk => hk.1))⟩, ⟨bT⟩⟩
        ·rw [if_neg c12] at H
         have c12b0 : (t238 == 0) = false := beq_eq_false_iff_ne.mpr c12
         have c12b1 : (t238 != 0) = true := bne_iff_ne.mpr c12
         simp only [Option.some.injEq, Prod.mk.injEq] at H
         obtain ⟨rfl, rfl⟩ := H
         obtain ⟨ad235, A235_0, c235_0, rfl, hx235_0, HL235_0, HR235_0, HC235_0, p235, q235⟩ := gV6 HO_0 x12_2
         go_wp2_with (refine gT 13 (some 54) Tryz.func13 #[.slice A2 l2.length c2, .slice A235_0 (rd_L6 l0 x12_2).length c235_0] ?_; (with_reducible refine (r27_Keys.calls _ _ l2 _ _ (rd_L6 l0 x12_2) t236 t237 t238 _ ?_ ?_ ?_ ?_ A11.out).mono ?_); exact cT HR2.out; exact HC2.out; exact cV HR235_0.out; exact HC235_0.out; rintro e w14 ⟨v239, rfl, ho0, hb⟩; refine ⟨_, rfl, ?_⟩; replace HO_0 := ve HO_0 ho0 hb; replace HO_1 := ve HO_1 ho0 hb; replace HL235_0 := ve HL235_0 ho0 hb; have HO240 := akk (Kd.R_lower (Kd.R_newM (M := fun k_ => (w.heap.size ≤ k_)) ho0 (below_size bT) (fun k_ h_ => h_)) (below_size bT)); replace HR235_0 := cb HR235_0 hb; replace HB := bb HB hb; clear hb ho0)
         go_ret2
         exact ⟨_, fT, zT, bT⟩
       ·rw [if_neg c10] at H
        exact absurd H (by simp)
      ·rw [if_neg c9] at H
       have c9b0 := decide_eq_false c9
       clear c9
       have H' := akk H
       clear H
       go_wp2
       go_loopg [16] k2 (fun kq v16 w' => ∃ (x16_3 : Int), v16 = .int .i64 x16_3 ∧ Aside0 (r27_Keyed.l1 kq l0 l1 l2 l3 l4 x16_3 = some (r1, r2)) ∧ Aside0 (kq ≤ k2) ∧ Aside0 (Kd.V (Kd.slice 29 (Kd.slice 39 k39)) 22 w' w.heap.size (fun k_ => ((P0_ k_ ∨ P1_ k_) ∨ w.heap.size ≤ k_)) (.slice A0 l0.length c0) l0) ∧ Aside0 (Kd.V (Kd.slice 29 (Kd.slice 39 k39)) 22 w' w.heap.size (fun k_ => ((P0_ k_ ∨ P1_ k_) ∨ w.heap.size ≤ k_)) (.slice A1 l1.length c1) l1) ∧ Aside0 (Below w.heap.size w w'))
       case atStart => exact ⟨(0), eT, H', ⟨Nat.le_refl _⟩, ⟨vT HO_0.out⟩, ⟨vT HO_1.out⟩, ⟨bT⟩⟩
       case round =>
        clear H'
        try clear c9b0
        obtain ⟨x16_3, rfl, HA, HK3, HO_0, HO_1, HB⟩ := hrel
        cases gk with
        | zero => exact absurd HA.out (by simp [r27_Keyed.l1])
        | succ k3 =>
         have H := HA.out
         clear HA
         simp only [r27_Keyed.l1] at H
         by_cases c15 : x16_3 < (l1.length : Int)
         ·rw [if_pos c15] at H
          have c15b0 := decide_eq_true c15
          clear c15
          by_cases c16 : 0 ≤ x16_3
          ·rw [if_pos c16] at H
           have c16b0 := decide_eq_true c16
           clear c16
           obtain ⟨⟨t242, t243, t244⟩, A17, H⟩ := bi H
           try dsimp only at H
           by_cases c18 : t244 = 0
           ·rw [if_pos c18] at H
            have c18b0 : (t244 == 0) = true := beq_iff_eq.mpr c18
            have c18b1 : (t244 != 0) = false := bne_eq_false_iff_eq.mpr c18
            clear c18
            have H' := akk H
            clear H
            obtain ⟨ad241, A241_0, c241_0, rfl, hx241_0, HL241_0, HR241_0, HC241_0, p241, q241⟩ := gV6 HO_1 x16_3
            go_wp2_with (refine gT 13 (some 73) Tryz.func13 #[.slice A3 l3.length c3, .slice A241_0 (rd_L6 l1 x16_3).length c241_0] ?_; (with_reducible refine (r27_Keys.calls _ _ l3 _ _ (rd_L6 l1 x16_3) t242 t243 t244 _ ?_ ?_ ?_ ?_ A17.out).mono ?_); exact cT HR3.out; exact HC3.out; exact cV HR241_0.out; exact HC241_0.out; rintro e w19 ⟨v245, rfl, ho0, hb⟩; refine ⟨_, rfl, ?_⟩; replace HO_0 := ve HO_0 ho0 hb; replace HO_1 := ve HO_1 ho0 hb; replace HL241_0 := ve HL241_0 ho0 hb; have HO246 := akk (Kd.R_lower (Kd.R_newM (M := fun k_ => (w.heap.size ≤ k_)) ho0 (below_size bT) (fun k_ h_ => h_)) (below_size bT)); replace HR241_0 := cb HR241_0 hb; replace HB := bb HB hb; clear hb ho0)
            go_roundg k3
            case measure => have := HJ5.out; have := HK2.out; have := HK3.out; omega
            case rel => exact ⟨(wrap64 (x16_3 + 1)), eT, H', ⟨by have := HJ5.out; have := HK2.out; have := HK3.out; omega⟩, ⟨vT' (Kd.V_mono HO_0.out (fun _ hk => hk.1))⟩, ⟨vT' (Kd.V_mono HO_1.out (fun _ hk => hk.1))⟩, ⟨bT⟩⟩
           ·rw [if_neg c18] at H
            have c18b0 : (t244 == 0) = false := beq_eq_false_iff_ne.mpr c18
            have c18b1 : (t244 != 0) = true := bne_iff_ne.mpr c18
            simp only [Option.some.injEq, Prod.mk.injEq] at H
            obtain ⟨rfl, rfl⟩ := H
            obtain ⟨ad241, A241_0, c241_0, rfl, hx241_0, HL241_0, HR241_0, HC241_0, p241, q241⟩ := gV6 HO_1 x16_3
            go_wp2_with (refine gT 13 (some 73) Tryz.func13 #[.slice A3 l3.length c3, .slice A241_0 (rd_L6 l1 x16_3).length c241_0] ?_; (with_reducible refine (r27_Keys.calls _ _ l3 _ _ (rd_L6 l1 x16_3) t242 t243 t244 _ ?_ ?_ ?_ ?_ A17.out).mono ?_); exact cT HR3.out; exact HC3.out; exact cV HR241_0.out; exact HC241_0.out; rintro e w20 ⟨v245, rfl, ho0, hb⟩; refine ⟨_, rfl, ?_⟩; replace HO_0 := ve HO_0 ho0 hb; replace HO_1 := ve HO_1 ho0 hb; replace HL241_0 := ve HL241_0 ho0 hb; have HO246 := akk (Kd.R_lower (Kd.R_newM (M := fun k_ => (w.heap.size ≤ k_)) ho0 (below_size bT) (fun k_ h_ => h_)) (below_size bT)); replace HR241_0 := cb HR241_0 hb; replace HB := bb HB hb; clear hb ho0)
            go_ret2
            exact ⟨_, fT, zT, bT⟩
          ·rw [if_neg c16] at H
           exact absurd H (by simp)
         ·rw [if_neg c15] at H
          have c15b0 := decide_eq_false c15
          clear c15
          have H' := akk H
          clear H
          go_wp2
          go_loopg [20, 21] k3 (fun kq v20 v21 w' => ∃ (x20_4 : T3) (x21_4 : Int), v21 = .int .i64 x21_4 ∧ Aside0 (r27_Keyed.l2 kq l0 l1 l2 l3 l4 x20_4 x21_4 = some (r1, r2)) ∧ Aside0 (kq ≤ k3) ∧ Aside0 (Kd.V (Kd.slice 29 (Kd.slice 39 k39)) 22 w' w.heap.size (fun k_ => ((P0_ k_ ∨ P1_ k_) ∨ w.heap.size ≤ k_) ∧ some k_ ≠ (v20 : Value).ownBlock) (.slice A0 l0.length c0) l0) ∧ Aside0 (Kd.V (Kd.slice 29 (Kd.slice 39 k39)) 22 w' w.heap.size (fun k_ => ((P0_ k_ ∨ P1_ k_) ∨ w.heap.size ≤ k_) ∧ some k_ ≠ (v20 : Value).ownBlock) (.slice A1 l1.length c1) l1) ∧ Aside0 (Kd.N (Kd.slice 29 (Kd.slice 39 k39)) 22 w' w.heap.size (fun k_ => ((P0_ k_ ∨ P1_ k_) ∨ w.heap.size ≤ k_)) v20 x20_4) ∧ Aside0 (Below w.heap.size w w'))
          case atStart => exact ⟨(([] : T3)), (0), eT, H', ⟨Nat.le_refl _⟩, ⟨vT' (Kd.V_mono HO_0.out (fun _ hk => ⟨hk, (by simp [Value.ownBlock])⟩))⟩, ⟨vT' (Kd.V_mono HO_1.out (fun _ hk => ⟨hk, (by simp [Value.ownBlock])⟩))⟩, ⟨zT⟩, ⟨bT⟩⟩
          case round =>
           clear H'
           try clear c15b0
           obtain ⟨x20_4, x21_4, rfl, HA, HK4, HO_0, HO_1, HO_20, HB⟩ := hrel
           cases gk with
           | zero => exact absurd HA.out (by simp [r27_Keyed.l2])
           | succ k4 =>
            have H := HA.out
            clear HA
            simp only [r27_Keyed.l2] at H
            by_cases c21 : x21_4 < (l0.length : Int)
            ·rw [if_pos c21] at H
             have c21b0 := decide_eq_true c21
             clear c21
             by_cases c22 : 0 ≤ x21_4
             ·rw [if_pos c22] at H
              have c22b0 := decide_eq_true c22
              clear c22
              obtain ⟨⟨t248, t249, t250⟩, A23, H⟩ := bi H
              try dsimp only at H
              have H' := akk H
              clear H
              obtain ⟨ad247, A247_0, c247_0, rfl, hx247_0, HL247_0, HR247_0, HC247_0, p247, q247⟩ := gV6 HO_0 x21_4
              go_wp2_with (refine gT 13 (some 92) Tryz.func13 #[.slice A2 l2.length c2, .slice A247_0 (rd_L6 l0 x21_4).length c247_0] ?_; (with_reducible refine (r27_Keys.calls _ _ l2 _ _ (rd_L6 l0 x21_4) t248 t249 t250 _ ?_ ?_ ?_ ?_ A23.out).mono ?_); exact cT HR2.out; exact HC2.out; exact cV HR247_0.out; exact HC247_0.out; rintro e w24 ⟨v251, rfl, ho0, hb⟩; refine ⟨_, rfl, ?_⟩; replace HO_0 := ve HO_0 ho0 hb; replace HO_1 := ve HO_1 ho0 hb; replace HO_20 := ne HO_20 ho0 hb; replace HL247_0 := ve HL247_0 ho0 hb; have HO252 := akk (Kd.R_lower (Kd.R_newM (M := fun k_ => (w.heap.size ≤ k_)) ho0 (below_size bT) (fun k_ h_ => h_)) (below_size bT)); replace HR247_0 := cb HR247_0 hb; replace HB := bb HB hb; clear hb ho0)
              go_loopg [20, 25] k4 (fun kq v20 v25 w' => ∃ (x20_5 : T3) (x25_5 : Int), v25 = .int .i64 x25_5 ∧ Aside0 (r27_Keyed.l3 kq l0 l1 l2 l3 l4 x20_5 x21_4 t248 t249 x25_5 = some (r1, r2)) ∧ Aside0 (kq ≤ k4) ∧ Aside0 (Kd.V (Kd.slice 29 (Kd.slice 39 k39)) 22 w' w.heap.size (fun k_ => ((P0_ k_ ∨ P1_ k_) ∨ w.heap.size ≤ k_) ∧ some k_ ≠ (v20 : Value).ownBlock ∧ some k_ ≠ (v251 : Value).ownBlock) (.slice (some ad247) l0.length c0) l0) ∧ Aside0 (Kd.V (Kd.slice 29 (Kd.slice 39 k39)) 22 w' w.heap.size (fun k_ => ((P0_ k_ ∨ P1_ k_) ∨ w.heap.size ≤ k_) ∧ some k_ ≠ (v20 : Value).ownBlock ∧ some k_ ≠ (v251 : Value).ownBlock) (.slice A1 l1.length c1) l1) ∧ Aside0 (Kd.N (Kd.slice 29 (Kd.slice 39 k39)) 22 w' w.heap.size (fun k_ => ((P0_ k_ ∨ P1_ k_) ∨ w.heap.size ≤ k_) ∧ some k_ ≠ (v251 : Value).ownBlock) v20 x20_5) ∧ Aside0 (Kd.R kAl 39 w' w.heap.size (fun k_ => (w.heap.size ≤ k_)) v251 t248) ∧ Aside0 (Below w.heap.size w w'))
              case atStart => exact ⟨(x20_4), (0), eT, H', ⟨Nat.le_refl _⟩, ⟨vT' (Kd.V_mono HO_0.out (fun _ hk => ⟨hk.1.1, ⟨hk.1.2, hk.2⟩⟩))⟩, ⟨vT' (Kd.V_mono HO_1.out (fun _ hk => ⟨hk.1.1, ⟨hk.1.2, hk.2⟩⟩))⟩, ⟨nT HO_20.out⟩, ⟨rT' (Kd.R_mono HO252.out (fun _ hk => hk.1))⟩, ⟨bT⟩⟩
              case round =>
               clear H'
               try clear c21b0
               try clear c22b0
               try clear hx247_0
               try clear p247
               try clear q247
               obtain ⟨x20_5, x25_5, rfl, HA, HK5, HO_0, HO_1, HO_20, HO_22, HB⟩ := hrel
               cases gk with
               | zero => exact absurd HA.out (by simp [r27_Keyed.l3])
               | succ k5 =>
                have H := HA.out
                clear HA
                simp only [r27_Keyed.l3] at H
                by_cases c25 : x25_5 < (l1.length : Int)
                ·rw [if_pos c25] at H
                 have c25b0 := decide_eq_true c25
                 clear c25
                 by_cases c26 : 0 ≤ x25_5
                 ·rw [if_pos c26] at H
                  have c26b0 := decide_eq_true c26
                  clear c26
                  obtain ⟨⟨t254, t255, t256⟩, A27, H⟩ := bi H
                  try dsimp only at H
                  have HC28 := akk H
                  clear H
                  obtain ⟨ad253, A253_0, c253_0, rfl, hx253_0, HL253_0, HR253_0, HC253_0, p253, q253⟩ := gV6 HO_1 x25_5
                  go_upto_region 24 with (first | (refine gT 13 (some 108) Tryz.func13 #[.slice A3 l3.length c3, .slice A253_0 (rd_L6 l1 x25_5).length c253_0] ?_; (with_reducible refine (r27_Keys.calls _ _ l3 _ _ (rd_L6 l1 x25_5) t254 t255 t256 _ ?side1 ?side2 ?side3 ?side4 A27.out).mono ?_); (case side1 => exact cT HR3.out); (case side2 => exact HC3.out); (case side3 => repeat (first | exact (cU HR253_0.out) | (with_reducible refine Kd.C_alloc ?_ _) | (with_reducible refine Kd.C_drewN ?_ _) | (with_reducible refine Kd.C_drew ?_))); (case side4 => exact HC253_0.out); rintro e w29 ⟨v257, rfl, ho0, hb⟩; refine ⟨_, rfl, ?_⟩; replace HO_0 := akk (Kd.V_elder' (vT HO_0.out) (bB ho0) hb); replace HO_1 := akk (Kd.V_elder' (vT HO_1.out) (bB ho0) hb); replace HO_20 := akk (Kd.N_elder' (nT HO_20.out) (bB ho0) hb); replace HL253_0 := akk (Kd.V_elder' (vT HL253_0.out) (bB ho0) hb); have HO258 := akk (Kd.R_lower (Kd.R_new' (Kd.R_newM (M := fun k_ => (w.heap.size ≤ k_)) ho0 (below_size bT) (fun k_ h_ => h_)) (Kd.R_lt (rT HO_22.out))) (below_size bT)); replace HO_22 := akk (Kd.R_elder' (rT HO_22.out) (bB ho0) hb); replace HR253_0 := akk (Kd.C_below (cU HR253_0.out) hb); replace HB := akk (below_step bT hb); (try clear hb); (try clear hb2); (try clear hk); (try clear hi); (try clear ho0)))
                  (try simp only [Act.put, List.setIfInBounds_toArray, List.set_cons_zero, List.set_cons_succ])
                  go_cut [123] (fun v123 wc => ∃ (kq : Nat) (x123_27 : Bool), v123 = .bool x123_27 ∧ Aside0 (r27_Keyed.j5 kq l0 l1 l2 l3 l4 x20_5 x21_4 t248 t249 x25_5 x123_27 = some (r1, r2)) ∧ Aside0 (kq ≤ k5) ∧ Aside0 (Kd.V (Kd.slice 29 (Kd.slice 39 k39)) 22 wc w.heap.size (fun k_ => ((P0_ k_ ∨ P1_ k_) ∨ w.heap.size ≤ k_) ∧ some k_ ≠ (u20 : Value).ownBlock ∧ some k_ ≠ (v251 : Value).ownBlock) (.slice (some ad247) l0.length c0) l0) ∧ Aside0 (Kd.V (Kd.slice 29 (Kd.slice 39 k39)) 22 wc w.heap.size (fun k_ => ((P0_ k_ ∨ P1_ k_) ∨ w.heap.size ≤ k_) ∧ some k_ ≠ (u20 : Value).ownBlock ∧ some k_ ≠ (v251 : Value).ownBlock) (.slice (some ad253) l1.length c1) l1) ∧ Aside0 (Kd.N (Kd.slice 29 (Kd.slice 39 k39)) 22 wc w.heap.size (fun k_ => ((P0_ k_ ∨ P1_ k_) ∨ w.heap.size ≤ k_) ∧ some k_ ≠ (v251 : Value).ownBlock) u20 x20_5) ∧ Aside0 (Kd.R kAl 39 wc w.heap.size (fun k_ => (w.heap.size ≤ k_)) v251 t248) ∧ Aside0 (Kd.C (Kd.slice 39 k39) wc A253_0 (rd_L6 l1 x25_5).length (rd_L6 l1 x25_5)) ∧ Aside0 (Below w.heap.size w wc))
                  case first =>
                   have H := HC28.out
                   clear HC28
                   by_cases c30 : t249 = true
                   ·subst c30
                    rw [if_pos rfl] at H
                    by_cases c31 : t255 = true
                    ·subst c31
                     rw [if_pos rfl] at H
                     obtain ⟨t259, A32, H⟩ := bi H
                     try dsimp only at H
                     have H' := akk H
                     clear H
                     obtain ⟨Ao33, co33, eo33⟩ := Kd.R_slice HO_22.out
                     subst eo33
                     obtain ⟨Ao34, co34, eo34⟩ := Kd.R_slice HO258.out
                     subst eo34
                     go_wp2_with (go_at_call 43; (with_reducible refine (r05_Cmp.calls _ _ t248 _ _ t254 t259 _ ?_ ?_ ?_ ?_ A32.out).mono ?_); exact cV (Kd.R_reads' HO_22.out).2.2; exact (Kd.R_reads' HO_22.out).2.1; exact cV (Kd.R_reads' HO258.out).2.2; exact (Kd.R_reads' HO258.out).2.1; rintro e w35 ⟨rfl, hb⟩; replace HO_0 := vb HO_0 hb; replace HO_1 := vb HO_1 hb; replace HO_20 := nb HO_20 hb; replace HO_22 := rb HO_22 hb; replace HL253_0 := vb HL253_0 hb; replace HO258 := rb HO258 hb; replace HR253_0 := cb HR253_0 hb; replace HB := bb HB hb; clear hb)
                     go_meet
                     case rel => exact ⟨_, ((t259 != 0)), eT, H', ⟨by have := HJ5.out; have := HK2.out; have := HK3.out; have := HK4.out; have := HK5.out; first | omega | exact Nat.le_refl _⟩, ⟨vT' (Kd.V_mono HO_0.out (fun _ hk => ⟨hk.1.1, ⟨hk.1.2.1, hk.1.2.2⟩⟩))⟩, ⟨vT' (Kd.V_mono HO_1.out (fun _ hk => ⟨hk.1.1, ⟨hk.1.2.1, hk.1.2.2⟩⟩))⟩, ⟨nT' (Kd.N_mono HO_20.out (fun _ hk => ⟨hk.1.1, hk.1.2⟩))⟩, ⟨rT' (Kd.R_mono HO_22.out (fun _ hk => hk.1))⟩, ⟨by repeat (first | (with_reducible exact HR253_0.out) | (with_reducible refine Kd.C_alloc ?_ _) | (with_reducible refine Kd.C_drewN ?_ _) | (with_reducible refine Kd.C_drew ?_) | exact HR253_0.out)⟩, ⟨bT⟩⟩
                    ·replace c31 := Bool.eq_false_iff.mpr c31
                     subst c31
                     rw [if_neg (show ¬ (false = true) by decide)] at H
                     have H' := akk H
                     clear H
                     go_wp2
                     go_meet
                     case rel => exact ⟨_, (true), eT, H', ⟨by have := HJ5.out; have := HK2.out; have := HK3.out; have := HK4.out; have := HK5.out; first | omega | exact Nat.le_refl _⟩, ⟨vT' (Kd.V_mono HO_0.out (fun _ hk => ⟨hk.1.1, ⟨hk.1.2.1, hk.1.2.2⟩⟩))⟩, ⟨vT' (Kd.V_mono HO_1.out (fun _ hk => ⟨hk.1.1, ⟨hk.1.2.1, hk.1.2.2⟩⟩))⟩, ⟨nT' (Kd.N_mono HO_20.out (fun _ hk => ⟨hk.1.1, hk.1.2⟩))⟩, ⟨rT' (Kd.R_mono HO_22.out (fun _ hk => hk.1))⟩, ⟨by repeat (first | (with_reducible exact HR253_0.out) | (with_reducible refine Kd.C_alloc ?_ _) | (with_reducible refine Kd.C_drewN ?_ _) | (with_reducible refine Kd.C_drew ?_) | exact HR253_0.out)⟩, ⟨bT⟩⟩
                   ·replace c30 := Bool.eq_false_iff.mpr c30
                    subst c30
                    rw [if_neg (show ¬ (false = true) by decide)] at H
                    have H' := akk H
                    clear H
                    go_wp2
                    go_meet
                    case rel => exact ⟨_, (true), eT, H', ⟨by have := HJ5.out; have := HK2.out; have := HK3.out; have := HK4.out; have := HK5.out; first | omega | exact Nat.le_refl _⟩, ⟨vT' (Kd.V_mono HO_0.out (fun _ hk => ⟨hk.1.1, ⟨hk.1.2.1, hk.1.2.2⟩⟩))⟩, ⟨vT' (Kd.V_mono HO_1.out (fun _ hk => ⟨hk.1.1, ⟨hk.1.2.1, hk.1.2.2⟩⟩))⟩, ⟨nT' (Kd.N_mono HO_20.out (fun _ hk => ⟨hk.1.1, hk.1.2⟩))⟩, ⟨rT' (Kd.R_mono HO_22.out (fun _ hk => hk.1))⟩, ⟨by repeat (first | (with_reducible exact HR253_0.out) | (with_reducible refine Kd.C_alloc ?_ _) | (with_reducible refine Kd.C_drewN ?_ _) | (with_reducible refine Kd.C_drew ?_) | exact HR253_0.out)⟩, ⟨bT⟩⟩
                  case rest =>
                   clear HC28
                   try clear c25b0
                   try clear c26b0
                   try clear hx253_0
                   try clear p253
                   try clear q253
                   obtain ⟨kq, x123_27, rfl, HA, HJ27, HO_0, HO_1, HO_20, HO_22, HR253_0, HB⟩ := hcut
                   cases kq with
                   | zero => exact absurd HA.out (by simp [r27_Keyed.j5])
                   | succ kj27 =>
                    have H := HA.out
                    clear HA
                    simp only [r27_Keyed.j5] at H
                    by_cases c36 : x123_27 = true
                    ·subst c36
                     rw [if_pos rfl] at H
                     have H' := akk H
                     clear H
                     go_wp2
                     go_roundg kj27
                     case measure => have := HJ5.out; have := HK2.out; have := HK3.out; have := HK4.out; have := HK5.out; have := HJ27.out; omega
                     case rel => exact ⟨(x20_5), (wrap64 (x25_5 + 1)), eT, H', ⟨by have := HJ5.out; have := HK2.out; have := HK3.out; have := HK4.out; have := HK5.out; have := HJ27.out; omega⟩, ⟨vT HO_0.out⟩, ⟨vT HO_1.out⟩, ⟨nT HO_20.out⟩, ⟨rT HO_22.out⟩, ⟨bT⟩⟩
                    ·replace c36 := Bool.eq_false_iff.mpr c36
                     subst c36
                     rw [if_neg (show ¬ (false = true) by decide)] at H
                     by_cases c37 : 0 ≤ x21_4
                     ·rw [if_pos c37] at H
                      have c37b0 := decide_eq_true c37
                      clear c37
                      by_cases c38 : x21_4 < (l0.length : Int)
                      ·rw [if_pos c38] at H
                       have c38b0 := decide_eq_true c38
                       clear c38
                       by_cases c39 : 0 ≤ x25_5
                       ·rw [if_pos c39] at H
                        have c39b0 := decide_eq_true c39
                        clear c39
                        by_cases c40 : x25_5 < (l1.length : Int)
                        ·rw [if_pos c40] at H
                         have c40b0 := decide_eq_true c40
                         clear c40
                         obtain ⟨t262, A41, H⟩ := bi H
                         try dsimp only at H
                         obtain ⟨⟨t265, t266⟩, A42, H⟩ := bi H
                         try dsimp only at H
                         by_cases c43 : t266 = 0
                         ·rw [if_pos c43] at H
                          have c43b0 : (t266 == 0) = true := beq_iff_eq.mpr c43
                          have c43b1 : (t266 != 0) = false := bne_eq_false_iff_eq.mpr c43
                          clear c43
                          by_cases c44 : t265 = true
                          ·subst c44
                           rw [if_pos rfl] at H
                           by_cases c45 : x20_5.length < 5864062014805
                           ·rw [if_pos c45] at H
                            have LMc45 := akk c45
                            clear c45
                            obtain ⟨y267, hy267⟩ : ∃ y_ : T3, y_ = (x20_5 ++ [t262]) := ⟨_, rfl⟩
                            replace H : (r27_Keyed.l3 kj27 l0 l1 l2 l3 l4 y267 x21_4 t248 t249 (wrap64 (x25_5 + 1))) = some (r1, r2) := jT hy267 H
                            have Ny267 := akk hy267
                            clear hy267
                            have H' := akk H
                            clear H
                            try go_wp2
                            replace HO_0 := akk (Kd.V_drew HO_0.out)
                            replace HO_1 := akk (Kd.V_drew HO_1.out)
                            replace HO_20 := akk (Kd.N_drew HO_20.out)
                            replace HO_22 := akk (Kd.R_drew HO_22.out)
                            replace HR253_0 := akk (Kd.C_drew HR253_0.out)
                            replace HB := akk (below_drew1 HB.out)
                            obtain ⟨ad260, A260_0, c260_0, e260, hx260_0, HL260_0, HR260_0, HC260_0, p260, q260⟩ := gV6 HO_0 x21_4
                            obtain rfl : ad247 = ad260 := (by injection e260)
                            obtain ⟨ad261, A261_0, c261_0, e261, hx261_0, HL261_0, HR261_0, HC261_0, p261, q261⟩ := gV6 HO_1 x25_5
                            obtain rfl : ad253 = ad261 := (by injection e261)
                            refine start_ (n := 10) (S := fun w' => w'.cell? (ad247.add (x21_4).toNat) = some (.slice A260_0 (rd_L6 l0 x21_4).length c260_0) ∧ w'.cell? (ad253.add (x25_5).toNat) = some (.slice A261_0 (rd_L6 l1 x25_5).length c261_0)) (ds := []) #[false, false, false, false, false, false, false, false, false, false] (by kernel_rfl) rfl rfl ⟨hx260_0, hx261_0⟩ (fun hHeld => ?_); refine with_tabW r27_Keyed.tab25 r27_Keyed.bits25 (fun HT_ HW_ => ?_)
                            generalize wc.drew = w46 at HO_0 HO_1 HO_20 HO_22 HR253_0 HB HL260_0 HL261_0 HR260_0 HR261_0 hx260_0 hx261_0 hHeld ⊢
                            refine pT 0 124 (bm 10 1) ?_
                            refine pT 1 125 (bm 10 3) ?_
                            refine pT 2 126 (bm 10 7) ?_
                            refine pT 4 128 (bm 10 23) ?_
                            refine pT 5 129 (bm 10 55) ?_
                            refine pT 6 130 (bm 10 119) ?_
                            refine tT2 3 127 (bm 10 127) hHeld ?_
                            refine tT2 7 131 (bm 10 255) hHeld ?_
                            refine one_ (i := 8) (N := some 132) #[true, true, true, true, true, true, true, true, true, false] rfl rfl (one_of HT_.out (by kernel_rfl)) (by decide) (fun K hK => ?_)
                            refine goes_ Tryz.func11 (by kernel_rfl) rfl #[.slice A260_0 (rd_L6 l0 x21_4).length c260_0, .slice A261_0 (rd_L6 l1 x25_5).length c261_0] (by rfl) rfl rfl mT ?_
                            with_reducible refine (r27_Union.calls kj27 (fun k_ => (((P0_ k_ ∨ P1_ k_) ∨ w.heap.size ≤ k_) ∧ (some k_ ≠ (u20 : Value).ownBlock ∧ some k_ ≠ (v251 : Value).ownBlock))) _ _ (rd_L6 l0 x21_4) (fun k_ => (((P0_ k_ ∨ P1_ k_) ∨ w.heap.size ≤ k_) ∧ (some k_ ≠ (u20 : Value).ownBlock ∧ some k_ ≠ (v251 : Value).ownBlock))) _ _ (rd_L6 l1 x25_5) t262 _ ?side1 ?side2 A41.out).mono ?_
                            (case side1 => exact HL260_0.out)
                            (case side2 => exact HL261_0.out)
                            rintro e w47 ⟨v263, rfl, ho0, hb⟩
                            have HS0_ := (hb.cell (World.block_lt_of_cell? _ _ (hHeld.1))).trans (hHeld.1)
                            have HS1_ := (hb.cell (World.block_lt_of_cell? _ _ (hHeld.2))).trans (hHeld.2)
                            refine ⟨_, rfl, ?_⟩
                            replace HO_0 := ve HO_0 ho0 hb
                            replace HO_1 := ve HO_1 ho0 hb
                            replace HL260_0 := ve HL260_0 ho0 hb
                            replace HL261_0 := ve HL261_0 ho0 hb
                            have HO264 := akk (Kd.N_lower (Kd.N_mono (ok' := fun k_ => ((P0_ k_ ∨ P1_ k_) ∨ w.heap.size ≤ k_) ∧ some k_ ≠ (u20 : Value).ownBlock ∧ some k_ ≠ (v251 : Value).ownBlock) ho0 (fun k_ hk_ => ⟨Or.elim hk_ (fun hs_ => Or.elim hs_ (fun hs_ => hs_.1) (fun hs_ => hs_.1)) (fun hn_ => (.inr (Nat.le_trans (below_size bT) hn_))), Or.elim hk_ (fun hs_ => Or.elim hs_ (fun hs_ => hs_.2.1) (fun hs_ => hs_.2.1)) (fun hn_ => (Kd.fresh' (Kd.N_lt (nT HO_20.out)) k_ hn_)), Or.elim hk_ (fun hs_ => Or.elim hs_ (fun hs_ => hs_.2.2) (fun hs_ => hs_.2.2)) (fun hn_ => (Kd.fresh' (Kd.R_lt (rT HO_22.out)) k_ hn_))⟩)) (below_size bT))
                            replace HO_20 := ne HO_20 ho0 hb
                            replace HO_22 := rb HO_22 hb
                            replace HR253_0 := cb HR253_0 hb
                            replace HR260_0 := cb HR260_0 hb
                            replace HR261_0 := cb HR261_0 hb
                            replace HB := bb HB hb
                            (try clear hb)
                            (try clear hb2)
                            (try clear hk)
                            (try clear hi)
                            (try clear ho0)
                            refine hK.out _ _ ⟨HS0_, HS1_⟩ (fun hHeld => ?_)
                            clear hK K
                            refine norm_ (a' := ?_) ?_ ?_
                            rotate_left
                            ·show Act.put _ (some 132) _ = _
                             simp only [Act.put, List.setIfInBounds_toArray, List.set_cons_zero, List.set_cons_succ, i64_w, i32_w]
                             rfl
                            refine pT 9 29 (bm 10 1023) ?_
                            refine done_ (done_of HT_.out (by kernel_rfl)) ?_
                            obtain ⟨Ao48, co48, eo48⟩ := Kd.N_slice HO264.out
                            subst eo48
                            try go_wp2_with (first | (refine gT 40 (some 136) Tryz.func40 #[.slice A4 l4.length c4, .slice Ao48 t262.length co48] ?_; (with_reducible refine (r22_Holds.calls _ _ l4 _ _ t262 true t266 _ ?_ ?_ ?_ ?_ A42.out).mono ?_); exact cT HR4.out; exact HC4.out; exact cV (Kd.N_reads' HO264.out).2.2; exact (Kd.N_reads' HO264.out).2.1; rintro e w49 ⟨rfl, hb⟩; refine ⟨_, rfl, ?_⟩; replace HO_0 := vb HO_0 hb; replace HO_1 := vb HO_1 hb; replace HO_20 := nb HO_20 hb; replace HO_22 := rb HO_22 hb; replace HL260_0 := vb HL260_0 hb; replace HL261_0 := vb HL261_0 hb; replace HO264 := nb HO264 hb; replace HR253_0 := cb HR253_0 hb; replace HR260_0 := cb HR260_0 hb; replace HR261_0 := cb HR261_0 hb; replace HB := bb HB hb; clear hb) | ((with_reducible refine gA #[.tmp 143, .tmp 145] rfl ?_); (try (refine gate_guard (by rfl) ?_; dsimp only)); at_builtin; refine Kd.N_append (Kd.slice 29 (Kd.slice 39 k39)) (w0 := w) w.heap.size rfl (.tmp 143) (.tmp 145) 25 22 (.slice none 0 0) 24 rfl Tryz.underlying25 info22 rfl (by decide) (by omega) u20 x20_5 t262 [.slice Ao48 t262.length co48] (fun k_ => ((P0_ k_ ∨ P1_ k_) ∨ w.heap.size ≤ k_) ∧ some k_ ≠ (v251 : Value).ownBlock) (fun k_ => ((fun k_ => ((P0_ k_ ∨ P1_ k_) ∨ w.heap.size ≤ k_) ∧ some k_ ≠ (v251 : Value).ownBlock)) k_ ∧ some k_ ≠ (u20 : Value).ownBlock) rfl rfl ?aP (fun _ hk => hk) ?aF ?aO ?aB ?aS ?aL ?_; (case aP => exact (Kd.FK_slice_mk (Kd.N_reads' (Kd.N_mono (ok' := (fun k_ => ((fun k_ => ((P0_ k_ ∨ P1_ k_) ∨ w.heap.size ≤ k_) ∧ some k_ ≠ (v251 : Value).ownBlock)) k_ ∧ some k_ ≠ (u20 : Value).ownBlock)) (HO264.out) (fun k_ hk => ⟨⟨hk.1, hk.2.2⟩, hk.2.1⟩))).2.1 (Kd.N_F (Kd.N_mono (ok' := (fun k_ => ((fun k_ => ((P0_ k_ ∨ P1_ k_) ∨ w.heap.size ≤ k_) ∧ some k_ ≠ (v251 : Value).ownBlock)) k_ ∧ some k_ ≠ (u20 : Value).ownBlock)) (HO264.out) (fun k_ hk => ⟨⟨hk.1, hk.2.2⟩, hk.2.1⟩))))); (case aB => exact bT); (case aF => exact (fun k_ hk => ⟨(.inr (Nat.le_trans (below_size bT) hk)), Kd.fresh' (Kd.R_lt (rT HO_22.out)) k_ hk⟩)); (case aO => exact (nT' (Kd.N_mono HO_20.out (fun _ hk => ⟨hk.1.1, hk.1.2⟩)))); (case aS => exact (below_size bT)); (case aL => have := LMc45.out; omega); intro v268 w50 ho hb hg hat; rw [← Ny267.out] at ho; replace HO_0 := akk (Kd.V_afterv (ok := (fun k_ => ((P0_ k_ ∨ P1_ k_) ∨ w.heap.size ≤ k_) ∧ some k_ ≠ (v251 : Value).ownBlock ∧ some k_ ≠ (.slice Ao48 t262.length co48 : Value).ownBlock)) (vT' (Kd.V_mono HO_0.out (fun _ hk => ⟨⟨hk.1.1, ⟨hk.1.2.2, hk.2⟩⟩, hk.1.2.1⟩))) hg hat); replace HO_1 := akk (Kd.V_afterv (ok := (fun k_ => ((P0_ k_ ∨ P1_ k_) ∨ w.heap.size ≤ k_) ∧ some k_ ≠ (v251 : Value).ownBlock ∧ some k_ ≠ (.slice Ao48 t262.length co48 : Value).ownBlock)) (vT' (Kd.V_mono HO_1.out (fun _ hk => ⟨⟨hk.1.1, ⟨hk.1.2.2, hk.2⟩⟩, hk.1.2.1⟩))) hg hat); replace HO_22 := akk (Kd.R_over' (rT HO_22.out) (Kd.N_typed (nT HO_20.out)) (by decide) hg); replace HL260_0 := akk (Kd.V_afterv (ok := (fun k_ => ((P0_ k_ ∨ P1_ k_) ∨ w.heap.size ≤ k_) ∧ some k_ ≠ (v251 : Value).ownBlock ∧ some k_ ≠ (.slice Ao48 t262.length co48 : Value).ownBlock)) (vT' (Kd.V_mono HL260_0.out (fun _ hk => ⟨⟨hk.1.1, ⟨hk.1.2.2, hk.2⟩⟩, hk.1.2.1⟩))) hg hat); replace HL261_0 := akk (Kd.V_afterv (ok := (fun k_ => ((P0_ k_ ∨ P1_ k_) ∨ w.heap.size ≤ k_) ∧ some k_ ≠ (v251 : Value).ownBlock ∧ some k_ ≠ (.slice Ao48 t262.length co48 : Value).ownBlock)) (vT' (Kd.V_mono HL261_0.out (fun _ hk => ⟨⟨hk.1.1, ⟨hk.1.2.2, hk.2⟩⟩, hk.1.2.1⟩))) hg hat); replace HB := akk (hb); have HO269 := akk (ho); clear HO_20 HO264; clear ho hb hg hat))
                            go_roundg kj27
                            case measure => have := HJ5.out; have := HK2.out; have := HK3.out; have := HK4.out; have := HK5.out; have := HJ27.out; omega
                            case rel => exact ⟨(y267), (wrap64 (x25_5 + 1)), eT, H', ⟨by have := HJ5.out; have := HK2.out; have := HK3.out; have := HK4.out; have := HK5.out; have := HJ27.out; omega⟩, ⟨vT' (Kd.V_mono HO_0.out (fun _ hk => ⟨hk.1.1, ⟨hk.2, hk.1.2.1⟩⟩))⟩, ⟨vT' (Kd.V_mono HO_1.out (fun _ hk => ⟨hk.1.1, ⟨hk.2, hk.1.2.1⟩⟩))⟩, ⟨nT HO269.out⟩, ⟨rT HO_22.out⟩, ⟨bT⟩⟩
                           ·rw [if_neg c45] at H
                            exact absurd H (by simp)
                          ·replace c44 := Bool.eq_false_iff.mpr c44
                           subst c44
                           rw [if_neg (show ¬ (false = true) by decide)] at H
                           have H' := akk H
                           clear H
                           try go_wp2
                           replace HO_0 := akk (Kd.V_drew HO_0.out)
                           replace HO_1 := akk (Kd.V_drew HO_1.out)
                           replace HO_20 := akk (Kd.N_drew HO_20.out)
                           replace HO_22 := akk (Kd.R_drew HO_22.out)
                           replace HR253_0 := akk (Kd.C_drew HR253_0.out)
                           replace HB := akk (below_drew1 HB.out)
                           obtain ⟨ad260, A260_0, c260_0, e260, hx260_0, HL260_0, HR260_0, HC260_0, p260, q260⟩ := gV6 HO_0 x21_4
                           obtain rfl : ad247 = ad260 := (by injection e260)
                           obtain ⟨ad261, A261_0, c261_0, e261, hx261_0, HL261_0, HR261_0, HC261_0, p261, q261⟩ := gV6 HO_1 x25_5
                           obtain rfl : ad253 = ad261 := (by injection e261)
                           refine start_ (n := 10) (S := fun w' => w'.cell? (ad247.add (x21_4).toNat) = some (.slice A260_0 (rd_L6 l0 x21_4).length c260_0) ∧ w'.cell? (ad253.add (x25_5).toNat) = some (.slice A261_0 (rd_L6 l1 x25_5).length c261_0)) (ds := []) #[false, false, false, false, false, false, false, false, false, false] (by kernel_rfl) rfl rfl ⟨hx260_0, hx261_0⟩ (fun hHeld => ?_); refine with_tabW r27_Keyed.tab25 r27_Keyed.bits25 (fun HT_ HW_ => ?_)
                           generalize wc.drew = w51 at HO_0 HO_1 HO_20 HO_22 HR253_0 HB HL260_0 HL261_0 HR260_0 HR261_0 hx260_0 hx261_0 hHeld ⊢
                           refine pT 0 124 (bm 10 1) ?_
                           refine pT 1 125 (bm 10 3) ?_
                           refine pT 2 126 (bm 10 7) ?_
                           refine pT 4 128 (bm 10 23) ?_
                           refine pT 5 129 (bm 10 55) ?_
                           refine pT 6 130 (bm 10 119) ?_
                           refine tT2 3 127 (bm 10 127) hHeld ?_
                           refine tT2 7 131 (bm 10 255) hHeld ?_
                           refine one_ (i := 8) (N := some 132) #[true, true, true, true, true, true, true, true, true, false] rfl rfl (one_of HT_.out (by kernel_rfl)) (by decide) (fun K hK => ?_)
                           refine goes_ Tryz.func11 (by kernel_rfl) rfl #[.slice A260_0 (rd_L6 l0 x21_4).length c260_0, .slice A261_0 (rd_L6 l1 x25_5).length c261_0] (by rfl) rfl rfl mT ?_
                           with_reducible refine (r27_Union.calls kj27 (fun k_ => (((P0_ k_ ∨ P1_ k_) ∨ w.heap.size ≤ k_) ∧ (some k_ ≠ (u20 : Value).ownBlock ∧ some k_ ≠ (v251 : Value).ownBlock))) _ _ (rd_L6 l0 x21_4) (fun k_ => (((P0_ k_ ∨ P1_ k_) ∨ w.heap.size ≤ k_) ∧ (some k_ ≠ (u20 : Value).ownBlock ∧ some k_ ≠ (v251 : Value).ownBlock))) _ _ (rd_L6 l1 x25_5) t262 _ ?side1 ?side2 A41.out).mono ?_
                           (case side1 => exact HL260_0.out)
                           (case side2 => exact HL261_0.out)
                           rintro e w52 ⟨v263, rfl, ho0, hb⟩
                           have HS0_ := (hb.cell (World.block_lt_of_cell? _ _ (hHeld.1))).trans (hHeld.1)
                           have HS1_ := (hb.cell (World.block_lt_of_cell? _ _ (hHeld.2))).trans (hHeld.2)
                           refine ⟨_, rfl, ?_⟩
                           replace HO_0 := ve HO_0 ho0 hb
                           replace HO_1 := ve HO_1 ho0 hb
                           replace HL260_0 := ve HL260_0 ho0 hb
                           replace HL261_0 := ve HL261_0 ho0 hb
                           have HO264 := akk (Kd.N_lower (Kd.N_mono (ok' := fun k_ => ((P0_ k_ ∨ P1_ k_) ∨ w.heap.size ≤ k_) ∧ some k_ ≠ (u20 : Value).ownBlock ∧ some k_ ≠ (v251 : Value).ownBlock) ho0 (fun k_ hk_ => ⟨Or.elim hk_ (fun hs_ => Or.elim hs_ (fun hs_ => hs_.1) (fun hs_ => hs_.1)) (fun hn_ => (.inr (Nat.le_trans (below_size bT) hn_))), Or.elim hk_ (fun hs_ => Or.elim hs_ (fun hs_ => hs_.2.1) (fun hs_ => hs_.2.1)) (fun hn_ => (Kd.fresh' (Kd.N_lt (nT HO_20.out)) k_ hn_)), Or.elim hk_ (fun hs_ => Or.elim hs_ (fun hs_ => hs_.2.2) (fun hs_ => hs_.2.2)) (fun hn_ => (Kd.fresh' (Kd.R_lt (rT HO_22.out)) k_ hn_))⟩)) (below_size bT))
                           replace HO_20 := ne HO_20 ho0 hb
                           replace HO_22 := rb HO_22 hb
                           replace HR253_0 := cb HR253_0 hb
                           replace HR260_0 := cb HR260_0 hb
                           replace HR261_0 := cb HR261_0 hb
                           replace HB := bb HB hb
                           (try clear hb)
                           (try clear hb2)
                           (try clear hk)
                           (try clear hi)
                           (try clear ho0)
                           refine hK.out _ _ ⟨HS0_, HS1_⟩ (fun hHeld => ?_)
                           clear hK K
                           refine norm_ (a' := ?_) ?_ ?_
                           rotate_left
                           ·show Act.put _ (some 132) _ = _
                            simp only [Act.put, List.setIfInBounds_toArray, List.set_cons_zero, List.set_cons_succ, i64_w, i32_w]
                            rfl
                           refine pT 9 29 (bm 10 1023) ?_
                           refine done_ (done_of HT_.out (by kernel_rfl)) ?_
                           obtain ⟨Ao53, co53, eo53⟩ := Kd.N_slice HO264.out
                           subst eo53
                           try go_wp2_with (refine gT 40 (some 136) Tryz.func40 #[.slice A4 l4.length c4, .slice Ao53 t262.length co53] ?_; (with_reducible refine (r22_Holds.calls _ _ l4 _ _ t262 false t266 _ ?_ ?_ ?_ ?_ A42.out).mono ?_); exact cT HR4.out; exact HC4.out; exact cV (Kd.N_reads' HO264.out).2.2; exact (Kd.N_reads' HO264.out).2.1; rintro e w54 ⟨rfl, hb⟩; refine ⟨_, rfl, ?_⟩; replace HO_0 := vb HO_0 hb; replace HO_1 := vb HO_1 hb; replace HO_20 := nb HO_20 hb; replace HO_22 := rb HO_22 hb; replace HL260_0 := vb HL260_0 hb; replace HL261_0 := vb HL261_0 hb; replace HO264 := nb HO264 hb; replace HR253_0 := cb HR253_0 hb; replace HR260_0 := cb HR260_0 hb; replace HR261_0 := cb HR261_0 hb; replace HB := bb HB hb; clear hb)
                           go_roundg kj27
                           case measure => have := HJ5.out; have := HK2.out; have := HK3.out; have := HK4.out; have := HK5.out; have := HJ27.out; omega
                           case rel => exact ⟨(x20_5), (wrap64 (x25_5 + 1)), eT, H', ⟨by have := HJ5.out; have := HK2.out; have := HK3.out; have := HK4.out; have := HK5.out; have := HJ27.out; omega⟩, ⟨vT' (Kd.V_mono HO_0.out (fun _ hk => ⟨hk.1.1, ⟨hk.1.2.1, hk.1.2.2⟩⟩))⟩, ⟨vT' (Kd.V_mono HO_1.out (fun _ hk => ⟨hk.1.1, ⟨hk.1.2.1, hk.1.2.2⟩⟩))⟩, ⟨nT' (Kd.N_mono HO_20.out (fun _ hk => ⟨hk.1.1, hk.1.2⟩))⟩, ⟨rT HO_22.out⟩, ⟨bT⟩⟩
                         ·rw [if_neg c43] at H
                          have c43b0 : (t266 == 0) = false := beq_eq_false_iff_ne.mpr c43
                          have c43b1 : (t266 != 0) = true := bne_iff_ne.mpr c43
                          simp only [Option.some.injEq, Prod.mk.injEq] at H
                          obtain ⟨rfl, rfl⟩ := H
                          try go_wp2
                          replace HO_0 := akk (Kd.V_drew HO_0.out)
                          replace HO_1 := akk (Kd.V_drew HO_1.out)
                          replace HO_20 := akk (Kd.N_drew HO_20.out)
                          replace HO_22 := akk (Kd.R_drew HO_22.out)
                          replace HR253_0 := akk (Kd.C_drew HR253_0.out)
                          replace HB := akk (below_drew1 HB.out)
                          obtain ⟨ad260, A260_0, c260_0, e260, hx260_0, HL260_0, HR260_0, HC260_0, p260, q260⟩ := gV6 HO_0 x21_4
                          obtain rfl : ad247 = ad260 := (by injection e260)
                          obtain ⟨ad261, A261_0, c261_0, e261, hx261_0, HL261_0, HR261_0, HC261_0, p261, q261⟩ := gV6 HO_1 x25_5
                          obtain rfl : ad253 = ad261 := (by injection e261)
                          refine start_ (n := 10) (S := fun w' => w'.cell? (ad247.add (x21_4).toNat) = some (.slice A260_0 (rd_L6 l0 x21_4).length c260_0) ∧ w'.cell? (ad253.add (x25_5).toNat) = some (.slice A261_0 (rd_L6 l1 x25_5).length c261_0)) (ds := []) #[false, false, false, false, false, false, false, false, false, false] (by kernel_rfl) rfl rfl ⟨hx260_0, hx261_0⟩ (fun hHeld => ?_); refine with_tabW r27_Keyed.tab25 r27_Keyed.bits25 (fun HT_ HW_ => ?_)
                          generalize wc.drew = w55 at HO_0 HO_1 HO_20 HO_22 HR253_0 HB HL260_0 HL261_0 HR260_0 HR261_0 hx260_0 hx261_0 hHeld ⊢
                          refine pT 0 124 (bm 10 1) ?_
                          refine pT 1 125 (bm 10 3) ?_
                          refine pT 2 126 (bm 10 7) ?_
                          refine pT 4 128 (bm 10 23) ?_
                          refine pT 5 129 (bm 10 55) ?_
                          refine pT 6 130 (bm 10 119) ?_
                          refine tT2 3 127 (bm 10 127) hHeld ?_
                          refine tT2 7 131 (bm 10 255) hHeld ?_
                          refine one_ (i := 8) (N := some 132) #[true, true, true, true, true, true, true, true, true, false] rfl rfl (one_of HT_.out (by kernel_rfl)) (by decide) (fun K hK => ?_)
                          refine goes_ Tryz.func11 (by kernel_rfl) rfl #[.slice A260_0 (rd_L6 l0 x21_4).length c260_0, .slice A261_0 (rd_L6 l1 x25_5).length c261_0] (by rfl) rfl rfl mT ?_
                          with_reducible refine (r27_Union.calls kj27 (fun k_ => (((P0_ k_ ∨ P1_ k_) ∨ w.heap.size ≤ k_) ∧ (some k_ ≠ (u20 : Value).ownBlock ∧ some k_ ≠ (v251 : Value).ownBlock))) _ _ (rd_L6 l0 x21_4) (fun k_ => (((P0_ k_ ∨ P1_ k_) ∨ w.heap.size ≤ k_) ∧ (some k_ ≠ (u20 : Value).ownBlock ∧ some k_ ≠ (v251 : Value).ownBlock))) _ _ (rd_L6 l1 x25_5) t262 _ ?side1 ?side2 A41.out).mono ?_
                          (case side1 => exact HL260_0.out)
                          (case side2 => exact HL261_0.out)
                          rintro e w56 ⟨v263, rfl, ho0, hb⟩
                          have HS0_ := (hb.cell (World.block_lt_of_cell? _ _ (hHeld.1))).trans (hHeld.1)
                          have HS1_ := (hb.cell (World.block_lt_of_cell? _ _ (hHeld.2))).trans (hHeld.2)
                          refine ⟨_, rfl, ?_⟩
                          replace HO_0 := ve HO_0 ho0 hb
                          replace HO_1 := ve HO_1 ho0 hb
                          replace HL260_0 := ve HL260_0 ho0 hb
                          replace HL261_0 := ve HL261_0 ho0 hb
                          have HO264 := akk (Kd.N_lower (Kd.N_mono (ok' := fun k_ => ((P0_ k_ ∨ P1_ k_) ∨ w.heap.size ≤ k_) ∧ some k_ ≠ (u20 : Value).ownBlock ∧ some k_ ≠ (v251 : Value).ownBlock) ho0 (fun k_ hk_ => ⟨Or.elim hk_ (fun hs_ => Or.elim hs_ (fun hs_ => hs_.1) (fun hs_ => hs_.1)) (fun hn_ => (.inr (Nat.le_trans (below_size bT) hn_))), Or.elim hk_ (fun hs_ => Or.elim hs_ (fun hs_ => hs_.2.1) (fun hs_ => hs_.2.1)) (fun hn_ => (Kd.fresh' (Kd.N_lt (nT HO_20.out)) k_ hn_)), Or.elim hk_ (fun hs_ => Or.elim hs_ (fun hs_ => hs_.2.2) (fun hs_ => hs_.2.2)) (fun hn_ => (Kd.fresh' (Kd.R_lt (rT HO_22.out)) k_ hn_))⟩)) (below_size bT))
                          replace HO_20 := ne HO_20 ho0 hb
                          replace HO_22 := rb HO_22 hb
                          replace HR253_0 := cb HR253_0 hb
                          replace HR260_0 := cb HR260_0 hb
                          replace HR261_0 := cb HR261_0 hb
                          replace HB := bb HB hb
                          (try clear hb)
                          (try clear hb2)
                          (try clear hk)
                          (try clear hi)
                          (try clear ho0)
                          refine hK.out _ _ ⟨HS0_, HS1_⟩ (fun hHeld => ?_)
                          clear hK K
                          refine norm_ (a' := ?_) ?_ ?_
                          rotate_left
                          ·show Act.put _ (some 132) _ = _
                           simp only [Act.put, List.setIfInBounds_toArray, List.set_cons_zero, List.set_cons_succ, i64_w, i32_w]
                           rfl
                          refine pT 9 29 (bm 10 1023) ?_
                          refine done_ (done_of HT_.out (by kernel_rfl)) ?_
                          obtain ⟨Ao57, co57, eo57⟩ := Kd.N_slice HO264.out
                          subst eo57
                          try go_wp2_with (refine gT 40 (some 136) Tryz.func40 #[.slice A4 l4.length c4, .slice Ao57 t262.length co57] ?_; (with_reducible refine (r22_Holds.calls _ _ l4 _ _ t262 t265 t266 _ ?_ ?_ ?_ ?_ A42.out).mono ?_); exact cT HR4.out; exact HC4.out; exact cV (Kd.N_reads' HO264.out).2.2; exact (Kd.N_reads' HO264.out).2.1; rintro e w58 ⟨rfl, hb⟩; refine ⟨_, rfl, ?_⟩; replace HO_0 := vb HO_0 hb; replace HO_1 := vb HO_1 hb; replace HO_20 := nb HO_20 hb; replace HO_22 := rb HO_22 hb; replace HL260_0 := vb HL260_0 hb; replace HL261_0 := vb HL261_0 hb; replace HO264 := nb HO264 hb; replace HR253_0 := cb HR253_0 hb; replace HR260_0 := cb HR260_0 hb; replace HR261_0 := cb HR261_0 hb; replace HB := bb HB hb; clear hb)
                          go_ret2
                          exact ⟨_, fT, zT, bT⟩
                        ·rw [if_neg c40] at H
                         exact absurd H (by simp)
                       ·rw [if_neg c39] at H
                        exact absurd H (by simp)
                      ·rw [if_neg c38] at H
                       exact absurd H (by simp)
                     ·rw [if_neg c37] at H
                      exact absurd H (by simp)
                 ·rw [if_neg c26] at H
                  exact absurd H (by simp)
                ·rw [if_neg c25] at H
                 have c25b0 := decide_eq_false c25
                 clear c25
                 have H' := akk H
                 clear H
                 go_wp2
                 go_roundg k5
                 case measure => have := HJ5.out; have := HK2.out; have := HK3.out; have := HK4.out; have := HK5.out; omega
                 case rel => exact ⟨(x20_5), (wrap64 (x21_4 + 1)), eT, H', ⟨by have := HJ5.out; have := HK2.out; have := HK3.out; have := HK4.out; have := HK5.out; omega⟩, ⟨vT' (Kd.V_mono HO_0.out (fun _ hk => ⟨hk.1, hk.2.1⟩))⟩, ⟨vT' (Kd.V_mono HO_1.out (fun _ hk => ⟨hk.1, hk.2.1⟩))⟩, ⟨nT' (Kd.N_mono HO_20.out (fun _ hk => hk.1))⟩, ⟨bT⟩⟩
             ·rw [if_neg c22] at H
              exact absurd H (by simp)
            ·rw [if_neg c21] at H
             have c21b0 := decide_eq_false c21
             clear c21
             simp only [Option.some.injEq, Prod.mk.injEq] at H
             obtain ⟨rfl, rfl⟩ := H
             go_wp2
             go_ret2
             exact ⟨_, fT, nT' HO_20.out, bT⟩
end Go.Proofs.YtgmolmpfihkolaaGreat.Pj
