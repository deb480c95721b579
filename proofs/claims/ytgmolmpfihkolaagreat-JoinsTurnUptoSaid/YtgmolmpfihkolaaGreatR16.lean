/- Part of the proof. -/
import Derived.Test.YtgmolmpfihkolaaGreatR15
import Derived.Shelf.SlSortCmp.NoneTotal
namespace Go.Proofs.YtgmolmpfihkolaaGreat.Pj
open Go.RowKit Go.Proofs.YtgmolmpfihkolaaGreatW.PrintWords Go.Proofs.YtgmolmpfihkolaaGreatW.PrintLast Go.Proofs.YtgmolmpfihkolaaGreatW.PrintMore
attribute [local go_sem] run_store_flt max2_int min2_int max_two min_two max_three min_three max_four min_four
set_option linter.unusedVariables false
set_option linter.unusedSimpArgs false
mutual
def a27_Great.j0 : Nat → T3 → T3 → Bool → Option (Bool)
 | 0, _, _, _ => none
 | k + 1, x0, x1, x21 => if x21 = true then (some true) else ((some (([] : T3) : T3)).bind fun y112 => (if y112.length + x0.length < 5864062014805 then ((some (y112 ++ x0 : T3)).bind fun y115 => (if y115.length + x1.length < 5864062014805 then ((some (y115 ++ x1 : T3)).bind fun y118 => (a27_Great.l0 k y118 (y118.length : Int) 0)) else (none))) else (none)))
def a27_Great.l0 : Nat → T3 → Int → Int → Option (Bool)
 | 0, _, _, _ => none
 | k + 1, x26, x27, x28 => if x28 < x27 then (if 0 ≤ x28 then (if x28 < (x26.length : Int) then (if ((rd_L6 x26 x28).length : Int) > 13 then (some true) else ((r05_Bulk.f k (rd_L6 x26 x28) 200).bind fun t122 => (if t122 > 200 then (some true) else (a27_Great.l0 k x26 x27 (wrap64 (x28 + 1)))))) else (none)) else (none)) else (some false)
end
def a27_Great.f (k : Nat) (l0 : T3) (l1 : T3) (l2 : List (S53)) : Option (Bool) := if (l0.length : Int) > 30 then (a27_Great.j0 k l0 l1 true) else (if (l1.length : Int) > 30 then (a27_Great.j0 k l0 l1 true) else ((r22_Bulk.f k l2 200).bind fun t111 => (a27_Great.j0 k l0 l1 (decide (t111 > 200)))))
set_option maxHeartbeats 8000000 in
set_option maxRecDepth 100000 in
theorem a27_Great.calls (k : Nat) (P0_ : Nat → Prop) (A0 : Option Addr) (c0 : Nat) (l0 : T3) (P1_ : Nat → Prop) (A1 : Option Addr) (c1 : Nat) (l1 : T3) (A2 : Option Addr) (c2 : Nat) (l2 : List (S53)) (r : Bool) (w : World) (hs0 : Kd.V (Kd.slice 29 (Kd.slice 39 k39)) 22 w w.heap.size (fun k_ => P0_ k_) (.slice A0 l0.length c0) l0) (hs1 : Kd.V (Kd.slice 29 (Kd.slice 39 k39)) 22 w w.heap.size (fun k_ => P1_ k_) (.slice A1 l1.length c1) l1) (hr2 : Kd.C k53 w A2 l2.length l2) (hc2 : l2.length ≤ c2) (h : a27_Great.f k l0 l1 l2 = some r) :
 Calls Tryz.prog 7 #[.slice A0 l0.length c0, .slice A1 l1.length c1, .slice A2 l2.length c2] w fun e w' => e = .returned (.bool r) ∧ Below w.heap.size w w' := by
 have HO0 := akk (show Kd.V (Kd.slice 29 (Kd.slice 39 k39)) 22 w w.heap.size (fun k_ => ((P0_ k_ ∨ P1_ k_) ∨ w.heap.size ≤ k_)) (.slice A0 l0.length c0) l0 from Kd.V_mono hs0 (fun k_ hk => .inl (.inl hk)))
 have HO1 := akk (show Kd.V (Kd.slice 29 (Kd.slice 39 k39)) 22 w w.heap.size (fun k_ => ((P0_ k_ ∨ P1_ k_) ∨ w.heap.size ≤ k_)) (.slice A1 l1.length c1) l1 from Kd.V_mono hs1 (fun k_ hk => .inl (.inr hk)))
 have HR2 := akk hr2
 have HC2 := akk hc2
 clear hr2 hc2
 have HB := akk (Below.refl w.heap.size w)
 have H : (if (l0.length : Int) > 30 then (a27_Great.j0 k l0 l1 true) else (if (l1.length : Int) > 30 then (a27_Great.j0 k l0 l1 true) else ((r22_Bulk.f k l2 200).bind fun t111 => (a27_Great.j0 k l0 l1 (decide (t111 > 200)))))) = some r := h
 clear h
 have HC4 := akk H
 clear H
 go_enter Tryz.func7, Tryz.ntmps7
 go_upto_region 1 with (fail)
 go_cut [21] (fun v21 wc => ∃ (kq : Nat) (x21_3 : Bool), v21 = .bool x21_3 ∧ Aside0 (a27_Great.j0 kq l0 l1 x21_3 = some r) ∧ Aside0 (kq ≤ k) ∧ Aside0 (Kd.V (Kd.slice 29 (Kd.slice 39 k39)) 22 wc w.heap.size (fun k_ => ((P0_ k_ ∨ P1_ k_) ∨ w.heap.size ≤ k_)) (.slice A0 l0.length c0) l0) ∧ Aside0 (Kd.V (Kd.slice 29 (Kd.slice 39 k39)) 22 wc w.heap.size (fun k_ => ((P0_ k_ ∨ P1_ k_) ∨ w.heap.size ≤ k_)) (.slice A1 l1.length c1) l1) ∧ Aside0 (Below w.heap.size w wc))
 case first =>
  have H := HC4.out
  clear HC4
  by_cases c5 : (l0.length : Int) > 30
  ·rw [if_pos c5] at H
   have c5b0 := decide_eq_true c5
   have c5b1 : decide (30 < l0.length) = true := decide_eq_true (by omega)
   clear c5
   (first | rw [c5b0] | (simp only [i64_w, i32_w]; rw [c5b0]) | skip)
   have H' := akk H
   clear H
   go_wp2
   go_meet
   case rel => exact ⟨_, (true), eT, H', ⟨by first | omega | exact Nat.le_refl _⟩, ⟨vT HO0.out⟩, ⟨vT HO1.out⟩, ⟨bT⟩⟩
  ·rw [if_neg c5] at H
   have c5b0 := decide_eq_false c5
   have c5b1 : decide (30 < l0.length) = false := decide_eq_false (by omega)
   clear c5
   (first | rw [c5b0] | (simp only [i64_w, i32_w]; rw [c5b0]) | skip)
   by_cases c6 : (l1.length : Int) > 30
   ·rw [if_pos c6] at H
    have c6b0 := decide_eq_true c6
    have c6b1 : decide (30 < l1.length) = true := decide_eq_true (by omega)
    clear c6
    have H' := akk H
    clear H
    go_wp2
    go_meet
    case rel => exact ⟨_, (true), eT, H', ⟨by first | omega | exact Nat.le_refl _⟩, ⟨vT HO0.out⟩, ⟨vT HO1.out⟩, ⟨bT⟩⟩
   ·rw [if_neg c6] at H
    have c6b0 := decide_eq_false c6
    have c6b1 : decide (30 < l1.length) = false := decide_eq_false (by omega)
    clear c6
    obtain ⟨t111, A7, H⟩ := bi H
    try dsimp only at H
    have H' := akk H
    clear H
    go_wp2_with (go_at_call 28; (with_reducible refine (r22_Bulk.calls k _ _ l2 200 t111 _ ?_ ?_ A7.out).mono ?_); exact cT HR2.out; exact HC2.out; rintro e w' ⟨rfl, ⟨nd, rfl⟩⟩)
    go_meet
    case rel => exact ⟨_, (decide (t111 > 200)), eT, H', ⟨by first | omega | exact Nat.le_refl _⟩, ⟨vT HO0.out⟩, ⟨vT HO1.out⟩, ⟨bT⟩⟩
 case rest =>
  clear HC4
  try clear c1
  obtain ⟨kq, x21_3, rfl, HA, HJ3, HO_0, HO_1, HB⟩ := hcut
  cases kq with
  | zero => exact absurd HA.out (by simp [a27_Great.j0])
  | succ kj3 =>
   have H := HA.out
   clear HA
   simp only [a27_Great.j0] at H
   by_cases c8 : x21_3 = true
   ·subst c8
    rw [if_pos rfl] at H
    obtain rfl := Option.some.inj H
    go_wp2
    go_ret
    exact ⟨fT, bT⟩
   ·replace c8 := Bool.eq_false_iff.mpr c8
    subst c8
    rw [if_neg (show ¬ (false = true) by decide)] at H
    obtain ⟨y112, hy112⟩ : ∃ y_ : T3, y_ = (([] : T3)) := ⟨_, rfl⟩
    replace H : (if y112.length + l0.length < 5864062014805 then ((some (y112 ++ l0 : T3)).bind fun y115 => (if y115.length + l1.length < 5864062014805 then ((some (y115 ++ l1 : T3)).bind fun y118 => (a27_Great.l0 kj3 y118 (y118.length : Int) 0)) else (none))) else (none)) = some r := jT hy112 H
    have Ny112 := akk hy112
    clear hy112
    by_cases c9 : y112.length + l0.length < 5864062014805
    ·rw [if_pos c9] at H
     have LMc9 := akk c9
     clear c9
     obtain ⟨y115, hy115⟩ : ∃ y_ : T3, y_ = (y112 ++ l0) := ⟨_, rfl⟩
     replace H : (if y115.length + l1.length < 5864062014805 then ((some (y115 ++ l1 : T3)).bind fun y118 => (a27_Great.l0 kj3 y118 (y118.length : Int) 0)) else (none)) = some r := jT hy115 H
     have Ny115 := akk hy115
     clear hy115
     by_cases c10 : y115.length + l1.length < 5864062014805
     ·rw [if_pos c10] at H
      have LMc10 := akk c10
      clear c10
      obtain ⟨y118, hy118⟩ : ∃ y_ : T3, y_ = (y115 ++ l1) := ⟨_, rfl⟩
      replace H : (a27_Great.l0 kj3 y118 (y118.length : Int) 0) = some r := jT hy118 H
      have Ny118 := akk hy118
      clear hy118
      have H' := akk H
      clear H
      go_wp2_with (first | ((with_reducible refine gate_dst (N := 22) rfl ?_); (try (refine gate_guard (by rfl) ?_; dsimp only)); refine Kd.N_lit (Kd.slice 29 (Kd.slice 39 k39)) _ 22 ?hg (N' := 22) ?hd (xs := ([] : T3)) (inner := []) (ok := (fun k_ => ((P0_ k_ ∨ P1_ k_) ∨ w.heap.size ≤ k_))) (okp := (fun k_ => ((P0_ k_ ∨ P1_ k_) ∨ w.heap.size ≤ k_))) ?hr ?hp (fun _ hk => hk) ((show ∀ k_, wc.heap.size ≤ k_ → (fun k_ => ((P0_ k_ ∨ P1_ k_) ∨ w.heap.size ≤ k_)) k_ from fun k_ hk => (.inr (Nat.le_trans (below_size bT) hk))) _ (Nat.le_refl _)) (Below.refl _ _) (Nat.le_refl _) (by simp) ?_; (case hd => rfl); (case hg => rfl); (case hr => first | (go_simp; done) | (go_simp; rfl)); (case hp => exact (Reps.none _ _)); intro v113 w11 ho12 hb hg_ hnew_; clear hg_ hnew_; (first | rw [← Ny112.out] at ho12 | (simp only [Int.reduceToNat] at ho12; rw [← Ny112.out] at ho12)); replace HO_0 := ve HO_0 ho12 hb; replace HO_1 := ve HO_1 ho12 hb; have HO114 := akk (Kd.N_lower ho12 (below_size bT)); replace HB := bb HB hb; clear hb ho12) | ((with_reducible refine gA #[.tmp 22, .tmp 23] rfl ?_); (try (refine gate_guard (by rfl) ?_; dsimp only)); at_builtin; refine Kd.N_append_rows (Kd.slice 29 (Kd.slice 39 k39)) (w0 := w) w.heap.size rfl (.tmp 22) (.tmp 23) 25 22 (.slice none 0 0) 24 rfl Tryz.underlying25 info22 rfl (by decide) (by omega) v113 y112 l0 _ _ _ (fun k_ => ((P0_ k_ ∨ P1_ k_) ∨ w.heap.size ≤ k_)) (fun k_ => ((fun k_ => ((P0_ k_ ∨ P1_ k_) ∨ w.heap.size ≤ k_))) k_ ∧ some k_ ≠ (v113 : Value).ownBlock) rfl rfl ?aO ?aR (fun _ hk => hk) ?aF ?aB ?aS ?aL ?_; (case aR => exact (by skip; exact Kd.V_F (Kd.V_mono (ok' := (fun k_ => ((fun k_ => ((P0_ k_ ∨ P1_ k_) ∨ w.heap.size ≤ k_))) k_ ∧ some k_ ≠ (v113 : Value).ownBlock)) (HO_0.out) (fun k_ hk => ⟨hk.1, hk.2⟩)))); (case aB => exact bT); (case aF => exact (fun k_ hk => (.inr (Nat.le_trans (below_size bT) hk)))); (case aO => exact (nT HO114.out)); (case aS => exact (below_size bT)); (case aL => have := LMc9.out; omega); intro v116 w13 ho hb hg hat; rw [← Ny115.out] at ho; replace HO_0 := va HO_0 hg hat; replace HO_1 := va HO_1 hg hat; replace HB := akk (hb); have HO117 := akk (ho); clear HO114; clear ho hb hg hat) | ((with_reducible refine gA #[.tmp 24, .tmp 25] rfl ?_); (try (refine gate_guard (by rfl) ?_; dsimp only)); at_builtin; refine Kd.N_append_rows (Kd.slice 29 (Kd.slice 39 k39)) (w0 := w) w.heap.size rfl (.tmp 24) (.tmp 25) 25 22 (.slice none 0 0) 24 rfl Tryz.underlying25 info22 rfl (by decide) (by omega) v116 y115 l1 _ _ _ (fun k_ => ((P0_ k_ ∨ P1_ k_) ∨ w.heap.size ≤ k_)) (fun k_ => ((fun k_ => ((P0_ k_ ∨ P1_ k_) ∨ w.heap.size ≤ k_))) k_ ∧ some k_ ≠ (v116 : Value).ownBlock) rfl rfl ?aO ?aR (fun _ hk => hk) ?aF ?aB ?aS ?aL ?_; (case aR => exact (by skip; exact Kd.V_F (Kd.V_mono (ok' := (fun k_ => ((fun k_ => ((P0_ k_ ∨ P1_ k_) ∨ w.heap.size ≤ k_))) k_ ∧ some k_ ≠ (v116 : Value).ownBlock)) (HO_1.out) (fun k_ hk => ⟨hk.1, hk.2⟩)))); (case aB => exact bT); (case aF => exact (fun k_ hk => (.inr (Nat.le_trans (below_size bT) hk)))); (case aO => exact (nT HO117.out)); (case aS => exact (below_size bT)); (case aL => have := LMc10.out; omega); intro v119 w14 ho hb hg hat; rw [← Ny118.out] at ho; replace HO_0 := va HO_0 hg hat; replace HO_1 := va HO_1 hg hat; replace HB := akk (hb); have HO120 := akk (ho); clear HO117; clear ho hb hg hat; obtain ⟨Ao15, co15, eo15⟩ := Kd.N_slice HO120.out; subst eo15))
      go_loopg [28] kj3 (fun kq v28 w' => ∃ (x28_2 : Int), v28 = .int .i64 x28_2 ∧ Aside0 (a27_Great.l0 kq y118 (y118.length : Int) x28_2 = some r) ∧ Aside0 (kq ≤ kj3) ∧ Aside0 (Kd.N (Kd.slice 29 (Kd.slice 39 k39)) 22 w' w.heap.size (fun k_ => ((P0_ k_ ∨ P1_ k_) ∨ w.heap.size ≤ k_)) (.slice Ao15 y118.length co15) y118) ∧ Aside0 (Below w.heap.size w w'))
      case atStart => exact ⟨(0), eT, H', ⟨Nat.le_refl _⟩, ⟨nT HO120.out⟩, ⟨bT⟩⟩
      case round =>
       clear H'
       try clear c8
       obtain ⟨x28_2, rfl, HA, HK2, HO_26, HB⟩ := hrel
       cases gk with
       | zero => exact absurd HA.out (by simp [a27_Great.l0])
       | succ k2 =>
        have H := HA.out
        clear HA
        simp only [a27_Great.l0] at H
        by_cases c16 : x28_2 < (y118.length : Int)
        ·rw [if_pos c16] at H
         have c16b0 := decide_eq_true c16
         clear c16
         by_cases c17 : 0 ≤ x28_2
         ·rw [if_pos c17] at H
          have c17b0 := decide_eq_true c17
          clear c17
          by_cases c18 : x28_2 < (y118.length : Int)
          ·rw [if_pos c18] at H
           have c18b0 := decide_eq_true c18
           clear c18
           by_cases c19 : ((rd_L6 y118 x28_2).length : Int) > 13
           ·rw [if_pos c19] at H
            have c19b0 := decide_eq_true c19
            have c19b1 : decide (13 < (rd_L6 y118 x28_2).length) = true := decide_eq_true (by omega)
            clear c19
            obtain rfl := Option.some.inj H
            obtain ⟨ad121, A121_0, c121_0, rfl, hx121_0, HL121_0, HR121_0, HC121_0, p121, q121⟩ := gN6 HO_26 x28_2
            go_wp2
            go_ret
            exact ⟨fT, bT⟩
           ·rw [if_neg c19] at H
            have c19b0 := decide_eq_false c19
            have c19b1 : decide (13 < (rd_L6 y118 x28_2).length) = false := decide_eq_false (by omega)
            clear c19
            obtain ⟨t122, A20, H⟩ := bi H
            try dsimp only at H
            by_cases c21 : t122 > 200
            ·rw [if_pos c21] at H
             have c21b0 := decide_eq_true c21
             clear c21
             obtain rfl := Option.some.inj H
             obtain ⟨ad121, A121_0, c121_0, rfl, hx121_0, HL121_0, HR121_0, HC121_0, p121, q121⟩ := gN6 HO_26 x28_2
             go_wp2_with (go_at_call 29; (with_reducible refine (r05_Bulk.calls k2 _ _ (rd_L6 y118 x28_2) 200 t122 _ ?_ ?_ A20.out).mono ?_); exact cV HR121_0.out; exact HC121_0.out; rintro e w' ⟨rfl, ⟨nd, rfl⟩⟩)
             go_ret
             exact ⟨fT, bT⟩
            ·rw [if_neg c21] at H
             have c21b0 := decide_eq_false c21
             clear c21
             have H' := akk H
             clear H
             obtain ⟨ad121, A121_0, c121_0, rfl, hx121_0, HL121_0, HR121_0, HC121_0, p121, q121⟩ := gN6 HO_26 x28_2
             go_wp2_with (go_at_call 29; (with_reducible refine (r05_Bulk.calls k2 _ _ (rd_L6 y118 x28_2) 200 t122 _ ?_ ?_ A20.out).mono ?_); exact cV HR121_0.out; exact HC121_0.out; rintro e w' ⟨rfl, ⟨nd, rfl⟩⟩)
             go_roundg k2
             case measure => have := HJ3.out; have := HK2.out; omega
             case rel => exact ⟨(wrap64 (x28_2 + 1)), eT, H', ⟨by have := HJ3.out; have := HK2.out; omega⟩, ⟨nT HO_26.out⟩, ⟨bT⟩⟩
          ·rw [if_neg c18] at H
           exact absurd H (by simp)
         ·rw [if_neg c17] at H
          exact absurd H (by simp)
        ·rw [if_neg c16] at H
         have c16b0 := decide_eq_false c16
         clear c16
         obtain rfl := Option.some.inj H
         go_wp2
         go_ret
         exact ⟨fT, bT⟩
     ·rw [if_neg c10] at H
      exact absurd H (by simp)
    ·rw [if_neg c9] at H
     exact absurd H (by simp)
end Go.Proofs.YtgmolmpfihkolaaGreat.Pj
namespace Go.Proofs
open Go.Shelf
def Tryz.sortPairs_ren : Go.Shelf.Ren := ⟨fun | 6 => 48 | 15 => 76 | 14 => 75 | 28 => 109 | 29 => 110 | 20 => 101 | 21 => 102 | 22 => 103 | 23 => 104 | 24 => 105 | 25 => 106 | 26 => 107 | 27 => 108 | 46 => 126 | 47 => 127 | 48 => 128 | 49 => 129 | 50 => 130 | 57 => 141 | n => n, fun | 22 => 69 | 24 => 71 | 25 => 89 | 3 => 3 | 39 => 110 | 0 => 0 | 53 => 137 | 55 => 97 | 4 => 4 | 46 => 130 | 45 => 129 | 50 => 134 | 5 => 5 | 9 => 9 | 66 => 146 | 70 => 150 | 76 => 158 | 77 => 159 | n => n, fun | n => n⟩
theorem Tryz.sortPairs : Go.Proofs.SlLaysF0.n6 Tryz.prog Tryz.sortPairs_ren := {
 mixed := by kernel_rfl
 f6 := ⟨Tryz.f48.name, by decide, Tryz.func48.trans (congrArg some (by kernel_rfl))⟩
 f14 := ⟨Tryz.f75.name, by decide, Tryz.func75.trans (congrArg some (by kernel_rfl))⟩
 f15 := Tryz.func76.trans (congrArg some (by kernel_rfl))
 f20 := ⟨Tryz.f101.name, by decide, Tryz.func101.trans (congrArg some (by kernel_rfl))⟩
 f21 := ⟨Tryz.f102.name, by decide, Tryz.func102.trans (congrArg some (by kernel_rfl))⟩
 f22 := ⟨Tryz.f103.name, by decide, Tryz.func103.trans (congrArg some (by kernel_rfl))⟩
 f23 := ⟨Tryz.f104.name, by decide, Tryz.func104.trans (congrArg some (by kernel_rfl))⟩
 f24 := ⟨Tryz.f105.name, by decide, Tryz.func105.trans (congrArg some (by kernel_rfl))⟩
 f25 := ⟨Tryz.f106.name, by decide, Tryz.func106.trans (congrArg some (by kernel_rfl))⟩
 f26 := ⟨Tryz.f107.name, by decide, Tryz.func107.trans (congrArg some (by kernel_rfl))⟩
 f27 := ⟨Tryz.f108.name, by decide, Tryz.func108.trans (congrArg some (by kernel_rfl))⟩
 f28 := Tryz.func109.trans (congrArg some (by kernel_rfl))
 f29 := Tryz.func110.trans (congrArg some (by kernel_rfl))
 f46 := ⟨Tryz.f126.name, by decide, Tryz.func126.trans (congrArg some (by kernel_rfl))⟩
 f47 := Tryz.func127.trans (congrArg some (by kernel_rfl))
 f48 := Tryz.func128.trans (congrArg some (by kernel_rfl))
 f49 := ⟨Tryz.f129.name, by decide, Tryz.func129.trans (congrArg some (by kernel_rfl))⟩
 f50 := ⟨Tryz.f130.name, by decide, Tryz.func130.trans (congrArg some (by kernel_rfl))⟩
 f57 := ⟨Tryz.f141.name, by decide, Tryz.func141.trans (congrArg some (by kernel_rfl))⟩
 t0 := Tryz.underlying0
 a0 := Tryz.isAgg0
 z0 := Tryz.sizeOf0
 v0 := Tryz.zeroValue0
 t3 := Tryz.underlying3
 a3 := Tryz.isAgg3
 z3 := Tryz.sizeOf3
 v3 := Tryz.zeroValue3
 t4 := Tryz.underlying4
 a4 := Tryz.isAgg4
 z4 := Tryz.sizeOf4
 v4 := Tryz.zeroValue4
 t5 := Tryz.underlying5
 a5 := Tryz.isAgg5
 z5 := Tryz.sizeOf5
 v5 := Tryz.zeroValue5
 t9 := Tryz.underlying9
 a9 := Tryz.isAgg9
 z9 := Tryz.sizeOf9
 v9 := Tryz.zeroValue9
 t22 := Tryz.underlying69
 a22 := Tryz.isAgg69
 z22 := Tryz.sizeOf69
 v22 := Tryz.zeroValue69
 t25 := Tryz.underlying89
 a25 := Tryz.isAgg89
 z25 := Tryz.sizeOf89
 v25 := Tryz.zeroValue89
 t39 := Tryz.underlying110
 a39 := Tryz.isAgg110
 z39 := Tryz.sizeOf110
 v39 := Tryz.zeroValue110
 t45 := Tryz.underlying129
 a45 := Tryz.isAgg129
 z45 := Tryz.sizeOf129
 v45 := Tryz.zeroValue129
 t46 := Tryz.underlying130
 a46 := Tryz.isAgg130
 z46 := Tryz.sizeOf130
 v46 := Tryz.zeroValue130
 t50 := Tryz.underlying134
 a50 := Tryz.isAgg134
 z50 := Tryz.sizeOf134
 v50 := Tryz.zeroValue134
 t53 := Tryz.underlying137
 a53 := Tryz.isAgg137
 z53 := Tryz.sizeOf137
 v53 := Tryz.zeroValue137
 t55 := Tryz.underlying97
 a55 := Tryz.isAgg97
 z55 := Tryz.sizeOf97
 v55 := Tryz.zeroValue97
 t66 := Tryz.underlying146
 a66 := Tryz.isAgg146
 z66 := Tryz.sizeOf146
 v66 := Tryz.zeroValue146
 t70 := Tryz.underlying150
 a70 := Tryz.isAgg150
 z70 := Tryz.sizeOf150
 v70 := Tryz.zeroValue150
 t76 := Tryz.underlying158
 a76 := Tryz.isAgg158
 z76 := Tryz.sizeOf158
 v76 := Tryz.zeroValue158
 t77 := Tryz.underlying159
 a77 := Tryz.isAgg159
 z77 := Tryz.sizeOf159
 v77 := Tryz.zeroValue159 }
end Go.Proofs
namespace Go.Proofs.YtgmolmpfihkolaaGreat
open Go.RowKit
set_option linter.unusedVariables false
set_option exponentiation.threshold 4000
theorem bl_trans : ∀ (x y z : List UInt8), Op.bytesLess x y = true → Op.bytesLess y z = true → Op.bytesLess x z = true
 | _, [], _, h, _ => by cases ‹List UInt8› <;> simp [Op.bytesLess] at h
 | _, _ :: _, [], _, h => by simp [Op.bytesLess] at h
 | [], _ :: _, _ :: _, _, _ => by simp [Op.bytesLess]
 | a :: x, b :: y, c :: z, h1, h2 => by
  simp only [Op.bytesLess, Bool.or_eq_true, Bool.and_eq_true, decide_eq_true_eq, beq_iff_eq] at h1 h2 ⊢
  rcases h1 with h1 | ⟨rfl, h1⟩
  ·rcases h2 with h2 | ⟨rfl, h2⟩
   ·exact .inl (UInt8.lt_trans h1 h2)
   ·exact .inl h1
  ·rcases h2 with h2 | ⟨rfl, h2⟩
   ·exact .inl h2
   ·exact .inr ⟨rfl, bl_trans x y z h1 h2⟩
theorem bl_irr : ∀ (x : List UInt8), Op.bytesLess x x = false
 | [] => rfl
 | a :: x => by
  simp only [Op.bytesLess, bl_irr x, Bool.and_false, Bool.or_false, decide_eq_false_iff_not]
  exact UInt8.lt_irrefl a
theorem bl_tri : ∀ (x y : List UInt8), Op.bytesLess x y = true ∨ x = y ∨ Op.bytesLess y x = true
 | [], [] => .inr (.inl rfl)
 | [], _ :: _ => .inl (by simp [Op.bytesLess])
 | _ :: _, [] => .inr (.inr (by simp [Op.bytesLess]))
 | a :: x, b :: y => by
  simp only [Op.bytesLess, Bool.or_eq_true, Bool.and_eq_true, decide_eq_true_eq, beq_iff_eq]
  rcases Nat.lt_trichotomy a.toNat b.toNat with h | h | h
  ·exact .inl (.inl (UInt8.lt_iff_toNat_lt.2 h))
  ·obtain rfl : a = b := UInt8.toNat_inj.1 h
   rcases bl_tri x y with h | h | h
   ·exact .inl (.inr ⟨rfl, h⟩)
   ·exact .inr (.inl (by rw [h]))
   ·exact .inr (.inr (.inr ⟨rfl, h⟩))
  ·exact .inr (.inr (.inl (UInt8.lt_iff_toNat_lt.2 h)))
theorem cmpS_vals (a b : ByteArray) : (cmpS a b = -1 ↔ Op.bytesLess a.toList b.toList = true) ∧ (cmpS a b = 1 ↔ Op.bytesLess b.toList a.toList = true) ∧ (cmpS a b = 0 ↔ a.toList = b.toList) := by
 unfold cmpS
 rcases bl_tri a.toList b.toList with h | h | h
 ·have h2 : Op.bytesLess b.toList a.toList = false := by
   cases e : Op.bytesLess b.toList a.toList with
   | false => rfl
   | true => have := bl_trans _ _ _ h e; rw [bl_irr] at this; cases this
  have h3 : a.toList ≠ b.toList := fun e => by rw [e, bl_irr] at h; cases h
  rw [h, h2]; simp [h3]
 ·rw [h, bl_irr]; simp
 ·have h2 : Op.bytesLess a.toList b.toList = false := by
   cases e : Op.bytesLess a.toList b.toList with
   | false => rfl
   | true => have := bl_trans _ _ _ h e; rw [bl_irr] at this; cases this
  have h3 : a.toList ≠ b.toList := fun e => by rw [e, bl_irr] at h; cases h
  rw [h, h2]; simp [h3]
def magF (M : Nat) : Nat := if M < 4503599627370496 then M else if M < 9218868437227405312 then (4503599627370496 + M % 4503599627370496) * 2 ^ (M / 4503599627370496 - 1) else 2 ^ 2099
def valF (f : Nat) : Int := if nanB f then 2 ^ 2100 else if (f / 9223372036854775808 % 2 == 1) then -(magF (f % 9223372036854775808) : Int) else (magF (f % 9223372036854775808) : Int)
theorem cmp_scale (a b : Int) (k : Nat) (hk : 0 < k) : compare (a * k) (b * k) = compare a b := by
 have hk' : (0 : Int) < k := by omega
 rcases Int.lt_trichotomy a b with h | h | h
 ·rw [Int.compare_eq_lt.2 h, Int.compare_eq_lt]
  exact Int.mul_lt_mul_of_pos_right h hk'
 ·subst h; rw [cmp_self, cmp_self]
 ·rw [Int.compare_eq_gt.2 h, Int.compare_eq_gt]
  exact Int.mul_lt_mul_of_pos_right h hk'
theorem signed_eq (s : Bool) (m k : Nat) : Ieee.signed s m k = if s then -((m * 2 ^ k : Nat) : Int) else ((m * 2 ^ k : Nat) : Int) := by
 unfold Ieee.signed
 rw [Nat.shiftLeft_eq]
theorem signed_scale (s : Bool) (m k j : Nat) : Ieee.signed s m (k + j) = Ieee.signed s m k * ((2 ^ j : Nat) : Int) := by
 rw [signed_eq, signed_eq, Nat.pow_add, ← Nat.mul_assoc]
 cases s
 ·simp only [Bool.false_eq_true, if_false]; rw [Int.natCast_mul (m * 2 ^ k)]
 ·simp only [if_true]; rw [Int.natCast_mul (m * 2 ^ k), Int.neg_mul]
theorem order_num (s t : Bool) (m n : Nat) (i j : Nat) : Ieee.Datum.order (.number s m (-1074 + (i : Int))) (.number t n (-1074 + (j : Int))) = some (compare (Ieee.signed s m i) (Ieee.signed t n j)) := by
 simp only [Ieee.Datum.order]
 congr 1
 obtain ⟨b, hb⟩ : ∃ b : Nat, min (-1074 + (i : Int)) (-1074 + (j : Int)) = -1074 + (b : Int) ∧ b ≤ i ∧ b ≤ j := by
  by_cases h : i ≤ j
  ·exact ⟨i, by omega, by omega, h⟩
  ·exact ⟨j, by omega, by omega, by omega⟩
 rw [hb.1]
 have e1 : (-1074 + (i : Int) - (-1074 + (b : Int))).toNat = i - b := by omega
 have e2 : (-1074 + (j : Int) - (-1074 + (b : Int))).toNat = j - b := by omega
 rw [e1, e2]
 have f1 := signed_scale s m (i - b) b
 have f2 := signed_scale t n (j - b) b
 rw [Nat.sub_add_cancel hb.2.1] at f1
 rw [Nat.sub_add_cancel hb.2.2] at f2
 rw [f1, f2, cmp_scale _ _ _ (Nat.pow_pos (by omega))]
theorem read_form (f : Nat) (h : nanB f = false) : (∃ (s : Bool) (m i : Nat), FloatKind.f64.format.read f = .number s m (-1074 + (i : Int)) ∧ Ieee.signed s m i = valF f ∧ m * 2 ^ i < 2 ^ 2099) ∨
 (∃ s : Bool, FloatKind.f64.format.read f = .infinity s ∧ valF f = if s then -(2 ^ 2099 : Int) else 2 ^ 2099) := by
 unfold nanB at h
 have hM : f % 9223372036854775808 ≤ 9218868437227405312 := by simpa using h
 have hn : nanB f = false := h
 unfold valF
 rw [hn, if_neg (by simp), read_cases]
 generalize (f / 9223372036854775808 % 2 == 1) = s
 generalize f % 9223372036854775808 = M at hM
 unfold magF
 by_cases h1 : M < 4503599627370496
 ·refine .inl ⟨s, M, 0, ?_, ?_, ?_⟩
  ·rw [if_pos h1]; rfl
  ·rw [signed_eq, if_pos h1, Nat.pow_zero, Nat.mul_one]
  ·rw [Nat.pow_zero, Nat.mul_one]
   exact Nat.lt_trans h1 (Nat.lt_of_lt_of_le (show 4503599627370496 < 2 ^ 53 by decide) (Nat.pow_le_pow_right (by omega) (by omega)))
 ·by_cases h2 : M < 9218868437227405312
  ·refine .inl ⟨s, 4503599627370496 + M % 4503599627370496, M / 4503599627370496 - 1, ?_, ?_, ?_⟩
   ·rw [if_neg h1, if_pos h2]
   ·rw [signed_eq, if_neg h1, if_pos h2]
   ·have hm : 4503599627370496 + M % 4503599627370496 < 2 ^ 53 := by
     have := Nat.mod_lt M (show 0 < 4503599627370496 by omega)
     have e : (2 : Nat) ^ 53 = 9007199254740992 := by decide
     omega
    have hi : M / 4503599627370496 - 1 ≤ 2045 := by omega
    calc (4503599627370496 + M % 4503599627370496) * 2 ^ (M / 4503599627370496 - 1)
     < 2 ^ 53 * 2 ^ (M / 4503599627370496 - 1) := Nat.mul_lt_mul_of_pos_right hm (Nat.pow_pos (by omega))
     _ ≤ 2 ^ 53 * 2 ^ 2045 := Nat.mul_le_mul_left _ (Nat.pow_le_pow_right (by omega) hi)
     _ = 2 ^ 2098 := by rw [← Nat.pow_add]
     _ ≤ 2 ^ 2099 := Nat.pow_le_pow_right (by omega) (by omega)
  ·refine .inr ⟨s, ?_, ?_⟩
   ·rw [if_neg h1, if_neg h2, if_pos (by omega)]
   ·rw [if_neg h1, if_neg h2]
    cases s <;> simp
theorem order_val (f g : Nat) (hf : nanB f = false) (hg : nanB g = false) : FloatKind.f64.format.order f g = some (compare (valF f) (valF g)) := by
 unfold Ieee.Format.order
 have lo : ∀ (s : Bool) (m i : Nat), m * 2 ^ i < 2 ^ 2099 → -(2 ^ 2099 : Int) < Ieee.signed s m i ∧ Ieee.signed s m i < 2 ^ 2099 := by
  intro s m i h
  have h' : ((m * 2 ^ i : Nat) : Int) < 2 ^ 2099 := by
   have e : ((2 ^ 2099 : Nat) : Int) = 2 ^ 2099 := by rw [Int.natCast_pow]; rfl
   rw [← e]; exact Int.ofNat_lt.2 h
  rw [signed_eq]
  generalize (2 : Int) ^ 2099 = B at *
  generalize m * 2 ^ i = z at *
  cases s
  ·simp only [Bool.false_eq_true, if_false]; omega
  ·simp only [if_true]; omega
 have hB : (0 : Int) < 2 ^ 2099 := Int.pow_pos (by omega)
 rcases read_form f hf with ⟨s, m, i, e, v, b⟩ | ⟨s, e, v⟩ <;> rcases read_form g hg with ⟨t, n, j, e', v', b'⟩ | ⟨t, e', v'⟩
 ·rw [e, e', order_num, v, v']
 ·rw [e, e', v']
  obtain ⟨l1, l2⟩ := lo s m i b
  rw [v] at l1 l2
  simp only [Ieee.Datum.order]
  generalize (2 : Int) ^ 2099 = B at *
  cases t
  ·simp only [Bool.false_eq_true, if_false]; rw [Int.compare_eq_lt.2 l2]
  ·simp only [if_true]; rw [Int.compare_eq_gt.2 l1]
 ·rw [e, e', v]
  obtain ⟨l1, l2⟩ := lo t n j b'
  rw [v'] at l1 l2
  simp only [Ieee.Datum.order]
  generalize (2 : Int) ^ 2099 = B at *
  cases s
  ·simp only [Bool.false_eq_true, if_false]; rw [Int.compare_eq_gt.2 l2]
  ·simp only [if_true]; rw [Int.compare_eq_lt.2 l1]
 ·rw [e, e', v, v']
  simp only [Ieee.Datum.order]
  generalize (2 : Int) ^ 2099 = B at *
  cases s <;> cases t
  ·simp
  ·simp only [Bool.false_eq_true, if_false, if_true]; rw [Int.compare_eq_gt.2 (by omega)]; rfl
  ·simp only [Bool.false_eq_true, if_false, if_true]; rw [Int.compare_eq_lt.2 (by omega)]; rfl
  ·simp
theorem valF_lt (f : Nat) (h : nanB f = false) : valF f < 2 ^ 2100 := by
 have hB : (0 : Int) < 2 ^ 2099 := Int.pow_pos (by omega)
 have e : (2 : Int) ^ 2100 = 2 * 2 ^ 2099 := by rw [Int.pow_succ]; omega
 rw [e]
 rcases read_form f h with ⟨s, m, i, _, v, b⟩ | ⟨s, _, v⟩
 ·rw [← v, signed_eq]
  have h' : ((m * 2 ^ i : Nat) : Int) < 2 ^ 2099 := by
   have e : ((2 ^ 2099 : Nat) : Int) = 2 ^ 2099 := by rw [Int.natCast_pow]; rfl
   rw [← e]; exact Int.ofNat_lt.2 b
  generalize (2 : Int) ^ 2099 = B at *
  generalize m * 2 ^ i = z at *
  cases s
  ·simp only [Bool.false_eq_true, if_false]; omega
  ·simp only [if_true]; omega
 ·rw [v]
  generalize (2 : Int) ^ 2099 = B at *
  cases s
  ·simp only [Bool.false_eq_true, if_false]; omega
  ·simp only [if_true]; omega
theorem cmpF_val (f g : Nat) : cmpF f g = cmpI (valF f) (valF g) := by
 unfold cmpF cmpI
 cases hf : nanB f <;> cases hg : nanB g
 ·rw [order_val f g hf hg]
  simp only [Bool.false_eq_true, if_false]
  rcases Int.lt_trichotomy (valF f) (valF g) with h | h | h
  ·rw [Int.compare_eq_lt.2 h, if_pos h]; rfl
  ·rw [h, cmp_self, if_neg (Int.lt_irrefl _), if_neg (Int.lt_irrefl _)]; rfl
  ·rw [Int.compare_eq_gt.2 h, if_neg (Int.not_lt.2 (Int.le_of_lt h)), if_pos h]; rfl
 ·have e : valF g = 2 ^ 2100 := by unfold valF; rw [hg]; rfl
  have := valF_lt f hf
  rw [e, if_pos this]; rfl
 ·have e : valF f = 2 ^ 2100 := by unfold valF; rw [hf]; rfl
  have := valF_lt g hg
  simp only [Bool.false_eq_true, if_false, if_true]
  rw [e, if_neg (Int.not_lt.2 (Int.le_of_lt this)), if_pos this]
 ·have e : valF f = 2 ^ 2100 := by unfold valF; rw [hf]; rfl
  have e' : valF g = 2 ^ 2100 := by unfold valF; rw [hg]; rfl
  rw [e, e', if_neg (Int.lt_irrefl _), if_neg (Int.lt_irrefl _)]; rfl
end Go.Proofs.YtgmolmpfihkolaaGreat
namespace Go.Proofs.YtgmolmpfihkolaaGreat
open Go.RowKit
set_option linter.unusedVariables false
theorem cmpI_neg (a b : Int) : cmpI b a = - cmpI a b := by
 unfold cmpI
 by_cases h1 : a < b
 ·rw [if_pos h1, if_neg (by omega), if_pos h1]; rfl
 ·by_cases h2 : b < a
  ·simp [h1, h2]
  ·simp [h1, h2]
theorem cmpI_le (a b : Int) : cmpI a b ≤ 0 ↔ a ≤ b := by
 unfold cmpI
 by_cases h1 : a < b
 ·rw [if_pos h1]; omega
 ·by_cases h2 : b < a
  ·rw [if_neg h1, if_pos h2]; omega
  ·rw [if_neg h1, if_neg h2]; omega
theorem cmpI_trans (a b c : Int) (h1 : cmpI a b ≤ 0) (h2 : cmpI b c ≤ 0) : cmpI a c ≤ 0 := by
 rw [cmpI_le] at *; omega
theorem cmpS_cases (a b : ByteArray) : cmpS a b = -1 ∨ cmpS a b = 0 ∨ cmpS a b = 1 := by
 unfold cmpS
 split
 ·exact .inl rfl
 ·split
  ·exact .inr (.inl rfl)
  ·exact .inr (.inr rfl)
theorem cmpS_neg (a b : ByteArray) : cmpS b a = - cmpS a b := by
 rcases cmpS_cases a b with h | h | h
 ·rw [h, (cmpS_vals b a).2.1.2 ((cmpS_vals a b).1.1 h)]; rfl
 ·rw [h, (cmpS_vals b a).2.2.2 ((cmpS_vals a b).2.2.1 h).symm]; rfl
 ·rw [h, (cmpS_vals b a).1.2 ((cmpS_vals a b).2.1.1 h)]
theorem cmpS_trans (a b c : ByteArray) (h1 : cmpS a b ≤ 0) (h2 : cmpS b c ≤ 0) : cmpS a c ≤ 0 := by
 have k : ∀ x y : ByteArray, cmpS x y ≤ 0 → Op.bytesLess x.toList y.toList = true ∨ x.toList = y.toList := by
  intro x y h
  rcases cmpS_cases x y with e | e | e
  ·exact .inl ((cmpS_vals x y).1.1 e)
  ·exact .inr ((cmpS_vals x y).2.2.1 e)
  ·omega
 rcases k a b h1 with e1 | e1 <;> rcases k b c h2 with e2 | e2
 ·rw [(cmpS_vals a c).1.2 (bl_trans _ _ _ e1 e2)]; omega
 ·rw [(cmpS_vals a c).1.2 (by rw [← e2]; exact e1)]; omega
 ·rw [(cmpS_vals a c).1.2 (by rw [e1]; exact e2)]; omega
 ·rw [(cmpS_vals a c).2.2.2 (e1.trans e2)]; omega
theorem cmpP_neg (a b : Val) : cmpP b a = - cmpP a b := by
 unfold cmpP
 by_cases hk : a.kind = b.kind
 ·simp only [hk, ne_eq, not_true_eq_false, if_false]
  by_cases h3 : b.kind = 3
  ·simp only [h3, if_true]; rw [cmpF_val, cmpF_val]; exact cmpI_neg _ _
  ·simp only [h3, if_false]
   by_cases h4 : b.kind = 4
   ·simp only [h4, if_true]; exact cmpS_neg _ _
   ·simp only [h4, if_false]; exact cmpI_neg _ _
 ·rw [if_pos (fun e => hk e.symm), if_pos hk]; exact cmpI_neg _ _
theorem cmpP_trans (a b c : Val) (h1 : cmpP a b ≤ 0) (h2 : cmpP b c ≤ 0) : cmpP a c ≤ 0 := by
 unfold cmpP at *
 by_cases k1 : a.kind = b.kind
 ·rw [if_neg (by rw [k1]; simp)] at h1
  by_cases k2 : b.kind = c.kind
  ·rw [if_neg (by rw [k2]; simp)] at h2
   rw [if_neg (by rw [k1, k2]; simp)]
   rw [k1] at h1 ⊢
   by_cases e3 : b.kind = 3
   ·rw [if_pos e3, cmpF_val] at *
    exact cmpI_trans _ _ _ h1 h2
   ·rw [if_neg e3] at *
    by_cases e4 : b.kind = 4
    ·rw [if_pos e4] at *
     exact cmpS_trans _ _ _ h1 h2
    ·rw [if_neg e4] at *
     exact cmpI_trans _ _ _ h1 h2
  ·rw [if_pos k2] at h2
   rw [k1, if_pos k2]; exact h2
 ·rw [if_pos k1] at h1
  by_cases k2 : b.kind = c.kind
  ·rw [← k2, if_pos k1]; exact h1
  ·rw [if_pos k2] at h2
   have := cmpI_trans _ _ _ h1 h2
   by_cases k3 : a.kind = c.kind
   ·exfalso
    rw [cmpI_le] at h1 h2
    omega
   ·rw [if_pos k3]; exact this
theorem cmpV_neg (a b : Val) : cmpV b a = - cmpV a b := cmpP_neg _ _
theorem cmpV_trans (a b c : Val) (h1 : cmpV a b ≤ 0) (h2 : cmpV b c ≤ 0) : cmpV a c ≤ 0 := cmpP_trans _ _ _ h1 h2
theorem cmpRow_neg : ∀ a b : List Val, cmpRow b a = - cmpRow a b
 | [], [] => rfl
 | [], _ :: _ => rfl
 | _ :: _, [] => rfl
 | a :: s, b :: t => by
  simp only [cmpRow]
  have h := cmpV_neg a b
  by_cases e : cmpV a b = 0
  ·rw [if_neg (by omega), if_neg (by omega)]; exact cmpRow_neg s t
  ·rw [if_pos (by omega), if_pos (by omega)]; exact h
theorem cmpRow_trans : ∀ a b c : List Val, cmpRow a b ≤ 0 → cmpRow b c ≤ 0 → cmpRow a c ≤ 0
 | [], [], [], _, _ => by simp [cmpRow]
 | [], _, _ :: _, _, _ => by simp [cmpRow]
 | [], _ :: _, [], _, _ => by simp [cmpRow]
 | _ :: _, [], _, h, _ => by simp [cmpRow] at h
 | _ :: _, _ :: _, [], _, h => by simp [cmpRow] at h
 | a :: s, b :: t, c :: u, h1, h2 => by
  simp only [cmpRow] at h1 h2 ⊢
  have n1 := cmpV_neg a b
  have n2 := cmpV_neg b c
  have n3 := cmpV_neg a c
  by_cases e1 : cmpV a b = 0
  ·by_cases e2 : cmpV b c = 0
   ·have t1 := cmpV_trans a b c (by omega) (by omega)
    have t2 := cmpV_trans c b a (by omega) (by omega)
    rw [if_neg (by omega)] at h1 h2 ⊢
    exact cmpRow_trans s t u h1 h2
   ·rw [if_pos (by omega)] at h2
    have t1 := cmpV_trans a b c (by omega) (by omega)
    have t2 : ¬ cmpV a c = 0 := fun e => by
     have := cmpV_trans c a b (by omega) (by omega)
     omega
    rw [if_pos t2]; exact t1
  ·rw [if_pos (by omega)] at h1
   have h2' : cmpV b c ≤ 0 := by
    by_cases e2 : cmpV b c = 0
    ·omega
    ·rw [if_pos (by omega)] at h2; exact h2
   have t1 := cmpV_trans a b c h1 h2'
   have t2 : ¬ cmpV a c = 0 := fun e => by
    have := cmpV_trans b c a h2' (by omega)
    omega
   rw [if_pos t2]; exact t1
end Go.Proofs.YtgmolmpfihkolaaGreat
namespace Go.Proofs.YtgmolmpfihkolaaGreat.Pj
open Go.RowKit Go.Proofs.YtgmolmpfihkolaaGreatW.PrintWords Go.Proofs.YtgmolmpfihkolaaGreatW.PrintLast Go.Proofs.YtgmolmpfihkolaaGreatW.PrintMore
attribute [local go_sem] run_store_flt max2_int min2_int max_two min_two max_three min_three max_four min_four
set_option linter.unusedVariables false
set_option linter.unusedSimpArgs false
def row_Cmp.f (l0 : List (S39)) (l1 : List (S39)) : Option (Int) := rowF l0 l1
theorem row_Cmp.calls (A0 : Option Addr) (c0 : Nat) (l0 : List (S39)) (A1 : Option Addr) (c1 : Nat) (l1 : List (S39)) (r : Int) (w : World) (hr0 : Kd.C k39 w A0 l0.length l0) (hc0 : l0.length ≤ c0) (hr1 : Kd.C k39 w A1 l1.length l1) (hc1 : l1.length ≤ c1) (h : row_Cmp.f l0 l1 = some r) :
 Calls Tryz.prog 45 #[.slice A0 l0.length c0, .slice A1 l1.length c1] w fun e w' => e = .returned (.int .i64 r) ∧ Below w.heap.size w w' := by
 unfold row_Cmp.f rowF at h
 split at h
 ·rename_i hc
  simp only [Bool.and_eq_true] at hc
  cases h
  exact rowCmp_any A0 _ c0 _ A1 _ c1 _ w (row_of hr0 hc0 hc.1) (row_of hr1 hc1 hc.2)
 ·cases h
def joins_same.l0 : Nat → List (S80) → Int → Option (Int)
 | 0, _, _ => none
 | k + 1, x0, x3 => if x3 < (x0.length : Int) then (if 0 ≤ x3 then (if 0 < (x0.length : Int) then ((row_Cmp.f ((rd_T80 x0 x3).f1) ((rd_T80 x0 0).f1)).bind fun t340 => (if t340 = 0 then (joins_same.l0 k x0 (wrap64 (x3 + 1))) else (some x3))) else (none)) else (none)) else (some x3)
def joins_same.f (k : Nat) (l0 : List (S80)) : Option (Int) := joins_same.l0 k l0 1
def joins_same.T2 : Bool × List (List Nat × List Nat) := (true, [([], []), ([], []), ([1], [1]), ([0, 2], [0, 2]), ([3], [3]), ([4], [4]), ([4], [4]), ([5, 6, 4], [4, 5, 6]), ([7, 4], [4, 7]), ([8, 4], [4, 8]), ([4], [4]), ([10, 4], [4, 10]), ([11, 4], [4, 11]), ([12, 4], [4, 12]), ([9, 13, 4, 4], [4, 9, 13]), ([14, 4], [4, 14]), ([4, 15], [4, 15])])
def joins_same.B2 : List Nat := [0, 0, 2, 7, 15, 31, 31, 127, 255, 511, 31, 1055, 3103, 7199, 16383, 32767, 65535]
theorem joins_same.tab2 : rtab .any (opsOf Tryz.f74 2) = joins_same.T2 := by kernel_rfl
theorem joins_same.bits2 : waitsOk joins_same.T2.2 joins_same.B2 = true := by kernel_rfl
set_option maxHeartbeats 8000000 in
set_option maxRecDepth 100000 in
theorem joins_same.calls (k : Nat) (A0 : Option Addr) (c0 : Nat) (l0 : List (S80)) (r : Int) (w : World) (hr0 : Kd.C k80 w A0 l0.length l0) (hc0 : l0.length ≤ c0) (h : joins_same.f k l0 = some r) :
 Calls Tryz.prog 74 #[.slice A0 l0.length c0] w fun e w' => e = .returned (.int .i64 r) ∧ Below w.heap.size w w' := by
 have HR0 := akk hr0
 have HC0 := akk hc0
 clear hr0 hc0
 have HB := akk (Below.refl w.heap.size w)
 have H : (joins_same.l0 k l0 1) = some r := h
 clear h
 have H' := akk H
 clear H
 go_enter Tryz.func74, Tryz.ntmps74
 go_wp2
 go_loopg [3] k (fun kq v3 w' => ∃ (x3_1 : Int), v3 = .int .i64 x3_1 ∧ Aside0 (joins_same.l0 kq l0 x3_1 = some r) ∧ Aside0 (kq ≤ k) ∧ Aside0 (Below w.heap.size w w'))
 case atStart => exact ⟨(1), eT, H', ⟨Nat.le_refl _⟩, ⟨bT⟩⟩
 case round =>
  clear H'
  obtain ⟨x3_1, rfl, HA, HK1, HB⟩ := hrel
  cases gk with
  | zero => exact absurd HA.out (by simp [joins_same.l0])
  | succ k1 =>
   have H := HA.out
   clear HA
   simp only [joins_same.l0] at H
   by_cases c2 : x3_1 < (l0.length : Int)
   ·rw [if_pos c2] at H
    have c2b0 := decide_eq_true c2
    clear c2
    by_cases c3 : 0 ≤ x3_1
    ·rw [if_pos c3] at H
     have c3b0 := decide_eq_true c3
     clear c3
     by_cases c4 : 0 < (l0.length : Int)
     ·rw [if_pos c4] at H
      have c4b0 := decide_eq_true c4
      have c4b1 : decide (0 < l0.length) = true := decide_eq_true (by omega)
      clear c4
      obtain ⟨t340, A5, H⟩ := bi H
      try dsimp only at H
      by_cases c6 : t340 = 0
      ·rw [if_pos c6] at H
       have c6b0 : (t340 == 0) = true := beq_iff_eq.mpr c6
       have c6b1 : (t340 != 0) = false := bne_eq_false_iff_eq.mpr c6
       clear c6
       have H' := akk H
       clear H
       try go_wp2
       replace HB := akk (below_drew1 HB.out)
       have p338 : 0 ≤ (x3_1 : Int) := of_decide_eq_true aT
       have q338 : x3_1 < (l0.length : Int) := of_decide_eq_true aT
       obtain ⟨ad338, A338_1, c338_1, e338, hx338_0, hx338_1, hl338_1, hi338_1⟩ := at_T80 HR0.out x3_1 p338 q338
       have hw338_1 := hx338_1
       have hw338_0 := hx338_0
       cases e338
       replace hx338_0 := hxT HB.out hx338_0
       replace hx338_1 := hxT HB.out hx338_1
       have HR338_1 := akk hi338_1
       have HC338_1 := akk hl338_1
       clear hi338_1 hl338_1
       replace p338 := eq_true p338
       replace q338 := eq_true q338
       have p339 : 0 ≤ (0 : Int) := (by omega)
       have q339 : 0 < (l0.length : Int) := of_decide_eq_true aT
       obtain ⟨ad339, A339_1, c339_1, e339, hx339_0, hx339_1, hl339_1, hi339_1⟩ := at_T80 HR0.out 0 p339 q339
       have hw339_1 := hx339_1
       (try rw [show ((0 : Int)).toNat = 0 from rfl] at hw339_1)
       (try rw [show 0 * 2 = 0 from rfl] at hw339_1)
       (try rw [Addr.add_zero'] at hw339_1)
       have hw339_0 := hx339_0
       (try rw [show ((0 : Int)).toNat = 0 from rfl] at hw339_0)
       (try rw [show 0 * 2 = 0 from rfl] at hw339_0)
       (try rw [Addr.add_zero'] at hw339_0)
       obtain rfl : ad338 = ad339 := (by injection e339)
       have qi339 : (0 < l0.length) = True := eq_true (by omega)
       (try rw [show ((0 : Int)).toNat = 0 from rfl] at hx339_0)
       (try rw [show 0 * 2 = 0 from rfl] at hx339_0)
       (try rw [Addr.add_zero'] at hx339_0)
       (try rw [show ((0 : Int)).toNat = 0 from rfl] at hx339_1)
       (try rw [show 0 * 2 = 0 from rfl] at hx339_1)
       (try rw [Addr.add_zero'] at hx339_1)
       replace hx339_0 := hxT HB.out hx339_0
       replace hx339_1 := hxT HB.out hx339_1
       have HR339_1 := akk hi339_1
       have HC339_1 := akk hl339_1
       clear hi339_1 hl339_1
       replace p339 := eq_true p339
       replace q339 := eq_true q339
       refine start_ (n := 17) (S := fun w' => w'.cell? (ad338.add ((x3_1).toNat * 2)) = some (.int .i64 ((rd_T80 l0 x3_1).f0)) ∧ w'.cell? ⟨(ad338.add ((x3_1).toNat * 2)).block, (ad338.add ((x3_1).toNat * 2)).off + 1, none⟩ = some (.slice A338_1 ((rd_T80 l0 x3_1).f1).length c338_1) ∧ w'.cell? ad338 = some (.int .i64 ((rd_T80 l0 0).f0)) ∧ w'.cell? ⟨ad338.block, ad338.off + 1, none⟩ = some (.slice A339_1 ((rd_T80 l0 0).f1).length c339_1)) (ds := []) #[false, false, false, false, false, false, false, false, false, false, false, false, false, false, false, false, false] (by kernel_rfl) rfl rfl ⟨((HB.out.cell (World.block_lt_of_cell? w _ hw338_0)).trans hw338_0), ((HB.out.cell (World.block_lt_of_cell? w _ hw338_1)).trans hw338_1), ((HB.out.cell (World.block_lt_of_cell? w _ hw339_0)).trans hw339_0), ((HB.out.cell (World.block_lt_of_cell? w _ hw339_1)).trans hw339_1)⟩ (fun hHeld => ?_); refine with_tabW joins_same.tab2 joins_same.bits2 (fun HT_ HW_ => ?_)
       generalize wr.drew = w7 at HB HR338_1 HR339_1 hx338_0 hx338_1 hx339_0 hx339_1 hHeld ⊢
       refine pT 0 4 (bm 17 1) ?_
       refine pT 1 5 (bm 17 3) ?_
       refine pT 2 6 (bm 17 7) ?_
       refine pT 3 7 (bm 17 15) ?_
       refine pT 4 8 (bm 17 31) ?_
       refine pT 5 9 (bm 17 63) ?_
       refine pT 6 10 (bm 17 127) ?_
       refine pT 7 11 (bm 17 255) ?_
       refine pT 8 12 (bm 17 511) ?_
       refine pT 10 14 (bm 17 1535) ?_
       refine pT 11 15 (bm 17 3583) ?_
       refine pT 12 16 (bm 17 7679) ?_
       refine tT4 9 13 (bm 17 8191) hHeld ?_
       refine tT4 13 17 (bm 17 16383) hHeld ?_
       refine one_ (i := 14) (N := some 18) #[true, true, true, true, true, true, true, true, true, true, true, true, true, true, true, false, false] rfl rfl (one_of HT_.out (by kernel_rfl)) (by decide) (fun K hK => ?_)
       refine goes_ Tryz.func45 (by kernel_rfl) rfl #[.slice A338_1 ((rd_T80 l0 x3_1).f1).length c338_1, .slice A339_1 ((rd_T80 l0 0).f1).length c339_1] (by rfl) rfl rfl mT ?_
       with_reducible refine (row_Cmp.calls _ _ ((rd_T80 l0 x3_1).f1) _ _ ((rd_T80 l0 0).f1) t340 _ ?side1 ?side2 ?side3 ?side4 A5.out).mono ?_
       (case side1 => exact cT HR338_1.out)
       (case side2 => exact HC338_1.out)
       (case side3 => exact cT HR339_1.out)
       (case side4 => exact HC339_1.out)
       rintro e w8 ⟨rfl, hb⟩
       refine ⟨_, rfl, ?_⟩
       replace HB := bb HB hb
       (try clear hb)
       (try clear hb2)
       (try clear hk)
       (try clear hi)
       refine hK.out _ _ ⟨((HB.out.cell (World.block_lt_of_cell? w _ hw338_0)).trans hw338_0), ((HB.out.cell (World.block_lt_of_cell? w _ hw338_1)).trans hw338_1), ((HB.out.cell (World.block_lt_of_cell? w _ hw339_0)).trans hw339_0), ((HB.out.cell (World.block_lt_of_cell? w _ hw339_1)).trans hw339_1)⟩ (fun hHeld => ?_)
       clear hK K
       refine norm_ (a' := ?_) ?_ ?_
       rotate_left
       ·show Act.put _ (some 18) _ = _
        simp only [Act.put, List.setIfInBounds_toArray, List.set_cons_zero, List.set_cons_succ, i64_w, i32_w]
        rfl
       refine pT 15 19 (bm 17 65535) ?_
       refine pT 16 20 (bm 17 131071) ?_
       refine done_ (done_of HT_.out (by kernel_rfl)) ?_
       try go_wp2
       go_roundg k1
       case measure => have := HK1.out; omega
       case rel => exact ⟨(wrap64 (x3_1 + 1)), eT, H', ⟨by have := HK1.out; omega⟩, ⟨bT⟩⟩
      ·rw [if_neg c6] at H
       have c6b0 : (t340 == 0) = false := beq_eq_false_iff_ne.mpr c6
       have c6b1 : (t340 != 0) = true := bne_iff_ne.mpr c6
       obtain rfl := Option.some.inj H
       try go_wp2
       replace HB := akk (below_drew1 HB.out)
       have p338 : 0 ≤ (x3_1 : Int) := of_decide_eq_true aT
       have q338 : x3_1 < (l0.length : Int) := of_decide_eq_true aT
       obtain ⟨ad338, A338_1, c338_1, e338, hx338_0, hx338_1, hl338_1, hi338_1⟩ := at_T80 HR0.out x3_1 p338 q338
       have hw338_1 := hx338_1
       have hw338_0 := hx338_0
       cases e338
       replace hx338_0 := hxT HB.out hx338_0
       replace hx338_1 := hxT HB.out hx338_1
       have HR338_1 := akk hi338_1
       have HC338_1 := akk hl338_1
       clear hi338_1 hl338_1
       replace p338 := eq_true p338
       replace q338 := eq_true q338
       have p339 : 0 ≤ (0 : Int) := (by omega)
       have q339 : 0 < (l0.length : Int) := of_decide_eq_true aT
       obtain ⟨ad339, A339_1, c339_1, e339, hx339_0, hx339_1, hl339_1, hi339_1⟩ := at_T80 HR0.out 0 p339 q339
       have hw339_1 := hx339_1
       (try rw [show ((0 : Int)).toNat = 0 from rfl] at hw339_1)
       (try rw [show 0 * 2 = 0 from rfl] at hw339_1)
       (try rw [Addr.add_zero'] at hw339_1)
       have hw339_0 := hx339_0
       (try rw [show ((0 : Int)).toNat = 0 from rfl] at hw339_0)
       (try rw [show 0 * 2 = 0 from rfl] at hw339_0)
       (try rw [Addr.add_zero'] at hw339_0)
       obtain rfl : ad338 = ad339 := (by injection e339)
       have qi339 : (0 < l0.length) = True := eq_true (by omega)
       (try rw [show ((0 : Int)).toNat = 0 from rfl] at hx339_0)
       (try rw [show 0 * 2 = 0 from rfl] at hx339_0)
       (try rw [Addr.add_zero'] at hx339_0)
       (try rw [show ((0 : Int)).toNat = 0 from rfl] at hx339_1)
       (try rw [show 0 * 2 = 0 from rfl] at hx339_1)
       (try rw [Addr.add_zero'] at hx339_1)
       replace hx339_0 := hxT HB.out hx339_0
       replace hx339_1 := hxT HB.out hx339_1
       have HR339_1 := akk hi339_1
       have HC339_1 := akk hl339_1
       clear hi339_1 hl339_1
       replace p339 := eq_true p339
       replace q339 := eq_true q339
       refine start_ (n := 17) (S := fun w' => w'.cell? (ad338.add ((x3_1).toNat * 2)) = some (.int .i64 ((rd_T80 l0 x3_1).f0)) ∧ w'.cell? ⟨(ad338.add ((x3_1).toNat * 2)).block, (ad338.add ((x3_1).toNat * 2)).off + 1, none⟩ = some (.slice A338_1 ((rd_T80 l0 x3_1).f1).length c338_1) ∧ w'.cell? ad338 = some (.int .i64 ((rd_T80 l0 0).f0)) ∧ w'.cell? ⟨ad338.block, ad338.off + 1, none⟩ = some (.slice A339_1 ((rd_T80 l0 0).f1).length c339_1)) (ds := []) #[false, false, false, false, false, false, false, false, false, false, false, false, false, false, false, false, false] (by kernel_rfl) rfl rfl ⟨((HB.out.cell (World.block_lt_of_cell? w _ hw338_0)).trans hw338_0), ((HB.out.cell (World.block_lt_of_cell? w _ hw338_1)).trans hw338_1), ((HB.out.cell (World.block_lt_of_cell? w _ hw339_0)).trans hw339_0), ((HB.out.cell (World.block_lt_of_cell? w _ hw339_1)).trans hw339_1)⟩ (fun hHeld => ?_); refine with_tabW joins_same.tab2 joins_same.bits2 (fun HT_ HW_ => ?_)
       generalize wr.drew = w9 at HB HR338_1 HR339_1 hx338_0 hx338_1 hx339_0 hx339_1 hHeld ⊢
       refine pT 0 4 (bm 17 1) ?_
       refine pT 1 5 (bm 17 3) ?_
       refine pT 2 6 (bm 17 7) ?_
       refine pT 3 7 (bm 17 15) ?_
       refine pT 4 8 (bm 17 31) ?_
       refine pT 5 9 (bm 17 63) ?_
       refine pT 6 10 (bm 17 127) ?_
       refine pT 7 11 (bm 17 255) ?_
       refine pT 8 12 (bm 17 511) ?_
       refine pT 10 14 (bm 17 1535) ?_
       refine pT 11 15 (bm 17 3583) ?_
       refine pT 12 16 (bm 17 7679) ?_
       refine tT4 9 13 (bm 17 8191) hHeld ?_
       refine tT4 13 17 (bm 17 16383) hHeld ?_
       refine one_ (i := 14) (N := some 18) #[true, true, true, true, true, true, true, true, true, true, true, true, true, true, true, false, false] rfl rfl (one_of HT_.out (by kernel_rfl)) (by decide) (fun K hK => ?_)
       refine goes_ Tryz.func45 (by kernel_rfl) rfl #[.slice A338_1 ((rd_T80 l0 x3_1).f1).length c338_1, .slice A339_1 ((rd_T80 l0 0).f1).length c339_1] (by rfl) rfl rfl mT ?_
       with_reducible refine (row_Cmp.calls _ _ ((rd_T80 l0 x3_1).f1) _ _ ((rd_T80 l0 0).f1) t340 _ ?side1 ?side2 ?side3 ?side4 A5.out).mono ?_
       (case side1 => exact cT HR338_1.out)
       (case side2 => exact HC338_1.out)
       (case side3 => exact cT HR339_1.out)
       (case side4 => exact HC339_1.out)
       rintro e w10 ⟨rfl, hb⟩
       refine ⟨_, rfl, ?_⟩
       replace HB := bb HB hb
       (try clear hb)
       (try clear hb2)
       (try clear hk)
       (try clear hi)
       refine hK.out _ _ ⟨((HB.out.cell (World.block_lt_of_cell? w _ hw338_0)).trans hw338_0), ((HB.out.cell (World.block_lt_of_cell? w _ hw338_1)).trans hw338_1), ((HB.out.cell (World.block_lt_of_cell? w _ hw339_0)).trans hw339_0), ((HB.out.cell (World.block_lt_of_cell? w _ hw339_1)).trans hw339_1)⟩ (fun hHeld => ?_)
       clear hK K
       refine norm_ (a' := ?_) ?_ ?_
       rotate_left
       ·show Act.put _ (some 18) _ = _
        simp only [Act.put, List.setIfInBounds_toArray, List.set_cons_zero, List.set_cons_succ, i64_w, i32_w]
        rfl
       refine pT 15 19 (bm 17 65535) ?_
       refine pT 16 20 (bm 17 131071) ?_
       refine done_ (done_of HT_.out (by kernel_rfl)) ?_
       try go_wp2
       go_ret
       exact ⟨fT, bT⟩
     ·rw [if_neg c4] at H
      exact absurd H (by simp)
    ·rw [if_neg c3] at H
     exact absurd H (by simp)
   ·rw [if_neg c2] at H
    have c2b0 := decide_eq_false c2
    clear c2
    obtain rfl := Option.some.inj H
    try go_wp2
    replace HB := akk (below_drew1 HB.out)
    refine start_ (n := 17) (S := fun w' => True) (ds := []) #[false, false, false, false, false, false, false, false, false, false, false, false, false, false, false, false, false] (by kernel_rfl) rfl rfl trivial (fun hHeld => ?_); refine with_tabW joins_same.tab2 joins_same.bits2 (fun HT_ HW_ => ?_)
    generalize wr.drew = w11 at HB hHeld ⊢
    refine pT 0 4 (bm 17 1) ?_
    refine pT 1 5 (bm 17 3) ?_
    refine pT 2 6 (bm 17 7) ?_
    refine pT 3 7 (bm 17 15) ?_
    refine pT 4 8 (bm 17 31) ?_
    refine pU 5 9 (bm 17 63) ?_
    refine pU 6 10 (bm 17 127) ?_
    refine pU 7 11 (bm 17 255) ?_
    refine pU 8 12 (bm 17 511) ?_
    refine pU 9 13 (bm 17 1023) ?_
    refine pU 10 14 (bm 17 2047) ?_
    refine pU 11 15 (bm 17 4095) ?_
    refine pU 12 16 (bm 17 8191) ?_
    refine pU 13 17 (bm 17 16383) ?_
    refine pU 14 18 (bm 17 32767) ?_
    refine pU 15 19 (bm 17 65535) ?_
    refine pT 16 20 (bm 17 131071) ?_
    refine done_ (done_of HT_.out (by kernel_rfl)) ?_
    try go_wp2
    go_ret
    exact ⟨fT, bT⟩
end Go.Proofs.YtgmolmpfihkolaaGreat.Pj
namespace Go.Proofs.YtgmolmpfihkolaaGreat
open Go.RowKit Go.Proofs.YtgmolmpfihkolaaGreatW.PrintWords Go.Proofs.YtgmolmpfihkolaaGreat.Pj
set_option linter.unusedVariables false
set_option maxRecDepth 100000
abbrev PK := S80
abbrev PP := S71
def kc (p q : PK) : Int := cmpRow (rOf p.f1) (rOf q.f1)
theorem kc_neg (p q : PK) : kc q p = - kc p q := cmpRow_neg _ _
theorem kc_trans (p q r : PK) (h1 : kc p q ≤ 0) (h2 : kc q r ≤ 0) : kc p r ≤ 0 := cmpRow_trans _ _ _ h1 h2
def meetOf (ys : List PK) (p : PK) : List PP := (ys.filter (fun q => kc p q == 0)).map (fun q => ⟨p.f0, q.f0⟩)
def pairsOf (xs ys : List PK) : List PP := xs.flatMap (meetOf ys)
def SortedK (l : List PK) : Prop := l.Pairwise (fun p q => ¬ kc q p < 0)
theorem SortedK.le {x : PK} {l : List PK} (h : SortedK (x :: l)) {y : PK} (hy : y ∈ l) : kc x y ≤ 0 := by
 have := (List.pairwise_cons.1 h).1 y hy
 have e := kc_neg x y
 omega
theorem meet_none {ys : List PK} {p : PK} (h : ∀ q ∈ ys, kc p q ≠ 0) : meetOf ys p = [] := by
 unfold meetOf
 rw [List.filter_eq_nil_iff.2 (fun q hq => by simpa using h q hq)]; rfl
theorem pairs_lt {x y : PK} {xs ys : List PK} (h : kc x y < 0) (hy : SortedK (y :: ys)) : pairsOf (x :: xs) (y :: ys) = pairsOf xs (y :: ys) := by
 unfold pairsOf
 rw [List.flatMap_cons, meet_none (fun q hq => ?_)]
 ·rfl
 ·rcases List.mem_cons.1 hq with e | hq
  ·rw [e]; omega
  ·have h1 := hy.le hq
   intro e
   have h2 := kc_trans y q x h1 (by have := kc_neg x q; omega)
   have := kc_neg x y
   omega
theorem pairs_gt {x y : PK} {xs ys : List PK} (h : 0 < kc x y) (hx : SortedK (x :: xs)) : pairsOf (x :: xs) (y :: ys) = pairsOf (x :: xs) ys := by
 have hp : ∀ p ∈ x :: xs, kc p y ≠ 0 := by
  intro p hp e
  rcases List.mem_cons.1 hp with e' | hp
  ·rw [e'] at e; omega
  ·have h1 := hx.le hp
   have h2 := kc_trans x p y h1 (by omega)
   omega
 unfold pairsOf
 rw [List.flatMap_def, List.flatMap_def]
 congr 1
 refine List.map_congr_left (fun p hpm => ?_)
 unfold meetOf
 rw [List.filter_cons_of_neg (by simpa using hp p hpm)]
theorem meet_append (a b : List PK) (p : PK) : meetOf (a ++ b) p = meetOf a p ++ meetOf b p := by
 unfold meetOf; rw [List.filter_append, List.map_append]
theorem meet_all {ys : List PK} {p : PK} (h : ∀ q ∈ ys, kc p q = 0) : meetOf ys p = ys.map (fun q => ⟨p.f0, q.f0⟩) := by
 unfold meetOf
 rw [List.filter_eq_self.2 (fun q hq => by simpa using h q hq)]
def cross (xs ys : List PK) : List PP := xs.flatMap (fun p => ys.map (fun q => ⟨p.f0, q.f0⟩))
theorem pairs_eq {x y : PK} {X1 X2 Y1 Y2 : List PK} (h : kc x y = 0) (hx : ∀ p ∈ X1, kc p x = 0) (hx2 : ∀ p ∈ X2, 0 < kc p x) (hy : ∀ q ∈ Y1, kc q y = 0) (hy2 : ∀ q ∈ Y2, 0 < kc q y) :
 pairsOf (X1 ++ X2) (Y1 ++ Y2) = cross X1 Y1 ++ pairsOf X2 Y2 := by
 have a1 : ∀ p ∈ X1, meetOf (Y1 ++ Y2) p = Y1.map (fun q => ⟨p.f0, q.f0⟩) := by
  intro p hp
  have hpx := hx p hp
  have hpy : kc p y ≤ 0 ∧ kc y p ≤ 0 := ⟨kc_trans p x y (by omega) (by omega), kc_trans y x p (by have := kc_neg x y; omega) (by have := kc_neg p x; omega)⟩
  rw [meet_append, meet_none (ys := Y2) (fun q hq e => ?_), meet_all (fun q hq => ?_), List.append_nil]
  ·have hq1 := hy q hq
   have t1 := kc_trans p y q hpy.1 (by have := kc_neg q y; omega)
   have t2 := kc_trans q y p (by omega) hpy.2
   have := kc_neg p q
   omega
  ·have hq2 := hy2 q hq
   have t1 := kc_trans q p y (by have := kc_neg p q; omega) hpy.1
   omega
 have a2 : ∀ p ∈ X2, meetOf (Y1 ++ Y2) p = meetOf Y2 p := by
  intro p hp
  have hpx := hx2 p hp
  rw [meet_append, meet_none (ys := Y1) (fun q hq e => ?_), List.nil_append]
  have hq1 := hy q hq
  have t1 := kc_trans p q y (by omega) (by omega)
  have t2 := kc_trans p y x t1 (by have := kc_neg x y; omega)
  omega
 unfold pairsOf cross
 rw [List.flatMap_append]
 congr 1
 ·rw [List.flatMap_def, List.flatMap_def]
  congr 1
  exact List.map_congr_left a1
 ·rw [List.flatMap_def, List.flatMap_def]
  congr 1
  exact List.map_congr_left a2
def SameN (l : List PK) (n : Nat) : Prop := 1 ≤ n ∧ n ≤ l.length ∧ (∀ i, i < n → kc (l.getD i z80) (l.getD 0 z80) = 0) ∧ (n = l.length ∨ kc (l.getD n z80) (l.getD 0 z80) ≠ 0)
def WfK (l : List PK) : Prop := ∀ p ∈ l, wfR p.f1 = true
theorem getD_mem {l : List PK} {i : Nat} (h : i < l.length) (z : PK) : l.getD i z ∈ l := by
 rw [List.getD_eq_getElem?_getD, List.getElem?_eq_getElem h]; exact List.getElem_mem h
theorem same_go (l : List PK) (hw : WfK l) (hl : l.length < 4611686018427387904) : ∀ (k i : Nat), 1 ≤ i → i ≤ l.length → l.length < k + i → (∀ j, j < i → kc (l.getD j z80) (l.getD 0 z80) = 0) → ∃ n : Nat, joins_same.l0 k l (i : Int) = some (n : Int) ∧ SameN l n
 | 0, i, h1, h2, h3, _ => by omega
 | k + 1, i, h1, h2, h3, h4 => by
  rw [joins_same.l0]
  by_cases hi : i < l.length
  ·rw [if_pos (by omega), if_pos (by omega), if_pos (by omega)]
   have e : row_Cmp.f (rd_T80 l (i : Int)).f1 (rd_T80 l 0).f1 = some (kc (l.getD i z80) (l.getD 0 z80)) := by
    unfold row_Cmp.f rowF rd_T80
    rw [hw _ (getD_mem (by simpa using hi) _), hw _ (getD_mem (by simp; omega) _)]
    simp [kc]
   rw [e, Option.bind_some]
   by_cases hz : kc (l.getD i z80) (l.getD 0 z80) = 0
   ·rw [if_pos hz, show wrap64 ((i : Int) + 1) = ((i + 1 : Nat) : Int) by unfold wrap64; omega]
    refine same_go l hw hl k (i + 1) (by omega) (by omega) (by omega) (fun j hj => ?_)
    by_cases e : j = i
    ·rw [e]; exact hz
    ·exact h4 j (by omega)
   ·rw [if_neg hz]
    exact ⟨i, rfl, h1, h2, h4, Or.inr hz⟩
  ·rw [if_neg (by omega)]
   exact ⟨i, rfl, h1, h2, h4, Or.inl (by omega)⟩
theorem same_f (l : List PK) (hw : WfK l) (hl : l.length < 4611686018427387904) (h0 : 0 < l.length) : ∃ n : Nat, joins_same.f (l.length + 1) l = some (n : Int) ∧ SameN l n := by
 obtain ⟨n, h1, h2⟩ := same_go l hw hl (l.length + 1) 1 (Nat.le_refl _) h0 (by omega) (fun j hj => by
  obtain rfl : j = 0 := by omega
  have := kc_neg (l.getD 0 z80) (l.getD 0 z80)
  omega)
 exact ⟨n, h1, h2⟩
theorem SameN.parts {l : List PK} {n : Nat} (h : SameN l n) (hs : SortedK l) : (∀ p ∈ l.take n, kc p (l.getD 0 z80) = 0) ∧ (∀ p ∈ l.drop n, 0 < kc p (l.getD 0 z80)) := by
 obtain ⟨h1, h2, h3, h4⟩ := h
 refine ⟨fun p hp => ?_, fun p hp => ?_⟩
 ·obtain ⟨i, hi, e⟩ := List.mem_iff_getElem.1 hp
  rw [List.length_take] at hi
  have := h3 i (by omega)
  rw [List.getD_eq_getElem?_getD, List.getElem?_eq_getElem (by omega)] at this
  rw [← e, List.getElem_take]
  exact this
 ·obtain ⟨i, hi, e⟩ := List.mem_iff_getElem.1 hp
  rw [List.length_drop] at hi
  rw [List.getElem_drop] at e
  have hz := List.pairwise_iff_getElem.1 hs
  have e0 : l.getD 0 z80 = l[0] := by rw [List.getD_eq_getElem?_getD, List.getElem?_eq_getElem (by omega)]; rfl
  have en : l.getD n z80 = l[n] := by rw [List.getD_eq_getElem?_getD, List.getElem?_eq_getElem (by omega)]; rfl
  rw [e0, en] at h4
  rw [e0]
  have g1 := hz 0 n (by omega) (by omega) (by omega)
  have g0 : 0 < kc l[n] l[0] := by rcases h4 with h4 | h4 <;> omega
  by_cases ei : i = 0
  ·subst ei
   have e' : l[n] = p := by simpa using e
   rw [← e']; exact g0
  ·have g2 := hz n (n + i) (by omega) (by omega) (by omega)
   rw [e] at g2
   have t := kc_neg l[n] p
   have t2 := kc_neg p l[0]
   refine Decidable.byContradiction fun hc => ?_
   have := kc_trans l[n] p l[0] (by omega) (by omega)
   omega
theorem SortedK.drop {l : List PK} (h : SortedK l) (n : Nat) : SortedK (l.drop n) := h.sublist (List.drop_sublist _ _)
theorem WfK.drop {l : List PK} (h : WfK l) (n : Nat) : WfK (l.drop n) := fun p hp => h p (List.mem_of_mem_drop hp)
theorem pairs_step {x y : PK} {xs ys : List PK} {n m : Nat} (h : kc x y = 0) (hx : SortedK (x :: xs)) (hy : SortedK (y :: ys)) (hn : SameN (x :: xs) n) (hm : SameN (y :: ys) m) :
 pairsOf (x :: xs) (y :: ys) = cross ((x :: xs).take n) ((y :: ys).take m) ++ pairsOf ((x :: xs).drop n) ((y :: ys).drop m) := by
 obtain ⟨a1, a2⟩ := hn.parts hx
 obtain ⟨b1, b2⟩ := hm.parts hy
 have := pairs_eq (x := x) (y := y) (X1 := (x :: xs).take n) (X2 := (x :: xs).drop n) (Y1 := (y :: ys).take m) (Y2 := (y :: ys).drop m) h a1 a2 b1 b2
 rw [List.take_append_drop, List.take_append_drop] at this
 exact this
end Go.Proofs.YtgmolmpfihkolaaGreat
