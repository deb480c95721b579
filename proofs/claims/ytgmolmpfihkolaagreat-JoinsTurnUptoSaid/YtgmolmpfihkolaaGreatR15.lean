/- Part of the proof. -/
import Derived.Test.YtgmolmpfihkolaaGreatR14
namespace Go.Proofs.YtgmolmpfihkolaaGreat
open Go.RowKit
open Go.Deep
set_option linter.unusedVariables false
set_option maxRecDepth 100000
attribute [local go_sem] run_store_float
def isTrue (v : Val) : Bool := v.kind == 1 && v.int == 1
def holdsV (rows : List (List Val)) : List Tx → Bool × Int
 | [] => (true, 0)
 | t :: ts => if (tellV rows t).2 ≠ 0 then (false, (tellV rows t).2) else if isTrue (tellV rows t).1 then holdsV rows ts else (false, 0)
end Go.Proofs.YtgmolmpfihkolaaGreat
namespace Go.Proofs.YtgmolmpfihkolaaGreat
open Go.RowKit
set_option linter.unusedVariables false
set_option maxRecDepth 100000
attribute [local go_sem] run_store_float
def cmpRow : List Val → List Val → Int
 | [], [] => 0
 | [], _ :: _ => -1
 | _ :: _, [] => 1
 | a :: s, b :: t => if cmpV a b ≠ 0 then cmpV a b else cmpRow s t
def EightS (b1 o1 : Nat) (v1 : Val) (b2 o2 : Nat) (v2 : Val) (w W : World) : Prop := HasV W b1 o1 v1 ∧ HasV W b2 o2 v2 ∧ Below w.heap.size w W
theorem eight_next {b1 o1 b2 o2 : Nat} {v1 v2 : Val} {w W W' : World} (h1 : b1 < w.heap.size) (h2 : b2 < w.heap.size) (h : EightS b1 o1 v1 b2 o2 v2 w W) (hb : Below W.heap.size W W') : EightS b1 o1 v1 b2 o2 v2 w W' := by
 have := h.2.2.size
 exact ⟨h.1.below hb (by omega), h.2.1.below hb (by omega), h.2.2.trans (hb.mono this)⟩
set_option maxHeartbeats 4000000 in
theorem lists_any (a1 : Option Addr) (l1 c1 : Nat) (x : List Val) (a2 : Option Addr) (l2 c2 : Nat) (y : List Val) (w : World) (hx : RowV w a1 l1 c1 x) (hy : RowV w a2 l2 c2 y) :
 Calls Tryz.prog 72 #[.slice a1 l1 c1, .slice a2 l2 c2, .func (.func 55) #[] #[]] w fun e w' => e = .returned (.int .i64 (cmpRow x y)) ∧ Below w.heap.size w w' := by
 have h63 : l1 < 2 ^ 63 := by have := hx.2.1; have := hx.2.2.1; unfold maxLen at this; omega
 have h64 : l2 < 2 ^ 63 := by have := hy.2.1; have := hy.2.2.1; unfold maxLen at this; omega
 have HLX := hdq hx.1
 have HLY := hdq hy.1
 have HX := hdq hx
 have HY := hdq hy
 obtain ⟨r, hr⟩ : ∃ r, r = cmpRow x y := ⟨_, rfl⟩
 have HRES := hdq hr
 rw [← hr]
 clear hx hy hr
 go_enter Tryz.func72, Tryz.ntmps72
 go_wp2
 go_loopw [7] (fun i wr => ∃ k : Nat, i = .int .i64 k ∧ k ≤ l1 ∧ k ≤ l2 ∧ Hid (r = cmpRow (x.drop k) (y.drop k)) ∧ Hid (Below w.heap.size w wr)) (fun i _ => l1 - (intOf i).toNat)
 case atStart => exact ⟨0, rfl, Nat.zero_le _, Nat.zero_le _, HRES, hdq (Below.refl _ _)⟩
 case round =>
  obtain ⟨k, rfl, hk1, hk2, HK, HB⟩ := hrel
  by_cases hlt1 : k < l1
  ·by_cases hlt2 : k < l2
   ·obtain ⟨b1, o1, rfl, v1, hv1, hw1, hc1, hd1⟩ := fold_row HX.out HB.out hlt1
    obtain ⟨b2, o2, rfl, v2, hv2, hw2, hc2, hd2⟩ := fold_row HY.out HB.out hlt2
    obtain ⟨_, _, e1, hb1, _⟩ := HX.out.get hlt1
    cases e1
    obtain ⟨_, _, e2, hb2, _⟩ := HY.out.get hlt2
    cases e2
    obtain ⟨ks, ns, fs, ss⟩ := v1
    obtain ⟨kt, nt, ft, st⟩ := v2
    have hK := HK.out
    rw [hd1, hd2] at hK
    simp only [cmpRow] at hK
    have HE := hdq (show EightS b1 (o1 + k * 4) ⟨ks, ns, fs, ss⟩ b2 (o2 + k * 4) ⟨kt, nt, ft, st⟩ w wr from ⟨hc1, hc2, HB.out⟩)
    obtain ⟨p, hp⟩ : ∃ p, p = cmpV ⟨ks, ns, fs, ss⟩ ⟨kt, nt, ft, st⟩ := ⟨_, rfl⟩
    have HC := hdq (fun (W : World) (hS : W.cell? ⟨b1, o1 + k * 4, none⟩ = some (.int .i64 ks) ∧ W.cell? ⟨b1, o1 + k * 4 + 1, none⟩ = some (.int .i64 ns) ∧ W.cell? ⟨b1, o1 + k * 4 + 2, none⟩ = some (.float .f64 fs) ∧ W.cell? ⟨b1, o1 + k * 4 + 3, none⟩ = some (.string ss) ∧ W.cell? ⟨b2, o2 + k * 4, none⟩ = some (.int .i64 kt) ∧ W.cell? ⟨b2, o2 + k * 4 + 1, none⟩ = some (.int .i64 nt) ∧ W.cell? ⟨b2, o2 + k * 4 + 2, none⟩ = some (.float .f64 ft) ∧ W.cell? ⟨b2, o2 + k * 4 + 3, none⟩ = some (.string st) ∧ Hid (EightS b1 (o1 + k * 4) ⟨ks, ns, fs, ss⟩ b2 (o2 + k * 4) ⟨kt, nt, ft, st⟩ w W)) =>
     (Cmp_exp ks ns fs ss kt nt ft st hw1 hw2 W).mono (R' := fun e w' => e = .returned (.int .i64 p) ∧ (w'.cell? ⟨b1, o1 + k * 4, none⟩ = some (.int .i64 ks) ∧ w'.cell? ⟨b1, o1 + k * 4 + 1, none⟩ = some (.int .i64 ns) ∧ w'.cell? ⟨b1, o1 + k * 4 + 2, none⟩ = some (.float .f64 fs) ∧ w'.cell? ⟨b1, o1 + k * 4 + 3, none⟩ = some (.string ss) ∧ w'.cell? ⟨b2, o2 + k * 4, none⟩ = some (.int .i64 kt) ∧ w'.cell? ⟨b2, o2 + k * 4 + 1, none⟩ = some (.int .i64 nt) ∧ w'.cell? ⟨b2, o2 + k * 4 + 2, none⟩ = some (.float .f64 ft) ∧ w'.cell? ⟨b2, o2 + k * 4 + 3, none⟩ = some (.string st) ∧ Hid (EightS b1 (o1 + k * 4) ⟨ks, ns, fs, ss⟩ b2 (o2 + k * 4) ⟨kt, nt, ft, st⟩ w w')))
     (fun e w' h => by
      have hn := eight_next hb1 hb2 hS.2.2.2.2.2.2.2.2.out h.2
      have hn2 := hdq hn
      obtain ⟨⟨n1, n2, n3, n4⟩, ⟨m1, m2, m3, m4⟩, _⟩ := hn
      exact ⟨by rw [h.1, hp], n1, n2, n3, n4, m1, m2, m3, m4, hn2⟩))
    rw [← hp] at hK
    obtain ⟨n1, n2, n3, n4⟩ := hc1
    obtain ⟨m1, m2, m3, m4⟩ := hc2
    simp only at n1 n2 n3 n4 m1 m2 m3 m4
    clear hp hw1 hw2 hd1 hd2 hv1 hv2
    by_cases hp0 : p = 0
    ·subst hp0
     rw [if_neg (by simp)] at hK
     have HK2 := hdq hK
     clear hK
     go_wp2
     go_region_held3 (fun W : World => W.cell? ⟨b1, o1 + k * 4, none⟩ = some (.int .i64 ks) ∧ W.cell? ⟨b1, o1 + k * 4 + 1, none⟩ = some (.int .i64 ns) ∧ W.cell? ⟨b1, o1 + k * 4 + 2, none⟩ = some (.float .f64 fs) ∧ W.cell? ⟨b1, o1 + k * 4 + 3, none⟩ = some (.string ss) ∧ W.cell? ⟨b2, o2 + k * 4, none⟩ = some (.int .i64 kt) ∧ W.cell? ⟨b2, o2 + k * 4 + 1, none⟩ = some (.int .i64 nt) ∧ W.cell? ⟨b2, o2 + k * 4 + 2, none⟩ = some (.float .f64 ft) ∧ W.cell? ⟨b2, o2 + k * 4 + 3, none⟩ = some (.string st) ∧ Hid (EightS b1 (o1 + k * 4) ⟨ks, ns, fs, ss⟩ b2 (o2 + k * 4) ⟨kt, nt, ft, st⟩ w W)) (first | (exact ⟨by simpa using n1, by simpa using n2, by simpa using n3, by simpa using n4, by simpa using m1, by simpa using m2, by simpa using m3, by simpa using m4, hdq (eight_next hb1 hb2 HE.out (Below.refl _ _).drew)⟩) | assumption) (first | (go_at_call 55; refine (HC.out _ (by assumption)).mono ?_; rintro e wx ⟨rfl, hSx⟩))
     have HN := hdq hSx.2.2.2.2.2.2.2.2.out.2.2
     clear hSx HE HC n1 n2 n3 n4 m1 m2 m3 m4
     go_wp2
     go_roundw
     case rel => exact ⟨k + 1, by go_num, by omega, by omega, HK2, HN⟩
     case measure => simp [intOf]; omega
    ·rw [if_pos hp0] at hK
     subst hK
     have hp1 : ((r : Int) != 0) = true := by simp; exact hp0
     clear hp0
     go_wp2
     go_region_held3 (fun W : World => W.cell? ⟨b1, o1 + k * 4, none⟩ = some (.int .i64 ks) ∧ W.cell? ⟨b1, o1 + k * 4 + 1, none⟩ = some (.int .i64 ns) ∧ W.cell? ⟨b1, o1 + k * 4 + 2, none⟩ = some (.float .f64 fs) ∧ W.cell? ⟨b1, o1 + k * 4 + 3, none⟩ = some (.string ss) ∧ W.cell? ⟨b2, o2 + k * 4, none⟩ = some (.int .i64 kt) ∧ W.cell? ⟨b2, o2 + k * 4 + 1, none⟩ = some (.int .i64 nt) ∧ W.cell? ⟨b2, o2 + k * 4 + 2, none⟩ = some (.float .f64 ft) ∧ W.cell? ⟨b2, o2 + k * 4 + 3, none⟩ = some (.string st) ∧ Hid (EightS b1 (o1 + k * 4) ⟨ks, ns, fs, ss⟩ b2 (o2 + k * 4) ⟨kt, nt, ft, st⟩ w W)) (first | (exact ⟨by simpa using n1, by simpa using n2, by simpa using n3, by simpa using n4, by simpa using m1, by simpa using m2, by simpa using m3, by simpa using m4, hdq (eight_next hb1 hb2 HE.out (Below.refl _ _).drew)⟩) | assumption) (first | (go_at_call 55; refine (HC.out _ (by assumption)).mono ?_; rintro e wx ⟨rfl, hSx⟩))
     have HN := hdq hSx.2.2.2.2.2.2.2.2.out.2.2
     clear hSx HE HC n1 n2 n3 n4 m1 m2 m3 m4
     go_wp2
     go_ret
     exact ⟨rfl, HN.out⟩
   ·obtain rfl : k = l2 := by omega
    have hK := HK.out
    rw [List.drop_of_length_le (l := y) (by rw [HLY.out]; exact Nat.le_refl _)] at hK
    obtain ⟨v, hv⟩ : ∃ v, x.drop k = v :: x.drop (k + 1) := ⟨_, List.drop_eq_getElem_cons (by rw [HLX.out]; exact hlt1)⟩
    rw [hv] at hK
    simp only [cmpRow] at hK
    subst hK
    clear hv
    go_wp2_with (go_at_call 50; refine (cmpInt_any _ _ _).mono ?_; rw [show cmpI (l1 : Int) (k : Int) = 1 by unfold cmpI; rw [if_neg (by omega), if_pos (by omega)]]; rintro e w2 ⟨rfl, rfl⟩)
    go_ret
    exact ⟨rfl, HB.out⟩
  ·obtain rfl : k = l1 := by omega
   have hK := HK.out
   rw [List.drop_of_length_le (l := x) (by rw [HLX.out]; exact Nat.le_refl _)] at hK
   by_cases hlt2 : k < l2
   ·obtain ⟨v, hv⟩ : ∃ v, y.drop k = v :: y.drop (k + 1) := ⟨_, List.drop_eq_getElem_cons (by rw [HLY.out]; exact hlt2)⟩
    rw [hv] at hK
    simp only [cmpRow] at hK
    subst hK
    clear hv
    go_wp2_with (go_at_call 50; refine (cmpInt_any _ _ _).mono ?_; rw [show cmpI (k : Int) (l2 : Int) = -1 by unfold cmpI; rw [if_pos (by omega)]]; rintro e w2 ⟨rfl, rfl⟩)
    go_ret
    exact ⟨rfl, HB.out⟩
   ·obtain rfl : l2 = k := by omega
    rw [List.drop_of_length_le (l := y) (by rw [HLY.out]; exact Nat.le_refl _)] at hK
    simp only [cmpRow] at hK
    subst hK
    go_wp2_with (go_at_call 50; refine (cmpInt_any _ _ _).mono ?_; rw [show cmpI (l2 : Int) (l2 : Int) = 0 by unfold cmpI; rw [if_neg (by omega), if_neg (by omega)]]; rintro e w2 ⟨rfl, rfl⟩)
    go_ret
    exact ⟨rfl, HB.out⟩
theorem rowCmp_any (a1 : Option Addr) (l1 c1 : Nat) (x : List Val) (a2 : Option Addr) (l2 c2 : Nat) (y : List Val) (w : World) (hx : RowV w a1 l1 c1 x) (hy : RowV w a2 l2 c2 y) :
 Calls Tryz.prog 45 #[.slice a1 l1 c1, .slice a2 l2 c2] w fun e w' => e = .returned (.int .i64 (cmpRow x y)) ∧ Below w.heap.size w w' := by
 have HL := hdq (lists_any a1 l1 c1 x a2 l2 c2 y w hx hy)
 clear hx hy
 go_enter Tryz.func45, Tryz.ntmps45
 go_wp2_with (go_at_call 72; refine HL.out.mono ?_; rintro e w2 ⟨rfl, hb⟩)
 go_ret
 exact ⟨rfl, hb⟩
end Go.Proofs.YtgmolmpfihkolaaGreat
namespace Go.Proofs.YtgmolmpfihkolaaGreat
open Go.RowKit Go.Proofs.YtgmolmpfihkolaaGreatW.PrintWords Go.Proofs.YtgmolmpfihkolaaGreat.Pj
set_option linter.unusedVariables false
set_option maxRecDepth 100000
attribute [local go_sem] run_store_float
def pOf (v : Val) : PV := ⟨v.kind, v.int, v.flt, v.text⟩
theorem vOf_pOf (v : Val) : vOf (pOf v) = v := rfl
def keysGo (rows : List (List Val)) (acc : List Val) (sm : Bool) : List Tx → List Val × Bool × Int
 | [] => (acc, sm, 0)
 | t :: ts => if (tellV rows t).2 ≠ 0 then ([], false, (tellV rows t).2) else keysGo rows (acc ++ [plainV (tellV rows t).1]) (sm && decide ((tellV rows t).1.kind ≠ 0)) ts
end Go.Proofs.YtgmolmpfihkolaaGreat
namespace Go.Proofs.YtgmolmpfihkolaaGreat
open Go.RowKit Go.Proofs.YtgmolmpfihkolaaGreatW.PrintWords Go.Proofs.YtgmolmpfihkolaaGreat.Pj
set_option linter.unusedVariables false
set_option maxRecDepth 100000
instance (a b : Val) : Decidable (Alike a b) := by unfold Alike; infer_instance
def exactF (a b : PV) : Option Bool := if wfV a && (wfV b && decide (Alike (vOf a) (vOf b))) then some true else none
def plainF (a : PV) : Option (Int × Int × Nat × ByteArray) := if wfV a then some ((plainV (vOf a)).kind, (plainV (vOf a)).int, (plainV (vOf a)).flt, (plainV (vOf a)).text) else none
def evalF (e : PE) (rows : List (List PV)) : Option (Int × Int × Nat × ByteArray × Int) :=
 if wfE e && wfRs rows then some ((tellV (rsOf rows) (tOf e)).1.kind, (tellV (rsOf rows) (tOf e)).1.int, (tellV (rsOf rows) (tOf e)).1.flt, (tellV (rsOf rows) (tOf e)).1.text, (tellV (rsOf rows) (tOf e)).2) else none
def rowF (a b : List PV) : Option Int := if wfR a && wfR b then some (cmpRow (rOf a) (rOf b)) else none
end Go.Proofs.YtgmolmpfihkolaaGreat
namespace Go.Proofs.YtgmolmpfihkolaaGreatW.PrintLast
set_option linter.unusedVariables false
open Go.RowKit Go.Proofs.YtgmolmpfihkolaaGreatW.PrintWords Go.Proofs.YtgmolmpfihkolaaGreatW.PrintMore
section
variable {P : Program} {ops : Array Oper} {Q : Exit → Act → World → Prop} {md : Region.Mode} {S : World → Prop} {ds : List Nat}
theorem pT (i : Nat) (N : Tmp) (l' : Array Bool) {oi : Oper} {v : Value} {fuel : Nat} {l : Array Bool} {a a' : Act} {w : World} (h : wpAnyLast P md ops Q S ds fuel l' a' w)
 (hi : ops[i]? = some oi := by rfl) (hN : oi.dst = some N := by rfl) (hc : anyB md ops l l' i = true := by exact any_of HT_.out (by kernel_rfl)) (hQ : ∀ c a w, Q (.panic c) (a.put oi.dst v) w → Q (.panic c) a w := by exact fun _ _ _ h => h)
 (hy : Yields P ops oi v a := by (refine Or.inl ⟨by rfl, ?_⟩; intro w'; go_simp; with_reducible rfl)) (ha : a.put (some N) v = a' := by (simp only [Act.put, List.setIfInBounds_toArray, List.set_cons_zero, List.set_cons_succ, i64_w, i32_w]; rfl)) :
 wpAnyLast P md ops Q S ds (fuel + 1) l a w := pure_ (N := some N) l' hi hN hc hQ hy ha h
theorem pU (i : Nat) (N : Tmp) (l' : Array Bool) {oi : Oper} {fuel : Nat} {l : Array Bool} {a a' : Act} {w : World} (h : wpAnyLast P md ops Q S ds fuel l' a' w)
 (hi : ops[i]? = some oi := by rfl) (hN : oi.dst = some N := by rfl) (hc : anyB md ops l l' i = true := by exact any_of HT_.out (by kernel_rfl)) (hQ : ∀ c a w, Q (.panic c) (a.put oi.dst undef) w → Q (.panic c) a w := by exact fun _ _ _ h => h)
 (hy : Yields P ops oi undef a := by exact Or.inr ⟨by rfl, rfl⟩) (ha : a.put (some N) undef = a' := by (simp only [Act.put, List.setIfInBounds_toArray, List.set_cons_zero, List.set_cons_succ, i64_w, i32_w]; rfl)) :
 wpAnyLast P md ops Q S ds (fuel + 1) l a w := pure_ (N := some N) l' hi hN hc hQ hy ha h
theorem tT2 (i : Nat) (N : Tmp) (l' : Array Bool) {oi : Oper} {v : Value} {fuel : Nat} {l : Array Bool} {a a' : Act} {w : World} (hS : S w) (h : wpAnyLast P md ops Q S ds fuel l' a' w)
 (hi : ops[i]? = some oi := by rfl) (hN : oi.dst = some N := by rfl) (hc : takeB md ops ds l l' i = true := by exact take_ofW HT_.out HW_.out (by kernel_rfl)) (hQ : ∀ c a w, Q (.panic c) (a.put oi.dst v) w → Q (.panic c) a w := by exact fun _ _ _ h => h)
 (hy : YieldsIf P ops S oi v a := by (refine Or.inl ⟨by rfl, ?_⟩; rintro w' ⟨s0, s1⟩; go_simp; with_reducible rfl)) (ha : a.put (some N) v = a' := by (simp only [Act.put, List.setIfInBounds_toArray, List.set_cons_zero, List.set_cons_succ, i64_w, i32_w]; rfl)) :
 wpAnyLast P md ops Q S ds (fuel + 1) l a w := take_ (N := some N) l' hi hN hc hQ hy hS ha h
theorem tT4 (i : Nat) (N : Tmp) (l' : Array Bool) {oi : Oper} {v : Value} {fuel : Nat} {l : Array Bool} {a a' : Act} {w : World} (hS : S w) (h : wpAnyLast P md ops Q S ds fuel l' a' w)
 (hi : ops[i]? = some oi := by rfl) (hN : oi.dst = some N := by rfl) (hc : takeB md ops ds l l' i = true := by exact take_ofW HT_.out HW_.out (by kernel_rfl)) (hQ : ∀ c a w, Q (.panic c) (a.put oi.dst v) w → Q (.panic c) a w := by exact fun _ _ _ h => h)
 (hy : YieldsIf P ops S oi v a := by (refine Or.inl ⟨by rfl, ?_⟩; rintro w' ⟨s0, s1, s2, s3⟩; go_simp; with_reducible rfl)) (ha : a.put (some N) v = a' := by (simp only [Act.put, List.setIfInBounds_toArray, List.set_cons_zero, List.set_cons_succ, i64_w, i32_w]; rfl)) :
 wpAnyLast P md ops Q S ds (fuel + 1) l a w := take_ (N := some N) l' hi hN hc hQ hy hS ha h
theorem tT8 (i : Nat) (N : Tmp) (l' : Array Bool) {oi : Oper} {v : Value} {fuel : Nat} {l : Array Bool} {a a' : Act} {w : World} (hS : S w) (h : wpAnyLast P md ops Q S ds fuel l' a' w)
 (hi : ops[i]? = some oi := by rfl) (hN : oi.dst = some N := by rfl) (hc : takeB md ops ds l l' i = true := by exact take_ofW HT_.out HW_.out (by kernel_rfl)) (hQ : ∀ c a w, Q (.panic c) (a.put oi.dst v) w → Q (.panic c) a w := by exact fun _ _ _ h => h)
 (hy : YieldsIf P ops S oi v a := by (refine Or.inl ⟨by rfl, ?_⟩; rintro w' ⟨s0, s1, s2, s3, s4, s5, s6, s7⟩; go_simp; with_reducible rfl)) (ha : a.put (some N) v = a' := by (simp only [Act.put, List.setIfInBounds_toArray, List.set_cons_zero, List.set_cons_succ, i64_w, i32_w]; rfl)) :
 wpAnyLast P md ops Q S ds (fuel + 1) l a w := take_ (N := some N) l' hi hN hc hQ hy hS ha h
theorem gT (f : FuncId) (N : Option Tmp) {fn : Func} (hf : P.funcs[f]? = some fn) (args : Array Value) {rest : List Oper} {oi : Oper} {a : Act} {w : World} {as_ : Array Operand} {ts : Array TypeId}
 (h : Calls P f args w fun e w' => ∃ v, e = .returned v ∧ wpList P ops Q rest (a.put N v) w')
 (hop : oi.op = .call { callee := .value (.func f), args := as_, argTypes := ts } := by with_reducible rfl) (hd : oi.dst = N := by rfl) (hg : oi.guard = none := by rfl) (hname : (fn.name == "runtime.NumGoroutine") = false := by kernel_rfl) (hb : fn.body.isSome = true := by rfl)
 (hargs : as_.map a.eval = args := by ((try simp only [List.map_toArray, List.map_cons, List.map_nil]); first | done | rfl | (simp only [List.length_drop, List.length_take]; rfl))) : wpList P ops Q (oi :: rest) a w :=
 goesL_ N hd hg hf hname hb args hop hargs h
end
theorem bT {p : Prop} (h : p := by repeat (first | (with_reducible first | exact HB.out | apply below_alloc | apply pw_below_drewN | apply below_drew1) | exact HB.out)) : p := h
theorem bS {p q : Prop} (x : p) (c : p → q := by (intro hq_; repeat (first | (with_reducible first | exact HB.out | apply below_alloc | apply pw_below_drewN | apply below_drew1 | refine below_set ?_ hq_) | exact HB.out))) : q := c x
theorem aT {p : Prop} (h : p := by first | (with_reducible assumption) | assumption) : p := h
theorem mT {p : Prop} (h : p := by ((try simp only [List.map_toArray, List.map_cons, List.map_nil]); first | done | rfl | (simp only [List.length_drop, List.length_take]; rfl))) : p := h
theorem vT {p q : Prop} (h : p) (c : p → q := by (intro hq_; (with_reducible repeat (first | apply Kd.V_alloc | apply Kd.V_drewN | apply Kd.V_drew)); exact hq_)) : q := c h
theorem rT {p q : Prop} (h : p) (c : p → q := by (intro hq_; (with_reducible repeat (first | apply Kd.R_alloc | apply Kd.R_drewN | apply Kd.R_drew)); exact hq_)) : q := c h
theorem nT {p q : Prop} (h : p) (c : p → q := by (intro hq_; (with_reducible repeat (first | apply Kd.N_alloc | apply Kd.N_drewN | apply Kd.N_drew)); exact hq_)) : q := c h
theorem kT {p q : Prop} (h : p) (c : p → q := by (intro hq_; (with_reducible repeat (first | refine blk_drewN ?_ _ | refine blk_drew ?_ | refine blk_alloc ?_ _)); exact hq_)) : q := c h
theorem cT {p q : Prop} (h : p) (c : p → q := by (intro hq_; repeat (first | exact (Kd.C_below hq_ HB.out) | (with_reducible refine Kd.C_alloc ?_ _) | (with_reducible refine Kd.C_drewN ?_ _) | (with_reducible refine Kd.C_drew ?_)))) : q := c h
theorem cU {p q : Prop} (h : p) (c : p → q := by (intro hq_; repeat (first | (with_reducible exact hq_) | (with_reducible refine Kd.C_alloc ?_ _) | (with_reducible refine Kd.C_drewN ?_ _) | (with_reducible refine Kd.C_drew ?_) | exact hq_))) : q := c h
theorem cV {p q : Prop} (h : p) (c : p → q := by (intro hq_; repeat (first | exact hq_ | (with_reducible refine Kd.C_alloc ?_ _) | (with_reducible refine Kd.C_drewN ?_ _) | (with_reducible refine Kd.C_drew ?_)))) : q := c h
theorem eT {p : Prop} (h : p := by first | rfl | (simp; done) | (simp [*]; done)) : p := h
theorem fT {p : Prop} (h : p := by first | rfl | (simp [errW_none, errW_some] <;> rfl) | (simp [*, errW_none, errW_some] <;> rfl)) : p := h
theorem zT {p : Prop} (h : p := by first | exact Kd.R_nil _ _ _ _ _ | exact Kd.N_nil _ _ _ _ _ | exact Kd.V_nil _ _ _ _ _ | exact Kd.Q_nil _ _ _ _ _ | exact Kd.S_nil _ _ _ _ _) : p := h
theorem jT {p q r : Prop} (hy : p) (h : q) (c : p → q → r := by (intro hy_ H; first | (rw [hy_]; with_reducible exact H) | (have H2_ := (Option.bind_some _ _).symm.trans H; rw [hy_]; with_reducible exact H2_) | (have H2_ := (Option.bind_some _ _).symm.trans H; with_reducible exact H2_) | with_reducible exact H | (rw [hy_]; exact H) | exact H)) : r := c hy h
theorem uT {p : Prop} (h : p := by first | exact Kd.N_base ho | exact Kd.R_base ho | exact Kd.S_base ho | exact Kd.Q_base ho) : p := h
theorem hxT {w W : World} {a : Addr} {v : Value} (hb : Below w.heap.size w W) (h : w.cell? a = some v) : W.cell? a = some v := (hb.cell (World.block_lt_of_cell? w _ h)).trans h
section
variable {α : Type} {d : Kd α} {e base : Nat} {ok ok2 : Nat → Prop} {w0 W w1 : World} {u v v1 : Value} {xs : List α} {q : Prop}
theorem bB {p q : Prop} (x : p) (c : p → q := by (intro h_; first | exact Kd.N_base h_ | exact Kd.R_base h_ | exact Kd.S_base h_ | exact Kd.Q_base h_)) : q := c x
theorem vT' (h : Kd.V d e w0 base ok v xs) (c : Kd.V d e w0 base ok v xs → Kd.V d e W base ok v xs := by (intro hq_; (with_reducible repeat (first | apply Kd.V_alloc | apply Kd.V_drewN | apply Kd.V_drew)); exact hq_)) : Kd.V d e W base ok v xs := c h
theorem nT' (h : Kd.N d e w0 base ok v xs) (c : Kd.N d e w0 base ok v xs → Kd.N d e W base ok v xs := by (intro hq_; (with_reducible repeat (first | apply Kd.N_alloc | apply Kd.N_drewN | apply Kd.N_drew)); exact hq_)) : Kd.N d e W base ok v xs := c h
theorem rT' (h : Kd.R d e w0 base ok v xs) (c : Kd.R d e w0 base ok v xs → Kd.R d e W base ok v xs := by (intro hq_; (with_reducible repeat (first | apply Kd.R_alloc | apply Kd.R_drewN | apply Kd.R_drew)); exact hq_)) : Kd.R d e W base ok v xs := c h
theorem sT' (h : Kd.S d e w0 base ok v xs) (c : Kd.S d e w0 base ok v xs → Kd.S d e W base ok v xs := by (intro hq_; (with_reducible repeat (first | apply Kd.S_alloc | apply Kd.S_drewN | apply Kd.S_drew)); exact hq_)) : Kd.S d e W base ok v xs := c h
theorem nb (h : Aside0 (Kd.N d e w0 base ok v xs)) (hb : Below W.heap.size W w1) (c : Kd.N d e w0 base ok v xs → Kd.N d e W base ok v xs := by (intro hq_; (with_reducible repeat (first | apply Kd.N_alloc | apply Kd.N_drewN | apply Kd.N_drew)); exact hq_)) : Aside0 (Kd.N d e w1 base ok v xs) := ⟨Kd.N_below (c h.out) hb⟩
theorem rb (h : Aside0 (Kd.R d e w0 base ok v xs)) (hb : Below W.heap.size W w1) (c : Kd.R d e w0 base ok v xs → Kd.R d e W base ok v xs := by (intro hq_; (with_reducible repeat (first | apply Kd.R_alloc | apply Kd.R_drewN | apply Kd.R_drew)); exact hq_)) : Aside0 (Kd.R d e w1 base ok v xs) := ⟨Kd.R_below (c h.out) hb⟩
theorem sb (h : Aside0 (Kd.S d e w0 base ok v xs)) (hb : Below W.heap.size W w1) (c : Kd.S d e w0 base ok v xs → Kd.S d e W base ok v xs := by (intro hq_; (with_reducible repeat (first | apply Kd.S_alloc | apply Kd.S_drewN | apply Kd.S_drew)); exact hq_)) : Aside0 (Kd.S d e w1 base ok v xs) := ⟨Kd.S_below (c h.out) hb⟩
theorem ve (h : Aside0 (Kd.V d e w0 base ok v xs)) (o : q) (hb : Below W.heap.size W w1) (c : Kd.V d e w0 base ok v xs → Kd.V d e W base ok v xs := by (intro hq_; (with_reducible repeat (first | apply Kd.V_alloc | apply Kd.V_drewN | apply Kd.V_drew)); exact hq_)) (g : q → ∀ k, u.ownBlock = some k → W.heap.size ≤ k := by (intro h_; first | exact Kd.N_base h_ | exact Kd.R_base h_ | exact Kd.S_base h_ | exact Kd.Q_base h_)) : Aside0 (Kd.V d e w1 base (fun k => ok k ∧ some k ≠ u.ownBlock) v xs) := ⟨Kd.V_elder' (c h.out) (g o) hb⟩
theorem ne (h : Aside0 (Kd.N d e w0 base ok v xs)) (o : q) (hb : Below W.heap.size W w1) (c : Kd.N d e w0 base ok v xs → Kd.N d e W base ok v xs := by (intro hq_; (with_reducible repeat (first | apply Kd.N_alloc | apply Kd.N_drewN | apply Kd.N_drew)); exact hq_)) (g : q → ∀ k, u.ownBlock = some k → W.heap.size ≤ k := by (intro h_; first | exact Kd.N_base h_ | exact Kd.R_base h_ | exact Kd.S_base h_ | exact Kd.Q_base h_)) : Aside0 (Kd.N d e w1 base (fun k => ok k ∧ some k ≠ u.ownBlock) v xs) := ⟨Kd.N_elder' (c h.out) (g o) hb⟩
theorem re (h : Aside0 (Kd.R d e w0 base ok v xs)) (o : q) (hb : Below W.heap.size W w1) (c : Kd.R d e w0 base ok v xs → Kd.R d e W base ok v xs := by (intro hq_; (with_reducible repeat (first | apply Kd.R_alloc | apply Kd.R_drewN | apply Kd.R_drew)); exact hq_)) (g : q → ∀ k, u.ownBlock = some k → W.heap.size ≤ k := by (intro h_; first | exact Kd.N_base h_ | exact Kd.R_base h_ | exact Kd.S_base h_ | exact Kd.Q_base h_)) : Aside0 (Kd.R d e w1 base (fun k => ok k ∧ some k ≠ u.ownBlock) v xs) := ⟨Kd.R_elder' (c h.out) (g o) hb⟩
theorem se (h : Aside0 (Kd.S d e w0 base ok v xs)) (o : q) (hb : Below W.heap.size W w1) (c : Kd.S d e w0 base ok v xs → Kd.S d e W base ok v xs := by (intro hq_; (with_reducible repeat (first | apply Kd.S_alloc | apply Kd.S_drewN | apply Kd.S_drew)); exact hq_)) (g : q → ∀ k, u.ownBlock = some k → W.heap.size ≤ k := by (intro h_; first | exact Kd.N_base h_ | exact Kd.R_base h_ | exact Kd.S_base h_ | exact Kd.Q_base h_)) : Aside0 (Kd.S d e w1 base (fun k => ok k ∧ some k ≠ u.ownBlock) v xs) := ⟨Kd.S_elder' (c h.out) (g o) hb⟩
theorem va (h : Aside0 (Kd.V d e w0 base ok2 u xs)) (hg : W.grownBy w1 v.ownBlock) (hat : v1.ownBlock = v.ownBlock ∨ ∃ b, v1.ownBlock = some b ∧ W.heap.size ≤ b) (c : Kd.V d e w0 base ok2 u xs → Kd.V d e W base (fun k => ok k ∧ some k ≠ v.ownBlock) u xs := by (intro hq_; (with_reducible repeat (first | apply Kd.V_alloc | apply Kd.V_drewN | apply Kd.V_drew)); exact hq_)) : Aside0 (Kd.V d e w1 base (fun k => ok k ∧ some k ≠ v1.ownBlock) u xs) := ⟨Kd.V_afterv (c h.out) hg hat⟩
theorem ra (h : Aside0 (Kd.R d e w0 base ok2 u xs)) (hg : W.grownBy w1 v.ownBlock) (hat : v1.ownBlock = v.ownBlock ∨ ∃ b, v1.ownBlock = some b ∧ W.heap.size ≤ b) (c : Kd.R d e w0 base ok2 u xs → Kd.R d e W base (fun k => ok k ∧ some k ≠ v.ownBlock) u xs := by (intro hq_; (with_reducible repeat (first | apply Kd.R_alloc | apply Kd.R_drewN | apply Kd.R_drew)); exact hq_)) : Aside0 (Kd.R d e w1 base (fun k => ok k ∧ some k ≠ v1.ownBlock) u xs) := ⟨Kd.R_after (c h.out) hg hat⟩
theorem sa (h : Aside0 (Kd.S d e w0 base ok2 u xs)) (hg : W.grownBy w1 v.ownBlock) (hat : v1.ownBlock = v.ownBlock ∨ ∃ b, v1.ownBlock = some b ∧ W.heap.size ≤ b) (c : Kd.S d e w0 base ok2 u xs → Kd.S d e W base (fun k => ok k ∧ some k ≠ v.ownBlock) u xs := by (intro hq_; (with_reducible repeat (first | apply Kd.S_alloc | apply Kd.S_drewN | apply Kd.S_drew)); exact hq_)) : Aside0 (Kd.S d e w1 base (fun k => ok k ∧ some k ≠ v1.ownBlock) u xs) := ⟨Kd.S_after (c h.out) hg hat⟩
theorem cb {A : Option Addr} {n : Nat} (h : Aside0 (d.C w0 A n xs)) (hb : Below W.heap.size W w1) (c : d.C w0 A n xs → d.C W A n xs := by (intro hq_; repeat (first | (with_reducible exact hq_) | (with_reducible refine Kd.C_alloc ?_ _) | (with_reducible refine Kd.C_drewN ?_ _) | (with_reducible refine Kd.C_drew ?_) | exact hq_))) : Aside0 (d.C w1 A n xs) := ⟨Kd.C_below (c h.out) hb⟩
theorem bb {w W2 W : World} (h : Aside0 (Below w.heap.size w W2)) {w2 : World} (hb : Below W.heap.size W w2) (c : Below w.heap.size w W := by repeat (first | (with_reducible first | exact HB.out | apply below_alloc | apply pw_below_drewN | apply below_drew1) | exact HB.out)) : Aside0 (Below w.heap.size w w2) := ⟨below_step c hb⟩
theorem bg {p : Prop} (x : Aside0 p) {w W w2 : World} (hb : Below W.heap.size W w2) (c : p → Below w.heap.size w W := by (intro hq_; repeat (first | (with_reducible first | exact HB.out | apply below_alloc | apply pw_below_drewN | apply below_drew1 | refine below_set ?_ hq_) | exact HB.out))) : Aside0 (Below w.heap.size w w2) := ⟨below_step (c x.out) hb⟩
variable {g : Nat} {o o0 : Obj} {row : Option Nat} {t : TypeId}
theorem kP (h : w0.heap[g]? = some o0) (c : w0.heap[g]? = some o0 → ∃ o1, W.heap[g]? = some o1 ∧ o1 = o := by (intro hq_; exact ⟨_, by ((with_reducible repeat (first | apply blk_drewN | apply blk_drew | apply blk_alloc | apply blk_set)); exact hq_), by simp only [List.setIfInBounds_toArray, List.set_cons_zero, List.set_cons_succ]⟩)) : W.heap[g]? = some o := by
 obtain ⟨o1, h1, rfl⟩ := c h
 exact h1
theorem kb (h : Aside0 (w0.heap[g]? = some o)) (hb : Below W.heap.size W w1) (c : w0.heap[g]? = some o → W.heap[g]? = some o := by (intro hq_; (with_reducible repeat (first | refine blk_drewN ?_ _ | refine blk_drew ?_ | refine blk_alloc ?_ _)); exact hq_)) : Aside0 (w1.heap[g]? = some o) := ⟨blk_below (c h.out) hb⟩
theorem kg (h : Aside0 (w0.heap[g]? = some o)) (hg : W.grownBy w1 row) (hne : some g ≠ row) (c : w0.heap[g]? = some o → W.heap[g]? = some o := by (intro hq_; (with_reducible repeat (first | refine blk_drewN ?_ _ | refine blk_drew ?_ | refine blk_alloc ?_ _)); exact hq_)) : Aside0 (w1.heap[g]? = some o) := ⟨blk_grown (c h.out) hg hne⟩
theorem kq (h : w0.heap[g]? = some o0) (hb : Below W.heap.size W w1) (c : w0.heap[g]? = some o0 → ∃ o1, W.heap[g]? = some o1 ∧ o1 = o := by (intro hq_; exact ⟨_, by ((with_reducible repeat (first | apply blk_drewN | apply blk_drew | apply blk_alloc | apply blk_set)); exact hq_), by simp only [List.setIfInBounds_toArray, List.set_cons_zero, List.set_cons_succ]⟩)) : Aside0 (w1.heap[g]? = some o) := ⟨blk_below (kP h c) hb⟩
theorem gw {p q : Prop} (hg : q) (c : q → p := by (intro hq_; rw [hq_]; exact (below_size bT))) : Aside0 p := ⟨c hg⟩
theorem hK {p : Prop} (h : p := by repeat (first | (with_reducible first | exact HK.out | apply Kept.alloc | apply Kept.drewN | apply Kept.drew) | exact HK.out)) : p := h
theorem hKs {p q : Prop} (x : q) (c : q → p := by (intro hq_; repeat (first | (with_reducible first | exact HK.out | apply Kept.alloc | apply Kept.drewN | apply Kept.drew | refine Kept.setCell ?_ (.inr hq_) _) | exact HK.out))) : p := c x
theorem hk1 {p : Prop} (h : p := by first | exact HK.out.1 | exact (hK (p := Kept w _ (fun k_ => P0_ k_))).1) : p := h
theorem hB {w W2 : World} {S : Nat → Prop} (h : Aside0 (Kept w W2 S)) (hb : Below W.heap.size W w1) (c : Kept w W S := by repeat (first | (with_reducible first | exact HK.out | apply Kept.alloc | apply Kept.drewN | apply Kept.drew) | exact HK.out)) : Aside0 (Kept w w1 S) := ⟨c.below hb⟩
theorem hG {w W2 : World} {S : Nat → Prop} (h : Aside0 (Kept w W2 S)) (hg : W.grownBy w1 row) (hr : ∀ k, row = some k → S k ∨ w.heap.size ≤ k) (c : Kept w W S := by repeat (first | (with_reducible first | exact HK.out | apply Kept.alloc | apply Kept.drewN | apply Kept.drew) | exact HK.out)) : Aside0 (Kept w w1 S) := ⟨Kept.of_grown hg c hr⟩
theorem hT {w W2 : World} {S S2 : Nat → Prop} (h : Aside0 (Kept w W2 S)) (k : Kept W w1 S2) (hs : ∀ k, S2 k → S k ∨ w.heap.size ≤ k) (c : Kept w W S := by repeat (first | (with_reducible first | exact HK.out | apply Kept.alloc | apply Kept.drewN | apply Kept.drew) | exact HK.out)) : Aside0 (Kept w w1 S) := ⟨c.then_ k hs⟩
theorem fz4 {cs : Array Value} (h : Aside0 (W.heap[g]? = some (.cells cs t (0, 0)))) : W.frozen? ⟨g, 0, none⟩ = false ∧ W.frozen? ⟨g, 1, none⟩ = false ∧ W.frozen? ⟨g, 2, none⟩ = false ∧ W.frozen? ⟨g, 3, none⟩ = false := ⟨blk_frozen h.out 0, blk_frozen h.out 1, blk_frozen h.out 2, blk_frozen h.out 3⟩
theorem fz2 {cs : Array Value} (h : Aside0 (W.heap[g]? = some (.cells cs t (0, 0)))) : W.frozen? ⟨g, 0, none⟩ = false ∧ W.frozen? ⟨g, 1, none⟩ = false := ⟨blk_frozen h.out 0, blk_frozen h.out 1⟩
theorem fz8 {cs : Array Value} (h : Aside0 (W.heap[g]? = some (.cells cs t (0, 0)))) : W.frozen? ⟨g, 0, none⟩ = false ∧ W.frozen? ⟨g, 1, none⟩ = false ∧ W.frozen? ⟨g, 2, none⟩ = false ∧ W.frozen? ⟨g, 3, none⟩ = false ∧ W.frozen? ⟨g, 4, none⟩ = false ∧ W.frozen? ⟨g, 5, none⟩ = false ∧ W.frozen? ⟨g, 6, none⟩ = false ∧ W.frozen? ⟨g, 7, none⟩ = false := ⟨blk_frozen h.out 0, blk_frozen h.out 1, blk_frozen h.out 2, blk_frozen h.out 3, blk_frozen h.out 4, blk_frozen h.out 5, blk_frozen h.out 6, blk_frozen h.out 7⟩
theorem cz4 {a b c d : Value} (h : Aside0 (W.heap[g]? = some (.cells #[a, b, c, d] t (0, 0)))) : W.cell? ⟨g, 0, none⟩ = some a ∧ W.cell? ⟨g, 1, none⟩ = some b ∧ W.cell? ⟨g, 2, none⟩ = some c ∧ W.cell? ⟨g, 3, none⟩ = some d := ⟨blk_cell h.out 0, blk_cell h.out 1, blk_cell h.out 2, blk_cell h.out 3⟩
theorem cz8 {a b c d e f i j : Value} (h : Aside0 (W.heap[g]? = some (.cells #[a, b, c, d, e, f, i, j] t (0, 0)))) : W.cell? ⟨g, 0, none⟩ = some a ∧ W.cell? ⟨g, 1, none⟩ = some b ∧ W.cell? ⟨g, 2, none⟩ = some c ∧ W.cell? ⟨g, 3, none⟩ = some d ∧ W.cell? ⟨g, 4, none⟩ = some e ∧ W.cell? ⟨g, 5, none⟩ = some f ∧ W.cell? ⟨g, 6, none⟩ = some i ∧ W.cell? ⟨g, 7, none⟩ = some j := ⟨blk_cell h.out 0, blk_cell h.out 1, blk_cell h.out 2, blk_cell h.out 3, blk_cell h.out 4, blk_cell h.out 5, blk_cell h.out 6, blk_cell h.out 7⟩
end
theorem gA {P : Program} {ops : Array Oper} {rest : List Oper} {o : Oper} {a : Act} {Q : Exit → Act → World → Prop} {W : World} (xs : Array Operand) {ts : Array TypeId} (_h : o.op = .call { callee := .builtin .append, args := xs, argTypes := ts }) (h : wpList P ops Q (o :: rest) a W) : wpList P ops Q (o :: rest) a W := h
theorem bi {α β : Type} {x : Option α} {f : α → Option β} {r : β} (h : x.bind f = some r) : ∃ a, Aside0 (x = some a) ∧ f a = some r := by
 obtain ⟨a, h1, h2⟩ := Option.bind_eq_some_iff.mp h
 exact ⟨a, ⟨h1⟩, h2⟩
def bm (n k : Nat) : Array Bool := ⟨(List.range n).map k.testBit⟩
end Go.Proofs.YtgmolmpfihkolaaGreatW.PrintLast
namespace Go.Proofs.YtgmolmpfihkolaaGreat.Pj
open Go.RowKit Go.Proofs.YtgmolmpfihkolaaGreatW.PrintWords Go.Proofs.YtgmolmpfihkolaaGreatW.PrintLast Go.Proofs.YtgmolmpfihkolaaGreatW.PrintMore
attribute [local go_sem] run_store_flt max2_int min2_int max_two min_two max_three min_three max_four min_four
set_option linter.unusedVariables false
set_option linter.unusedSimpArgs false
mutual
def r22_Bulk.l0 : Nat → List (S53) → Int → Int → Int → Option (Int)
 | 0, _, _, _, _ => none
 | k + 1, x0, x1, x5, x6 => if x6 < (x0.length : Int) then (r22_Bulk.j1 k x0 x1 x5 x6 (decide (x5 ≤ x1))) else (r22_Bulk.j1 k x0 x1 x5 x6 false)
def r22_Bulk.j1 : Nat → List (S53) → Int → Int → Int → Bool → Option (Int)
 | 0, _, _, _, _, _ => none
 | k + 1, x0, x1, x5, x6, x23 => if x23 = true then (if 0 ≤ x6 then (if x6 < (x0.length : Int) then (if (((rd_T53 x0 x6).f3.f3).size : Int) > x1 then (some (wrap64 (x1 + 1))) else (if (wrap64 (x5 + (((rd_T53 x0 x6).f3.f3).size : Int))) ≤ x1 then ((r22_Bulk.f k ((rd_T53 x0 x6).f4) (wrap64 (x1 - (wrap64 (x5 + (((rd_T53 x0 x6).f3.f3).size : Int)))))).bind fun t104 => (r22_Bulk.l0 k x0 x1 (wrap64 ((wrap64 (x5 + (((rd_T53 x0 x6).f3.f3).size : Int))) + t104)) (wrap64 (x6 + 1)))) else (r22_Bulk.l0 k x0 x1 (wrap64 (x5 + (((rd_T53 x0 x6).f3.f3).size : Int))) (wrap64 (x6 + 1))))) else (none)) else (none)) else (some x5)
def r22_Bulk.f : Nat → List (S53) → Int → Option (Int)
 | 0, _, _ => none
 | k + 1, l0, a1 => if (l0.length : Int) > a1 then (some (wrap64 (a1 + 1))) else (r22_Bulk.l0 k l0 a1 (l0.length : Int) 0)
end
set_option maxHeartbeats 8000000 in
set_option maxRecDepth 100000 in
theorem r22_Bulk.calls (k : Nat) : ∀ (A0 : Option Addr) (c0 : Nat) (l0 : List (S53)) (a1 : Int) (r : Int) (w : World) (hr0 : Kd.C k53 w A0 l0.length l0) (hc0 : l0.length ≤ c0) (h : r22_Bulk.f k l0 a1 = some r),
 Calls Tryz.prog 28 #[.slice A0 l0.length c0, .int .i64 a1] w fun e w' => e = .returned (.int .i64 r) ∧ Drawn0 w w' := by
 induction k using Nat.strongRecOn with
 | _ k ih =>
 intro A0 c0 l0 a1 r w hr0 hc0 h
 cases k with
 | zero => exact absurd h (by simp [r22_Bulk.f])
 | succ k =>
 simp only [r22_Bulk.f] at h
 have HR0 := akk hr0
 have HC0 := akk hc0
 clear hr0 hc0
 have H : (if (l0.length : Int) > a1 then (some (wrap64 (a1 + 1))) else (r22_Bulk.l0 k l0 a1 (l0.length : Int) 0)) = some r := h
 clear h
 by_cases c3 : (l0.length : Int) > a1
 ·rw [if_pos c3] at H
  have c3b0 := decide_eq_true c3
  clear c3
  obtain rfl := Option.some.inj H
  go_enter Tryz.func28, Tryz.ntmps28
  go_wp2
  go_ret
  exact ⟨by first | rfl | (simp; done) | (simp [*]; done), by repeat (first | exact Drawn0.refl _ | apply Drawn0.step)⟩
 ·rw [if_neg c3] at H
  have c3b0 := decide_eq_false c3
  clear c3
  have H' := akk H
  clear H
  go_enter Tryz.func28, Tryz.ntmps28
  go_wp2
  go_loopg [5, 6] k (fun kq v5 v6 w' => ∃ (x5_1 : Int) (x6_1 : Int), v5 = .int .i64 x5_1 ∧ v6 = .int .i64 x6_1 ∧ Aside0 (r22_Bulk.l0 kq l0 a1 x5_1 x6_1 = some r) ∧ Aside0 (kq ≤ k) ∧ Drawn0 w w')
  case atStart => exact ⟨((l0.length : Int)), (0), eT, eT, H', ⟨Nat.le_refl _⟩, by repeat (first | exact Drawn0.refl _ | apply Drawn0.step)⟩
  case round =>
   clear H'
   try clear c3b0
   obtain ⟨x5_1, x6_1, rfl, rfl, HA, HK1, ⟨m1, rfl⟩⟩ := hrel
   cases gk with
   | zero => exact absurd HA.out (by simp [r22_Bulk.l0])
   | succ k1 =>
    have H := HA.out
    clear HA
    simp only [r22_Bulk.l0] at H
    have HC4 := akk H
    clear H
    go_upto_region 5 with (fail)
    go_cut [23] (fun v23 wc => ∃ (kq : Nat) (x23_3 : Bool), v23 = .bool x23_3 ∧ Aside0 (r22_Bulk.j1 kq l0 a1 x5_1 x6_1 x23_3 = some r) ∧ Aside0 (kq ≤ k1) ∧ Drawn0 w wc)
    case first =>
     have H := HC4.out
     clear HC4
     by_cases c5 : x6_1 < (l0.length : Int)
     ·rw [if_pos c5] at H
      have c5b0 := decide_eq_true c5
      clear c5
      (first | rw [c5b0] | (simp only [i64_w, i32_w]; rw [c5b0]) | skip)
      have H' := akk H
      clear H
      go_wp2
      go_meet
      case rel => exact ⟨_, (decide (x5_1 ≤ a1)), eT, H', ⟨by have := HK1.out; first | omega | exact Nat.le_refl _⟩, by repeat (first | exact Drawn0.refl _ | apply Drawn0.step)⟩
     ·rw [if_neg c5] at H
      have c5b0 := decide_eq_false c5
      clear c5
      (first | rw [c5b0] | (simp only [i64_w, i32_w]; rw [c5b0]) | skip)
      have H' := akk H
      clear H
      go_wp2
      go_meet
      case rel => exact ⟨_, (false), eT, H', ⟨by have := HK1.out; first | omega | exact Nat.le_refl _⟩, by repeat (first | exact Drawn0.refl _ | apply Drawn0.step)⟩
    case rest =>
     clear HC4
     obtain ⟨kq, x23_3, rfl, HA, HJ3, ⟨mc3, rfl⟩⟩ := hcut
     cases kq with
     | zero => exact absurd HA.out (by simp [r22_Bulk.j1])
     | succ kj3 =>
      have H := HA.out
      clear HA
      simp only [r22_Bulk.j1] at H
      by_cases c6 : x23_3 = true
      ·subst c6
       rw [if_pos rfl] at H
       by_cases c7 : 0 ≤ x6_1
       ·rw [if_pos c7] at H
        have c7b0 := decide_eq_true c7
        clear c7
        by_cases c8 : x6_1 < (l0.length : Int)
        ·rw [if_pos c8] at H
         have c8b0 := decide_eq_true c8
         clear c8
         by_cases c9 : (((rd_T53 l0 x6_1).f3.f3).size : Int) > a1
         ·rw [if_pos c9] at H
          have c9b0 := decide_eq_true c9
          clear c9
          obtain rfl := Option.some.inj H
          have p101 : 0 ≤ (x6_1 : Int) := of_decide_eq_true aT
          have q101 : x6_1 < (l0.length : Int) := of_decide_eq_true aT
          obtain ⟨ad101, A101_7, c101_7, e101, hx101_0, hx101_1, hx101_2, hx101_3, hx101_4, hx101_5, hx101_6, hx101_7, hl101_7, hi101_7⟩ := at_T53 HR0.out x6_1 p101 q101
          cases e101
          have HR101_7 := akk hi101_7
          have HC101_7 := akk hl101_7
          clear hi101_7 hl101_7
          replace p101 := eq_true p101
          replace q101 := eq_true q101
          go_wp2
          go_ret
          exact ⟨by first | rfl | (simp; done) | (simp [*]; done), by repeat (first | exact Drawn0.refl _ | apply Drawn0.step)⟩
         ·rw [if_neg c9] at H
          have c9b0 := decide_eq_false c9
          clear c9
          by_cases c10 : (wrap64 (x5_1 + (((rd_T53 l0 x6_1).f3.f3).size : Int))) ≤ a1
          ·rw [if_pos c10] at H
           have c10b0 := decide_eq_true c10
           clear c10
           obtain ⟨t104, A11, H⟩ := bi H
           try dsimp only at H
           have H' := akk H
           clear H
           have p101 : 0 ≤ (x6_1 : Int) := of_decide_eq_true aT
           have q101 : x6_1 < (l0.length : Int) := of_decide_eq_true aT
           obtain ⟨ad101, A101_7, c101_7, e101, hx101_0, hx101_1, hx101_2, hx101_3, hx101_4, hx101_5, hx101_6, hx101_7, hl101_7, hi101_7⟩ := at_T53 HR0.out x6_1 p101 q101
           cases e101
           have HR101_7 := akk hi101_7
           have HC101_7 := akk hl101_7
           clear hi101_7 hl101_7
           replace p101 := eq_true p101
           replace q101 := eq_true q101
           have p102 : 0 ≤ (x6_1 : Int) := of_decide_eq_true aT
           have q102 : x6_1 < (l0.length : Int) := of_decide_eq_true aT
           obtain ⟨ad102, A102_7, c102_7, e102, hx102_0, hx102_1, hx102_2, hx102_3, hx102_4, hx102_5, hx102_6, hx102_7, hl102_7, hi102_7⟩ := at_T53 HR0.out x6_1 p102 q102
           obtain rfl : ad101 = ad102 := (by injection e102)
           have HR102_7 := akk hi102_7
           have HC102_7 := akk hl102_7
           clear hi102_7 hl102_7
           replace p102 := eq_true p102
           replace q102 := eq_true q102
           have ea_ := Option.some.inj (hx101_7.symm.trans hx102_7)
           injection ea_ with ea_ en_ ec_
           subst ea_
           subst ec_
           clear en_
           have p103 : 0 ≤ (x6_1 : Int) := of_decide_eq_true aT
           have q103 : x6_1 < (l0.length : Int) := of_decide_eq_true aT
           obtain ⟨ad103, A103_7, c103_7, e103, hx103_0, hx103_1, hx103_2, hx103_3, hx103_4, hx103_5, hx103_6, hx103_7, hl103_7, hi103_7⟩ := at_T53 HR0.out x6_1 p103 q103
           obtain rfl : ad101 = ad103 := (by injection e103)
           have HR103_7 := akk hi103_7
           have HC103_7 := akk hl103_7
           clear hi103_7 hl103_7
           replace p103 := eq_true p103
           replace q103 := eq_true q103
           have ea_ := Option.some.inj (hx101_7.symm.trans hx103_7)
           injection ea_ with ea_ en_ ec_
           subst ea_
           subst ec_
           clear en_
           go_wp2_with (refine gT 28 (some 58) Tryz.func28 #[.slice A101_7 ((rd_T53 l0 x6_1).f4).length c101_7, .int .i64 (wrap64 (a1 - (wrap64 (x5_1 + (((rd_T53 l0 x6_1).f3.f3).size : Int)))))] ?_; (with_reducible refine (ih kj3 (by have := HK1.out; have := HJ3.out; omega) _ _ ((rd_T53 l0 x6_1).f4) (wrap64 (a1 - (wrap64 (x5_1 + (((rd_T53 l0 x6_1).f3.f3).size : Int))))) t104 _ ?_ ?_ A11.out).mono ?_); exact cV HR103_7.out; exact HC103_7.out; rintro e w' ⟨rfl, ⟨nd, rfl⟩⟩; refine ⟨_, rfl, ?_⟩)
           go_roundg kj3
           case measure => have := HK1.out; have := HJ3.out; omega
           case rel => exact ⟨(wrap64 ((wrap64 (x5_1 + (((rd_T53 l0 x6_1).f3.f3).size : Int))) + t104)), (wrap64 (x6_1 + 1)), eT, eT, H', ⟨by have := HK1.out; have := HJ3.out; omega⟩, by repeat (first | exact Drawn0.refl _ | apply Drawn0.step)⟩
          ·rw [if_neg c10] at H
           have c10b0 := decide_eq_false c10
           clear c10
           have H' := akk H
           clear H
           have p101 : 0 ≤ (x6_1 : Int) := of_decide_eq_true aT
           have q101 : x6_1 < (l0.length : Int) := of_decide_eq_true aT
           obtain ⟨ad101, A101_7, c101_7, e101, hx101_0, hx101_1, hx101_2, hx101_3, hx101_4, hx101_5, hx101_6, hx101_7, hl101_7, hi101_7⟩ := at_T53 HR0.out x6_1 p101 q101
           cases e101
           have HR101_7 := akk hi101_7
           have HC101_7 := akk hl101_7
           clear hi101_7 hl101_7
           replace p101 := eq_true p101
           replace q101 := eq_true q101
           have p102 : 0 ≤ (x6_1 : Int) := of_decide_eq_true aT
           have q102 : x6_1 < (l0.length : Int) := of_decide_eq_true aT
           obtain ⟨ad102, A102_7, c102_7, e102, hx102_0, hx102_1, hx102_2, hx102_3, hx102_4, hx102_5, hx102_6, hx102_7, hl102_7, hi102_7⟩ := at_T53 HR0.out x6_1 p102 q102
           obtain rfl : ad101 = ad102 := (by injection e102)
           have HR102_7 := akk hi102_7
           have HC102_7 := akk hl102_7
           clear hi102_7 hl102_7
           replace p102 := eq_true p102
           replace q102 := eq_true q102
           have ea_ := Option.some.inj (hx101_7.symm.trans hx102_7)
           injection ea_ with ea_ en_ ec_
           subst ea_
           subst ec_
           clear en_
           go_wp2
           go_roundg kj3
           case measure => have := HK1.out; have := HJ3.out; omega
           case rel => exact ⟨(wrap64 (x5_1 + (((rd_T53 l0 x6_1).f3.f3).size : Int))), (wrap64 (x6_1 + 1)), eT, eT, H', ⟨by have := HK1.out; have := HJ3.out; omega⟩, by repeat (first | exact Drawn0.refl _ | apply Drawn0.step)⟩
        ·rw [if_neg c8] at H
         exact absurd H (by simp)
       ·rw [if_neg c7] at H
        exact absurd H (by simp)
      ·replace c6 := Bool.eq_false_iff.mpr c6
       subst c6
       rw [if_neg (show ¬ (false = true) by decide)] at H
       obtain rfl := Option.some.inj H
       go_wp2
       go_ret
       exact ⟨by first | rfl | (simp; done) | (simp [*]; done), by repeat (first | exact Drawn0.refl _ | apply Drawn0.step)⟩
end Go.Proofs.YtgmolmpfihkolaaGreat.Pj
namespace Go.Proofs.YtgmolmpfihkolaaGreat.Pj
open Go.RowKit Go.Proofs.YtgmolmpfihkolaaGreatW.PrintWords Go.Proofs.YtgmolmpfihkolaaGreatW.PrintLast
set_option linter.unusedVariables false
section
variable {W : World} {base c : Nat} {ok : Nat → Prop} {A : Option Addr} {n : Nat}
theorem gC5 {xs : List (List S39)} (h : Aside0 (Kd.C (Kd.slice 39 k39) W A n xs)) (i : Int) (p : 0 ≤ i := by exact of_decide_eq_true aT) (q : i < (n : Int) := by exact of_decide_eq_true aT) :
 ∃ ad A0 c0, A = some ad ∧ W.cell? (ad.add i.toNat) = some (.slice A0 (rd_L5 xs i).length c0) ∧ Aside0 (k39.C W A0 (rd_L5 xs i).length (rd_L5 xs i)) ∧ Aside0 ((rd_L5 xs i).length ≤ c0) ∧ (0 ≤ i) = True ∧ (i < (n : Int)) = True := by
 obtain ⟨ad, A0, c0, e, hx, hl, hi⟩ := at_L5 h.out i p q
 exact ⟨ad, A0, c0, e, hx, ⟨hi⟩, ⟨hl⟩, eq_true p, eq_true q⟩
theorem gC6 {xs : List (List (List S39))} (h : Aside0 (Kd.C (Kd.slice 29 (Kd.slice 39 k39)) W A n xs)) (i : Int) (p : 0 ≤ i := by exact of_decide_eq_true aT) (q : i < (n : Int) := by exact of_decide_eq_true aT) :
 ∃ ad A0 c0, A = some ad ∧ W.cell? (ad.add i.toNat) = some (.slice A0 (rd_L6 xs i).length c0) ∧ Aside0 ((Kd.slice 39 k39).C W A0 (rd_L6 xs i).length (rd_L6 xs i)) ∧ Aside0 ((rd_L6 xs i).length ≤ c0) ∧ (0 ≤ i) = True ∧ (i < (n : Int)) = True := by
 obtain ⟨ad, A0, c0, e, hx, hl, hi⟩ := at_L6 h.out i p q
 exact ⟨ad, A0, c0, e, hx, ⟨hi⟩, ⟨hl⟩, eq_true p, eq_true q⟩
theorem gN5 {xs : List (List S39)} (h : Aside0 (Kd.N (Kd.slice 39 k39) 29 W base ok (.slice A n c) xs)) (i : Int) (p : 0 ≤ i := by exact of_decide_eq_true aT) (q : i < (xs.length : Int) := by exact of_decide_eq_true aT) :
 ∃ ad A0 c0, A = some ad ∧ W.cell? (ad.add i.toNat) = some (.slice A0 (rd_L5 xs i).length c0) ∧ Aside0 (Kd.V k39 39 W base (fun k => ok k ∧ some k ≠ (Value.slice A n c).ownBlock) (.slice A0 (rd_L5 xs i).length c0) (rd_L5 xs i)) ∧ Aside0 (k39.C W A0 (rd_L5 xs i).length (rd_L5 xs i)) ∧ Aside0 ((rd_L5 xs i).length ≤ c0) ∧ (0 ≤ i) = True ∧ (i < (xs.length : Int)) = True := by
 obtain ⟨ad, A0, c0, e, hx, hl, hi⟩ := at_L5 (Kd.N_reads' h.out).2.2 i p q
 subst e
 obtain ⟨ce, hce, hMe, hcc⟩ := Kd.N_get h.out [] i p (by have e_ := (Kd.N_reads' h.out).1; omega)
 obtain ⟨ua, uc, rfl, ul, ge⟩ := Kd.FK_slice_open hMe
 have hv := hcc 0 _ rfl
 rw [Nat.add_zero, show ((Kd.slice 39 k39)).sz = 1 from rfl, Nat.mul_one] at hv
 replace hv := Option.some.inj (hv.symm.trans hx)
 injection hv with hva hvn hvc
 rw [hva] at ge
 rw [hvc] at ul
 exact ⟨ad, A0, c0, rfl, hx, ⟨Kd.V_mk ul ge⟩, ⟨hi⟩, ⟨hl⟩, eq_true p, eq_true q⟩
theorem gN6 {xs : List (List (List S39))} (h : Aside0 (Kd.N (Kd.slice 29 (Kd.slice 39 k39)) 22 W base ok (.slice A n c) xs)) (i : Int) (p : 0 ≤ i := by exact of_decide_eq_true aT) (q : i < (xs.length : Int) := by exact of_decide_eq_true aT) :
 ∃ ad A0 c0, A = some ad ∧ W.cell? (ad.add i.toNat) = some (.slice A0 (rd_L6 xs i).length c0) ∧ Aside0 (Kd.V (Kd.slice 39 k39) 29 W base (fun k => ok k ∧ some k ≠ (Value.slice A n c).ownBlock) (.slice A0 (rd_L6 xs i).length c0) (rd_L6 xs i)) ∧ Aside0 ((Kd.slice 39 k39).C W A0 (rd_L6 xs i).length (rd_L6 xs i)) ∧ Aside0 ((rd_L6 xs i).length ≤ c0) ∧ (0 ≤ i) = True ∧ (i < (xs.length : Int)) = True := by
 obtain ⟨ad, A0, c0, e, hx, hl, hi⟩ := at_L6 (Kd.N_reads' h.out).2.2 i p q
 subst e
 obtain ⟨ce, hce, hMe, hcc⟩ := Kd.N_get h.out [] i p (by have e_ := (Kd.N_reads' h.out).1; omega)
 obtain ⟨ua, uc, rfl, ul, ge⟩ := Kd.FK_slice_open hMe
 have hv := hcc 0 _ rfl
 rw [Nat.add_zero, show ((Kd.slice 29 (Kd.slice 39 k39))).sz = 1 from rfl, Nat.mul_one] at hv
 replace hv := Option.some.inj (hv.symm.trans hx)
 injection hv with hva hvn hvc
 rw [hva] at ge
 rw [hvc] at ul
 exact ⟨ad, A0, c0, rfl, hx, ⟨Kd.V_mk ul ge⟩, ⟨hi⟩, ⟨hl⟩, eq_true p, eq_true q⟩
end
end Go.Proofs.YtgmolmpfihkolaaGreat.Pj
namespace Go.Proofs.YtgmolmpfihkolaaGreat.Pj
open Go.RowKit Go.Proofs.YtgmolmpfihkolaaGreatW.PrintWords Go.Proofs.YtgmolmpfihkolaaGreatW.PrintLast Go.Proofs.YtgmolmpfihkolaaGreatW.PrintMore
attribute [local go_sem] run_store_flt max2_int min2_int max_two min_two max_three min_three max_four min_four
set_option linter.unusedVariables false
set_option linter.unusedSimpArgs false
mutual
def r05_Bulk.l0 : Nat → T2 → Int → Int → Int → Option (Int)
 | 0, _, _, _, _ => none
 | k + 1, x0, x1, x5, x6 => if x6 < (x0.length : Int) then (if 0 ≤ x6 then (if ((rd_L5 x0 x6).length : Int) > x1 then (some (wrap64 (x1 + 1))) else (r05_Bulk.l1 k x0 x1 x5 x6 0)) else (none)) else (some x5)
def r05_Bulk.l1 : Nat → T2 → Int → Int → Int → Int → Option (Int)
 | 0, _, _, _, _, _ => none
 | k + 1, x0, x1, x5, x6, x7 => if 0 ≤ x6 then (if x6 < (x0.length : Int) then (if x7 < ((rd_L5 x0 x6).length : Int) then (if x5 > x1 then (some (wrap64 (x1 + 1))) else (if 0 ≤ x7 then (if (((rd_T39 (rd_L5 x0 x6) x7).f3).size : Int) > x1 then (some (wrap64 (x1 + 1))) else (r05_Bulk.l1 k x0 x1 (wrap64 ((wrap64 (x5 + 1)) + (((rd_T39 (rd_L5 x0 x6) x7).f3).size : Int))) x6 (wrap64 (x7 + 1)))) else (none))) else (r05_Bulk.l0 k x0 x1 x5 (wrap64 (x6 + 1)))) else (none)) else (none)
end
def r05_Bulk.f (k : Nat) (l0 : T2) (a1 : Int) : Option (Int) := if (l0.length : Int) > a1 then (some (wrap64 (a1 + 1))) else (r05_Bulk.l0 k l0 a1 (l0.length : Int) 0)
set_option maxHeartbeats 8000000 in
set_option maxRecDepth 100000 in
theorem r05_Bulk.calls (k : Nat) (A0 : Option Addr) (c0 : Nat) (l0 : T2) (a1 : Int) (r : Int) (w : World) (hr0 : Kd.C (Kd.slice 39 k39) w A0 l0.length l0) (hc0 : l0.length ≤ c0) (h : r05_Bulk.f k l0 a1 = some r) :
 Calls Tryz.prog 29 #[.slice A0 l0.length c0, .int .i64 a1] w fun e w' => e = .returned (.int .i64 r) ∧ Drawn0 w w' := by
 have HR0 := akk hr0
 have HC0 := akk hc0
 clear hr0 hc0
 have H : (if (l0.length : Int) > a1 then (some (wrap64 (a1 + 1))) else (r05_Bulk.l0 k l0 a1 (l0.length : Int) 0)) = some r := h
 clear h
 by_cases c3 : (l0.length : Int) > a1
 ·rw [if_pos c3] at H
  have c3b0 := decide_eq_true c3
  clear c3
  obtain rfl := Option.some.inj H
  go_enter Tryz.func29, Tryz.ntmps29
  go_wp2
  go_ret
  exact ⟨by first | rfl | (simp; done) | (simp [*]; done), by repeat (first | exact Drawn0.refl _ | apply Drawn0.step)⟩
 ·rw [if_neg c3] at H
  have c3b0 := decide_eq_false c3
  clear c3
  have H' := akk H
  clear H
  go_enter Tryz.func29, Tryz.ntmps29
  go_wp2
  go_loopg [5, 6] k (fun kq v5 v6 w' => ∃ (x5_1 : Int) (x6_1 : Int), v5 = .int .i64 x5_1 ∧ v6 = .int .i64 x6_1 ∧ Aside0 (r05_Bulk.l0 kq l0 a1 x5_1 x6_1 = some r) ∧ Aside0 (kq ≤ k) ∧ Drawn0 w w')
  case atStart => exact ⟨((l0.length : Int)), (0), eT, eT, H', ⟨Nat.le_refl _⟩, by repeat (first | exact Drawn0.refl _ | apply Drawn0.step)⟩
  case round =>
   clear H'
   try clear c3b0
   obtain ⟨x5_1, x6_1, rfl, rfl, HA, HK1, ⟨m1, rfl⟩⟩ := hrel
   cases gk with
   | zero => exact absurd HA.out (by simp [r05_Bulk.l0])
   | succ k1 =>
    have H := HA.out
    clear HA
    simp only [r05_Bulk.l0] at H
    by_cases c4 : x6_1 < (l0.length : Int)
    ·rw [if_pos c4] at H
     have c4b0 := decide_eq_true c4
     clear c4
     by_cases c5 : 0 ≤ x6_1
     ·rw [if_pos c5] at H
      have c5b0 := decide_eq_true c5
      clear c5
      by_cases c6 : ((rd_L5 l0 x6_1).length : Int) > a1
      ·rw [if_pos c6] at H
       have c6b0 := decide_eq_true c6
       clear c6
       obtain rfl := Option.some.inj H
       obtain ⟨ad105, A105_0, c105_0, e105, hx105_0, HR105_0, HC105_0, p105, q105⟩ := gC5 HR0 x6_1
       cases e105
       go_wp2
       go_ret
       exact ⟨by first | rfl | (simp; done) | (simp [*]; done), by repeat (first | exact Drawn0.refl _ | apply Drawn0.step)⟩
      ·rw [if_neg c6] at H
       have c6b0 := decide_eq_false c6
       clear c6
       have H' := akk H
       clear H
       obtain ⟨ad105, A105_0, c105_0, e105, hx105_0, HR105_0, HC105_0, p105, q105⟩ := gC5 HR0 x6_1
       cases e105
       go_wp2
       go_loopg [5, 7] k1 (fun kq v5 v7 w' => ∃ (x5_2 : Int) (x7_2 : Int), v5 = .int .i64 x5_2 ∧ v7 = .int .i64 x7_2 ∧ Aside0 (r05_Bulk.l1 kq l0 a1 x5_2 x6_1 x7_2 = some r) ∧ Aside0 (kq ≤ k1) ∧ Drawn0 w w')
       case atStart => exact ⟨(x5_1), (0), eT, eT, H', ⟨Nat.le_refl _⟩, by repeat (first | exact Drawn0.refl _ | apply Drawn0.step)⟩
       case round =>
        clear H'
        try clear c4b0
        try clear c5b0
        try clear c6b0
        try clear hx105_0
        try clear p105
        try clear q105
        obtain ⟨x5_2, x7_2, rfl, rfl, HA, HK2, ⟨m2, rfl⟩⟩ := hrel
        cases gk with
        | zero => exact absurd HA.out (by simp [r05_Bulk.l1])
        | succ k2 =>
         have H := HA.out
         clear HA
         simp only [r05_Bulk.l1] at H
         by_cases c7 : 0 ≤ x6_1
         ·rw [if_pos c7] at H
          have c7b0 := decide_eq_true c7
          clear c7
          by_cases c8 : x6_1 < (l0.length : Int)
          ·rw [if_pos c8] at H
           have c8b0 := decide_eq_true c8
           clear c8
           by_cases c9 : x7_2 < ((rd_L5 l0 x6_1).length : Int)
           ·rw [if_pos c9] at H
            have c9b0 := decide_eq_true c9
            clear c9
            by_cases c10 : x5_2 > a1
            ·rw [if_pos c10] at H
             have c10b0 := decide_eq_true c10
             clear c10
             obtain rfl := Option.some.inj H
             obtain ⟨ad106, A106_0, c106_0, e106, hx106_0, HR106_0, HC106_0, p106, q106⟩ := gC5 HR0 x6_1
             obtain rfl : ad105 = ad106 := (by injection e106)
             go_wp2
             go_ret
             exact ⟨by first | rfl | (simp; done) | (simp [*]; done), by repeat (first | exact Drawn0.refl _ | apply Drawn0.step)⟩
            ·rw [if_neg c10] at H
             have c10b0 := decide_eq_false c10
             clear c10
             by_cases c11 : 0 ≤ x7_2
             ·rw [if_pos c11] at H
              have c11b0 := decide_eq_true c11
              clear c11
              by_cases c12 : (((rd_T39 (rd_L5 l0 x6_1) x7_2).f3).size : Int) > a1
              ·rw [if_pos c12] at H
               have c12b0 := decide_eq_true c12
               clear c12
               obtain rfl := Option.some.inj H
               obtain ⟨ad106, A106_0, c106_0, e106, hx106_0, HR106_0, HC106_0, p106, q106⟩ := gC5 HR0 x6_1
               obtain rfl : ad105 = ad106 := (by injection e106)
               obtain ⟨ad107, A107_0, c107_0, e107, hx107_0, HR107_0, HC107_0, p107, q107⟩ := gC5 HR0 x6_1
               obtain rfl : ad105 = ad107 := (by injection e107)
               have ea_ := Option.some.inj (hx106_0.symm.trans hx107_0)
               injection ea_ with ea_ en_ ec_
               subst ea_
               subst ec_
               clear en_
               have p108 : 0 ≤ (x7_2 : Int) := of_decide_eq_true aT
               have q108 : x7_2 < ((rd_L5 l0 x6_1).length : Int) := of_decide_eq_true aT
               obtain ⟨ad108, e108, hx108_0, hx108_1, hx108_2, hx108_3⟩ := at_T39 HR107_0.out x7_2 p108 q108
               cases e108
               replace p108 := eq_true p108
               replace q108 := eq_true q108
               go_wp2
               go_ret
               exact ⟨by first | rfl | (simp; done) | (simp [*]; done), by repeat (first | exact Drawn0.refl _ | apply Drawn0.step)⟩
              ·rw [if_neg c12] at H
               have c12b0 := decide_eq_false c12
               clear c12
               have H' := akk H
               clear H
               obtain ⟨ad106, A106_0, c106_0, e106, hx106_0, HR106_0, HC106_0, p106, q106⟩ := gC5 HR0 x6_1
               obtain rfl : ad105 = ad106 := (by injection e106)
               obtain ⟨ad107, A107_0, c107_0, e107, hx107_0, HR107_0, HC107_0, p107, q107⟩ := gC5 HR0 x6_1
               obtain rfl : ad105 = ad107 := (by injection e107)
               have ea_ := Option.some.inj (hx106_0.symm.trans hx107_0)
               injection ea_ with ea_ en_ ec_
               subst ea_
               subst ec_
               clear en_
               have p108 : 0 ≤ (x7_2 : Int) := of_decide_eq_true aT
               have q108 : x7_2 < ((rd_L5 l0 x6_1).length : Int) := of_decide_eq_true aT
               obtain ⟨ad108, e108, hx108_0, hx108_1, hx108_2, hx108_3⟩ := at_T39 HR107_0.out x7_2 p108 q108
               cases e108
               replace p108 := eq_true p108
               replace q108 := eq_true q108
               obtain ⟨ad109, A109_0, c109_0, e109, hx109_0, HR109_0, HC109_0, p109, q109⟩ := gC5 HR0 x6_1
               obtain rfl : ad105 = ad109 := (by injection e109)
               have ea_ := Option.some.inj (hx106_0.symm.trans hx109_0)
               injection ea_ with ea_ en_ ec_
               subst ea_
               subst ec_
               clear en_
               have p110 : 0 ≤ (x7_2 : Int) := of_decide_eq_true aT
               have q110 : x7_2 < ((rd_L5 l0 x6_1).length : Int) := of_decide_eq_true aT
               obtain ⟨ad110, e110, hx110_0, hx110_1, hx110_2, hx110_3⟩ := at_T39 HR109_0.out x7_2 p110 q110
               cases e110
               replace p110 := eq_true p110
               replace q110 := eq_true q110
               go_wp2
               go_roundg k2
               case measure => have := HK1.out; have := HK2.out; omega
               case rel => exact ⟨(wrap64 ((wrap64 (x5_2 + 1)) + (((rd_T39 (rd_L5 l0 x6_1) x7_2).f3).size : Int))), (wrap64 (x7_2 + 1)), eT, eT, H', ⟨by have := HK1.out; have := HK2.out; omega⟩, by repeat (first | exact Drawn0.refl _ | apply Drawn0.step)⟩
             ·rw [if_neg c11] at H
              exact absurd H (by simp)
           ·rw [if_neg c9] at H
            have c9b0 := decide_eq_false c9
            clear c9
            have H' := akk H
            clear H
            obtain ⟨ad106, A106_0, c106_0, e106, hx106_0, HR106_0, HC106_0, p106, q106⟩ := gC5 HR0 x6_1
            obtain rfl : ad105 = ad106 := (by injection e106)
            go_wp2
            go_roundg k2
            case measure => have := HK1.out; have := HK2.out; omega
            case rel => exact ⟨(x5_2), (wrap64 (x6_1 + 1)), eT, eT, H', ⟨by have := HK1.out; have := HK2.out; omega⟩, by repeat (first | exact Drawn0.refl _ | apply Drawn0.step)⟩
          ·rw [if_neg c8] at H
           exact absurd H (by simp)
         ·rw [if_neg c7] at H
          exact absurd H (by simp)
     ·rw [if_neg c5] at H
      exact absurd H (by simp)
    ·rw [if_neg c4] at H
     have c4b0 := decide_eq_false c4
     clear c4
     obtain rfl := Option.some.inj H
     go_wp2
     go_ret
     exact ⟨by first | rfl | (simp; done) | (simp [*]; done), by repeat (first | exact Drawn0.refl _ | apply Drawn0.step)⟩
end Go.Proofs.YtgmolmpfihkolaaGreat.Pj
