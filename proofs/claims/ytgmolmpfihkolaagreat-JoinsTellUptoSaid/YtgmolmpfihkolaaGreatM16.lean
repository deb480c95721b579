/- Part of the proof. -/
import Derived.Test.YtgmolmpfihkolaaGreatM15
namespace Go.Proofs.YtgmolmpfihkolaaGreat
open Go.RowKit
open Go.Deep
set_option linter.unusedVariables false
set_option maxRecDepth 100000
attribute [local go_sem] run_store_float
set_option maxHeartbeats 1000000 in
theorem REval_any (D : Nat) (cs : List Value) (t : Tx) (ra : Option Addr) (rl rc : Nat) (R : List Slc) (w : World) (hx : ExAt w D cs t) (hR : RowsV w ra rl rc R) : Calls Tryz.prog 36 #[.agg cs.toArray, .slice ra rl rc] w
 fun e w' => (∃ v, e = .returned (.tuple #[v.agg, .int .i64 (tellV (R.map (·.l)) t).2]) ∧ Alike (tellV (R.map (·.l)) t).1 v ∧ v.wf) ∧ Below w.heap.size w w' := by
 obtain ⟨k0, k1, k2, k3, k4, k5, k6, ka, kl, kc, rfl⟩ := hx.cells
 let W0 := (w.alloc (.cells #[.int .i64 k0, .int .i64 k1, .int .i64 k2, .int .i64 k3, .int .i64 k4, .float .f64 k5, .string k6, .slice ka kl kc] 53)).alloc (.cells #[.int .i64 0, .int .i64 0, .float .f64 0, .string ⟨#[]⟩] 39)
 have hB0 : Below w.heap.size w W0 := ((Below.refl _ w).alloc (Nat.le_refl _) _).alloc (by simp) _
 have hbx : BoxE w k0 k1 k2 k3 k4 k5 k6 ka kl kc W0 := (BoxE.start w k0 k1 k2 k3 k4 k5 k6 ka kl kc 53).next ((Below.refl _ _).alloc (Nat.le_refl _) _)
 have hvb : LiesV W0 (w.heap.size + 1) 0 Val.null := by
  have h1 := LiesV.new (w.alloc (.cells #[.int .i64 k0, .int .i64 k1, .int .i64 k2, .int .i64 k3, .int .i64 k4, .float .f64 k5, .string k6, .slice ka kl kc] 53)) Val.null 39
  rw [World.size_alloc] at h1
  exact h1
 have hs0 : W0.heap.size = w.heap.size + 2 := by simp [W0]
 have HF := hdq (RFormed_any D _ t W0 (hx.later hB0))
 have HB0 := hdq hB0
 have HS0 := hdq hs0
 have HV0 := hdq hvb
 have HBX := hdq hbx
 obtain ⟨x0, x1, x2, x3, x4, x5, x6, x7, _⟩ := hbx
 have HX := hdq hx
 have HR := hdq hR
 clear hx hR hB0 hvb hs0
 obtain ⟨r, hr⟩ : ∃ r, r = tellV (R.map (·.l)) t := ⟨_, rfl⟩
 rw [← hr]
 unfold tellV at hr
 cases hf : formedT t with
 | false =>
  rw [hf] at HF hr
  rw [if_neg (by simp)] at hr
  subst hr
  clear hf
  go_enter Tryz.func36, Tryz.ntmps36
  go_wp2_with (go_at_call 62; refine HF.out.mono ?_; rintro e w1 ⟨rfl, hb1⟩; have HV1 := hdq (HV0.out.below hb1 (by rw [HS0.out]; omega)); have HB1 := hdq (HB0.out.trans (hb1.mono HB0.out.size)); obtain ⟨⟨q1, q2, q3, q4⟩, f1, f2, f3, f4⟩ := HV1.out; simp only [Nat.zero_add] at q1 q2 q3 q4 f1 f2 f3 f4; clear hb1)
  exact ret_val2 Tryz.results36 rfl rfl rfl (HV1.out.stored Val.null) ⟨⟨Val.null, rfl, ⟨rfl, rfl, rfl, rfl, rfl⟩, null_wf⟩, below_val HB1.out (by omega) _ _ _ _⟩
 | true =>
  rw [hf] at HF hr
  rw [if_pos rfl] at hr
  have hok : okT 1 t = true := by unfold formedT at hf; rw [Bool.and_eq_true] at hf; exact hf.1
  have HE := hdq (fun W (hb : Below w.heap.size w W) => reval_any D _ t 1 ra rl rc R W (HX.out.later hb) (HR.out.later hb) hok)
  rw [← hr] at HE
  clear hr hf hok HX HR
  obtain ⟨p, pe⟩ := r
  go_enter Tryz.func36, Tryz.ntmps36
  go_wp2_with (first | (go_at_call 62; refine HF.out.mono ?_; rintro e w1 ⟨rfl, hb1⟩; have HV1 := hdq (HV0.out.below hb1 (by rw [HS0.out]; omega)); have HB1 := hdq (HB0.out.trans (hb1.mono HB0.out.size)); have HSZ := hdq (show w.heap.size + 1 < w1.heap.size by have := hb1.size; rw [HS0.out] at this; omega); obtain ⟨y0, y1, y2, y3, y4, y5, y6, y7, _⟩ := HBX.out.next hb1; clear hb1) | (go_at_call 63; refine (HE.out _ HB1.out).mono ?_; unfold Val.agg; rintro e w2 ⟨⟨⟨vk, vn, vf, vs⟩, rfl, hal, hwf⟩, hb2⟩; have HBB := hdq (HB1.out.trans (hb2.mono HB1.out.size)); have HAL := hdq hal; have HWF := hdq hwf; have HV2 := hdq (HV1.out.below hb2 HSZ.out); obtain ⟨⟨q1, q2, q3, q4⟩, f1, f2, f3, f4⟩ := HV2.out; simp only [Nat.zero_add] at q1 q2 q3 q4 f1 f2 f3 f4; clear hb2 hal hwf))
  exact ret_val2 Tryz.results36 rfl rfl rfl (HV2.out.stored ⟨vk, vn, vf, vs⟩) ⟨⟨⟨vk, vn, vf, vs⟩, rfl, HAL.out, HWF.out⟩, below_val HBB.out (by omega) _ _ _ _⟩
def isTrue (v : Val) : Bool := v.kind == 1 && v.int == 1
theorem isTrue_alike {a b : Val} (h : Alike a b) : isTrue a = isTrue b := by
 unfold isTrue; rw [h.1, h.2.1]
theorem RTrue_any (v : Val) (w : World) : Calls Tryz.prog 67 #[v.agg] w fun e w' => e = .returned (.bool (isTrue v)) ∧ Below w.heap.size w w' := by
 have HL := hdq (LiesV.new w v 39)
 obtain ⟨k, n, f, s⟩ := v
 unfold Val.agg isTrue
 simp only at *
 obtain ⟨⟨r1, r2, r3, r4⟩, g1, g2, g3, g4⟩ := HL.out
 simp only [Nat.zero_add] at r1 r2 r3 r4 g1 g2 g3 g4
 by_cases h1 : k = 1
 ·subst h1
  go_enter Tryz.func67, Tryz.ntmps67
  go_wp2
  all_goals go_ret
  all_goals exact ⟨by simp_all, (Below.refl _ w).alloc (Nat.le_refl _) _⟩
 ·have hk : ((k : Int) == 1) = false := by simp; exact h1
  clear h1
  go_enter Tryz.func67, Tryz.ntmps67
  go_wp2
  all_goals go_ret
  all_goals exact ⟨by simp_all, (Below.refl _ w).alloc (Nat.le_refl _) _⟩
theorem RTrue_exp (k n : Int) (f : Nat) (s : ByteArray) (w : World) : Calls Tryz.prog 67 #[.agg #[.int .i64 k, .int .i64 n, .float .f64 f, .string s]] w fun e w' => e = .returned (.bool (isTrue ⟨k, n, f, s⟩)) ∧ Below w.heap.size w w' := RTrue_any ⟨k, n, f, s⟩ w
def holdsV (rows : List (List Val)) : List Tx → Bool × Int
 | [] => (true, 0)
 | t :: ts => if (tellV rows t).2 ≠ 0 then (false, (tellV rows t).2) else if isTrue (tellV rows t).1 then holdsV rows ts else (false, 0)
theorem ExsAt.get {W : World} {D : Nat} {a : Option Addr} {len cap k : Nat} {ts : List Tx} (h : ExsAt W D a len cap ts) (hk : k < len) :
 ∃ b off, a = some ⟨b, off, none⟩ ∧ b < W.heap.size ∧ ∃ t k0 k1 k2 k3 k4 k5 k6 ka kl kc, ts[k]? = some t ∧ ts.drop k = t :: ts.drop (k + 1) ∧ ExAt W D [.int .i64 k0, .int .i64 k1, .int .i64 k2, .int .i64 k3, .int .i64 k4, .float .f64 k5, .string k6, .slice ka kl kc] t ∧
  ∀ W', Below W.heap.size W W' → W'.cell? ⟨b, off + k * 8, none⟩ = some (.int .i64 k0) ∧ W'.cell? ⟨b, off + k * 8 + 1, none⟩ = some (.int .i64 k1) ∧ W'.cell? ⟨b, off + k * 8 + 2, none⟩ = some (.int .i64 k2) ∧ W'.cell? ⟨b, off + k * 8 + 3, none⟩ = some (.int .i64 k3) ∧ W'.cell? ⟨b, off + k * 8 + 4, none⟩ = some (.int .i64 k4) ∧ W'.cell? ⟨b, off + k * 8 + 5, none⟩ = some (.float .f64 k5) ∧ W'.cell? ⟨b, off + k * 8 + 6, none⟩ = some (.string k6) ∧ W'.cell? ⟨b, off + k * 8 + 7, none⟩ = some (.slice ka kl kc) := by
 obtain ⟨h1, _, _, h4⟩ := h
 obtain ⟨b, off, rfl, hbl, hc⟩ := h4.resolve_left (by omega)
 have hk' : k < ts.length := by omega
 obtain ⟨cs, hE, hcs⟩ := hc k _ (List.getElem?_eq_getElem hk')
 obtain ⟨k0, k1, k2, k3, k4, k5, k6, ka, kl, kc, rfl⟩ := hE.cells
 exact ⟨b, off, rfl, hbl, ts[k], k0, k1, k2, k3, k4, k5, k6, ka, kl, kc, List.getElem?_eq_getElem hk', List.drop_eq_getElem_cons hk', hE, fun W' hb =>
  ⟨(hb.cell hbl).trans (hcs 0 _ rfl), (hb.cell hbl).trans (hcs 1 _ rfl), (hb.cell hbl).trans (hcs 2 _ rfl), (hb.cell hbl).trans (hcs 3 _ rfl), (hb.cell hbl).trans (hcs 4 _ rfl), (hb.cell hbl).trans (hcs 5 _ rfl), (hb.cell hbl).trans (hcs 6 _ rfl), (hb.cell hbl).trans (hcs 7 _ rfl)⟩⟩
set_option maxHeartbeats 2000000 in
theorem RHolds_any (D : Nat) (a : Option Addr) (len cap : Nat) (ts : List Tx) (ra : Option Addr) (rl rc : Nat) (R : List Slc) (w : World) (hx : ExsAt w D a len cap ts) (hR : RowsV w ra rl rc R) : Calls Tryz.prog 40 #[.slice a len cap, .slice ra rl rc] w
 fun e w' => e = .returned (.tuple #[.bool (holdsV (R.map (·.l)) ts).1, .int .i64 (holdsV (R.map (·.l)) ts).2]) ∧ Below w.heap.size w w' := by
 have h63 : len < 2 ^ 63 := by have := hx.2.1; have := hx.2.2.1; unfold maxLen at this; omega
 have HX := hdq hx
 have HR := hdq hR
 have HLEN := hdq hx.1
 obtain ⟨r, hr⟩ : ∃ r, r = holdsV (R.map (·.l)) ts := ⟨_, rfl⟩
 have HRES := hdq hr
 rw [← hr]
 obtain ⟨r1, r2⟩ := r
 clear hx hR hr
 go_enter Tryz.func40, Tryz.ntmps40
 go_wp2
 go_loopw [6] (fun i wr => ∃ k : Nat, i = .int .i64 k ∧ k ≤ len ∧ Hid ((r1, r2) = holdsV (R.map (·.l)) (ts.drop k)) ∧ Hid (Below w.heap.size w wr)) (fun i _ => len - (intOf i).toNat)
 case atStart => exact ⟨0, rfl, Nat.zero_le _, HRES, hdq (Below.refl _ _)⟩
 case round =>
  obtain ⟨k, rfl, hk, HK, HB⟩ := hrel
  by_cases hlt : k < len
  ·obtain ⟨b, off, rfl, hbl, t, k0, k1, k2, k3, k4, k5, k6, ka, kl, kc, _, hdr, hE, hcells⟩ := HX.out.get hlt
   obtain ⟨c0, c1, c2, c3, c4, c5, c6, c7⟩ := hcells _ HB.out
   have HE := hdq (REval_any D _ t ra rl rc R _ (hE.later HB.out) (HR.out.later HB.out))
   have hK := HK.out
   rw [hdr] at hK
   simp only [holdsV] at hK
   obtain ⟨p, hp⟩ : ∃ p, p = tellV (R.map (·.l)) t := ⟨_, rfl⟩
   rw [← hp] at HE hK
   obtain ⟨p, pe⟩ := p
   simp only at HE hK
   clear hcells hE hp hdr
   by_cases hpe : pe = 0
   ·subst hpe
    rw [if_neg (by simp)] at hK
    cases ht : isTrue p with
    | true =>
     rw [ht, if_pos rfl] at hK
     have HK2 := hdq hK
     clear hK
     go_wp2_with (first | (go_at_call 36; refine HE.out.mono ?_; unfold Val.agg; rintro e w2 ⟨⟨⟨vk, vn, vf, vs⟩, rfl, hal, hwf⟩, hb2⟩; have HB2 := hdq (HB.out.trans (hb2.mono HB.out.size)); have HT := hdq ((isTrue_alike hal).symm.trans ht); clear hb2 hal hwf) | (go_at_call 67; refine (RTrue_exp _ _ _ _ _).mono ?_; rw [HT.out]; rintro e w3 ⟨rfl, hb3⟩; have hbb := HB2.out.alloc HB2.out.size (.cells #[.int .i64 vk, .int .i64 vn, .float .f64 vf, .string vs] 39); have HB3 := hdq (hbb.trans (hb3.mono hbb.size)); clear hb3 hbb))
     go_roundw
     case rel => exact ⟨k + 1, by go_num, by omega, HK2, HB3⟩
     case measure => simp [intOf]; omega
    | false =>
     rw [ht, if_neg (by simp)] at hK
     cases hK
     go_wp2_with (first | (go_at_call 36; refine HE.out.mono ?_; unfold Val.agg; rintro e w2 ⟨⟨⟨vk, vn, vf, vs⟩, rfl, hal, hwf⟩, hb2⟩; have HB2 := hdq (HB.out.trans (hb2.mono HB.out.size)); have HT := hdq ((isTrue_alike hal).symm.trans ht); clear hb2 hal hwf) | (go_at_call 67; refine (RTrue_exp _ _ _ _ _).mono ?_; rw [HT.out]; rintro e w3 ⟨rfl, hb3⟩; have hbb := HB2.out.alloc HB2.out.size (.cells #[.int .i64 vk, .int .i64 vn, .float .f64 vf, .string vs] 39); have HB3 := hdq (hbb.trans (hb3.mono hbb.size)); clear hb3 hbb))
     go_ret2
     exact ⟨rfl, HB3.out⟩
   ·rw [if_pos hpe] at hK
    cases hK
    have hpe' : (r2 != 0) = true := by simp; exact hpe
    go_wp2_with (go_at_call 36; refine HE.out.mono ?_; unfold Val.agg; rintro e w2 ⟨⟨⟨vk, vn, vf, vs⟩, rfl, hal, hwf⟩, hb2⟩; have HB2 := hdq (HB.out.trans (hb2.mono HB.out.size)); clear hb2 hal hwf)
    go_ret2
    exact ⟨rfl, HB2.out.alloc HB2.out.size _⟩
  ·obtain rfl : k = len := by omega
   have hK := HK.out
   rw [List.drop_of_length_le (by rw [HLEN.out]; exact Nat.le_refl _)] at hK
   cases hK
   go_wp2
   go_ret2
   exact ⟨rfl, HB.out⟩
end Go.Proofs.YtgmolmpfihkolaaGreat
namespace Go.Proofs.YtgmolmpfihkolaaGreat
open Go.RowKit
set_option linter.unusedVariables false
set_option maxRecDepth 100000
attribute [local go_sem] run_store_float
def cmpRow : List Val → List Val → Int
 | [], [] => 0
 | [], _ :: _ => -1
 | _ :: _, [] => 1
 | a :: s, b :: t => if cmpV a b ≠ 0 then cmpV a b else cmpRow s t
def EightS (b1 o1 : Nat) (v1 : Val) (b2 o2 : Nat) (v2 : Val) (w W : World) : Prop := HasV W b1 o1 v1 ∧ HasV W b2 o2 v2 ∧ Below w.heap.size w W
theorem eight_next {b1 o1 b2 o2 : Nat} {v1 v2 : Val} {w W W' : World} (h1 : b1 < w.heap.size) (h2 : b2 < w.heap.size) (h : EightS b1 o1 v1 b2 o2 v2 w W) (hb : Below W.heap.size W W') : EightS b1 o1 v1 b2 o2 v2 w W' := by
 have := h.2.2.size
 exact ⟨h.1.below hb (by omega), h.2.1.below hb (by omega), h.2.2.trans (hb.mono this)⟩
set_option maxHeartbeats 4000000 in
theorem lists_any (a1 : Option Addr) (l1 c1 : Nat) (x : List Val) (a2 : Option Addr) (l2 c2 : Nat) (y : List Val) (w : World) (hx : RowV w a1 l1 c1 x) (hy : RowV w a2 l2 c2 y) :
 Calls Tryz.prog 72 #[.slice a1 l1 c1, .slice a2 l2 c2, .func (.func 55) #[] #[]] w fun e w' => e = .returned (.int .i64 (cmpRow x y)) ∧ Below w.heap.size w w' := by
 have h63 : l1 < 2 ^ 63 := by have := hx.2.1; have := hx.2.2.1; unfold maxLen at this; omega
 have h64 : l2 < 2 ^ 63 := by have := hy.2.1; have := hy.2.2.1; unfold maxLen at this; omega
 have HLX := hdq hx.1
 have HLY := hdq hy.1
 have HX := hdq hx
 have HY := hdq hy
 obtain ⟨r, hr⟩ : ∃ r, r = cmpRow x y := ⟨_, rfl⟩
 have HRES := hdq hr
 rw [← hr]
 clear hx hy hr
 go_enter Tryz.func72, Tryz.ntmps72
 go_wp2
 go_loopw [7] (fun i wr => ∃ k : Nat, i = .int .i64 k ∧ k ≤ l1 ∧ k ≤ l2 ∧ Hid (r = cmpRow (x.drop k) (y.drop k)) ∧ Hid (Below w.heap.size w wr)) (fun i _ => l1 - (intOf i).toNat)
 case atStart => exact ⟨0, rfl, Nat.zero_le _, Nat.zero_le _, HRES, hdq (Below.refl _ _)⟩
 case round =>
  obtain ⟨k, rfl, hk1, hk2, HK, HB⟩ := hrel
  by_cases hlt1 : k < l1
  ·by_cases hlt2 : k < l2
   ·obtain ⟨b1, o1, rfl, v1, hv1, hw1, hc1, hd1⟩ := fold_row HX.out HB.out hlt1
    obtain ⟨b2, o2, rfl, v2, hv2, hw2, hc2, hd2⟩ := fold_row HY.out HB.out hlt2
    obtain ⟨_, _, e1, hb1, _⟩ := HX.out.get hlt1
    cases e1
    obtain ⟨_, _, e2, hb2, _⟩ := HY.out.get hlt2
    cases e2
    obtain ⟨ks, ns, fs, ss⟩ := v1
    obtain ⟨kt, nt, ft, st⟩ := v2
    have hK := HK.out
    rw [hd1, hd2] at hK
    simp only [cmpRow] at hK
    have HE := hdq (show EightS b1 (o1 + k * 4) ⟨ks, ns, fs, ss⟩ b2 (o2 + k * 4) ⟨kt, nt, ft, st⟩ w wr from ⟨hc1, hc2, HB.out⟩)
    obtain ⟨p, hp⟩ : ∃ p, p = cmpV ⟨ks, ns, fs, ss⟩ ⟨kt, nt, ft, st⟩ := ⟨_, rfl⟩
    have HC := hdq (fun (W : World) (hS : W.cell? ⟨b1, o1 + k * 4, none⟩ = some (.int .i64 ks) ∧ W.cell? ⟨b1, o1 + k * 4 + 1, none⟩ = some (.int .i64 ns) ∧ W.cell? ⟨b1, o1 + k * 4 + 2, none⟩ = some (.float .f64 fs) ∧ W.cell? ⟨b1, o1 + k * 4 + 3, none⟩ = some (.string ss) ∧ W.cell? ⟨b2, o2 + k * 4, none⟩ = some (.int .i64 kt) ∧ W.cell? ⟨b2, o2 + k * 4 + 1, none⟩ = some (.int .i64 nt) ∧ W.cell? ⟨b2, o2 + k * 4 + 2, none⟩ = some (.float .f64 ft) ∧ W.cell? ⟨b2, o2 + k * 4 + 3, none⟩ = some (.string st) ∧ Hid (EightS b1 (o1 + k * 4) ⟨ks, ns, fs, ss⟩ b2 (o2 + k * 4) ⟨kt, nt, ft, st⟩ w W)) =>
     (Cmp_exp ks ns fs ss kt nt ft st hw1 hw2 W).mono (R' := fun e w' => e = .returned (.int .i64 p) ∧ (w'.cell? ⟨b1, o1 + k * 4, none⟩ = some (.int .i64 ks) ∧ w'.cell? ⟨b1, o1 + k * 4 + 1, none⟩ = some (.int .i64 ns) ∧ w'.cell? ⟨b1, o1 + k * 4 + 2, none⟩ = some (.float .f64 fs) ∧ w'.cell? ⟨b1, o1 + k * 4 + 3, none⟩ = some (.string ss) ∧ w'.cell? ⟨b2, o2 + k * 4, none⟩ = some (.int .i64 kt) ∧ w'.cell? ⟨b2, o2 + k * 4 + 1, none⟩ = some (.int .i64 nt) ∧ w'.cell? ⟨b2, o2 + k * 4 + 2, none⟩ = some (.float .f64 ft) ∧ w'.cell? ⟨b2, o2 + k * 4 + 3, none⟩ = some (.string st) ∧ Hid (EightS b1 (o1 + k * 4) ⟨ks, ns, fs, ss⟩ b2 (o2 + k * 4) ⟨kt, nt, ft, st⟩ w w')))
     (fun e w' h => by
      have hn := eight_next hb1 hb2 hS.2.2.2.2.2.2.2.2.out h.2
      have hn2 := hdq hn
      obtain ⟨⟨n1, n2, n3, n4⟩, ⟨m1, m2, m3, m4⟩, _⟩ := hn
      exact ⟨by rw [h.1, hp], n1, n2, n3, n4, m1, m2, m3, m4, hn2⟩))
    rw [← hp] at hK
    obtain ⟨n1, n2, n3, n4⟩ := hc1
    obtain ⟨m1, m2, m3, m4⟩ := hc2
    simp only at n1 n2 n3 n4 m1 m2 m3 m4
    clear hp hw1 hw2 hd1 hd2 hv1 hv2
    by_cases hp0 : p = 0
    ·subst hp0
     rw [if_neg (by simp)] at hK
     have HK2 := hdq hK
     clear hK
     go_wp2
     go_region_held3 (fun W : World => W.cell? ⟨b1, o1 + k * 4, none⟩ = some (.int .i64 ks) ∧ W.cell? ⟨b1, o1 + k * 4 + 1, none⟩ = some (.int .i64 ns) ∧ W.cell? ⟨b1, o1 + k * 4 + 2, none⟩ = some (.float .f64 fs) ∧ W.cell? ⟨b1, o1 + k * 4 + 3, none⟩ = some (.string ss) ∧ W.cell? ⟨b2, o2 + k * 4, none⟩ = some (.int .i64 kt) ∧ W.cell? ⟨b2, o2 + k * 4 + 1, none⟩ = some (.int .i64 nt) ∧ W.cell? ⟨b2, o2 + k * 4 + 2, none⟩ = some (.float .f64 ft) ∧ W.cell? ⟨b2, o2 + k * 4 + 3, none⟩ = some (.string st) ∧ Hid (EightS b1 (o1 + k * 4) ⟨ks, ns, fs, ss⟩ b2 (o2 + k * 4) ⟨kt, nt, ft, st⟩ w W)) (first | (exact ⟨by simpa using n1, by simpa using n2, by simpa using n3, by simpa using n4, by simpa using m1, by simpa using m2, by simpa using m3, by simpa using m4, hdq (eight_next hb1 hb2 HE.out (Below.refl _ _).drew)⟩) | assumption) (first | (go_at_call 55; refine (HC.out _ (by assumption)).mono ?_; rintro e wx ⟨rfl, hSx⟩))
     have HN := hdq hSx.2.2.2.2.2.2.2.2.out.2.2
     clear hSx HE HC n1 n2 n3 n4 m1 m2 m3 m4
     go_wp2
     go_roundw
     case rel => exact ⟨k + 1, by go_num, by omega, by omega, HK2, HN⟩
     case measure => simp [intOf]; omega
    ·rw [if_pos hp0] at hK
     subst hK
     have hp1 : ((r : Int) != 0) = true := by simp; exact hp0
     clear hp0
     go_wp2
     go_region_held3 (fun W : World => W.cell? ⟨b1, o1 + k * 4, none⟩ = some (.int .i64 ks) ∧ W.cell? ⟨b1, o1 + k * 4 + 1, none⟩ = some (.int .i64 ns) ∧ W.cell? ⟨b1, o1 + k * 4 + 2, none⟩ = some (.float .f64 fs) ∧ W.cell? ⟨b1, o1 + k * 4 + 3, none⟩ = some (.string ss) ∧ W.cell? ⟨b2, o2 + k * 4, none⟩ = some (.int .i64 kt) ∧ W.cell? ⟨b2, o2 + k * 4 + 1, none⟩ = some (.int .i64 nt) ∧ W.cell? ⟨b2, o2 + k * 4 + 2, none⟩ = some (.float .f64 ft) ∧ W.cell? ⟨b2, o2 + k * 4 + 3, none⟩ = some (.string st) ∧ Hid (EightS b1 (o1 + k * 4) ⟨ks, ns, fs, ss⟩ b2 (o2 + k * 4) ⟨kt, nt, ft, st⟩ w W)) (first | (exact ⟨by simpa using n1, by simpa using n2, by simpa using n3, by simpa using n4, by simpa using m1, by simpa using m2, by simpa using m3, by simpa using m4, hdq (eight_next hb1 hb2 HE.out (Below.refl _ _).drew)⟩) | assumption) (first | (go_at_call 55; refine (HC.out _ (by assumption)).mono ?_; rintro e wx ⟨rfl, hSx⟩))
     have HN := hdq hSx.2.2.2.2.2.2.2.2.out.2.2
     clear hSx HE HC n1 n2 n3 n4 m1 m2 m3 m4
     go_wp2
     go_ret
     exact ⟨rfl, HN.out⟩
   ·obtain rfl : k = l2 := by omega
    have hK := HK.out
    rw [List.drop_of_length_le (l := y) (by rw [HLY.out]; exact Nat.le_refl _)] at hK
    obtain ⟨v, hv⟩ : ∃ v, x.drop k = v :: x.drop (k + 1) := ⟨_, List.drop_eq_getElem_cons (by rw [HLX.out]; exact hlt1)⟩
    rw [hv] at hK
    simp only [cmpRow] at hK
    subst hK
    clear hv
    go_wp2_with (go_at_call 50; refine (cmpInt_any _ _ _).mono ?_; rw [show cmpI (l1 : Int) (k : Int) = 1 by unfold cmpI; rw [if_neg (by omega), if_pos (by omega)]]; rintro e w2 ⟨rfl, rfl⟩)
    go_ret
    exact ⟨rfl, HB.out⟩
  ·obtain rfl : k = l1 := by omega
   have hK := HK.out
   rw [List.drop_of_length_le (l := x) (by rw [HLX.out]; exact Nat.le_refl _)] at hK
   by_cases hlt2 : k < l2
   ·obtain ⟨v, hv⟩ : ∃ v, y.drop k = v :: y.drop (k + 1) := ⟨_, List.drop_eq_getElem_cons (by rw [HLY.out]; exact hlt2)⟩
    rw [hv] at hK
    simp only [cmpRow] at hK
    subst hK
    clear hv
    go_wp2_with (go_at_call 50; refine (cmpInt_any _ _ _).mono ?_; rw [show cmpI (k : Int) (l2 : Int) = -1 by unfold cmpI; rw [if_pos (by omega)]]; rintro e w2 ⟨rfl, rfl⟩)
    go_ret
    exact ⟨rfl, HB.out⟩
   ·obtain rfl : l2 = k := by omega
    rw [List.drop_of_length_le (l := y) (by rw [HLY.out]; exact Nat.le_refl _)] at hK
    simp only [cmpRow] at hK
    subst hK
    go_wp2_with (go_at_call 50; refine (cmpInt_any _ _ _).mono ?_; rw [show cmpI (l2 : Int) (l2 : Int) = 0 by unfold cmpI; rw [if_neg (by omega), if_neg (by omega)]]; rintro e w2 ⟨rfl, rfl⟩)
    go_ret
    exact ⟨rfl, HB.out⟩
theorem rowCmp_any (a1 : Option Addr) (l1 c1 : Nat) (x : List Val) (a2 : Option Addr) (l2 c2 : Nat) (y : List Val) (w : World) (hx : RowV w a1 l1 c1 x) (hy : RowV w a2 l2 c2 y) :
 Calls Tryz.prog 45 #[.slice a1 l1 c1, .slice a2 l2 c2] w fun e w' => e = .returned (.int .i64 (cmpRow x y)) ∧ Below w.heap.size w w' := by
 have HL := hdq (lists_any a1 l1 c1 x a2 l2 c2 y w hx hy)
 clear hx hy
 go_enter Tryz.func45, Tryz.ntmps45
 go_wp2_with (go_at_call 72; refine HL.out.mono ?_; rintro e w2 ⟨rfl, hb⟩)
 go_ret
 exact ⟨rfl, hb⟩
theorem null_right : rightV Val.null = true := by
 unfold rightV Val.null; simp
theorem rplain_right (v : Val) : rplainV v = rplainV (if rightV v then v else Val.null) := by
 cases h : rightV v with
 | true => rw [if_pos rfl]
 | false =>
  rw [if_neg (by simp)]
  unfold rplainV
  rw [h, null_right, if_neg (by simp), if_pos rfl, if_neg (by decide)]
theorem plain_right (v : Val) : plainV v = plainV (if rightV v then v else Val.null) := by
 cases h : rightV v with
 | true => rw [if_pos rfl]
 | false =>
  rw [if_neg (by simp)]
  unfold plainV
  rw [h, null_right, if_neg (by simp), if_pos rfl, if_neg (by decide)]
theorem cmp_all (a b : Val) : rcmpP (rplainV a) (rplainV b) = cmpV a b := by
 have h : ∀ v : Val, rightV (if rightV v then v else Val.null) = true := by
  intro v
  cases h : rightV v with
  | true => rw [if_pos rfl]; exact h
  | false => exact null_right
 rw [rplain_right a, rplain_right b, ← cmp_eq _ _ (h a) (h b), ← plain_right, ← plain_right]
 rfl
theorem RCmpV_exp (k n : Int) (f : Nat) (s : ByteArray) (k' n' : Int) (f' : Nat) (s' : ByteArray) (ha : Val.wf ⟨k, n, f, s⟩) (hb : Val.wf ⟨k', n', f', s'⟩) (w : World) : Calls Tryz.prog 71 #[.agg #[.int .i64 k, .int .i64 n, .float .f64 f, .string s], .agg #[.int .i64 k', .int .i64 n', .float .f64 f', .string s']] w
 fun e w' => e = .returned (.int .i64 (cmpV ⟨k, n, f, s⟩ ⟨k', n', f', s'⟩)) ∧ Below w.heap.size w w' := by
 rw [← cmp_all]
 exact RCmp_plain _ _ ha hb w
set_option maxHeartbeats 4000000 in
theorem RCmpRow_any (a1 : Option Addr) (l1 c1 : Nat) (x : List Val) (a2 : Option Addr) (l2 c2 : Nat) (y : List Val) (w : World) (hx : RowV w a1 l1 c1 x) (hy : RowV w a2 l2 c2 y) :
 Calls Tryz.prog 43 #[.slice a1 l1 c1, .slice a2 l2 c2] w fun e w' => e = .returned (.int .i64 (cmpRow x y)) ∧ Below w.heap.size w w' := by
 have h63 : l1 < 2 ^ 63 := by have := hx.2.1; have := hx.2.2.1; unfold maxLen at this; omega
 have h64 : l2 < 2 ^ 63 := by have := hy.2.1; have := hy.2.2.1; unfold maxLen at this; omega
 have HLX := hdq hx.1
 have HLY := hdq hy.1
 have HX := hdq hx
 have HY := hdq hy
 obtain ⟨r, hr⟩ : ∃ r, r = cmpRow x y := ⟨_, rfl⟩
 have HRES := hdq hr
 rw [← hr]
 clear hx hy hr
 go_enter Tryz.func43, Tryz.ntmps43
 go_wp2
 go_loopw [5] (fun i wr => ∃ k : Nat, i = .int .i64 k ∧ k ≤ l1 ∧ k ≤ l2 ∧ Hid (r = cmpRow (x.drop k) (y.drop k)) ∧ Hid (Below w.heap.size w wr)) (fun i _ => l1 - (intOf i).toNat)
 case atStart => exact ⟨0, rfl, Nat.zero_le _, Nat.zero_le _, HRES, hdq (Below.refl _ _)⟩
 case round =>
  obtain ⟨k, rfl, hk1, hk2, HK, HB⟩ := hrel
  by_cases hlt1 : k < l1
  ·by_cases hlt2 : k < l2
   ·obtain ⟨b1, o1, rfl, v1, hv1, hw1, hc1, hd1⟩ := fold_row HX.out HB.out hlt1
    obtain ⟨b2, o2, rfl, v2, hv2, hw2, hc2, hd2⟩ := fold_row HY.out HB.out hlt2
    obtain ⟨_, _, e1, hb1, _⟩ := HX.out.get hlt1
    cases e1
    obtain ⟨_, _, e2, hb2, _⟩ := HY.out.get hlt2
    cases e2
    obtain ⟨ks, ns, fs, ss⟩ := v1
    obtain ⟨kt, nt, ft, st⟩ := v2
    have hK := HK.out
    rw [hd1, hd2] at hK
    simp only [cmpRow] at hK
    have HE := hdq (show EightS b1 (o1 + k * 4) ⟨ks, ns, fs, ss⟩ b2 (o2 + k * 4) ⟨kt, nt, ft, st⟩ w wr from ⟨hc1, hc2, HB.out⟩)
    obtain ⟨p, hp⟩ : ∃ p, p = cmpV ⟨ks, ns, fs, ss⟩ ⟨kt, nt, ft, st⟩ := ⟨_, rfl⟩
    have HC := hdq (fun (W : World) (hS : W.cell? ⟨b1, o1 + k * 4, none⟩ = some (.int .i64 ks) ∧ W.cell? ⟨b1, o1 + k * 4 + 1, none⟩ = some (.int .i64 ns) ∧ W.cell? ⟨b1, o1 + k * 4 + 2, none⟩ = some (.float .f64 fs) ∧ W.cell? ⟨b1, o1 + k * 4 + 3, none⟩ = some (.string ss) ∧ W.cell? ⟨b2, o2 + k * 4, none⟩ = some (.int .i64 kt) ∧ W.cell? ⟨b2, o2 + k * 4 + 1, none⟩ = some (.int .i64 nt) ∧ W.cell? ⟨b2, o2 + k * 4 + 2, none⟩ = some (.float .f64 ft) ∧ W.cell? ⟨b2, o2 + k * 4 + 3, none⟩ = some (.string st) ∧ Hid (EightS b1 (o1 + k * 4) ⟨ks, ns, fs, ss⟩ b2 (o2 + k * 4) ⟨kt, nt, ft, st⟩ w W)) =>
     (RCmpV_exp ks ns fs ss kt nt ft st hw1 hw2 W).mono (R' := fun e w' => e = .returned (.int .i64 p) ∧ (w'.cell? ⟨b1, o1 + k * 4, none⟩ = some (.int .i64 ks) ∧ w'.cell? ⟨b1, o1 + k * 4 + 1, none⟩ = some (.int .i64 ns) ∧ w'.cell? ⟨b1, o1 + k * 4 + 2, none⟩ = some (.float .f64 fs) ∧ w'.cell? ⟨b1, o1 + k * 4 + 3, none⟩ = some (.string ss) ∧ w'.cell? ⟨b2, o2 + k * 4, none⟩ = some (.int .i64 kt) ∧ w'.cell? ⟨b2, o2 + k * 4 + 1, none⟩ = some (.int .i64 nt) ∧ w'.cell? ⟨b2, o2 + k * 4 + 2, none⟩ = some (.float .f64 ft) ∧ w'.cell? ⟨b2, o2 + k * 4 + 3, none⟩ = some (.string st) ∧ Hid (EightS b1 (o1 + k * 4) ⟨ks, ns, fs, ss⟩ b2 (o2 + k * 4) ⟨kt, nt, ft, st⟩ w w')))
     (fun e w' h => by
      have hn := eight_next hb1 hb2 hS.2.2.2.2.2.2.2.2.out h.2
      have hn2 := hdq hn
      obtain ⟨⟨n1, n2, n3, n4⟩, ⟨m1, m2, m3, m4⟩, _⟩ := hn
      exact ⟨by rw [h.1, hp], n1, n2, n3, n4, m1, m2, m3, m4, hn2⟩))
    rw [← hp] at hK
    obtain ⟨n1, n2, n3, n4⟩ := hc1
    obtain ⟨m1, m2, m3, m4⟩ := hc2
    simp only at n1 n2 n3 n4 m1 m2 m3 m4
    clear hp hw1 hw2 hd1 hd2 hv1 hv2
    by_cases hp0 : p = 0
    ·subst hp0
     rw [if_neg (by simp)] at hK
     have HK2 := hdq hK
     clear hK
     go_wp2
     go_region_held3 (fun W : World => W.cell? ⟨b1, o1 + k * 4, none⟩ = some (.int .i64 ks) ∧ W.cell? ⟨b1, o1 + k * 4 + 1, none⟩ = some (.int .i64 ns) ∧ W.cell? ⟨b1, o1 + k * 4 + 2, none⟩ = some (.float .f64 fs) ∧ W.cell? ⟨b1, o1 + k * 4 + 3, none⟩ = some (.string ss) ∧ W.cell? ⟨b2, o2 + k * 4, none⟩ = some (.int .i64 kt) ∧ W.cell? ⟨b2, o2 + k * 4 + 1, none⟩ = some (.int .i64 nt) ∧ W.cell? ⟨b2, o2 + k * 4 + 2, none⟩ = some (.float .f64 ft) ∧ W.cell? ⟨b2, o2 + k * 4 + 3, none⟩ = some (.string st) ∧ Hid (EightS b1 (o1 + k * 4) ⟨ks, ns, fs, ss⟩ b2 (o2 + k * 4) ⟨kt, nt, ft, st⟩ w W)) (first | (exact ⟨by simpa using n1, by simpa using n2, by simpa using n3, by simpa using n4, by simpa using m1, by simpa using m2, by simpa using m3, by simpa using m4, hdq (eight_next hb1 hb2 HE.out (Below.refl _ _).drew)⟩) | assumption) (first | (go_at_call 71; refine (HC.out _ (by assumption)).mono ?_; rintro e wx ⟨rfl, hSx⟩))
     have HN := hdq hSx.2.2.2.2.2.2.2.2.out.2.2
     clear hSx HE HC n1 n2 n3 n4 m1 m2 m3 m4
     go_wp2
     go_roundw
     case rel => exact ⟨k + 1, by go_num, by omega, by omega, HK2, HN⟩
     case measure => simp [intOf]; omega
    ·rw [if_pos hp0] at hK
     subst hK
     have hp1 : ((r : Int) != 0) = true := by simp; exact hp0
     clear hp0
     go_wp2
     go_region_held3 (fun W : World => W.cell? ⟨b1, o1 + k * 4, none⟩ = some (.int .i64 ks) ∧ W.cell? ⟨b1, o1 + k * 4 + 1, none⟩ = some (.int .i64 ns) ∧ W.cell? ⟨b1, o1 + k * 4 + 2, none⟩ = some (.float .f64 fs) ∧ W.cell? ⟨b1, o1 + k * 4 + 3, none⟩ = some (.string ss) ∧ W.cell? ⟨b2, o2 + k * 4, none⟩ = some (.int .i64 kt) ∧ W.cell? ⟨b2, o2 + k * 4 + 1, none⟩ = some (.int .i64 nt) ∧ W.cell? ⟨b2, o2 + k * 4 + 2, none⟩ = some (.float .f64 ft) ∧ W.cell? ⟨b2, o2 + k * 4 + 3, none⟩ = some (.string st) ∧ Hid (EightS b1 (o1 + k * 4) ⟨ks, ns, fs, ss⟩ b2 (o2 + k * 4) ⟨kt, nt, ft, st⟩ w W)) (first | (exact ⟨by simpa using n1, by simpa using n2, by simpa using n3, by simpa using n4, by simpa using m1, by simpa using m2, by simpa using m3, by simpa using m4, hdq (eight_next hb1 hb2 HE.out (Below.refl _ _).drew)⟩) | assumption) (first | (go_at_call 71; refine (HC.out _ (by assumption)).mono ?_; rintro e wx ⟨rfl, hSx⟩))
     have HN := hdq hSx.2.2.2.2.2.2.2.2.out.2.2
     clear hSx HE HC n1 n2 n3 n4 m1 m2 m3 m4
     go_wp2
     go_ret
     exact ⟨rfl, HN.out⟩
   ·obtain rfl : k = l2 := by omega
    have hK := HK.out
    rw [List.drop_of_length_le (l := y) (by rw [HLY.out]; exact Nat.le_refl _)] at hK
    obtain ⟨v, hv⟩ : ∃ v, x.drop k = v :: x.drop (k + 1) := ⟨_, List.drop_eq_getElem_cons (by rw [HLX.out]; exact hlt1)⟩
    rw [hv] at hK
    simp only [cmpRow] at hK
    subst hK
    clear hv
    go_wp2
    go_ret
    exact ⟨rfl, HB.out⟩
  ·obtain rfl : k = l1 := by omega
   have hK := HK.out
   rw [List.drop_of_length_le (l := x) (by rw [HLX.out]; exact Nat.le_refl _)] at hK
   by_cases hlt2 : k < l2
   ·obtain ⟨v, hv⟩ : ∃ v, y.drop k = v :: y.drop (k + 1) := ⟨_, List.drop_eq_getElem_cons (by rw [HLY.out]; exact hlt2)⟩
    rw [hv] at hK
    simp only [cmpRow] at hK
    subst hK
    clear hv
    go_wp2
    go_ret
    exact ⟨rfl, HB.out⟩
   ·obtain rfl : l2 = k := by omega
    rw [List.drop_of_length_le (l := y) (by rw [HLY.out]; exact Nat.le_refl _)] at hK
    simp only [cmpRow] at hK
    subst hK
    go_wp2
    go_ret
    exact ⟨rfl, HB.out⟩
end Go.Proofs.YtgmolmpfihkolaaGreat
namespace Go.Proofs.YtgmolmpfihkolaaGreat
open Go.RowKit Go.Proofs.YtgmolmpfihkolaaGreatW.PrintWords Go.Proofs.YtgmolmpfihkolaaGreat.Pj
set_option linter.unusedVariables false
set_option maxRecDepth 100000
attribute [local go_sem] run_store_float
def pOf (v : Val) : PV := ⟨v.kind, v.int, v.flt, v.text⟩
theorem vOf_pOf (v : Val) : vOf (pOf v) = v := rfl
def pvCells (x : PV) : List Value := [.int .i64 x.f0, .int .i64 x.f1, .float .f64 x.f2, .string x.f3]
def kAl : Kd PV where
 sz := 4
 E := []
 K := fun _ x cs => ∃ y : PV, (vOf y).wf ∧ Alike (vOf x) (vOf y) ∧ cs = pvCells y
 M := fun _ _ _ x cs => ∃ y : PV, (vOf y).wf ∧ Alike (vOf x) (vOf y) ∧ cs = pvCells y
 K_len := fun ⟨_, _, _, e⟩ => by rw [e]; rfl
 K_one := fun ⟨_, _, _, e⟩ u hu => by
  rw [e] at hu
  simp only [pvCells, List.mem_cons, List.not_mem_nil, or_false] at hu
  rcases hu with rfl | rfl | rfl | rfl <;> rfl
 K_below := fun _ h => h
 K_of_M := fun h => h
 M_mono := fun _ h => h
 M_bound := fun h => h
 M_move := fun _ h => h
 M_lower := fun _ h => h
theorem infoV : (Tryz.prog.info? 39).map (fun i => (i.zero, i.size, i.bytes)) = some (some (.agg #[(.int .i64 0), (.int .i64 0), (.float .f64 0), (.string ⟨#[]⟩)]), 4, 40) := by kernel_rfl
def keysGo (rows : List (List Val)) (acc : List Val) (sm : Bool) : List Tx → List Val × Bool × Int
 | [] => (acc, sm, 0)
 | t :: ts => if (tellV rows t).2 ≠ 0 then ([], false, (tellV rows t).2) else keysGo rows (acc ++ [plainV (tellV rows t).1]) (sm && decide ((tellV rows t).1.kind ≠ 0)) ts
theorem rplain_like {p v : Val} (hp : p.wf) (hv : v.wf) (h : Alike p v) : Alike (plainV p) (rplainV v) := by
 rw [plain_alike hp hv h]
 cases hr : rightV v with
 | false =>
  unfold plainV rplainV
  rw [hr, if_neg (by simp), if_neg (by simp)]; exact ⟨rfl, rfl, rfl, rfl, rfl⟩
 | true =>
  by_cases hk : v.kind = 3
  ·rw [(plain_flt v hr hk).1, (plain_flt v hr hk).2]
   exact ⟨rfl, rfl, rfl, (bits_alike _).1, (bits_alike _).2⟩
  ·unfold plainV rplainV
   rw [hr, if_pos rfl, if_pos rfl, if_neg hk, if_neg hk]; exact ⟨rfl, rfl, rfl, rfl, rfl⟩
set_option maxHeartbeats 4000000 in
theorem RKeys_any (D : Nat) (a : Option Addr) (len cap : Nat) (ts : List Tx) (ra : Option Addr) (rl rc : Nat) (R : List Slc) (w : World) (hx : ExsAt w D a len cap ts) (hR : RowsV w ra rl rc R) (hlen : (len + 1) * 40 ≤ 140737488355328) :
 Calls Tryz.prog 13 #[.slice a len cap, .slice ra rl rc] w
 fun e w' => (∃ v, e = .returned (.tuple #[v, .bool (keysGo (R.map (·.l)) [] true ts).2.1, .int .i64 (keysGo (R.map (·.l)) [] true ts).2.2]) ∧ Kd.R kAl 39 w' w.heap.size (fun _ => True) v ((keysGo (R.map (·.l)) [] true ts).1.map pOf)) ∧ Below w.heap.size w w' := by
 have h63 : len < 2 ^ 63 := by omega
 have HX := hdq hx
 have HR := hdq hR
 have HLEN := hdq hx.1
 have HW := hdq (fun (t : Tx) (W : World) (cs : List Value) (hE : ExAt W D cs t) => (tellV_wf hR.rowsWf hE))
 obtain ⟨r, hr⟩ : ∃ r, r = keysGo (R.map (·.l)) [] true ts := ⟨_, rfl⟩
 have HRES := hdq hr
 rw [← hr]
 obtain ⟨r1, r2, r3⟩ := r
 have HL := hdq hlen
 clear hx hR hr hlen
 go_enter Tryz.func13, Tryz.ntmps13
 go_wp2
 go_loopw [7, 8, 9] (fun v s i wr => ∃ (k : Nat) (acc : List Val) (sm : Bool), i = .int .i64 k ∧ s = .bool sm ∧ k ≤ len ∧ Hid (acc.length = k) ∧ Hid ((r1, r2, r3) = keysGo (R.map (·.l)) acc sm (ts.drop k)) ∧ Hid (Kd.R kAl 39 wr w.heap.size (fun _ => True) v (acc.map pOf)) ∧ Hid (Below w.heap.size w wr)) (fun _ _ i _ => len - (intOf i).toNat)
 case atStart => exact ⟨0, [], true, rfl, rfl, Nat.zero_le _, hdq rfl, HRES, hdq (Kd.R_nil _ _ _ _ _), hdq (Below.refl _ _)⟩
 case round =>
  obtain ⟨k, acc, sm, rfl, rfl, hk, HACC, HK, HO, HB⟩ := hrel
  by_cases hlt : k < len
  ·obtain ⟨b, off, rfl, hbl, t, k0, k1, k2, k3, k4, k5, k6, ka, kl, kc, _, hdr, hE, hcells⟩ := HX.out.get hlt
   obtain ⟨c0, c1, c2, c3, c4, c5, c6, c7⟩ := hcells _ HB.out
   have HE := hdq (REval_any D _ t ra rl rc R _ (hE.later HB.out) (HR.out.later HB.out))
   have hpw := HW.out t w _ hE
   have hK := HK.out
   rw [hdr] at hK
   simp only [keysGo] at hK
   obtain ⟨p, hp⟩ : ∃ p, p = tellV (R.map (·.l)) t := ⟨_, rfl⟩
   rw [← hp] at HE hK hpw
   obtain ⟨p, pe⟩ := p
   simp only at HE hK hpw
   have HPW := hdq hpw
   clear hcells hE hp hdr hpw
   by_cases hpe : pe = 0
   ·subst hpe
    rw [if_neg (by simp)] at hK
    obtain ⟨pk, pn, pf, ps⟩ := p
    by_cases hpk : pk = 0
    ·subst hpk
     simp only [ne_eq, not_true_eq_false, decide_false, Bool.and_false] at hK
     have HK2 := hdq hK
     clear hK
     go_wp2_with (first | (go_at_call 36; refine HE.out.mono ?_; unfold Val.agg; rintro e w2 ⟨⟨⟨vk, vn, vf, vs⟩, rfl, hal, hwf⟩, hb2⟩; obtain rfl : vk = 0 := hal.1.symm; have HY := hdq (rplain_like HPW.out hwf hal); have HYW := hdq (rplainV_wf _ hwf); have HWF := hdq hwf; have HB2 := hdq (HB.out.trans (hb2.mono HB.out.size)); have HO2 := hdq (Kd.R_alloc (Kd.R_below HO.out hb2) (.cells #[.int .i64 0, .int .i64 vn, .float .f64 vf, .string vs] 39)); clear hb2 hal hwf) | (go_at_call 37; refine (RPlain_exp _ _ _ _ HWF.out _).mono ?_; obtain ⟨y, hy⟩ : ∃ y, y = rplainV ⟨0, vn, vf, vs⟩ := ⟨_, rfl⟩; rw [← hy] at HY HYW ⊢; obtain ⟨yk, yn, yf, ys⟩ := y; simp only; rintro e w3 ⟨rfl, hb3⟩; have HO3 := hdq (Kd.R_below HO2.out hb3); have hbb := HB2.out.alloc HB2.out.size (.cells #[.int .i64 0, .int .i64 vn, .float .f64 vf, .string vs] 39); have HB3 := hdq (hbb.trans (hb3.mono hbb.size)); clear hb3 hbb hy) | (at_builtin; refine Kd.R_append kAl (w0 := w) w.heap.size rfl (.tmp 33) (.tmp 36) 29 39 (.agg #[(.int .i64 0), (.int .i64 0), (.float .f64 0), (.string ⟨#[]⟩)]) 40 rfl Tryz.underlying29 infoV rfl (by decide) (by omega) u7 (acc.map pOf) (pOf (plainV ⟨0, pn, pf, ps⟩)) [.int .i64 yk, .int .i64 yn, .float .f64 yf, .string ys] (fun _ => True) (fun _ => False) rfl rfl ⟨pOf ⟨yk, yn, yf, ys⟩, HYW.out, HY.out, rfl⟩ (fun _ hk => hk.elim) (fun _ _ => trivial) HO3.out HB3.out HB3.out.size (by have := HACC.out; have := HL.out; rw [List.length_map]; omega) ?_; intro v4 w4 ho4 hb4 hg4 hat4; have HO4 := hdq ho4; have HB4 := hdq hb4; clear ho4 hb4 hg4 hat4))
     go_roundw
     case rel => exact ⟨k + 1, _, _, by go_num, rfl, by omega, hdq (by rw [List.length_append, HACC.out]; rfl), HK2, by rw [List.map_append]; exact HO4, HB4⟩
     case measure => simp [intOf]; omega
    ·have hpk0 : ((pk : Int) == 0) = false := by simp; exact hpk
     have hdd : (decide (pk ≠ 0)) = true := by simp; exact hpk
     simp only [hdd, Bool.and_true] at hK
     have HK2 := hdq hK
     clear hK hpk hdd
     go_wp2_with (first | (go_at_call 36; refine HE.out.mono ?_; unfold Val.agg; rintro e w2 ⟨⟨⟨vk, vn, vf, vs⟩, rfl, hal, hwf⟩, hb2⟩; have hvk : vk = pk := hal.1.symm; subst hvk; have HY := hdq (rplain_like HPW.out hwf hal); have HYW := hdq (rplainV_wf _ hwf); have HWF := hdq hwf; have HB2 := hdq (HB.out.trans (hb2.mono HB.out.size)); have HO2 := hdq (Kd.R_alloc (Kd.R_below HO.out hb2) (.cells #[.int .i64 vk, .int .i64 vn, .float .f64 vf, .string vs] 39)); clear hb2 hal hwf) | (go_at_call 37; refine (RPlain_exp _ _ _ _ HWF.out _).mono ?_; obtain ⟨y, hy⟩ : ∃ y, y = rplainV ⟨vk, vn, vf, vs⟩ := ⟨_, rfl⟩; rw [← hy] at HY HYW ⊢; obtain ⟨yk, yn, yf, ys⟩ := y; simp only; rintro e w3 ⟨rfl, hb3⟩; have HO3 := hdq (Kd.R_below HO2.out hb3); have hbb := HB2.out.alloc HB2.out.size (.cells #[.int .i64 vk, .int .i64 vn, .float .f64 vf, .string vs] 39); have HB3 := hdq (hbb.trans (hb3.mono hbb.size)); clear hb3 hbb hy) | (at_builtin; refine Kd.R_append kAl (w0 := w) w.heap.size rfl (.tmp 33) (.tmp 36) 29 39 (.agg #[(.int .i64 0), (.int .i64 0), (.float .f64 0), (.string ⟨#[]⟩)]) 40 rfl Tryz.underlying29 infoV rfl (by decide) (by omega) u7 (acc.map pOf) (pOf (plainV ⟨vk, pn, pf, ps⟩)) [.int .i64 yk, .int .i64 yn, .float .f64 yf, .string ys] (fun _ => True) (fun _ => False) rfl rfl ⟨pOf ⟨yk, yn, yf, ys⟩, HYW.out, HY.out, rfl⟩ (fun _ hk => hk.elim) (fun _ _ => trivial) HO3.out HB3.out HB3.out.size (by have := HACC.out; have := HL.out; rw [List.length_map]; omega) ?_; intro v4 w4 ho4 hb4 hg4 hat4; have HO4 := hdq ho4; have HB4 := hdq hb4; clear ho4 hb4 hg4 hat4))
     go_roundw
     case rel => exact ⟨k + 1, _, _, by go_num, rfl, by omega, hdq (by rw [List.length_append, HACC.out]; rfl), HK2, by rw [List.map_append]; exact HO4, HB4⟩
     case measure => simp [intOf]; omega
   ·rw [if_pos hpe] at hK
    cases hK
    have hpe' : (r3 != 0) = true := by simp; exact hpe
    go_wp2_with (go_at_call 36; refine HE.out.mono ?_; unfold Val.agg; rintro e w2 ⟨⟨⟨vk, vn, vf, vs⟩, rfl, hal, hwf⟩, hb2⟩; have HB2 := hdq (HB.out.trans (hb2.mono HB.out.size)); clear hb2 hal hwf)
    go_ret3
    exact ⟨⟨_, rfl, Kd.R_nil _ _ _ _ _⟩, HB2.out.alloc HB2.out.size _⟩
  ·obtain rfl : k = len := by omega
   have hK := HK.out
   rw [List.drop_of_length_le (by rw [HLEN.out]; exact Nat.le_refl _)] at hK
   cases hK
   go_wp2
   go_ret3
   exact ⟨⟨_, rfl, HO.out⟩, HB.out⟩
end Go.Proofs.YtgmolmpfihkolaaGreat
namespace Go.Proofs.YtgmolmpfihkolaaGreat
open Go.RowKit Go.Proofs.YtgmolmpfihkolaaGreatW.PrintWords Go.Proofs.YtgmolmpfihkolaaGreat.Pj
set_option linter.unusedVariables false
set_option maxRecDepth 100000
instance (a b : Val) : Decidable (Alike a b) := by unfold Alike; infer_instance
def exactF (a b : PV) : Option Bool := if wfV a && (wfV b && decide (Alike (vOf a) (vOf b))) then some true else none
def plainF (a : PV) : Option (Int × Int × Nat × ByteArray) := if wfV a then some ((plainV (vOf a)).kind, (plainV (vOf a)).int, (plainV (vOf a)).flt, (plainV (vOf a)).text) else none
def evalF (e : PE) (rows : List (List PV)) : Option (Int × Int × Nat × ByteArray × Int) :=
 if wfE e && wfRs rows then some ((tellV (rsOf rows) (tOf e)).1.kind, (tellV (rsOf rows) (tOf e)).1.int, (tellV (rsOf rows) (tOf e)).1.flt, (tellV (rsOf rows) (tOf e)).1.text, (tellV (rsOf rows) (tOf e)).2) else none
def rowF (a b : List PV) : Option Int := if wfR a && wfR b then some (cmpRow (rOf a) (rOf b)) else none
def holdsF (l : List PE) (rows : List (List PV)) : Option (Bool × Int) := if wfEs l && wfRs rows then some ((holdsV (rsOf rows) (tsOf l)).1, (holdsV (rsOf rows) (tsOf l)).2) else none
def keysF (l : List PE) (rows : List (List PV)) : Option (List PV × Bool × Int) :=
 if wfEs l && (wfRs rows && decide ((l.length + 1) * 40 ≤ 140737488355328)) then some ((keysGo (rsOf rows) [] true (tsOf l)).1.map pOf, (keysGo (rsOf rows) [] true (tsOf l)).2.1, (keysGo (rsOf rows) [] true (tsOf l)).2.2) else none
def Likes : List Val → List Val → Prop
 | [], [] => True
 | a :: s, b :: t => Alike a b ∧ Likes s t
 | _, _ => False
theorem likes_of : ∀ {l m : List Val}, l.length = m.length → (∀ (i : Nat) (x y : Val), l[i]? = some x → m[i]? = some y → Alike x y) → Likes l m
 | [], [], _, _ => trivial
 | [], _ :: _, h, _ => by simp at h
 | _ :: _, [], h, _ => by simp at h
 | a :: s, b :: t, h, hi => ⟨hi 0 a b rfl rfl, likes_of (by simpa using h) (fun i x y hx hy => hi (i + 1) x y (by simpa using hx) (by simpa using hy))⟩
theorem cmpRow_alike : ∀ {a b a' b' : List Val}, (∀ v ∈ a, v.wf) → (∀ v ∈ b, v.wf) → (∀ v ∈ a', v.wf) → (∀ v ∈ b', v.wf) → Likes a a' → Likes b b' → cmpRow a b = cmpRow a' b'
 | [], [], [], [], _, _, _, _, _, _ => rfl
 | [], _ :: _, [], _ :: _, _, _, _, _, _, _ => rfl
 | _ :: _, [], _ :: _, [], _, _, _, _, _, _ => rfl
 | _ :: _, _, [], _, _, _, _, _, h, _ => h.elim
 | [], _, _ :: _, _, _, _, _, _, h, _ => h.elim
 | _, _ :: _, _, [], _, _, _, _, _, h => h.elim
 | _, [], _, _ :: _, _, _, _, _, _, h => h.elim
 | a :: s, b :: t, a' :: s', b' :: t', ha, hb, ha', hb', h, g => by
  simp only [cmpRow]
  rw [cmp_alike (ha a (by simp)) (hb b (by simp)) (ha' a' (by simp)) (hb' b' (by simp)) h.1 g.1,
   cmpRow_alike (fun v hv => ha v (by simp [hv])) (fun v hv => hb v (by simp [hv])) (fun v hv => ha' v (by simp [hv])) (fun v hv => hb' v (by simp [hv])) h.2 g.2]
theorem row_like {w : World} {A : Option Addr} {n c : Nat} {xs : List PV} (h : Kd.C kAl w A n xs) (hc : n ≤ c) : ∃ ys : List Val, RowV w A n c ys ∧ Likes (rOf xs) ys := by
 obtain ⟨h1, h2, h3⟩ := h
 by_cases h0 : n = 0
 ·subst h0
  obtain rfl : xs = [] := List.length_eq_zero_iff.1 h1
  exact ⟨[], ⟨rfl, hc, by unfold maxLen; omega, fun v hv => (by cases hv), .inl rfl⟩, trivial⟩
 ·obtain ⟨ad, rfl, hcell⟩ := h3 (by omega)
  have each : ∀ i, i < n → ∃ y : Val, y.wf ∧ (∀ x, xs[i]? = some x → Alike (vOf x) y) ∧ ∀ j u, (pvCells (pOf y))[j]? = some u → w.cell? (ad.add (i * 4 + j)) = some u := by
   intro i hi
   have hx := List.getElem?_eq_getElem (l := xs) (i := i) (by omega)
   obtain ⟨cs, _, ⟨y, hw, ha, rfl⟩, hcs⟩ := hcell i _ hx
   exact ⟨vOf y, hw, fun x hx' => by rw [hx] at hx'; cases hx'; exact ha, hcs⟩
  obtain ⟨f, hf⟩ := Go.Deep.choose_lt each
  obtain ⟨e0, hlt⟩ := plain_ad ((hf 0 (by omega)).2.2 0 _ rfl)
  have hz : ad.add (0 * 4 + 0) = ad := by rw [Nat.zero_mul, Addr.add, if_pos rfl]
  rw [hz] at e0 hlt
  refine ⟨(List.range n).map f, ⟨by simp, hc, by unfold maxLen; omega, ?_, .inr ⟨ad.block, ad.off, by rw [← e0], hlt, fun i v hi => ?_⟩⟩, ?_⟩
  ·intro v hv
   obtain ⟨i, hi, rfl⟩ := List.mem_map.1 hv
   exact (hf i (List.mem_range.1 hi)).1
  ·have hin : i < n := by
    have := (List.getElem?_eq_some_iff.1 hi).1
    simpa using this
   have hfs : f i = v := by
    rw [List.getElem?_map, List.getElem?_range hin] at hi
    simpa using hi
   obtain ⟨_, _, q⟩ := hf i hin
   rw [hfs] at q
   have at_ : ∀ j u, (pvCells (pOf v))[j]? = some u → w.cell? ⟨ad.block, ad.off + i * 4 + j, none⟩ = some u := by
    intro j u hu
    have h := q j u hu
    rw [e0, addr_add] at h
    rw [Nat.add_assoc]; exact h
   exact ⟨at_ 0 _ rfl, at_ 1 _ rfl, at_ 2 _ rfl, at_ 3 _ rfl⟩
  ·refine likes_of (by simp [rOf, h1]) (fun i x y hx hy => ?_)
   rw [rOf, List.getElem?_map, Option.map_eq_some_iff] at hx
   obtain ⟨z, hz, rfl⟩ := hx
   have hin : i < n := by
    have := (List.getElem?_eq_some_iff.1 hz).1
    omega
   rw [List.getElem?_map, List.getElem?_range hin] at hy
   obtain rfl : f i = y := by simpa using hy
   exact (hf i hin).2.1 z hz
end Go.Proofs.YtgmolmpfihkolaaGreat
