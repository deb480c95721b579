/- Part of the proof. -/
import Derived.Test.YtgmolmpfihkolaaGreatK15
namespace Go.Proofs.YtgmolmpfihkolaaGreat
open Go.RowKit
open Go.Deep
set_option linter.unusedVariables false
set_option maxRecDepth 100000
attribute [local go_sem] run_store_float
set_option maxHeartbeats 1000000 in
theorem REval_any (D : Nat) (cs : List Value) (t : Tx) (ra : Option Addr) (rl rc : Nat) (R : List Slc) (w : World) (hx : ExAt w D cs t) (hR : RowsV w ra rl rc R) : Calls Tryz.prog 36 #[.agg cs.toArray, .slice ra rl rc] w
 fun e w' => (∃ v, e = .returned (.tuple #[v.agg, .int .i64 (tellV (R.map (·.l)) t).2]) ∧ Alike (tellV (R.map (·.l)) t).1 v ∧ v.wf) ∧ Below w.heap.size w w' := by
 obtain ⟨k0, k1, k2, k3, k4, k5, k6, ka, kl, kc, rfl⟩ := hx.cells
 let W0 := (w.alloc (.cells #[.int .i64 k0, .int .i64 k1, .int .i64 k2, .int .i64 k3, .int .i64 k4, .float .f64 k5, .string k6, .slice ka kl kc] 53)).alloc (.cells #[.int .i64 0, .int .i64 0, .float .f64 0, .string ⟨#[]⟩] 39)
 have hB0 : Below w.heap.size w W0 := ((Below.refl _ w).alloc (Nat.le_refl _) _).alloc (by simp) _
 have hbx : BoxE w k0 k1 k2 k3 k4 k5 k6 ka kl kc W0 := (BoxE.start w k0 k1 k2 k3 k4 k5 k6 ka kl kc 53).next ((Below.refl _ _).alloc (Nat.le_refl _) _)
 have hvb : LiesV W0 (w.heap.size + 1) 0 Val.null := by
  have h1 := LiesV.new (w.alloc (.cells #[.int .i64 k0, .int .i64 k1, .int .i64 k2, .int .i64 k3, .int .i64 k4, .float .f64 k5, .string k6, .slice ka kl kc] 53)) Val.null 39
  rw [World.size_alloc] at h1
  exact h1
 have hs0 : W0.heap.size = w.heap.size + 2 := by simp [W0]
 have HF := hdq (RFormed_any D _ t W0 (hx.later hB0))
 have HB0 := hdq hB0
 have HS0 := hdq hs0
 have HV0 := hdq hvb
 have HBX := hdq hbx
 obtain ⟨x0, x1, x2, x3, x4, x5, x6, x7, _⟩ := hbx
 have HX := hdq hx
 have HR := hdq hR
 clear hx hR hB0 hvb hs0
 obtain ⟨r, hr⟩ : ∃ r, r = tellV (R.map (·.l)) t := ⟨_, rfl⟩
 rw [← hr]
 unfold tellV at hr
 cases hf : formedT t with
 | false =>
  rw [hf] at HF hr
  rw [if_neg (by simp)] at hr
  subst hr
  clear hf
  go_enter Tryz.func36, Tryz.ntmps36
  go_wp2_with (go_at_call 62; refine HF.out.mono ?_; rintro e w1 ⟨rfl, hb1⟩; have HV1 := hdq (HV0.out.below hb1 (by rw [HS0.out]; omega)); have HB1 := hdq (HB0.out.trans (hb1.mono HB0.out.size)); obtain ⟨⟨q1, q2, q3, q4⟩, f1, f2, f3, f4⟩ := HV1.out; simp only [Nat.zero_add] at q1 q2 q3 q4 f1 f2 f3 f4; clear hb1)
  exact ret_val2 Tryz.results36 rfl rfl rfl (HV1.out.stored Val.null) ⟨⟨Val.null, rfl, ⟨rfl, rfl, rfl, rfl, rfl⟩, null_wf⟩, below_val HB1.out (by omega) _ _ _ _⟩
 | true =>
  rw [hf] at HF hr
  rw [if_pos rfl] at hr
  have hok : okT 1 t = true := by unfold formedT at hf; rw [Bool.and_eq_true] at hf; exact hf.1
  have HE := hdq (fun W (hb : Below w.heap.size w W) => reval_any D _ t 1 ra rl rc R W (HX.out.later hb) (HR.out.later hb) hok)
  rw [← hr] at HE
  clear hr hf hok HX HR
  obtain ⟨p, pe⟩ := r
  go_enter Tryz.func36, Tryz.ntmps36
  go_wp2_with (first | (go_at_call 62; refine HF.out.mono ?_; rintro e w1 ⟨rfl, hb1⟩; have HV1 := hdq (HV0.out.below hb1 (by rw [HS0.out]; omega)); have HB1 := hdq (HB0.out.trans (hb1.mono HB0.out.size)); have HSZ := hdq (show w.heap.size + 1 < w1.heap.size by have := hb1.size; rw [HS0.out] at this; omega); obtain ⟨y0, y1, y2, y3, y4, y5, y6, y7, _⟩ := HBX.out.next hb1; clear hb1) | (go_at_call 63; refine (HE.out _ HB1.out).mono ?_; unfold Val.agg; rintro e w2 ⟨⟨⟨vk, vn, vf, vs⟩, rfl, hal, hwf⟩, hb2⟩; have HBB := hdq (HB1.out.trans (hb2.mono HB1.out.size)); have HAL := hdq hal; have HWF := hdq hwf; have HV2 := hdq (HV1.out.below hb2 HSZ.out); obtain ⟨⟨q1, q2, q3, q4⟩, f1, f2, f3, f4⟩ := HV2.out; simp only [Nat.zero_add] at q1 q2 q3 q4 f1 f2 f3 f4; clear hb2 hal hwf))
  exact ret_val2 Tryz.results36 rfl rfl rfl (HV2.out.stored ⟨vk, vn, vf, vs⟩) ⟨⟨⟨vk, vn, vf, vs⟩, rfl, HAL.out, HWF.out⟩, below_val HBB.out (by omega) _ _ _ _⟩
def isTrue (v : Val) : Bool := v.kind == 1 && v.int == 1
def holdsV (rows : List (List Val)) : List Tx → Bool × Int
 | [] => (true, 0)
 | t :: ts => if (tellV rows t).2 ≠ 0 then (false, (tellV rows t).2) else if isTrue (tellV rows t).1 then holdsV rows ts else (false, 0)
theorem ExsAt.get {W : World} {D : Nat} {a : Option Addr} {len cap k : Nat} {ts : List Tx} (h : ExsAt W D a len cap ts) (hk : k < len) :
 ∃ b off, a = some ⟨b, off, none⟩ ∧ b < W.heap.size ∧ ∃ t k0 k1 k2 k3 k4 k5 k6 ka kl kc, ts[k]? = some t ∧ ts.drop k = t :: ts.drop (k + 1) ∧ ExAt W D [.int .i64 k0, .int .i64 k1, .int .i64 k2, .int .i64 k3, .int .i64 k4, .float .f64 k5, .string k6, .slice ka kl kc] t ∧
  ∀ W', Below W.heap.size W W' → W'.cell? ⟨b, off + k * 8, none⟩ = some (.int .i64 k0) ∧ W'.cell? ⟨b, off + k * 8 + 1, none⟩ = some (.int .i64 k1) ∧ W'.cell? ⟨b, off + k * 8 + 2, none⟩ = some (.int .i64 k2) ∧ W'.cell? ⟨b, off + k * 8 + 3, none⟩ = some (.int .i64 k3) ∧ W'.cell? ⟨b, off + k * 8 + 4, none⟩ = some (.int .i64 k4) ∧ W'.cell? ⟨b, off + k * 8 + 5, none⟩ = some (.float .f64 k5) ∧ W'.cell? ⟨b, off + k * 8 + 6, none⟩ = some (.string k6) ∧ W'.cell? ⟨b, off + k * 8 + 7, none⟩ = some (.slice ka kl kc) := by
 obtain ⟨h1, _, _, h4⟩ := h
 obtain ⟨b, off, rfl, hbl, hc⟩ := h4.resolve_left (by omega)
 have hk' : k < ts.length := by omega
 obtain ⟨cs, hE, hcs⟩ := hc k _ (List.getElem?_eq_getElem hk')
 obtain ⟨k0, k1, k2, k3, k4, k5, k6, ka, kl, kc, rfl⟩ := hE.cells
 exact ⟨b, off, rfl, hbl, ts[k], k0, k1, k2, k3, k4, k5, k6, ka, kl, kc, List.getElem?_eq_getElem hk', List.drop_eq_getElem_cons hk', hE, fun W' hb =>
  ⟨(hb.cell hbl).trans (hcs 0 _ rfl), (hb.cell hbl).trans (hcs 1 _ rfl), (hb.cell hbl).trans (hcs 2 _ rfl), (hb.cell hbl).trans (hcs 3 _ rfl), (hb.cell hbl).trans (hcs 4 _ rfl), (hb.cell hbl).trans (hcs 5 _ rfl), (hb.cell hbl).trans (hcs 6 _ rfl), (hb.cell hbl).trans (hcs 7 _ rfl)⟩⟩
end Go.Proofs.YtgmolmpfihkolaaGreat
namespace Go.Proofs.YtgmolmpfihkolaaGreat
open Go.RowKit Go.Proofs.YtgmolmpfihkolaaGreatW.PrintWords Go.Proofs.YtgmolmpfihkolaaGreat.Pj
set_option linter.unusedVariables false
set_option maxRecDepth 100000
attribute [local go_sem] run_store_float
def pOf (v : Val) : PV := ⟨v.kind, v.int, v.flt, v.text⟩
theorem vOf_pOf (v : Val) : vOf (pOf v) = v := rfl
def pvCells (x : PV) : List Value := [.int .i64 x.f0, .int .i64 x.f1, .float .f64 x.f2, .string x.f3]
def kAl : Kd PV where
 sz := 4
 E := []
 K := fun _ x cs => ∃ y : PV, (vOf y).wf ∧ Alike (vOf x) (vOf y) ∧ cs = pvCells y
 M := fun _ _ _ x cs => ∃ y : PV, (vOf y).wf ∧ Alike (vOf x) (vOf y) ∧ cs = pvCells y
 K_len := fun ⟨_, _, _, e⟩ => by rw [e]; rfl
 K_one := fun ⟨_, _, _, e⟩ u hu => by
  rw [e] at hu
  simp only [pvCells, List.mem_cons, List.not_mem_nil, or_false] at hu
  rcases hu with rfl | rfl | rfl | rfl <;> rfl
 K_below := fun _ h => h
 K_of_M := fun h => h
 M_mono := fun _ h => h
 M_bound := fun h => h
 M_move := fun _ h => h
 M_lower := fun _ h => h
theorem infoV : (Tryz.prog.info? 39).map (fun i => (i.zero, i.size, i.bytes)) = some (some (.agg #[(.int .i64 0), (.int .i64 0), (.float .f64 0), (.string ⟨#[]⟩)]), 4, 40) := by kernel_rfl
def keysGo (rows : List (List Val)) (acc : List Val) (sm : Bool) : List Tx → List Val × Bool × Int
 | [] => (acc, sm, 0)
 | t :: ts => if (tellV rows t).2 ≠ 0 then ([], false, (tellV rows t).2) else keysGo rows (acc ++ [plainV (tellV rows t).1]) (sm && decide ((tellV rows t).1.kind ≠ 0)) ts
theorem rplain_like {p v : Val} (hp : p.wf) (hv : v.wf) (h : Alike p v) : Alike (plainV p) (rplainV v) := by
 rw [plain_alike hp hv h]
 cases hr : rightV v with
 | false =>
  unfold plainV rplainV
  rw [hr, if_neg (by simp), if_neg (by simp)]; exact ⟨rfl, rfl, rfl, rfl, rfl⟩
 | true =>
  by_cases hk : v.kind = 3
  ·rw [(plain_flt v hr hk).1, (plain_flt v hr hk).2]
   exact ⟨rfl, rfl, rfl, (bits_alike _).1, (bits_alike _).2⟩
  ·unfold plainV rplainV
   rw [hr, if_pos rfl, if_pos rfl, if_neg hk, if_neg hk]; exact ⟨rfl, rfl, rfl, rfl, rfl⟩
set_option maxHeartbeats 4000000 in
theorem RKeys_any (D : Nat) (a : Option Addr) (len cap : Nat) (ts : List Tx) (ra : Option Addr) (rl rc : Nat) (R : List Slc) (w : World) (hx : ExsAt w D a len cap ts) (hR : RowsV w ra rl rc R) (hlen : (len + 1) * 40 ≤ 140737488355328) :
 Calls Tryz.prog 13 #[.slice a len cap, .slice ra rl rc] w
 fun e w' => (∃ v, e = .returned (.tuple #[v, .bool (keysGo (R.map (·.l)) [] true ts).2.1, .int .i64 (keysGo (R.map (·.l)) [] true ts).2.2]) ∧ Kd.R kAl 39 w' w.heap.size (fun _ => True) v ((keysGo (R.map (·.l)) [] true ts).1.map pOf)) ∧ Below w.heap.size w w' := by
 have h63 : len < 2 ^ 63 := by omega
 have HX := hdq hx
 have HR := hdq hR
 have HLEN := hdq hx.1
 have HW := hdq (fun (t : Tx) (W : World) (cs : List Value) (hE : ExAt W D cs t) => (tellV_wf hR.rowsWf hE))
 obtain ⟨r, hr⟩ : ∃ r, r = keysGo (R.map (·.l)) [] true ts := ⟨_, rfl⟩
 have HRES := hdq hr
 rw [← hr]
 obtain ⟨r1, r2, r3⟩ := r
 have HL := hdq hlen
 clear hx hR hr hlen
 go_enter Tryz.func13, Tryz.ntmps13
 go_wp2
 go_loopw [7, 8, 9] (fun v s i wr => ∃ (k : Nat) (acc : List Val) (sm : Bool), i = .int .i64 k ∧ s = .bool sm ∧ k ≤ len ∧ Hid (acc.length = k) ∧ Hid ((r1, r2, r3) = keysGo (R.map (·.l)) acc sm (ts.drop k)) ∧ Hid (Kd.R kAl 39 wr w.heap.size (fun _ => True) v (acc.map pOf)) ∧ Hid (Below w.heap.size w wr)) (fun _ _ i _ => len - (intOf i).toNat)
 case atStart => exact ⟨0, [], true, rfl, rfl, Nat.zero_le _, hdq rfl, HRES, hdq (Kd.R_nil _ _ _ _ _), hdq (Below.refl _ _)⟩
 case round =>
  obtain ⟨k, acc, sm, rfl, rfl, hk, HACC, HK, HO, HB⟩ := hrel
  by_cases hlt : k < len
  ·obtain ⟨b, off, rfl, hbl, t, k0, k1, k2, k3, k4, k5, k6, ka, kl, kc, _, hdr, hE, hcells⟩ := HX.out.get hlt
   obtain ⟨c0, c1, c2, c3, c4, c5, c6, c7⟩ := hcells _ HB.out
   have HE := hdq (REval_any D _ t ra rl rc R _ (hE.later HB.out) (HR.out.later HB.out))
   have hpw := HW.out t w _ hE
   have hK := HK.out
   rw [hdr] at hK
   simp only [keysGo] at hK
   obtain ⟨p, hp⟩ : ∃ p, p = tellV (R.map (·.l)) t := ⟨_, rfl⟩
   rw [← hp] at HE hK hpw
   obtain ⟨p, pe⟩ := p
   simp only at HE hK hpw
   have HPW := hdq hpw
   clear hcells hE hp hdr hpw
   by_cases hpe : pe = 0
   ·subst hpe
    rw [if_neg (by simp)] at hK
    obtain ⟨pk, pn, pf, ps⟩ := p
    by_cases hpk : pk = 0
    ·subst hpk
     simp only [ne_eq, not_true_eq_false, decide_false, Bool.and_false] at hK
     have HK2 := hdq hK
     clear hK
     go_wp2_with (first | (go_at_call 36; refine HE.out.mono ?_; unfold Val.agg; rintro e w2 ⟨⟨⟨vk, vn, vf, vs⟩, rfl, hal, hwf⟩, hb2⟩; obtain rfl : vk = 0 := hal.1.symm; have HY := hdq (rplain_like HPW.out hwf hal); have HYW := hdq (rplainV_wf _ hwf); have HWF := hdq hwf; have HB2 := hdq (HB.out.trans (hb2.mono HB.out.size)); have HO2 := hdq (Kd.R_alloc (Kd.R_below HO.out hb2) (.cells #[.int .i64 0, .int .i64 vn, .float .f64 vf, .string vs] 39)); clear hb2 hal hwf) | (go_at_call 37; refine (RPlain_exp _ _ _ _ HWF.out _).mono ?_; obtain ⟨y, hy⟩ : ∃ y, y = rplainV ⟨0, vn, vf, vs⟩ := ⟨_, rfl⟩; rw [← hy] at HY HYW ⊢; obtain ⟨yk, yn, yf, ys⟩ := y; simp only; rintro e w3 ⟨rfl, hb3⟩; have HO3 := hdq (Kd.R_below HO2.out hb3); have hbb := HB2.out.alloc HB2.out.size (.cells #[.int .i64 0, .int .i64 vn, .float .f64 vf, .string vs] 39); have HB3 := hdq (hbb.trans (hb3.mono hbb.size)); clear hb3 hbb hy) | (at_builtin; refine Kd.R_append kAl (w0 := w) w.heap.size rfl (.tmp 33) (.tmp 36) 29 39 (.agg #[(.int .i64 0), (.int .i64 0), (.float .f64 0), (.string ⟨#[]⟩)]) 40 rfl Tryz.underlying29 infoV rfl (by decide) (by omega) u7 (acc.map pOf) (pOf (plainV ⟨0, pn, pf, ps⟩)) [.int .i64 yk, .int .i64 yn, .float .f64 yf, .string ys] (fun _ => True) (fun _ => False) rfl rfl ⟨pOf ⟨yk, yn, yf, ys⟩, HYW.out, HY.out, rfl⟩ (fun _ hk => hk.elim) (fun _ _ => trivial) HO3.out HB3.out HB3.out.size (by have := HACC.out; have := HL.out; rw [List.length_map]; omega) ?_; intro v4 w4 ho4 hb4 hg4 hat4; have HO4 := hdq ho4; have HB4 := hdq hb4; clear ho4 hb4 hg4 hat4))
     go_roundw
     case rel => exact ⟨k + 1, _, _, by go_num, rfl, by omega, hdq (by rw [List.length_append, HACC.out]; rfl), HK2, by rw [List.map_append]; exact HO4, HB4⟩
     case measure => simp [intOf]; omega
    ·have hpk0 : ((pk : Int) == 0) = false := by simp; exact hpk
     have hdd : (decide (pk ≠ 0)) = true := by simp; exact hpk
     simp only [hdd, Bool.and_true] at hK
     have HK2 := hdq hK
     clear hK hpk hdd
     go_wp2_with (first | (go_at_call 36; refine HE.out.mono ?_; unfold Val.agg; rintro e w2 ⟨⟨⟨vk, vn, vf, vs⟩, rfl, hal, hwf⟩, hb2⟩; have hvk : vk = pk := hal.1.symm; subst hvk; have HY := hdq (rplain_like HPW.out hwf hal); have HYW := hdq (rplainV_wf _ hwf); have HWF := hdq hwf; have HB2 := hdq (HB.out.trans (hb2.mono HB.out.size)); have HO2 := hdq (Kd.R_alloc (Kd.R_below HO.out hb2) (.cells #[.int .i64 vk, .int .i64 vn, .float .f64 vf, .string vs] 39)); clear hb2 hal hwf) | (go_at_call 37; refine (RPlain_exp _ _ _ _ HWF.out _).mono ?_; obtain ⟨y, hy⟩ : ∃ y, y = rplainV ⟨vk, vn, vf, vs⟩ := ⟨_, rfl⟩; rw [← hy] at HY HYW ⊢; obtain ⟨yk, yn, yf, ys⟩ := y; simp only; rintro e w3 ⟨rfl, hb3⟩; have HO3 := hdq (Kd.R_below HO2.out hb3); have hbb := HB2.out.alloc HB2.out.size (.cells #[.int .i64 vk, .int .i64 vn, .float .f64 vf, .string vs] 39); have HB3 := hdq (hbb.trans (hb3.mono hbb.size)); clear hb3 hbb hy) | (at_builtin; refine Kd.R_append kAl (w0 := w) w.heap.size rfl (.tmp 33) (.tmp 36) 29 39 (.agg #[(.int .i64 0), (.int .i64 0), (.float .f64 0), (.string ⟨#[]⟩)]) 40 rfl Tryz.underlying29 infoV rfl (by decide) (by omega) u7 (acc.map pOf) (pOf (plainV ⟨vk, pn, pf, ps⟩)) [.int .i64 yk, .int .i64 yn, .float .f64 yf, .string ys] (fun _ => True) (fun _ => False) rfl rfl ⟨pOf ⟨yk, yn, yf, ys⟩, HYW.out, HY.out, rfl⟩ (fun _ hk => hk.elim) (fun _ _ => trivial) HO3.out HB3.out HB3.out.size (by have := HACC.out; have := HL.out; rw [List.length_map]; omega) ?_; intro v4 w4 ho4 hb4 hg4 hat4; have HO4 := hdq ho4; have HB4 := hdq hb4; clear ho4 hb4 hg4 hat4))
     go_roundw
     case rel => exact ⟨k + 1, _, _, by go_num, rfl, by omega, hdq (by rw [List.length_append, HACC.out]; rfl), HK2, by rw [List.map_append]; exact HO4, HB4⟩
     case measure => simp [intOf]; omega
   ·rw [if_pos hpe] at hK
    cases hK
    have hpe' : (r3 != 0) = true := by simp; exact hpe
    go_wp2_with (go_at_call 36; refine HE.out.mono ?_; unfold Val.agg; rintro e w2 ⟨⟨⟨vk, vn, vf, vs⟩, rfl, hal, hwf⟩, hb2⟩; have HB2 := hdq (HB.out.trans (hb2.mono HB.out.size)); clear hb2 hal hwf)
    go_ret3
    exact ⟨⟨_, rfl, Kd.R_nil _ _ _ _ _⟩, HB2.out.alloc HB2.out.size _⟩
  ·obtain rfl : k = len := by omega
   have hK := HK.out
   rw [List.drop_of_length_le (by rw [HLEN.out]; exact Nat.le_refl _)] at hK
   cases hK
   go_wp2
   go_ret3
   exact ⟨⟨_, rfl, HO.out⟩, HB.out⟩
end Go.Proofs.YtgmolmpfihkolaaGreat
namespace Go.Proofs.YtgmolmpfihkolaaGreat
open Go.RowKit Go.Proofs.YtgmolmpfihkolaaGreatW.PrintWords Go.Proofs.YtgmolmpfihkolaaGreat.Pj
set_option linter.unusedVariables false
set_option maxRecDepth 100000
instance (a b : Val) : Decidable (Alike a b) := by unfold Alike; infer_instance
def exactF (a b : PV) : Option Bool := if wfV a && (wfV b && decide (Alike (vOf a) (vOf b))) then some true else none
def plainF (a : PV) : Option (Int × Int × Nat × ByteArray) := if wfV a then some ((plainV (vOf a)).kind, (plainV (vOf a)).int, (plainV (vOf a)).flt, (plainV (vOf a)).text) else none
def evalF (e : PE) (rows : List (List PV)) : Option (Int × Int × Nat × ByteArray × Int) :=
 if wfE e && wfRs rows then some ((tellV (rsOf rows) (tOf e)).1.kind, (tellV (rsOf rows) (tOf e)).1.int, (tellV (rsOf rows) (tOf e)).1.flt, (tellV (rsOf rows) (tOf e)).1.text, (tellV (rsOf rows) (tOf e)).2) else none
def rowF (a b : List PV) : Option Int := if wfR a && wfR b then some (cmpRow (rOf a) (rOf b)) else none
def keysF (l : List PE) (rows : List (List PV)) : Option (List PV × Bool × Int) :=
 if wfEs l && (wfRs rows && decide ((l.length + 1) * 40 ≤ 140737488355328)) then some ((keysGo (rsOf rows) [] true (tsOf l)).1.map pOf, (keysGo (rsOf rows) [] true (tsOf l)).2.1, (keysGo (rsOf rows) [] true (tsOf l)).2.2) else none
end Go.Proofs.YtgmolmpfihkolaaGreat
namespace Go.Proofs.YtgmolmpfihkolaaGreat.Pj
open Go.RowKit Go.Proofs.YtgmolmpfihkolaaGreatW.PrintWords Go.Proofs.YtgmolmpfihkolaaGreatW.PrintLast Go.Proofs.YtgmolmpfihkolaaGreatW.PrintMore
attribute [local go_sem] run_store_flt max2_int min2_int max_two min_two max_three min_three max_four min_four
set_option linter.unusedVariables false
set_option linter.unusedSimpArgs false
def row_Cmp.f (l0 : List (S39)) (l1 : List (S39)) : Option (Int) := rowF l0 l1
theorem row_Cmp.calls (A0 : Option Addr) (c0 : Nat) (l0 : List (S39)) (A1 : Option Addr) (c1 : Nat) (l1 : List (S39)) (r : Int) (w : World) (hr0 : Kd.C k39 w A0 l0.length l0) (hc0 : l0.length ≤ c0) (hr1 : Kd.C k39 w A1 l1.length l1) (hc1 : l1.length ≤ c1) (h : row_Cmp.f l0 l1 = some r) :
 Calls Tryz.prog 45 #[.slice A0 l0.length c0, .slice A1 l1.length c1] w fun e w' => e = .returned (.int .i64 r) ∧ Below w.heap.size w w' := by
 unfold row_Cmp.f rowF at h
 split at h
 ·rename_i hc
  simp only [Bool.and_eq_true] at hc
  cases h
  exact rowCmp_any A0 _ c0 _ A1 _ c1 _ w (row_of hr0 hc0 hc.1) (row_of hr1 hc1 hc.2)
 ·cases h
end Go.Proofs.YtgmolmpfihkolaaGreat.Pj
namespace Go.Proofs.YtgmolmpfihkolaaGreatW.PrintLast
set_option linter.unusedVariables false
open Go.RowKit Go.Proofs.YtgmolmpfihkolaaGreatW.PrintWords Go.Proofs.YtgmolmpfihkolaaGreatW.PrintMore
theorem i32_w (n : Int) : IntKind.i32.wrap n = Go.RowKit.wrap32 n := by unfold Go.RowKit.wrap32; exact IntKind.wrap_i32 n
section
variable {P : Program} {ops : Array Oper} {Q : Exit → Act → World → Prop} {md : Region.Mode} {S : World → Prop} {ds : List Nat}
theorem pT (i : Nat) (N : Tmp) (l' : Array Bool) {oi : Oper} {v : Value} {fuel : Nat} {l : Array Bool} {a a' : Act} {w : World} (h : wpAnyLast P md ops Q S ds fuel l' a' w)
 (hi : ops[i]? = some oi := by rfl) (hN : oi.dst = some N := by rfl) (hc : anyB md ops l l' i = true := by exact any_of HT_.out (by kernel_rfl)) (hQ : ∀ c a w, Q (.panic c) (a.put oi.dst v) w → Q (.panic c) a w := by exact fun _ _ _ h => h)
 (hy : Yields P ops oi v a := by (refine Or.inl ⟨by rfl, ?_⟩; intro w'; go_simp; with_reducible rfl)) (ha : a.put (some N) v = a' := by (simp only [Act.put, List.setIfInBounds_toArray, List.set_cons_zero, List.set_cons_succ, i64_w, i32_w]; rfl)) :
 wpAnyLast P md ops Q S ds (fuel + 1) l a w := pure_ (N := some N) l' hi hN hc hQ hy ha h
theorem pU (i : Nat) (N : Tmp) (l' : Array Bool) {oi : Oper} {fuel : Nat} {l : Array Bool} {a a' : Act} {w : World} (h : wpAnyLast P md ops Q S ds fuel l' a' w)
 (hi : ops[i]? = some oi := by rfl) (hN : oi.dst = some N := by rfl) (hc : anyB md ops l l' i = true := by exact any_of HT_.out (by kernel_rfl)) (hQ : ∀ c a w, Q (.panic c) (a.put oi.dst undef) w → Q (.panic c) a w := by exact fun _ _ _ h => h)
 (hy : Yields P ops oi undef a := by exact Or.inr ⟨by rfl, rfl⟩) (ha : a.put (some N) undef = a' := by (simp only [Act.put, List.setIfInBounds_toArray, List.set_cons_zero, List.set_cons_succ, i64_w, i32_w]; rfl)) :
 wpAnyLast P md ops Q S ds (fuel + 1) l a w := pure_ (N := some N) l' hi hN hc hQ hy ha h
theorem tT2 (i : Nat) (N : Tmp) (l' : Array Bool) {oi : Oper} {v : Value} {fuel : Nat} {l : Array Bool} {a a' : Act} {w : World} (hS : S w) (h : wpAnyLast P md ops Q S ds fuel l' a' w)
 (hi : ops[i]? = some oi := by rfl) (hN : oi.dst = some N := by rfl) (hc : takeB md ops ds l l' i = true := by exact take_ofW HT_.out HW_.out (by kernel_rfl)) (hQ : ∀ c a w, Q (.panic c) (a.put oi.dst v) w → Q (.panic c) a w := by exact fun _ _ _ h => h)
 (hy : YieldsIf P ops S oi v a := by (refine Or.inl ⟨by rfl, ?_⟩; rintro w' ⟨s0, s1⟩; go_simp; with_reducible rfl)) (ha : a.put (some N) v = a' := by (simp only [Act.put, List.setIfInBounds_toArray, List.set_cons_zero, List.set_cons_succ, i64_w, i32_w]; rfl)) :
 wpAnyLast P md ops Q S ds (fuel + 1) l a w := take_ (N := some N) l' hi hN hc hQ hy hS ha h
theorem tT4 (i : Nat) (N : Tmp) (l' : Array Bool) {oi : Oper} {v : Value} {fuel : Nat} {l : Array Bool} {a a' : Act} {w : World} (hS : S w) (h : wpAnyLast P md ops Q S ds fuel l' a' w)
 (hi : ops[i]? = some oi := by rfl) (hN : oi.dst = some N := by rfl) (hc : takeB md ops ds l l' i = true := by exact take_ofW HT_.out HW_.out (by kernel_rfl)) (hQ : ∀ c a w, Q (.panic c) (a.put oi.dst v) w → Q (.panic c) a w := by exact fun _ _ _ h => h)
 (hy : YieldsIf P ops S oi v a := by (refine Or.inl ⟨by rfl, ?_⟩; rintro w' ⟨s0, s1, s2, s3⟩; go_simp; with_reducible rfl)) (ha : a.put (some N) v = a' := by (simp only [Act.put, List.setIfInBounds_toArray, List.set_cons_zero, List.set_cons_succ, i64_w, i32_w]; rfl)) :
 wpAnyLast P md ops Q S ds (fuel + 1) l a w := take_ (N := some N) l' hi hN hc hQ hy hS ha h
theorem tT8 (i : Nat) (N : Tmp) (l' : Array Bool) {oi : Oper} {v : Value} {fuel : Nat} {l : Array Bool} {a a' : Act} {w : World} (hS : S w) (h : wpAnyLast P md ops Q S ds fuel l' a' w)
 (hi : ops[i]? = some oi := by rfl) (hN : oi.dst = some N := by rfl) (hc : takeB md ops ds l l' i = true := by exact take_ofW HT_.out HW_.out (by kernel_rfl)) (hQ : ∀ c a w, Q (.panic c) (a.put oi.dst v) w → Q (.panic c) a w := by exact fun _ _ _ h => h)
 (hy : YieldsIf P ops S oi v a := by (refine Or.inl ⟨by rfl, ?_⟩; rintro w' ⟨s0, s1, s2, s3, s4, s5, s6, s7⟩; go_simp; with_reducible rfl)) (ha : a.put (some N) v = a' := by (simp only [Act.put, List.setIfInBounds_toArray, List.set_cons_zero, List.set_cons_succ, i64_w, i32_w]; rfl)) :
 wpAnyLast P md ops Q S ds (fuel + 1) l a w := take_ (N := some N) l' hi hN hc hQ hy hS ha h
theorem gT (f : FuncId) (N : Option Tmp) {fn : Func} (hf : P.funcs[f]? = some fn) (args : Array Value) {rest : List Oper} {oi : Oper} {a : Act} {w : World} {as_ : Array Operand} {ts : Array TypeId}
 (h : Calls P f args w fun e w' => ∃ v, e = .returned v ∧ wpList P ops Q rest (a.put N v) w')
 (hop : oi.op = .call { callee := .value (.func f), args := as_, argTypes := ts } := by with_reducible rfl) (hd : oi.dst = N := by rfl) (hg : oi.guard = none := by rfl) (hname : (fn.name == "runtime.NumGoroutine") = false := by kernel_rfl) (hb : fn.body.isSome = true := by rfl)
 (hargs : as_.map a.eval = args := by ((try simp only [List.map_toArray, List.map_cons, List.map_nil]); first | done | rfl | (simp only [List.length_drop, List.length_take]; rfl))) : wpList P ops Q (oi :: rest) a w :=
 goesL_ N hd hg hf hname hb args hop hargs h
end
theorem bT {p : Prop} (h : p := by repeat (first | (with_reducible first | exact HB.out | apply below_alloc | apply pw_below_drewN | apply below_drew1) | exact HB.out)) : p := h
theorem bS {p q : Prop} (x : p) (c : p → q := by (intro hq_; repeat (first | (with_reducible first | exact HB.out | apply below_alloc | apply pw_below_drewN | apply below_drew1 | refine below_set ?_ hq_) | exact HB.out))) : q := c x
theorem aT {p : Prop} (h : p := by first | (with_reducible assumption) | assumption) : p := h
theorem mT {p : Prop} (h : p := by ((try simp only [List.map_toArray, List.map_cons, List.map_nil]); first | done | rfl | (simp only [List.length_drop, List.length_take]; rfl))) : p := h
theorem vT {p q : Prop} (h : p) (c : p → q := by (intro hq_; (with_reducible repeat (first | apply Kd.V_alloc | apply Kd.V_drewN | apply Kd.V_drew)); exact hq_)) : q := c h
theorem rT {p q : Prop} (h : p) (c : p → q := by (intro hq_; (with_reducible repeat (first | apply Kd.R_alloc | apply Kd.R_drewN | apply Kd.R_drew)); exact hq_)) : q := c h
theorem nT {p q : Prop} (h : p) (c : p → q := by (intro hq_; (with_reducible repeat (first | apply Kd.N_alloc | apply Kd.N_drewN | apply Kd.N_drew)); exact hq_)) : q := c h
theorem kT {p q : Prop} (h : p) (c : p → q := by (intro hq_; (with_reducible repeat (first | refine blk_drewN ?_ _ | refine blk_drew ?_ | refine blk_alloc ?_ _)); exact hq_)) : q := c h
theorem cT {p q : Prop} (h : p) (c : p → q := by (intro hq_; repeat (first | exact (Kd.C_below hq_ HB.out) | (with_reducible refine Kd.C_alloc ?_ _) | (with_reducible refine Kd.C_drewN ?_ _) | (with_reducible refine Kd.C_drew ?_)))) : q := c h
theorem cU {p q : Prop} (h : p) (c : p → q := by (intro hq_; repeat (first | (with_reducible exact hq_) | (with_reducible refine Kd.C_alloc ?_ _) | (with_reducible refine Kd.C_drewN ?_ _) | (with_reducible refine Kd.C_drew ?_) | exact hq_))) : q := c h
theorem cV {p q : Prop} (h : p) (c : p → q := by (intro hq_; repeat (first | exact hq_ | (with_reducible refine Kd.C_alloc ?_ _) | (with_reducible refine Kd.C_drewN ?_ _) | (with_reducible refine Kd.C_drew ?_)))) : q := c h
theorem eT {p : Prop} (h : p := by first | rfl | (simp; done) | (simp [*]; done)) : p := h
theorem fT {p : Prop} (h : p := by first | rfl | (simp [errW_none, errW_some] <;> rfl) | (simp [*, errW_none, errW_some] <;> rfl)) : p := h
theorem zT {p : Prop} (h : p := by first | exact Kd.R_nil _ _ _ _ _ | exact Kd.N_nil _ _ _ _ _ | exact Kd.V_nil _ _ _ _ _ | exact Kd.Q_nil _ _ _ _ _ | exact Kd.S_nil _ _ _ _ _) : p := h
theorem jT {p q r : Prop} (hy : p) (h : q) (c : p → q → r := by (intro hy_ H; first | (rw [hy_]; with_reducible exact H) | (have H2_ := (Option.bind_some _ _).symm.trans H; rw [hy_]; with_reducible exact H2_) | (have H2_ := (Option.bind_some _ _).symm.trans H; with_reducible exact H2_) | with_reducible exact H | (rw [hy_]; exact H) | exact H)) : r := c hy h
theorem uT {p : Prop} (h : p := by first | exact Kd.N_base ho | exact Kd.R_base ho | exact Kd.S_base ho | exact Kd.Q_base ho) : p := h
theorem hxT {w W : World} {a : Addr} {v : Value} (hb : Below w.heap.size w W) (h : w.cell? a = some v) : W.cell? a = some v := (hb.cell (World.block_lt_of_cell? w _ h)).trans h
section
variable {α : Type} {d : Kd α} {e base : Nat} {ok ok2 : Nat → Prop} {w0 W w1 : World} {u v v1 : Value} {xs : List α} {q : Prop}
theorem bB {p q : Prop} (x : p) (c : p → q := by (intro h_; first | exact Kd.N_base h_ | exact Kd.R_base h_ | exact Kd.S_base h_ | exact Kd.Q_base h_)) : q := c x
theorem vT' (h : Kd.V d e w0 base ok v xs) (c : Kd.V d e w0 base ok v xs → Kd.V d e W base ok v xs := by (intro hq_; (with_reducible repeat (first | apply Kd.V_alloc | apply Kd.V_drewN | apply Kd.V_drew)); exact hq_)) : Kd.V d e W base ok v xs := c h
theorem nT' (h : Kd.N d e w0 base ok v xs) (c : Kd.N d e w0 base ok v xs → Kd.N d e W base ok v xs := by (intro hq_; (with_reducible repeat (first | apply Kd.N_alloc | apply Kd.N_drewN | apply Kd.N_drew)); exact hq_)) : Kd.N d e W base ok v xs := c h
theorem rT' (h : Kd.R d e w0 base ok v xs) (c : Kd.R d e w0 base ok v xs → Kd.R d e W base ok v xs := by (intro hq_; (with_reducible repeat (first | apply Kd.R_alloc | apply Kd.R_drewN | apply Kd.R_drew)); exact hq_)) : Kd.R d e W base ok v xs := c h
theorem sT' (h : Kd.S d e w0 base ok v xs) (c : Kd.S d e w0 base ok v xs → Kd.S d e W base ok v xs := by (intro hq_; (with_reducible repeat (first | apply Kd.S_alloc | apply Kd.S_drewN | apply Kd.S_drew)); exact hq_)) : Kd.S d e W base ok v xs := c h
theorem nb (h : Aside0 (Kd.N d e w0 base ok v xs)) (hb : Below W.heap.size W w1) (c : Kd.N d e w0 base ok v xs → Kd.N d e W base ok v xs := by (intro hq_; (with_reducible repeat (first | apply Kd.N_alloc | apply Kd.N_drewN | apply Kd.N_drew)); exact hq_)) : Aside0 (Kd.N d e w1 base ok v xs) := ⟨Kd.N_below (c h.out) hb⟩
theorem rb (h : Aside0 (Kd.R d e w0 base ok v xs)) (hb : Below W.heap.size W w1) (c : Kd.R d e w0 base ok v xs → Kd.R d e W base ok v xs := by (intro hq_; (with_reducible repeat (first | apply Kd.R_alloc | apply Kd.R_drewN | apply Kd.R_drew)); exact hq_)) : Aside0 (Kd.R d e w1 base ok v xs) := ⟨Kd.R_below (c h.out) hb⟩
theorem sb (h : Aside0 (Kd.S d e w0 base ok v xs)) (hb : Below W.heap.size W w1) (c : Kd.S d e w0 base ok v xs → Kd.S d e W base ok v xs := by (intro hq_; (with_reducible repeat (first | apply Kd.S_alloc | apply Kd.S_drewN | apply Kd.S_drew)); exact hq_)) : Aside0 (Kd.S d e w1 base ok v xs) := ⟨Kd.S_below (c h.out) hb⟩
theorem ve (h : Aside0 (Kd.V d e w0 base ok v xs)) (o : q) (hb : Below W.heap.size W w1) (c : Kd.V d e w0 base ok v xs → Kd.V d e W base ok v xs := by (intro hq_; (with_reducible repeat (first | apply Kd.V_alloc | apply Kd.V_drewN | apply Kd.V_drew)); exact hq_)) (g : q → ∀ k, u.ownBlock = some k → W.heap.size ≤ k := by (intro h_; first | exact Kd.N_base h_ | exact Kd.R_base h_ | exact Kd.S_base h_ | exact Kd.Q_base h_)) : Aside0 (Kd.V d e w1 base (fun k => ok k ∧ some k ≠ u.ownBlock) v xs) := ⟨Kd.V_elder' (c h.out) (g o) hb⟩
theorem re (h : Aside0 (Kd.R d e w0 base ok v xs)) (o : q) (hb : Below W.heap.size W w1) (c : Kd.R d e w0 base ok v xs → Kd.R d e W base ok v xs := by (intro hq_; (with_reducible repeat (first | apply Kd.R_alloc | apply Kd.R_drewN | apply Kd.R_drew)); exact hq_)) (g : q → ∀ k, u.ownBlock = some k → W.heap.size ≤ k := by (intro h_; first | exact Kd.N_base h_ | exact Kd.R_base h_ | exact Kd.S_base h_ | exact Kd.Q_base h_)) : Aside0 (Kd.R d e w1 base (fun k => ok k ∧ some k ≠ u.ownBlock) v xs) := ⟨Kd.R_elder' (c h.out) (g o) hb⟩
theorem se (h : Aside0 (Kd.S d e w0 base ok v xs)) (o : q) (hb : Below W.heap.size W w1) (c : Kd.S d e w0 base ok v xs → Kd.S d e W base ok v xs := by (intro hq_; (with_reducible repeat (first | apply Kd.S_alloc | apply Kd.S_drewN | apply Kd.S_drew)); exact hq_)) (g : q → ∀ k, u.ownBlock = some k → W.heap.size ≤ k := by (intro h_; first | exact Kd.N_base h_ | exact Kd.R_base h_ | exact Kd.S_base h_ | exact Kd.Q_base h_)) : Aside0 (Kd.S d e w1 base (fun k => ok k ∧ some k ≠ u.ownBlock) v xs) := ⟨Kd.S_elder' (c h.out) (g o) hb⟩
theorem va (h : Aside0 (Kd.V d e w0 base ok2 u xs)) (hg : W.grownBy w1 v.ownBlock) (hat : v1.ownBlock = v.ownBlock ∨ ∃ b, v1.ownBlock = some b ∧ W.heap.size ≤ b) (c : Kd.V d e w0 base ok2 u xs → Kd.V d e W base (fun k => ok k ∧ some k ≠ v.ownBlock) u xs := by (intro hq_; (with_reducible repeat (first | apply Kd.V_alloc | apply Kd.V_drewN | apply Kd.V_drew)); exact hq_)) : Aside0 (Kd.V d e w1 base (fun k => ok k ∧ some k ≠ v1.ownBlock) u xs) := ⟨Kd.V_afterv (c h.out) hg hat⟩
theorem ra (h : Aside0 (Kd.R d e w0 base ok2 u xs)) (hg : W.grownBy w1 v.ownBlock) (hat : v1.ownBlock = v.ownBlock ∨ ∃ b, v1.ownBlock = some b ∧ W.heap.size ≤ b) (c : Kd.R d e w0 base ok2 u xs → Kd.R d e W base (fun k => ok k ∧ some k ≠ v.ownBlock) u xs := by (intro hq_; (with_reducible repeat (first | apply Kd.R_alloc | apply Kd.R_drewN | apply Kd.R_drew)); exact hq_)) : Aside0 (Kd.R d e w1 base (fun k => ok k ∧ some k ≠ v1.ownBlock) u xs) := ⟨Kd.R_after (c h.out) hg hat⟩
theorem sa (h : Aside0 (Kd.S d e w0 base ok2 u xs)) (hg : W.grownBy w1 v.ownBlock) (hat : v1.ownBlock = v.ownBlock ∨ ∃ b, v1.ownBlock = some b ∧ W.heap.size ≤ b) (c : Kd.S d e w0 base ok2 u xs → Kd.S d e W base (fun k => ok k ∧ some k ≠ v.ownBlock) u xs := by (intro hq_; (with_reducible repeat (first | apply Kd.S_alloc | apply Kd.S_drewN | apply Kd.S_drew)); exact hq_)) : Aside0 (Kd.S d e w1 base (fun k => ok k ∧ some k ≠ v1.ownBlock) u xs) := ⟨Kd.S_after (c h.out) hg hat⟩
theorem cb {A : Option Addr} {n : Nat} (h : Aside0 (d.C w0 A n xs)) (hb : Below W.heap.size W w1) (c : d.C w0 A n xs → d.C W A n xs := by (intro hq_; repeat (first | (with_reducible exact hq_) | (with_reducible refine Kd.C_alloc ?_ _) | (with_reducible refine Kd.C_drewN ?_ _) | (with_reducible refine Kd.C_drew ?_) | exact hq_))) : Aside0 (d.C w1 A n xs) := ⟨Kd.C_below (c h.out) hb⟩
theorem bb {w W2 W : World} (h : Aside0 (Below w.heap.size w W2)) {w2 : World} (hb : Below W.heap.size W w2) (c : Below w.heap.size w W := by repeat (first | (with_reducible first | exact HB.out | apply below_alloc | apply pw_below_drewN | apply below_drew1) | exact HB.out)) : Aside0 (Below w.heap.size w w2) := ⟨below_step c hb⟩
theorem bg {p : Prop} (x : Aside0 p) {w W w2 : World} (hb : Below W.heap.size W w2) (c : p → Below w.heap.size w W := by (intro hq_; repeat (first | (with_reducible first | exact HB.out | apply below_alloc | apply pw_below_drewN | apply below_drew1 | refine below_set ?_ hq_) | exact HB.out))) : Aside0 (Below w.heap.size w w2) := ⟨below_step (c x.out) hb⟩
variable {g : Nat} {o o0 : Obj} {row : Option Nat} {t : TypeId}
theorem kP (h : w0.heap[g]? = some o0) (c : w0.heap[g]? = some o0 → ∃ o1, W.heap[g]? = some o1 ∧ o1 = o := by (intro hq_; exact ⟨_, by ((with_reducible repeat (first | apply blk_drewN | apply blk_drew | apply blk_alloc | apply blk_set)); exact hq_), by simp only [List.setIfInBounds_toArray, List.set_cons_zero, List.set_cons_succ]⟩)) : W.heap[g]? = some o := by
 obtain ⟨o1, h1, rfl⟩ := c h
 exact h1
theorem kb (h : Aside0 (w0.heap[g]? = some o)) (hb : Below W.heap.size W w1) (c : w0.heap[g]? = some o → W.heap[g]? = some o := by (intro hq_; (with_reducible repeat (first | refine blk_drewN ?_ _ | refine blk_drew ?_ | refine blk_alloc ?_ _)); exact hq_)) : Aside0 (w1.heap[g]? = some o) := ⟨blk_below (c h.out) hb⟩
theorem kg (h : Aside0 (w0.heap[g]? = some o)) (hg : W.grownBy w1 row) (hne : some g ≠ row) (c : w0.heap[g]? = some o → W.heap[g]? = some o := by (intro hq_; (with_reducible repeat (first | refine blk_drewN ?_ _ | refine blk_drew ?_ | refine blk_alloc ?_ _)); exact hq_)) : Aside0 (w1.heap[g]? = some o) := ⟨blk_grown (c h.out) hg hne⟩
theorem kq (h : w0.heap[g]? = some o0) (hb : Below W.heap.size W w1) (c : w0.heap[g]? = some o0 → ∃ o1, W.heap[g]? = some o1 ∧ o1 = o := by (intro hq_; exact ⟨_, by ((with_reducible repeat (first | apply blk_drewN | apply blk_drew | apply blk_alloc | apply blk_set)); exact hq_), by simp only [List.setIfInBounds_toArray, List.set_cons_zero, List.set_cons_succ]⟩)) : Aside0 (w1.heap[g]? = some o) := ⟨blk_below (kP h c) hb⟩
theorem gw {p q : Prop} (hg : q) (c : q → p := by (intro hq_; rw [hq_]; exact (below_size bT))) : Aside0 p := ⟨c hg⟩
theorem hK {p : Prop} (h : p := by repeat (first | (with_reducible first | exact HK.out | apply Kept.alloc | apply Kept.drewN | apply Kept.drew) | exact HK.out)) : p := h
theorem hKs {p q : Prop} (x : q) (c : q → p := by (intro hq_; repeat (first | (with_reducible first | exact HK.out | apply Kept.alloc | apply Kept.drewN | apply Kept.drew | refine Kept.setCell ?_ (.inr hq_) _) | exact HK.out))) : p := c x
theorem hk1 {p : Prop} (h : p := by first | exact HK.out.1 | exact (hK (p := Kept w _ (fun k_ => P0_ k_))).1) : p := h
theorem hB {w W2 : World} {S : Nat → Prop} (h : Aside0 (Kept w W2 S)) (hb : Below W.heap.size W w1) (c : Kept w W S := by repeat (first | (with_reducible first | exact HK.out | apply Kept.alloc | apply Kept.drewN | apply Kept.drew) | exact HK.out)) : Aside0 (Kept w w1 S) := ⟨c.below hb⟩
theorem hG {w W2 : World} {S : Nat → Prop} (h : Aside0 (Kept w W2 S)) (hg : W.grownBy w1 row) (hr : ∀ k, row = some k → S k ∨ w.heap.size ≤ k) (c : Kept w W S := by repeat (first | (with_reducible first | exact HK.out | apply Kept.alloc | apply Kept.drewN | apply Kept.drew) | exact HK.out)) : Aside0 (Kept w w1 S) := ⟨Kept.of_grown hg c hr⟩
theorem hT {w W2 : World} {S S2 : Nat → Prop} (h : Aside0 (Kept w W2 S)) (k : Kept W w1 S2) (hs : ∀ k, S2 k → S k ∨ w.heap.size ≤ k) (c : Kept w W S := by repeat (first | (with_reducible first | exact HK.out | apply Kept.alloc | apply Kept.drewN | apply Kept.drew) | exact HK.out)) : Aside0 (Kept w w1 S) := ⟨c.then_ k hs⟩
theorem fz4 {cs : Array Value} (h : Aside0 (W.heap[g]? = some (.cells cs t (0, 0)))) : W.frozen? ⟨g, 0, none⟩ = false ∧ W.frozen? ⟨g, 1, none⟩ = false ∧ W.frozen? ⟨g, 2, none⟩ = false ∧ W.frozen? ⟨g, 3, none⟩ = false := ⟨blk_frozen h.out 0, blk_frozen h.out 1, blk_frozen h.out 2, blk_frozen h.out 3⟩
theorem fz2 {cs : Array Value} (h : Aside0 (W.heap[g]? = some (.cells cs t (0, 0)))) : W.frozen? ⟨g, 0, none⟩ = false ∧ W.frozen? ⟨g, 1, none⟩ = false := ⟨blk_frozen h.out 0, blk_frozen h.out 1⟩
theorem fz8 {cs : Array Value} (h : Aside0 (W.heap[g]? = some (.cells cs t (0, 0)))) : W.frozen? ⟨g, 0, none⟩ = false ∧ W.frozen? ⟨g, 1, none⟩ = false ∧ W.frozen? ⟨g, 2, none⟩ = false ∧ W.frozen? ⟨g, 3, none⟩ = false ∧ W.frozen? ⟨g, 4, none⟩ = false ∧ W.frozen? ⟨g, 5, none⟩ = false ∧ W.frozen? ⟨g, 6, none⟩ = false ∧ W.frozen? ⟨g, 7, none⟩ = false := ⟨blk_frozen h.out 0, blk_frozen h.out 1, blk_frozen h.out 2, blk_frozen h.out 3, blk_frozen h.out 4, blk_frozen h.out 5, blk_frozen h.out 6, blk_frozen h.out 7⟩
theorem cz4 {a b c d : Value} (h : Aside0 (W.heap[g]? = some (.cells #[a, b, c, d] t (0, 0)))) : W.cell? ⟨g, 0, none⟩ = some a ∧ W.cell? ⟨g, 1, none⟩ = some b ∧ W.cell? ⟨g, 2, none⟩ = some c ∧ W.cell? ⟨g, 3, none⟩ = some d := ⟨blk_cell h.out 0, blk_cell h.out 1, blk_cell h.out 2, blk_cell h.out 3⟩
theorem cz8 {a b c d e f i j : Value} (h : Aside0 (W.heap[g]? = some (.cells #[a, b, c, d, e, f, i, j] t (0, 0)))) : W.cell? ⟨g, 0, none⟩ = some a ∧ W.cell? ⟨g, 1, none⟩ = some b ∧ W.cell? ⟨g, 2, none⟩ = some c ∧ W.cell? ⟨g, 3, none⟩ = some d ∧ W.cell? ⟨g, 4, none⟩ = some e ∧ W.cell? ⟨g, 5, none⟩ = some f ∧ W.cell? ⟨g, 6, none⟩ = some i ∧ W.cell? ⟨g, 7, none⟩ = some j := ⟨blk_cell h.out 0, blk_cell h.out 1, blk_cell h.out 2, blk_cell h.out 3, blk_cell h.out 4, blk_cell h.out 5, blk_cell h.out 6, blk_cell h.out 7⟩
end
theorem gA {P : Program} {ops : Array Oper} {rest : List Oper} {o : Oper} {a : Act} {Q : Exit → Act → World → Prop} {W : World} (xs : Array Operand) {ts : Array TypeId} (_h : o.op = .call { callee := .builtin .append, args := xs, argTypes := ts }) (h : wpList P ops Q (o :: rest) a W) : wpList P ops Q (o :: rest) a W := h
theorem bi {α β : Type} {x : Option α} {f : α → Option β} {r : β} (h : x.bind f = some r) : ∃ a, Aside0 (x = some a) ∧ f a = some r := by
 obtain ⟨a, h1, h2⟩ := Option.bind_eq_some_iff.mp h
 exact ⟨a, ⟨h1⟩, h2⟩
def bm (n k : Nat) : Array Bool := ⟨(List.range n).map k.testBit⟩
end Go.Proofs.YtgmolmpfihkolaaGreatW.PrintLast
namespace Go.Proofs.YtgmolmpfihkolaaGreat.Pj
open Go.RowKit Go.Proofs.YtgmolmpfihkolaaGreatW.PrintWords Go.Proofs.YtgmolmpfihkolaaGreatW.PrintLast Go.Proofs.YtgmolmpfihkolaaGreatW.PrintMore
attribute [local go_sem] run_store_flt max2_int min2_int max_two min_two max_three min_three max_four min_four
set_option linter.unusedVariables false
set_option linter.unusedSimpArgs false
def joins_same.l0 : Nat → List (S80) → Int → Option (Int)
 | 0, _, _ => none
 | k + 1, x0, x3 => if x3 < (x0.length : Int) then (if 0 ≤ x3 then (if 0 < (x0.length : Int) then ((row_Cmp.f ((rd_T80 x0 x3).f1) ((rd_T80 x0 0).f1)).bind fun t340 => (if t340 = 0 then (joins_same.l0 k x0 (wrap64 (x3 + 1))) else (some x3))) else (none)) else (none)) else (some x3)
def joins_same.f (k : Nat) (l0 : List (S80)) : Option (Int) := joins_same.l0 k l0 1
def joins_same.T2 : Bool × List (List Nat × List Nat) := (true, [([], []), ([], []), ([1], [1]), ([0, 2], [0, 2]), ([3], [3]), ([4], [4]), ([4], [4]), ([5, 6, 4], [4, 5, 6]), ([7, 4], [4, 7]), ([8, 4], [4, 8]), ([4], [4]), ([10, 4], [4, 10]), ([11, 4], [4, 11]), ([12, 4], [4, 12]), ([9, 13, 4, 4], [4, 9, 13]), ([14, 4], [4, 14]), ([4, 15], [4, 15])])
def joins_same.B2 : List Nat := [0, 0, 2, 7, 15, 31, 31, 127, 255, 511, 31, 1055, 3103, 7199, 16383, 32767, 65535]
theorem joins_same.tab2 : rtab .any (opsOf Tryz.f74 2) = joins_same.T2 := by kernel_rfl
theorem joins_same.bits2 : waitsOk joins_same.T2.2 joins_same.B2 = true := by kernel_rfl
set_option maxHeartbeats 8000000 in
set_option maxRecDepth 100000 in
theorem joins_same.calls (k : Nat) (A0 : Option Addr) (c0 : Nat) (l0 : List (S80)) (r : Int) (w : World) (hr0 : Kd.C k80 w A0 l0.length l0) (hc0 : l0.length ≤ c0) (h : joins_same.f k l0 = some r) :
 Calls Tryz.prog 74 #[.slice A0 l0.length c0] w fun e w' => e = .returned (.int .i64 r) ∧ Below w.heap.size w w' := by
 have HR0 := akk hr0
 have HC0 := akk hc0
 clear hr0 hc0
 have HB := akk (Below.refl w.heap.size w)
 have H : (joins_same.l0 k l0 1) = some r := h
 clear h
 have H' := akk H
 clear H
 go_enter Tryz.func74, Tryz.ntmps74
 go_wp2
 go_loopg [3] k (fun kq v3 w' => ∃ (x3_1 : Int), v3 = .int .i64 x3_1 ∧ Aside0 (joins_same.l0 kq l0 x3_1 = some r) ∧ Aside0 (kq ≤ k) ∧ Aside0 (Below w.heap.size w w'))
 case atStart => exact ⟨(1), eT, H', ⟨Nat.le_refl _⟩, ⟨bT⟩⟩
 case round =>
  clear H'
  obtain ⟨x3_1, rfl, HA, HK1, HB⟩ := hrel
  cases gk with
  | zero => exact absurd HA.out (by simp [joins_same.l0])
  | succ k1 =>
   have H := HA.out
   clear HA
   simp only [joins_same.l0] at H
   by_cases c2 : x3_1 < (l0.length : Int)
   ·rw [if_pos c2] at H
    have c2b0 := decide_eq_true c2
    clear c2
    by_cases c3 : 0 ≤ x3_1
    ·rw [if_pos c3] at H
     have c3b0 := decide_eq_true c3
     clear c3
     by_cases c4 : 0 < (l0.length : Int)
     ·rw [if_pos c4] at H
      have c4b0 := decide_eq_true c4
      have c4b1 : decide (0 < l0.length) = true := decide_eq_true (by omega)
      clear c4
      obtain ⟨t340, A5, H⟩ := bi H
      try dsimp only at H
      by_cases c6 : t340 = 0
      ·rw [if_pos c6] at H
       have c6b0 : (t340 == 0) = true := beq_iff_eq.mpr c6
       have c6b1 : (t340 != 0) = false := bne_eq_false_iff_eq.mpr c6
       clear c6
       have H' := akk H
       clear H
       try go_wp2
       replace HB := akk (below_drew1 HB.out)
       have p338 : 0 ≤ (x3_1 : Int) := of_decide_eq_true aT
       have q338 : x3_1 < (l0.length : Int) := of_decide_eq_true aT
       obtain ⟨ad338, A338_1, c338_1, e338, hx338_0, hx338_1, hl338_1, hi338_1⟩ := at_T80 HR0.out x3_1 p338 q338
       have hw338_1 := hx338_1
       have hw338_0 := hx338_0
       cases e338
       replace hx338_0 := hxT HB.out hx338_0
       replace hx338_1 := hxT HB.out hx338_1
       have HR338_1 := akk hi338_1
       have HC338_1 := akk hl338_1
       clear hi338_1 hl338_1
       replace p338 := eq_true p338
       replace q338 := eq_true q338
       have p339 : 0 ≤ (0 : Int) := (by omega)
       have q339 : 0 < (l0.length : Int) := of_decide_eq_true aT
       obtain ⟨ad339, A339_1, c339_1, e339, hx339_0, hx339_1, hl339_1, hi339_1⟩ := at_T80 HR0.out 0 p339 q339
       have hw339_1 := hx339_1
       (try rw [show ((0 : Int)).toNat = 0 from rfl] at hw339_1)
       (try rw [show 0 * 2 = 0 from rfl] at hw339_1)
       (try rw [Addr.add_zero'] at hw339_1)
       have hw339_0 := hx339_0
       (try rw [show ((0 : Int)).toNat = 0 from rfl] at hw339_0)
       (try rw [show 0 * 2 = 0 from rfl] at hw339_0)
       (try rw [Addr.add_zero'] at hw339_0)
       obtain rfl : ad338 = ad339 := (by injection e339)
       have qi339 : (0 < l0.length) = True := eq_true (by omega)
       (try rw [show ((0 : Int)).toNat = 0 from rfl] at hx339_0)
       (try rw [show 0 * 2 = 0 from rfl] at hx339_0)
       (try rw [Addr.add_zero'] at hx339_0)
       (try rw [show ((0 : Int)).toNat = 0 from rfl] at hx339_1)
       (try rw [show 0 * 2 = 0 from rfl] at hx339_1)
       (try rw [Addr.add_zero'] at hx339_1)
       replace hx339_0 := hxT HB.out hx339_0
       replace hx339_1 := hxT HB.out hx339_1
       have HR339_1 := akk hi339_1
       have HC339_1 := akk hl339_1
       clear hi339_1 hl339_1
       replace p339 := eq_true p339
       replace q339 := eq_true q339
       refine start_ (n := 17) (S := fun w' => w'.cell? (ad338.add ((x3_1).toNat * 2)) = some (.int .i64 ((rd_T80 l0 x3_1).f0)) ∧ w'.cell? ⟨(ad338.add ((x3_1).toNat * 2)).block, (ad338.add ((x3_1).toNat * 2)).off + 1, none⟩ = some (.slice A338_1 ((rd_T80 l0 x3_1).f1).length c338_1) ∧ w'.cell? ad338 = some (.int .i64 ((rd_T80 l0 0).f0)) ∧ w'.cell? ⟨ad338.block, ad338.off + 1, none⟩ = some (.slice A339_1 ((rd_T80 l0 0).f1).length c339_1)) (ds := []) #[false, false, false, false, false, false, false, false, false, false, false, false, false, false, false, false, false] (by kernel_rfl) rfl rfl ⟨((HB.out.cell (World.block_lt_of_cell? w _ hw338_0)).trans hw338_0), ((HB.out.cell (World.block_lt_of_cell? w _ hw338_1)).trans hw338_1), ((HB.out.cell (World.block_lt_of_cell? w _ hw339_0)).trans hw339_0), ((HB.out.cell (World.block_lt_of_cell? w _ hw339_1)).trans hw339_1)⟩ (fun hHeld => ?_); refine with_tabW joins_same.tab2 joins_same.bits2 (fun HT_ HW_ => ?_)
       generalize wr.drew = w7 at HB HR338_1 HR339_1 hx338_0 hx338_1 hx339_0 hx339_1 hHeld ⊢
       refine pT 0 4 (bm 17 1) ?_
       refine pT 1 5 (bm 17 3) ?_
       refine pT 2 6 (bm 17 7) ?_
       refine pT 3 7 (bm 17 15) ?_
       refine pT 4 8 (bm 17 31) ?_
       refine pT 5 9 (bm 17 63) ?_
       refine pT 6 10 (bm 17 127) ?_
       refine pT 7 11 (bm 17 255) ?_
       refine pT 8 12 (bm 17 511) ?_
       refine pT 10 14 (bm 17 1535) ?_
       refine pT 11 15 (bm 17 3583) ?_
       refine pT 12 16 (bm 17 7679) ?_
       refine tT4 9 13 (bm 17 8191) hHeld ?_
       refine tT4 13 17 (bm 17 16383) hHeld ?_
       refine one_ (i := 14) (N := some 18) #[true, true, true, true, true, true, true, true, true, true, true, true, true, true, true, false, false] rfl rfl (one_of HT_.out (by kernel_rfl)) (by decide) (fun K hK => ?_)
       refine goes_ Tryz.func45 (by kernel_rfl) rfl #[.slice A338_1 ((rd_T80 l0 x3_1).f1).length c338_1, .slice A339_1 ((rd_T80 l0 0).f1).length c339_1] (by rfl) rfl rfl mT ?_
       with_reducible refine (row_Cmp.calls _ _ ((rd_T80 l0 x3_1).f1) _ _ ((rd_T80 l0 0).f1) t340 _ ?side1 ?side2 ?side3 ?side4 A5.out).mono ?_
       (case side1 => exact cT HR338_1.out)
       (case side2 => exact HC338_1.out)
       (case side3 => exact cT HR339_1.out)
       (case side4 => exact HC339_1.out)
       rintro e w8 ⟨rfl, hb⟩
       refine ⟨_, rfl, ?_⟩
       replace HB := bb HB hb
       (try clear hb)
       (try clear hb2)
       (try clear hk)
       (try clear hi)
       refine hK.out _ _ ⟨((HB.out.cell (World.block_lt_of_cell? w _ hw338_0)).trans hw338_0), ((HB.out.cell (World.block_lt_of_cell? w _ hw338_1)).trans hw338_1), ((HB.out.cell (World.block_lt_of_cell? w _ hw339_0)).trans hw339_0), ((HB.out.cell (World.block_lt_of_cell? w _ hw339_1)).trans hw339_1)⟩ (fun hHeld => ?_)
       clear hK K
       refine norm_ (a' := ?_) ?_ ?_
       rotate_left
       ·show Act.put _ (some 18) _ = _
        simp only [Act.put, List.setIfInBounds_toArray, List.set_cons_zero, List.set_cons_succ, i64_w, i32_w]
        rfl
       refine pT 15 19 (bm 17 65535) ?_
       refine pT 16 20 (bm 17 131071) ?_
       refine done_ (done_of HT_.out (by kernel_rfl)) ?_
       try go_wp2
       go_roundg k1
       case measure => have := HK1.out; omega
       case rel => exact ⟨(wrap64 (x3_1 + 1)), eT, H', ⟨by have := HK1.out; omega⟩, ⟨bT⟩⟩
      ·rw [if_neg c6] at H
       have c6b0 : (t340 == 0) = false := beq_eq_false_iff_ne.mpr c6
       have c6b1 : (t340 != 0) = true := bne_iff_ne.mpr c6
       obtain rfl := Option.some.inj H
       try go_wp2
       replace HB := akk (below_drew1 HB.out)
       have p338 : 0 ≤ (x3_1 : Int) := of_decide_eq_true aT
       have q338 : x3_1 < (l0.length : Int) := of_decide_eq_true aT
       obtain ⟨ad338, A338_1, c338_1, e338, hx338_0, hx338_1, hl338_1, hi338_1⟩ := at_T80 HR0.out x3_1 p338 q338
       have hw338_1 := hx338_1
       have hw338_0 := hx338_0
       cases e338
       replace hx338_0 := hxT HB.out hx338_0
       replace hx338_1 := hxT HB.out hx338_1
       have HR338_1 := akk hi338_1
       have HC338_1 := akk hl338_1
       clear hi338_1 hl338_1
       replace p338 := eq_true p338
       replace q338 := eq_true q338
       have p339 : 0 ≤ (0 : Int) := (by omega)
       have q339 : 0 < (l0.length : Int) := of_decide_eq_true aT
       obtain ⟨ad339, A339_1, c339_1, e339, hx339_0, hx339_1, hl339_1, hi339_1⟩ := at_T80 HR0.out 0 p339 q339
       have hw339_1 := hx339_1
       (try rw [show ((0 : Int)).toNat = 0 from rfl] at hw339_1)
       (try rw [show 0 * 2 = 0 from rfl] at hw339_1)
       (try rw [Addr.add_zero'] at hw339_1)
       have hw339_0 := hx339_0
       (try rw [show ((0 : Int)).toNat = 0 from rfl] at hw339_0)
       (try rw [show 0 * 2 = 0 from rfl] at hw339_0)
       (try rw [Addr.add_zero'] at hw339_0)
       obtain rfl : ad338 = ad339 := (by injection e339)
       have qi339 : (0 < l0.length) = True := eq_true (by omega)
       (try rw [show ((0 : Int)).toNat = 0 from rfl] at hx339_0)
       (try rw [show 0 * 2 = 0 from rfl] at hx339_0)
       (try rw [Addr.add_zero'] at hx339_0)
       (try rw [show ((0 : Int)).toNat = 0 from rfl] at hx339_1)
       (try rw [show 0 * 2 = 0 from rfl] at hx339_1)
       (try rw [Addr.add_zero'] at hx339_1)
       replace hx339_0 := hxT HB.out hx339_0
       replace hx339_1 := hxT HB.out hx339_1
       have HR339_1 := akk hi339_1
       have HC339_1 := akk hl339_1
       clear hi339_1 hl339_1
       replace p339 := eq_true p339
       replace q339 := eq_true q339
       refine start_ (n := 17) (S := fun w' => w'.cell? (ad338.add ((x3_1).toNat * 2)) = some (.int .i64 ((rd_T80 l0 x3_1).f0)) ∧ w'.cell? ⟨(ad338.add ((x3_1).toNat * 2)).block, (ad338.add ((x3_1).toNat * 2)).off + 1, none⟩ = some (.slice A338_1 ((rd_T80 l0 x3_1).f1).length c338_1) ∧ w'.cell? ad338 = some (.int .i64 ((rd_T80 l0 0).f0)) ∧ w'.cell? ⟨ad338.block, ad338.off + 1, none⟩ = some (.slice A339_1 ((rd_T80 l0 0).f1).length c339_1)) (ds := []) #[false, false, false, false, false, false, false, false, false, false, false, false, false, false, false, false, false] (by kernel_rfl) rfl rfl ⟨((HB.out.cell (World.block_lt_of_cell? w _ hw338_0)).trans hw338_0), ((HB.out.cell (World.block_lt_of_cell? w _ hw338_1)).trans hw338_1), ((HB.out.cell (World.block_lt_of_cell? w _ hw339_0)).trans hw339_0), ((HB.out.cell (World.block_lt_of_cell? w _ hw339_1)).trans hw339_1)⟩ (fun hHeld => ?_); refine with_tabW joins_same.tab2 joins_same.bits2 (fun HT_ HW_ => ?_)
       generalize wr.drew = w9 at HB HR338_1 HR339_1 hx338_0 hx338_1 hx339_0 hx339_1 hHeld ⊢
       refine pT 0 4 (bm 17 1) ?_
       refine pT 1 5 (bm 17 3) ?_
       refine pT 2 6 (bm 17 7) ?_
       refine pT 3 7 (bm 17 15) ?_
       refine pT 4 8 (bm 17 31) ?_
       refine pT 5 9 (bm 17 63) ?_
       refine pT 6 10 (bm 17 127) ?_
       refine pT 7 11 (bm 17 255) ?_
       refine pT 8 12 (bm 17 511) ?_
       refine pT 10 14 (bm 17 1535) ?_
       refine pT 11 15 (bm 17 3583) ?_
       refine pT 12 16 (bm 17 7679) ?_
       refine tT4 9 13 (bm 17 8191) hHeld ?_
       refine tT4 13 17 (bm 17 16383) hHeld ?_
       refine one_ (i := 14) (N := some 18) #[true, true, true, true, true, true, true, true, true, true, true, true, true, true, true, false, false] rfl rfl (one_of HT_.out (by kernel_rfl)) (by decide) (fun K hK => ?_)
       refine goes_ Tryz.func45 (by kernel_rfl) rfl #[.slice A338_1 ((rd_T80 l0 x3_1).f1).length c338_1, .slice A339_1 ((rd_T80 l0 0).f1).length c339_1] (by rfl) rfl rfl mT ?_
       with_reducible refine (row_Cmp.calls _ _ ((rd_T80 l0 x3_1).f1) _ _ ((rd_T80 l0 0).f1) t340 _ ?side1 ?side2 ?side3 ?side4 A5.out).mono ?_
       (case side1 => exact cT HR338_1.out)
       (case side2 => exact HC338_1.out)
       (case side3 => exact cT HR339_1.out)
       (case side4 => exact HC339_1.out)
       rintro e w10 ⟨rfl, hb⟩
       refine ⟨_, rfl, ?_⟩
       replace HB := bb HB hb
       (try clear hb)
       (try clear hb2)
       (try clear hk)
       (try clear hi)
       refine hK.out _ _ ⟨((HB.out.cell (World.block_lt_of_cell? w _ hw338_0)).trans hw338_0), ((HB.out.cell (World.block_lt_of_cell? w _ hw338_1)).trans hw338_1), ((HB.out.cell (World.block_lt_of_cell? w _ hw339_0)).trans hw339_0), ((HB.out.cell (World.block_lt_of_cell? w _ hw339_1)).trans hw339_1)⟩ (fun hHeld => ?_)
       clear hK K
       refine norm_ (a' := ?_) ?_ ?_
       rotate_left
       ·show Act.put _ (some 18) _ = _
        simp only [Act.put, List.setIfInBounds_toArray, List.set_cons_zero, List.set_cons_succ, i64_w, i32_w]
        rfl
       refine pT 15 19 (bm 17 65535) ?_
       refine pT 16 20 (bm 17 131071) ?_
       refine done_ (done_of HT_.out (by kernel_rfl)) ?_
       try go_wp2
       go_ret
       exact ⟨fT, bT⟩
     ·rw [if_neg c4] at H
      exact absurd H (by simp)
    ·rw [if_neg c3] at H
     exact absurd H (by simp)
   ·rw [if_neg c2] at H
    have c2b0 := decide_eq_false c2
    clear c2
    obtain rfl := Option.some.inj H
    try go_wp2
    replace HB := akk (below_drew1 HB.out)
    refine start_ (n := 17) (S := fun w' => True) (ds := []) #[false, false, false, false, false, false, false, false, false, false, false, false, false, false, false, false, false] (by kernel_rfl) rfl rfl trivial (fun hHeld => ?_); refine with_tabW joins_same.tab2 joins_same.bits2 (fun HT_ HW_ => ?_)
    generalize wr.drew = w11 at HB hHeld ⊢
    refine pT 0 4 (bm 17 1) ?_
    refine pT 1 5 (bm 17 3) ?_
    refine pT 2 6 (bm 17 7) ?_
    refine pT 3 7 (bm 17 15) ?_
    refine pT 4 8 (bm 17 31) ?_
    refine pU 5 9 (bm 17 63) ?_
    refine pU 6 10 (bm 17 127) ?_
    refine pU 7 11 (bm 17 255) ?_
    refine pU 8 12 (bm 17 511) ?_
    refine pU 9 13 (bm 17 1023) ?_
    refine pU 10 14 (bm 17 2047) ?_
    refine pU 11 15 (bm 17 4095) ?_
    refine pU 12 16 (bm 17 8191) ?_
    refine pU 13 17 (bm 17 16383) ?_
    refine pU 14 18 (bm 17 32767) ?_
    refine pU 15 19 (bm 17 65535) ?_
    refine pT 16 20 (bm 17 131071) ?_
    refine done_ (done_of HT_.out (by kernel_rfl)) ?_
    try go_wp2
    go_ret
    exact ⟨fT, bT⟩
end Go.Proofs.YtgmolmpfihkolaaGreat.Pj
