/- Part of the proof. -/
import Derived.Test.YtgmolmpfihkolaaGreatK11
import Derived.Test.YtgmolmpfihkolaaGreatK13
namespace Go.Proofs.YtgmolmpfihkolaaGreat
open Go.RowKit
open Go.Deep
set_option linter.unusedVariables false
set_option maxRecDepth 100000
attribute [local go_sem] run_store_float
structure RSt (w : World) (k r c ck ci : Int) (cf : Nat) (ct : ByteArray) (a : Option Addr) (len cap : Nat) (x y : Val) (W : World) : Prop where
 box : BoxE w k r c ck ci cf ct a len cap W
 lr : LiesV W (w.heap.size + 1) 0 Val.null
 ln : LiesV W (w.heap.size + 2) 0 Val.null
 la : LiesV W (w.heap.size + 3) 0 x
 lb : LiesV W (w.heap.size + 4) 0 y
 hl : w.heap.size + 4 < W.heap.size
theorem RSt.next {w W W' : World} {k r c ck ci : Int} {cf : Nat} {ct : ByteArray} {a : Option Addr} {len cap : Nat} {x y : Val} (h : RSt w k r c ck ci cf ct a len cap x y W) (hb : Below W.heap.size W W') : RSt w k r c ck ci cf ct a len cap x y W' := by
 have := h.hl
 exact ⟨h.box.next hb, h.lr.below hb (by omega), h.ln.below hb (by omega), h.la.below hb (by omega), h.lb.below hb h.hl, Nat.lt_of_lt_of_le h.hl hb.size⟩
theorem RSt.seta {w W : World} {k r c ck ci : Int} {cf : Nat} {ct : ByteArray} {a : Option Addr} {len cap : Nat} {x y : Val} (h : RSt w k r c ck ci cf ct a len cap x y W) (v : Val) : RSt w k r c ck ci cf ct a len cap v y ((((W.setCell ⟨w.heap.size + 3, 0, none⟩ (.int .i64 v.kind)).setCell ⟨w.heap.size + 3, 1, none⟩ (.int .i64 v.int)).setCell ⟨w.heap.size + 3, 2, none⟩ (.float .f64 v.flt)).setCell ⟨w.heap.size + 3, 3, none⟩ (.string v.text)) := by
 have n1 : ∀ i : Nat, (⟨w.heap.size + 3, i, none⟩ : Addr).block ≠ w.heap.size + 1 := fun i => by simp
 have n2 : ∀ i : Nat, (⟨w.heap.size + 3, i, none⟩ : Addr).block ≠ w.heap.size + 2 := fun i => by simp
 have n4 : ∀ i : Nat, (⟨w.heap.size + 3, i, none⟩ : Addr).block ≠ w.heap.size + 4 := fun i => by simp
 exact ⟨h.box.other (by omega) _ _ _ _, (((h.lr.other (n1 0)).other (n1 1)).other (n1 2)).other (n1 3), (((h.ln.other (n2 0)).other (n2 1)).other (n2 2)).other (n2 3), h.la.stored v, (((h.lb.other (n4 0)).other (n4 1)).other (n4 2)).other (n4 3), by simpa using h.hl⟩
theorem RSt.setb {w W : World} {k r c ck ci : Int} {cf : Nat} {ct : ByteArray} {a : Option Addr} {len cap : Nat} {x y : Val} (h : RSt w k r c ck ci cf ct a len cap x y W) (v : Val) : RSt w k r c ck ci cf ct a len cap x v ((((W.setCell ⟨w.heap.size + 4, 0, none⟩ (.int .i64 v.kind)).setCell ⟨w.heap.size + 4, 1, none⟩ (.int .i64 v.int)).setCell ⟨w.heap.size + 4, 2, none⟩ (.float .f64 v.flt)).setCell ⟨w.heap.size + 4, 3, none⟩ (.string v.text)) := by
 have n1 : ∀ i : Nat, (⟨w.heap.size + 4, i, none⟩ : Addr).block ≠ w.heap.size + 1 := fun i => by simp
 have n2 : ∀ i : Nat, (⟨w.heap.size + 4, i, none⟩ : Addr).block ≠ w.heap.size + 2 := fun i => by simp
 have n3 : ∀ i : Nat, (⟨w.heap.size + 4, i, none⟩ : Addr).block ≠ w.heap.size + 3 := fun i => by simp
 exact ⟨h.box.other (by omega) _ _ _ _, (((h.lr.other (n1 0)).other (n1 1)).other (n1 2)).other (n1 3), (((h.ln.other (n2 0)).other (n2 1)).other (n2 2)).other (n2 3), (((h.la.other (n3 0)).other (n3 1)).other (n3 2)).other (n3 3), h.lb.stored v, by simpa using h.hl⟩
theorem RSt.start (w : World) (k r c ck ci : Int) (cf : Nat) (ct : ByteArray) (a : Option Addr) (len cap : Nat) (t u : TypeId) : RSt w k r c ck ci cf ct a len cap Val.null Val.null
 (((((w.alloc (.cells #[.int .i64 k, .int .i64 r, .int .i64 c, .int .i64 ck, .int .i64 ci, .float .f64 cf, .string ct, .slice a len cap] t)).alloc (.cells #[.int .i64 0, .int .i64 0, .float .f64 0, .string ⟨#[]⟩] u)).alloc (.cells #[.int .i64 0, .int .i64 0, .float .f64 0, .string ⟨#[]⟩] u)).alloc (.cells #[.int .i64 0, .int .i64 0, .float .f64 0, .string ⟨#[]⟩] u)).alloc (.cells #[.int .i64 0, .int .i64 0, .float .f64 0, .string ⟨#[]⟩] u)) := by
 have hb := BoxE.start w k r c ck ci cf ct a len cap t
 have h4 := FourB.start (w.alloc (.cells #[.int .i64 k, .int .i64 r, .int .i64 c, .int .i64 ck, .int .i64 ci, .float .f64 cf, .string ct, .slice a len cap] t)) Val.null Val.null Val.null Val.null u u u u
 have hs : (w.alloc (.cells #[.int .i64 k, .int .i64 r, .int .i64 c, .int .i64 ck, .int .i64 ci, .float .f64 cf, .string ct, .slice a len cap] t)).heap.size = w.heap.size + 1 := by simp
 have hbe := h4.below
 obtain ⟨⟨⟨l1, l2, _, _⟩, l3, _⟩, l4, _⟩ := h4
 rw [hs] at l1 l2 l3 l4
 exact ⟨hb.next hbe, l1, l2, l3, l4, by simp⟩
theorem RSt.below {w W : World} {k r c ck ci : Int} {cf : Nat} {ct : ByteArray} {a : Option Addr} {len cap : Nat} {x y : Val} (h : RSt w k r c ck ci cf ct a len cap x y W) : Below w.heap.size w W := h.box.below
theorem RSt.setr {w W : World} {k r c ck ci : Int} {cf : Nat} {ct : ByteArray} {a : Option Addr} {len cap : Nat} {x y : Val} (h : RSt w k r c ck ci cf ct a len cap x y W) (v : Val) : LiesV ((((W.setCell ⟨w.heap.size + 1, 0, none⟩ (.int .i64 v.kind)).setCell ⟨w.heap.size + 1, 1, none⟩ (.int .i64 v.int)).setCell ⟨w.heap.size + 1, 2, none⟩ (.float .f64 v.flt)).setCell ⟨w.heap.size + 1, 3, none⟩ (.string v.text)) (w.heap.size + 1) 0 v ∧
 Below w.heap.size w ((((W.setCell ⟨w.heap.size + 1, 0, none⟩ (.int .i64 v.kind)).setCell ⟨w.heap.size + 1, 1, none⟩ (.int .i64 v.int)).setCell ⟨w.heap.size + 1, 2, none⟩ (.float .f64 v.flt)).setCell ⟨w.heap.size + 1, 3, none⟩ (.string v.text)) :=
 ⟨h.lr.stored v, below_val h.below (by omega) _ _ _ _⟩
set_option maxHeartbeats 4000000 in
theorem reval_col (D : Nat) (cs : List Value) (rel col : Int) (con : Val) (kids : List Tx) (d : Nat) (ra : Option Addr) (rl rc : Nat) (R : List Slc) (w : World) (h : ExAt w (D + 1) cs (.mk 1 rel col con kids)) (hR : RowsV w ra rl rc R) (hok : okT d (.mk 1 rel col con kids) = true) :
 Calls Tryz.prog 63 #[.agg cs.toArray, .slice ra rl rc] w fun e w' => (∃ v, e = .returned (.tuple #[v.agg, .int .i64 (evalV (R.map (·.l)) (.mk 1 rel col con kids)).2]) ∧ Alike (evalV (R.map (·.l)) (.mk 1 rel col con kids)).1 v ∧ v.wf) ∧ Below w.heap.size w w' := by
 obtain ⟨a, len, cap, rfl, ⟨_, _, _, hcw⟩, hr⟩ := h
 obtain ⟨ck, ci, cf, ct⟩ := con
 simp only [okT, Bool.and_eq_true, decide_eq_true_eq] at hok
 obtain ⟨⟨⟨_, hkk⟩, hff⟩, _⟩ := hok
 have hlen := hr.1
 obtain rfl : len = 0 := by unfold kidsK at hkk; simp at hkk; omega
 obtain rfl : kids = [] := List.length_eq_zero_iff.1 hlen
 have HZ := hdq (RSt.start w 1 rel col ck ci cf ct a 0 cap 53 39)
 have HRW := hdq hR
 clear hr hR hlen hkk
 simp only [evalV, evalVs, combV, List.headD_nil, List.tail_nil, opV, ne_eq, not_true_eq_false, if_false, if_true]
 obtain ⟨r, rfl⟩ := Int.eq_ofNat_of_zero_le (show 0 ≤ rel by unfold fieldsK at hff; simp only [Bool.and_eq_true, decide_eq_true_eq] at hff; exact hff.1.1.1.2.1)
 obtain ⟨c, rfl⟩ := Int.eq_ofNat_of_zero_le (show 0 ≤ col by unfold fieldsK at hff; simp only [Bool.and_eq_true, decide_eq_true_eq] at hff; exact hff.1.1.2.1)
 clear hff
 obtain ⟨p, hp⟩ : ∃ p, p = colV (R.map (·.l)) r c := ⟨_, rfl⟩
 rw [← hp]
 unfold colV at hp
 simp only [Int.toNat_natCast, List.getElem?_map] at hp
 have HZN := hdq (fun n => HZ.out.next (below_drewN _ n))
 obtain ⟨x0, x1, x2, x3, x4, x5, x6, x7, _⟩ := HZ.out.box
 obtain ⟨R1, R2, R3, R4⟩ := HRW.out
 by_cases hr1 : r < rl
 ·obtain ⟨rb, ro, rfl, hrb, hrc⟩ := R4.resolve_left (by omega)
  have hr' : r < R.length := by omega
  obtain ⟨⟨sa, sl, sc, sv⟩, hs⟩ : ∃ s, R[r]? = some s := ⟨_, List.getElem?_eq_getElem hr'⟩
  obtain ⟨hsc, hsr⟩ := hrc r _ hs
  rw [hs] at hp
  simp only [Option.map_some] at hp
  simp only at hsc hsr
  have hsc' := (HZ.out.below.cell hrb).trans hsc
  have i1 : (r : Int) < (rl : Int) := by omega
  by_cases hc1 : c < sl
  ·obtain ⟨vb, vo, rfl, hvb, v, hv, hvw, HV⟩ := hsr.get hc1
   rw [hv] at hp
   simp only at hp
   obtain ⟨vk, vn, vf, vs⟩ := v
   obtain ⟨v0, v1, v2, v3⟩ := HV
   have i2 : (c : Int) < (sl : Int) := by omega
   have HSW : Hid (∀ W, RSt w 1 (r : Int) (c : Int) ck ci cf ct a 0 cap Val.null Val.null W → (W.cell? ⟨w.heap.size, 1, none⟩ = some (.int .i64 (r : Int)) ∧ W.cell? ⟨w.heap.size, 2, none⟩ = some (.int .i64 (c : Int)) ∧ W.cell? ⟨rb, ro + r, none⟩ = some (.slice (some ⟨vb, vo, none⟩) sl sc) ∧ W.cell? ⟨vb, vo + c * 4, none⟩ = some (.int .i64 vk) ∧ W.cell? ⟨vb, vo + c * 4 + 1, none⟩ = some (.int .i64 vn) ∧ W.cell? ⟨vb, vo + c * 4 + 2, none⟩ = some (.float .f64 vf) ∧ W.cell? ⟨vb, vo + c * 4 + 3, none⟩ = some (.string vs) ∧ Hid (RSt w 1 (r : Int) (c : Int) ck ci cf ct a 0 cap Val.null Val.null W))) := hdq (fun W h => by
    have hb := h.below
    have hbx := h.box
    exact ⟨hbx.2.1, hbx.2.2.1, (hb.cell hrb).trans hsc, (hb.cell hvb).trans v0, (hb.cell hvb).trans v1, (hb.cell hvb).trans v2, (hb.cell hvb).trans v3, hdq h⟩)
   obtain ⟨q, hq⟩ : ∃ q, q = rightV ⟨vk, vn, vf, vs⟩ := ⟨_, rfl⟩
   have HRI := hdq (fun (W : World) (hS : W.cell? ⟨w.heap.size, 1, none⟩ = some (.int .i64 (r : Int)) ∧ W.cell? ⟨w.heap.size, 2, none⟩ = some (.int .i64 (c : Int)) ∧ W.cell? ⟨rb, ro + r, none⟩ = some (.slice (some ⟨vb, vo, none⟩) sl sc) ∧ W.cell? ⟨vb, vo + c * 4, none⟩ = some (.int .i64 vk) ∧ W.cell? ⟨vb, vo + c * 4 + 1, none⟩ = some (.int .i64 vn) ∧ W.cell? ⟨vb, vo + c * 4 + 2, none⟩ = some (.float .f64 vf) ∧ W.cell? ⟨vb, vo + c * 4 + 3, none⟩ = some (.string vs) ∧ Hid (RSt w 1 (r : Int) (c : Int) ck ci cf ct a 0 cap Val.null Val.null W)) => (RRight_exp vk vn vf vs hvw W).mono (R' := fun e w' => e = .returned (.bool q) ∧ (w'.cell? ⟨w.heap.size, 1, none⟩ = some (.int .i64 (r : Int)) ∧ w'.cell? ⟨w.heap.size, 2, none⟩ = some (.int .i64 (c : Int)) ∧ w'.cell? ⟨rb, ro + r, none⟩ = some (.slice (some ⟨vb, vo, none⟩) sl sc) ∧ w'.cell? ⟨vb, vo + c * 4, none⟩ = some (.int .i64 vk) ∧ w'.cell? ⟨vb, vo + c * 4 + 1, none⟩ = some (.int .i64 vn) ∧ w'.cell? ⟨vb, vo + c * 4 + 2, none⟩ = some (.float .f64 vf) ∧ w'.cell? ⟨vb, vo + c * 4 + 3, none⟩ = some (.string vs) ∧ Hid (RSt w 1 (r : Int) (c : Int) ck ci cf ct a 0 cap Val.null Val.null w'))) (fun e w' h => ⟨by rw [h.1, hq], HSW.out _ (hS.2.2.2.2.2.2.2.out.next h.2)⟩))
   rw [← hq] at hp
   have HVW := hdq hvw
   have HP := hdq hp
   have HZS := hdq (HSW.out _ HZ.out)
   have HZD := hdq (HSW.out _ (HZ.out.next (Below.refl _ _).drew))
   clear hq hp hs hsr hrc R4 hsc v0 v1 v2 v3 hv HRW R1 R2 R3
   obtain ⟨_, _, y2, y3, y4, y5, y6, _⟩ := HZS.out
   go_enter Tryz.func63, Tryz.ntmps63
   go_upto_region 15 with fail
   go_cut [78] from 13 to 77 (fun t W => t = .bool q ∧ W.cell? ⟨w.heap.size, 1, none⟩ = some (.int .i64 (r : Int)) ∧ W.cell? ⟨w.heap.size, 2, none⟩ = some (.int .i64 (c : Int)) ∧ W.cell? ⟨rb, ro + r, none⟩ = some (.slice (some ⟨vb, vo, none⟩) sl sc) ∧ W.cell? ⟨vb, vo + c * 4, none⟩ = some (.int .i64 vk) ∧ W.cell? ⟨vb, vo + c * 4 + 1, none⟩ = some (.int .i64 vn) ∧ W.cell? ⟨vb, vo + c * 4 + 2, none⟩ = some (.float .f64 vf) ∧ W.cell? ⟨vb, vo + c * 4 + 3, none⟩ = some (.string vs) ∧ Hid (RSt w 1 (r : Int) (c : Int) ck ci cf ct a 0 cap Val.null Val.null W))
   case first =>
    clear x0 x1 x2 x3 x4 x5 x6 x7 hsc' y2 y3 y4 y5 y6
    go_region_held3 (fun W : World => W.cell? ⟨w.heap.size, 1, none⟩ = some (.int .i64 (r : Int)) ∧ W.cell? ⟨w.heap.size, 2, none⟩ = some (.int .i64 (c : Int)) ∧ W.cell? ⟨rb, ro + r, none⟩ = some (.slice (some ⟨vb, vo, none⟩) sl sc) ∧ W.cell? ⟨vb, vo + c * 4, none⟩ = some (.int .i64 vk) ∧ W.cell? ⟨vb, vo + c * 4 + 1, none⟩ = some (.int .i64 vn) ∧ W.cell? ⟨vb, vo + c * 4 + 2, none⟩ = some (.float .f64 vf) ∧ W.cell? ⟨vb, vo + c * 4 + 3, none⟩ = some (.string vs) ∧ Hid (RSt w 1 (r : Int) (c : Int) ck ci cf ct a 0 cap Val.null Val.null W)) (first | exact HZD.out | assumption) (first | (go_at_call 64; refine (HRI.out _ (by assumption)).mono ?_; rintro e wx ⟨rfl, hSx⟩))
    all_goals go_wp2_with fail
    all_goals go_meet
    all_goals exact ⟨rfl, by assumption⟩
   case rest =>
    obtain ⟨rfl, z1, z2, z3, z4, z5, z6, z7, hev⟩ := hcut
    have HE := hev
    obtain ⟨⟨q1, q2, q3, q4⟩, f1, f2, f3, f4⟩ := hev.out.lr
    obtain ⟨⟨p1, p2, p3, p4⟩, _⟩ := hev.out.ln
    simp only [Nat.zero_add] at q1 q2 q3 q4 f1 f2 f3 f4 p1 p2 p3 p4
    clear x0 x1 x2 x3 x4 x5 x6 x7 hsc' y2 y3 y4 y5 y6 HZS HZD hev HSW HRI
    cases q with
    | true =>
     have hp := HP.out
     rw [if_pos rfl] at hp
     subst hp
     go_upto_region 16 with fail
     go_region
     all_goals go_wp2
     all_goals exact ret_val2 Tryz.results63 rfl rfl rfl ((HE.out.next (Below.refl _ wc).drew).setr ⟨vk, vn, vf, vs⟩).1 ⟨⟨_, rfl, Alike.refl _, HVW.out⟩, ((HE.out.next (Below.refl _ wc).drew).setr ⟨vk, vn, vf, vs⟩).2⟩
    | false =>
     have hp := HP.out
     rw [if_neg (by simp)] at hp
     subst hp
     go_wp2
     exact ret_val2 Tryz.results63 rfl rfl rfl (HE.out.setr Val.null).1 ⟨⟨_, rfl, Alike.refl _, null_wf⟩, (HE.out.setr Val.null).2⟩
  ·have hp' : p = Val.null := by
    have : sv[c]? = none := List.getElem?_eq_none (by have := hsr.1; omega)
    rw [this] at hp
    exact hp
   subst hp'
   have i2 : ¬ (c : Int) < (sl : Int) := by omega
   clear hp hs hsr hrc R4 hsc HRW R1 R2 R3
   obtain ⟨⟨q1, q2, q3, q4⟩, f1, f2, f3, f4⟩ := HZ.out.lr
   simp only [Nat.zero_add] at q1 q2 q3 q4 f1 f2 f3 f4
   go_enter Tryz.func63, Tryz.ntmps63
   go_upto_region 15 with fail
   go_quiet (fail)
   go_wp2
   exact ret_val2 Tryz.results63 rfl rfl rfl ((HZN.out _).setr Val.null).1 ⟨⟨_, rfl, Alike.refl _, null_wf⟩, ((HZN.out _).setr Val.null).2⟩
 ·have hp' : p = Val.null := by
   have : R[r]? = none := List.getElem?_eq_none (by omega)
   rw [this] at hp
   exact hp
  subst hp'
  have i1 : ¬ (r : Int) < (rl : Int) := by omega
  clear hp R4 HRW R1 R2 R3
  go_enter Tryz.func63, Tryz.ntmps63
  go_upto_region 15 with fail
  go_quiet (fail)
  go_wp2
  exact ret_val2 Tryz.results63 rfl rfl rfl ((HZN.out _).setr Val.null).1 ⟨⟨_, rfl, Alike.refl _, null_wf⟩, ((HZN.out _).setr Val.null).2⟩
end Go.Proofs.YtgmolmpfihkolaaGreat
