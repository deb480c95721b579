/- The walk of GroupsHalves. -/
import Derived.Test.YtaanejhpodbdnaaVbB
import Derived.Test.YtaanejhpodbdnaaVbR
namespace Go.Proofs.Ytaanejhpodbdnaa
open Go.RowKit
set_option maxRecDepth 100000
set_option linter.unusedVariables false
attribute [local go_sem] run_store_float

theorem Own2.start0 (w w2 : World) (K2 : Below w.heap.size w w2) (x y : Val) (t u : TypeId) : Own2 w w2.heap.size (w2.heap.size + 1) x y
    ((w2.alloc (.cells #[.int .i64 x.kind, .int .i64 x.int, .float .f64 x.flt, .string x.text] t)).alloc (.cells #[.int .i64 y.kind, .int .i64 y.int, .float .f64 y.flt, .string y.text] u)).drew := by
  have h := Two.start w2 x y t u
  exact ⟨(K2.trans (h.2.2.1.mono K2.size)).drew, h.1.below ((Below.refl (w2.heap.size + 2) _).drew) (by omega), h.2.1.below ((Below.refl (w2.heap.size + 2) _).drew) (by omega), K2.size, by omega, by simp⟩
theorem Own2.start1 (w w2 w3 : World) (K2 : Below w.heap.size w w2) (x y : Val) (t u : TypeId)
    (hb : Below (w2.alloc (.cells #[.int .i64 x.kind, .int .i64 x.int, .float .f64 x.flt, .string x.text] t)).drew.heap.size (w2.alloc (.cells #[.int .i64 x.kind, .int .i64 x.int, .float .f64 x.flt, .string x.text] t)).drew w3) :
    Own2 w w2.heap.size w3.heap.size x y (w3.alloc (.cells #[.int .i64 y.kind, .int .i64 y.int, .float .f64 y.flt, .string y.text] u)) := by
  have k3 := (K2.alloc K2.size (.cells #[.int .i64 x.kind, .int .i64 x.int, .float .f64 x.flt, .string x.text] t)).drew
  have k4 := k3.trans (hb.mono k3.size)
  have hlt : w2.heap.size < w3.heap.size := Nat.lt_of_lt_of_le (by simp) hb.size
  have l := (((LiesV.new w2 x t).below ((Below.refl (w2.heap.size + 1) _).drew) (by omega)).below hb (by simp))
  exact ⟨k4.alloc k4.size _, l.below ((Below.refl w3.heap.size w3).alloc (Nat.le_refl _) _) hlt, LiesV.new w3 y u, K2.size, hlt, by simp⟩

set_option maxHeartbeats 4000000 in
theorem GroupsHalves_any (kind : Int) (a : Option Addr) (len cap : Nat) (l : List Val) (at_ : Int) (w : World) (h : RowV w a len cap l) (hk : (Lit.int .i64 kind).wf = true) (hat : (Lit.int .i64 at_).wf = true) : Calls Try.prog 4 #[.int .i64 kind, .slice a len cap, .int .i64 at_] w
    fun e w' => e = .returned (.bool true) ∧ Below w.heap.size w w' := by
  have HA := Lib.hid h
  have hdiv := at_div len (by have := h.2.1; have := h.2.2.1; unfold maxLen at this; omega)
  have hlc : len ≤ cap := h.2.1
  have hcm : cap ≤ maxLen := h.2.2.1
  have hxw := foldV_wf kind l h.2.2.2.1
  have HNULL := Lib.hid (fold_null kind l)
  clear h
  obtain ⟨⟨x, xe⟩, hx⟩ : ∃ r, r = foldV kind l := ⟨_, rfl⟩
  rw [← hx] at HNULL hxw
  obtain ⟨xk, xn, xf, xs⟩ := x
  have HX := Lib.hid hx.symm
  have HXW := Lib.hid hxw
  clear hx hxw
  go_enter Try.func4, Try.ntmps4
  go_wp2_with (first
    | (go_at_call 6; refine (Bulk_len 800 (by omega) _ _ _ _ _ HRR.out).mono ?_; rintro e w' ⟨⟨z, rfl, hz⟩, rfl⟩; have HZ := Lib.hid (fun h => hz h ⟨a, len, cap, l⟩ (List.mem_singleton.2 rfl)); clear hz)
    | (go_at_call 7; refine (works_any _).mono ?_; rintro e w1 ⟨rfl, hb1⟩; have HB1 := Lib.hid (hb1.alloc hb1.size (.cells #[.slice a len cap] 22)); have HRR := Lib.hid (RowsV.one w1 ⟨a, len, cap, l⟩ (HA.out.later hb1) 22); clear hb1)
    | (go_at_call 8; fail))
  · go_ret
    exact ⟨rfl, HB1.out⟩
  · rename_i hz800
    have hlen : len ≤ 800 := by have : (len : Int) ≤ 800 := HZ.out (by omega); omega
    obtain ⟨N, hN, hNe⟩ := at_val len at_ hlen
    rw [hNe]
    clear hNe HZ HRR
    refine (Fold_any _ _ _ _ l _ (HA.out.later HB1.out)).mono ?_
    rw [HX.out]
    rintro e w2 ⟨rfl, hb2⟩
    have K2 := Lib.hid (HB1.out.trans (hb2.mono HB1.out.size))
    have K3 := Lib.hid (K2.out.alloc K2.out.size (.cells #[.int .i64 xk, .int .i64 xn, .float .f64 xf, .string xs] 28))
    have L2 := Lib.hid (LiesV.new w2 ⟨xk, xn, xf, xs⟩ 28)
    clear hb2
    dsimp only
    go_upto_region 7 with fail
    have i1 : (N : Int) ≤ (cap : Int) := by omega
    have i2 : (0 : Int) ≤ (N : Int) := by omega
    have i3 : (N : Int) ≤ (len : Int) := by omega
    obtain ⟨⟨p, pe⟩, hp⟩ : ∃ r, r = halvesV kind (l.take N) (l.drop N) := ⟨_, rfl⟩
    obtain ⟨pk, pn, pf, ps⟩ := p
    have HP := Lib.hid hp.symm
    clear hp
    go_cut [10, 11] from 36 to 46 (fun q v W => ∃ c, q = .pointer (some ⟨c, 0, none⟩) ∧ v = .int .i64 pe ∧ Own2 w w2.heap.size c ⟨xk, xn, xf, xs⟩ ⟨pk, pn, pf, ps⟩ W)
    case first =>
      obtain ⟨a2, ha2⟩ : ∃ a2, (if cap = N then a else Option.map (fun x => x.add (N * 4)) a) = a2 := ⟨_, rfl⟩
      have HD := Lib.hid (HA.out.drop N hN)
      rw [ha2] at HD
      have HTK := Lib.hid (HA.out.take N hN)
      have K3d := Lib.hid K3.out.drew
      have K3z := Lib.hid (K3.out.alloc K3.out.size (.cells #[.int .i64 0, .int .i64 0, .float .f64 0, .string ⟨#[]⟩] 28)).drew
      have OZ := Lib.hid (Own2.start0 w w2 K2.out ⟨xk, xn, xf, xs⟩ ⟨0, 0, 0, ⟨#[]⟩⟩ 28 28)
      go_region_with (go_at_call 11; first
        | (refine (Halves_any _ _ _ _ _ _ _ _ _ _ (HTK.out.later K3d.out) (HD.out.later K3d.out)).mono ?_; rw [HP.out]; rintro e w3 ⟨rfl, hb3⟩; have HO := Lib.hid (Own2.start1 w w2 w3 K2.out ⟨xk, xn, xf, xs⟩ ⟨pk, pn, pf, ps⟩ 28 28 hb3); clear hb3)
        | (refine (Halves_any _ _ _ _ _ _ _ _ _ _ (HTK.out.later K3z.out) (HD.out.later K3z.out)).mono ?_; rw [HP.out]; rintro e w3 ⟨rfl, hb3⟩; have HO := Lib.hid (OZ.out.next hb3); obtain ⟨⟨r1, r2, r3, r4⟩, g1, g2, g3, g4⟩ := HO.out.ly; simp only [Nat.zero_add] at r1 r2 r3 r4 g1 g2 g3 g4; have HO := Lib.hid (HO.out.sety ⟨pk, pn, pf, ps⟩); clear hb3))
      all_goals go_wp2
      all_goals go_meet
      all_goals exact ⟨_, rfl, rfl, HO.out⟩
    case rest =>
      obtain ⟨c, rfl, rfl, hown⟩ := hcut
      have HO := Lib.hid hown
      obtain ⟨⟨l1, l2, l3, l4⟩, f1, f2, f3, f4⟩ := hown.lx
      simp only [Nat.zero_add] at l1 l2 l3 l4 f1 f2 f3 f4
      clear hown
      by_cases hxe : xe = 0
      · subst hxe
        obtain ⟨i0, hi, hz0, hz1, hz2⟩ := info_parts Try.info28
        go_upto_region 12 with fail
        go_loopw [12, 13] (fun v i wr => ∃ (m : Nat) (z : Int), i = .int .i64 z ∧ z = (m : Int) - 1 ∧ m ≤ len ∧ wr.ownsRow wc.heap.size 28 4 v (len - m) (flatV (l.drop m).reverse) ∧ Below wc.heap.size wc wr) (fun _ i _ => (intOf i + 1).toNat)
        case atStart => exact ⟨len, _, rfl, rfl, Nat.le_refl _, by rw [List.drop_of_length_le (by rw [HA.out.1]; exact Nat.le_refl _), Nat.sub_self]; exact World.ownsRow_nil _ _ _ _, Below.refl _ _⟩
        case round =>
          obtain ⟨m, z, rfl, hz, hm, hown, hb⟩ := hrel
          have hsz := hb.size
          cases m with
          | succ m =>
            obtain rfl : z = (m : Int) := by omega
            have hbw := HO.out.below.trans (hb.mono HO.out.below.size)
            obtain ⟨b', off', rfl, x, hx, hwf, ⟨d1, d2, d3, d4⟩, hdrop⟩ := fold_row HA.out hbw (show m < len by omega)
            have HDR := Lib.hid hdrop
            have HBW := Lib.hid hbw
            have HB := Lib.hid hb
            have hn1 : len - (m + 1) + 1 = len - m := by omega
            have hm1 : ((m : Int) < (len : Int)) := by omega
            clear hdrop hx hbw hb hz
            go_wp2_with (at_builtin; refine wpList_append_own _ rfl _ _ 22 rfl wc.heap.size 28 i0 (.agg #[.int .i64 0, .int .i64 0, .float .f64 0, .string ⟨#[]⟩]) 4 40 Try.underlying22 hi hz0 hz1 hz2 rfl (by decide) _ _ _ rfl (hown.alloc _) ⟨wr.heap.size, 0, none⟩ 1 1 [.int .i64 x.kind, .int .i64 x.int, .float .f64 x.flt, .string x.text] rfl rfl (fun j u hj => four_at _ _ _ _ _ _ j u hj) (by simp [Value.oneCell']) (by unfold maxLen; omega) (by omega) (by simp; omega) ?_; intro v' w4 hown' hgrow _)
            refine ⟨⟨m, _, by go_num, by omega, by omega, ?_, ?_⟩, ?_⟩
            · rw [HDR.out, List.reverse_cons, flatV_append, flatV_one, ← hn1]; exact hown'
            · exact HB.out.trans (((Below.refl _ wr).alloc hsz _).grown hgrow (by simp; omega) (fun j hj => ownsRow_block hown j hj))
            · simp [intOf]
          | zero =>
            have hneg : ¬ (0 : Int) ≤ z := by omega
            clear hz
            rw [List.drop_zero, Nat.sub_zero] at hown
            obtain ⟨sa, scap, rfl, hrow⟩ := RowV.own hown (by rw [List.length_reverse]; exact HA.out.1) (fun y hy => HA.out.2.2.2.1 y (List.mem_reverse.1 hy))
            have HROW := Lib.hid hrow
            have HB := Lib.hid hb
            have hturn := turn_same kind l (by rw [HX.out])
            have hhalf := halves_same kind (l.take N) (l.drop N) (by rw [List.take_append_drop, HX.out])
            rw [List.take_append_drop, HX.out, HP.out] at hhalf
            rw [HX.out] at hturn
            obtain ⟨⟨y, ye⟩, hy⟩ : ∃ r, r = foldV kind l.reverse := ⟨_, rfl⟩
            obtain ⟨yk, yn, yf, ys⟩ := y
            have hyw := foldV_wf kind l.reverse (fun y hy => HA.out.2.2.2.1 y (List.mem_reverse.1 hy))
            have hpw := halvesV_wf kind (l.take N) (l.drop N) (fun v hv => HA.out.2.2.2.1 v (List.mem_of_mem_take hv)) (fun v hv => HA.out.2.2.2.1 v (List.mem_of_mem_drop hv))
            rw [← hy] at hturn hyw
            rw [HP.out] at hpw
            have HY := Lib.hid hy.symm
            obtain ⟨h1, h2⟩ := hturn
            obtain ⟨h3, h4⟩ := hhalf
            simp only at h1 h2 h3 h4 hyw hpw
            subst h1 h3
            have HS := Lib.hid (fun W => Same_exp _ _ _ _ _ _ _ _ HXW.out hpw h4 W)
            have HT := Lib.hid (fun W => Same_exp _ _ _ _ _ _ _ _ HXW.out hyw h2 W)
            have HO2 := Lib.hid (HO.out.next hb)
            clear hown hrow hb hy h2 h4 hyw hpw
            go_wp2_with (first
              | (go_at_call 8; refine (Fold_any _ _ _ _ l.reverse _ HROW.out).mono ?_; rw [HY.out]; rintro e w5 ⟨rfl, hb5⟩; have HO3 := Lib.hid ((HO2.out.next hb5).next ((Below.refl _ w5).alloc (Nat.le_refl _) (.cells #[.int .i64 yk, .int .i64 yn, .float .f64 yf, .string ys] 28))); have LY := Lib.hid (LiesV.new w5 ⟨yk, yn, yf, ys⟩ 28); obtain ⟨⟨q1, q2, q3, q4⟩, _⟩ := HO3.out.lx; obtain ⟨⟨p1, p2, p3, p4⟩, _⟩ := HO3.out.ly; simp only [Nat.zero_add] at q1 q2 q3 q4 p1 p2 p3 p4; clear hb5)
              | (go_at_call 13; refine (HS.out _).mono ?_; rintro e w6 ⟨rfl, hb6⟩; have HO4 := Lib.hid (HO3.out.next hb6); obtain ⟨⟨q1, q2, q3, q4⟩, _⟩ := HO4.out.lx; obtain ⟨⟨s1, s2, s3, s4⟩, _⟩ := LY.out.below hb6 (by simp); simp only [Nat.zero_add] at q1 q2 q3 q4 s1 s2 s3 s4; clear hb6)
              | (go_at_call 13; refine (HT.out _).mono ?_; rintro e w7 ⟨rfl, hb7⟩; have HO5 := Lib.hid (HO4.out.next hb7); clear hb7))
            go_ret
            exact ⟨rfl, HO5.out.below⟩
      · have hn := HNULL.out hxe
        cases hn
        go_wp2
        go_ret
        exact ⟨rfl, HO.out.below⟩
end Go.Proofs.Ytaanejhpodbdnaa
