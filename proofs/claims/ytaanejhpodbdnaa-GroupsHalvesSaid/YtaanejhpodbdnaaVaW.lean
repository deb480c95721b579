/- The walk of GroupsFolds. -/
import Derived.Test.YtaanejhpodbdnaaVaV
namespace Go.Proofs.Ytaanejhpodbdnaa
open Go.RowKit
set_option maxRecDepth 100000
set_option linter.unusedVariables false
attribute [local go_sem] run_store_float

theorem Exact_exp (k n : Int) (f : Nat) (s : ByteArray) (k' n' : Int) (f' : Nat) (s' : ByteArray) (ha : Val.wf ⟨k, n, f, s⟩) (hb : Val.wf ⟨k', n', f', s'⟩) (h : Alike ⟨k, n, f, s⟩ ⟨k', n', f', s'⟩) (w : World) : Calls Try.prog 10 #[.agg #[.int .i64 k, .int .i64 n, .float .f64 f, .string s], .agg #[.int .i64 k', .int .i64 n', .float .f64 f', .string s']] w
    fun e w' => e = .returned (.bool true) ∧ Below w.heap.size w w' := Exact_true _ _ ha hb h w

/-- Two boxes of the call's own, at any place. -/
structure Own2 (w : World) (b c : Nat) (x y : Val) (W : World) : Prop where
  below : Below w.heap.size w W
  lx : LiesV W b 0 x
  ly : LiesV W c 0 y
  hb : w.heap.size ≤ b
  hc : b < c
  hl : c < W.heap.size
theorem Own2.next {w W W' : World} {b c : Nat} {x y : Val} (h : Own2 w b c x y W) (hb : Below W.heap.size W W') : Own2 w b c x y W' :=
  ⟨h.below.trans (hb.mono h.below.size), h.lx.below hb (Nat.lt_trans h.hc h.hl), h.ly.below hb h.hl, h.hb, h.hc, Nat.lt_of_lt_of_le h.hl hb.size⟩
theorem Own2.setx {w W : World} {b c : Nat} {x y : Val} (h : Own2 w b c x y W) (v : Val) :
    Own2 w b c v y ((((W.setCell ⟨b, 0, none⟩ (.int .i64 v.kind)).setCell ⟨b, 1, none⟩ (.int .i64 v.int)).setCell ⟨b, 2, none⟩ (.float .f64 v.flt)).setCell ⟨b, 3, none⟩ (.string v.text)) := by
  have hne : ∀ k : Nat, (⟨b, k, none⟩ : Addr).block ≠ c := fun k => Nat.ne_of_lt h.hc
  exact ⟨below_val h.below h.hb _ _ _ _, h.lx.stored v, (((h.ly.other (hne 0)).other (hne 1)).other (hne 2)).other (hne 3), h.hb, h.hc, by simpa using h.hl⟩
theorem Own2.sety {w W : World} {b c : Nat} {x y : Val} (h : Own2 w b c x y W) (v : Val) :
    Own2 w b c x v ((((W.setCell ⟨c, 0, none⟩ (.int .i64 v.kind)).setCell ⟨c, 1, none⟩ (.int .i64 v.int)).setCell ⟨c, 2, none⟩ (.float .f64 v.flt)).setCell ⟨c, 3, none⟩ (.string v.text)) := by
  have hne : ∀ k : Nat, (⟨c, k, none⟩ : Addr).block ≠ b := fun k => Nat.ne_of_gt h.hc
  exact ⟨below_val h.below (Nat.le_trans h.hb (Nat.le_of_lt h.hc)) _ _ _ _, (((h.lx.other (hne 0)).other (hne 1)).other (hne 2)).other (hne 3), h.ly.stored v, h.hb, h.hc, by simpa using h.hl⟩

theorem halvesV_wf (kind : Int) (l l' : List Val) (hl : ∀ v ∈ l, v.wf) (hl' : ∀ v ∈ l', v.wf) : (halvesV kind l l').1.wf := by
  unfold halvesV
  split
  · exact null_wf
  · split
    · exact null_wf
    · refine foldV_wf _ _ (fun v hv => ?_)
      rcases List.mem_cons.1 hv with rfl | hv
      · exact foldV_wf _ _ hl
      · rcases List.mem_cons.1 hv with rfl | hv
        · exact foldV_wf _ _ hl'
        · cases hv
theorem rhalvesV_wf (kind : Int) (l l' : List Val) (hl : ∀ v ∈ l, v.wf) (hl' : ∀ v ∈ l', v.wf) : (rhalvesV kind l l').1.wf := by
  unfold rhalvesV
  split
  · exact null_wf
  · split
    · exact null_wf
    · split
      · exact num_wf (wrap_wf _)
      · refine rfoldV_wf _ _ (fun v hv => ?_)
        rcases List.mem_cons.1 hv with rfl | hv
        · exact rfoldV_wf _ _ hl
        · rcases List.mem_cons.1 hv with rfl | hv
          · exact rfoldV_wf _ _ hl'
          · cases hv

set_option maxHeartbeats 4000000 in
theorem GroupsFolds_any (kind : Int) (a a' : Option Addr) (len cap len' cap' : Nat) (l l' : List Val) (w : World) (h : RowV w a len cap l) (h' : RowV w a' len' cap' l') : Calls Try.prog 3 #[.int .i64 kind, .slice a len cap, .slice a' len' cap'] w
    fun e w' => e = .returned (.bool true) ∧ Below w.heap.size w w' := by
  have HRR := Lib.hid (RowsV.two w ⟨a, len, cap, l⟩ ⟨a', len', cap', l'⟩ h h' 22)
  have HA := Lib.hid h
  have HB := Lib.hid h'
  have HF := Lib.hid (fold_alike kind l)
  have HH := Lib.hid (halves_alike kind l l')
  have hxw := foldV_wf kind l h.2.2.2.1
  have hyw := rfoldV_wf kind l h.2.2.2.1
  have hpw := halvesV_wf kind l l' h.2.2.2.1 h'.2.2.2.1
  have hqw := rhalvesV_wf kind l l' h.2.2.2.1 h'.2.2.2.1
  clear h h'
  obtain ⟨⟨x, xe⟩, hx⟩ : ∃ r, r = foldV kind l := ⟨_, rfl⟩
  obtain ⟨⟨y, ye⟩, hy⟩ : ∃ r, r = rfoldV kind l := ⟨_, rfl⟩
  obtain ⟨⟨p, pe⟩, hp⟩ : ∃ r, r = halvesV kind l l' := ⟨_, rfl⟩
  obtain ⟨⟨q, qe⟩, hq⟩ : ∃ r, r = rhalvesV kind l l' := ⟨_, rfl⟩
  rw [← hx, ← hy] at HF
  rw [← hp, ← hq] at HH
  rw [← hx] at hxw
  rw [← hy] at hyw
  rw [← hp] at hpw
  rw [← hq] at hqw
  obtain rfl : xe = ye := HF.out.2
  obtain rfl : pe = qe := HH.out.2
  have HFA := Lib.hid HF.out.1
  have HHA := Lib.hid HH.out.1
  clear HF HH
  obtain ⟨xk, xn, xf, xs⟩ := x
  obtain ⟨yk, yn, yf, ys⟩ := y
  obtain ⟨pk, pn, pf, ps⟩ := p
  obtain ⟨qk, qn, qf, qs⟩ := q
  simp only at *
  have HX := Lib.hid hx.symm
  have HY := Lib.hid hy.symm
  have HP := Lib.hid hp.symm
  have HQ := Lib.hid hq.symm
  clear hx hy hp hq
  have HW := Lib.hid (And.intro hxw (And.intro hyw (And.intro hpw hqw)))
  clear hxw hyw hpw hqw
  have hb0 := Lib.hid ((Below.refl w.heap.size w).alloc (Nat.le_refl _) (.cells #[.slice a len cap, .slice a' len' cap'] 22))
  go_enter Try.func3, Try.ntmps3
  go_wp2_with (first
    | (go_at_call 6; refine (Bulk_any _ _ _ _ _ _ HRR.out).mono ?_; rintro e w' ⟨⟨z, rfl⟩, rfl⟩)
    | (go_at_call 7; refine (works_any _).mono ?_; rintro e wk ⟨rfl, hbk⟩; have HBK := Lib.hid hbk; clear hbk)
    | (go_at_call 8; refine (Fold_any _ _ _ _ l _ (HA.out.later hb0.out)).mono ?_; rw [HX.out]; rintro e w1 ⟨rfl, hb1⟩; have HB1 := Lib.hid ((hb0.out.trans (hb1.mono hb0.out.size)).alloc (Nat.le_trans hb0.out.size hb1.size) (.cells #[.int .i64 xk, .int .i64 xn, .float .f64 xf, .string xs] 28)); have HZ1 := Lib.hid (Nat.le_trans hb0.out.size hb1.size); clear hb1)
    | (go_at_call 9; refine (RFold_any _ _ _ _ l _ (HA.out.later HB1.out)).mono ?_; rw [HY.out]; rintro e w2 ⟨rfl, hb2⟩; have HO := Lib.hid (Own2.mk (b := w1.heap.size) (c := w2.heap.size) (x := ⟨xk, xn, xf, xs⟩) (y := ⟨yk, yn, yf, ys⟩) ((HB1.out.trans (hb2.mono HB1.out.size)).alloc (Nat.le_trans HB1.out.size hb2.size) (.cells #[.int .i64 yk, .int .i64 yn, .float .f64 yf, .string ys] 28)) (((LiesV.new w1 ⟨xk, xn, xf, xs⟩ _).below hb2 (by simp)).below ((Below.refl _ w2).alloc (Nat.le_refl _) _) (Nat.lt_of_lt_of_le (by simp) hb2.size)) (LiesV.new w2 ⟨yk, yn, yf, ys⟩ _) HZ1.out (Nat.lt_of_lt_of_le (by simp) hb2.size) (by simp)); obtain ⟨⟨r1, r2, r3, r4⟩, g1, g2, g3, g4⟩ := HO.out.lx; simp only [Nat.zero_add] at r1 r2 r3 r4 g1 g2 g3 g4; clear hb2)
    | (go_at_call 10; refine (Exact_exp _ _ _ _ _ _ _ _ HW.out.1 HW.out.2.1 HFA.out _).mono ?_; rintro e w3 ⟨rfl, hb3⟩; have HO3 := Lib.hid (HO.out.next hb3); clear hb3 HFA)
    | (go_at_call 11; refine (Halves_any _ _ _ _ _ _ _ l l' _ (HA.out.later HO3.out.below) (HB.out.later HO3.out.below)).mono ?_; rw [HP.out]; rintro e w4 ⟨rfl, hb4⟩; have HO4 := Lib.hid (HO3.out.next hb4); obtain ⟨⟨r1, r2, r3, r4⟩, g1, g2, g3, g4⟩ := HO4.out.lx; simp only [Nat.zero_add] at r1 r2 r3 r4 g1 g2 g3 g4; have HO5 := Lib.hid (HO4.out.setx ⟨pk, pn, pf, ps⟩); clear hb4)
    | (go_at_call 12; refine (RHalves_any _ _ _ _ _ _ _ l l' _ (HA.out.later HO5.out.below) (HB.out.later HO5.out.below)).mono ?_; rw [HQ.out]; rintro e w6 ⟨rfl, hb6⟩; have HO6 := Lib.hid (HO5.out.next hb6); obtain ⟨⟨s1, s2, s3, s4⟩, u1, u2, u3, u4⟩ := HO6.out.ly; simp only [Nat.zero_add] at s1 s2 s3 s4 u1 u2 u3 u4; obtain ⟨⟨v1, v2, v3, v4⟩, _⟩ := HO6.out.lx; simp only [Nat.zero_add] at v1 v2 v3 v4; have hn := Nat.ne_of_lt HO6.out.hc; have hn' := Nat.ne_of_gt HO6.out.hc; have HO7 := Lib.hid (HO6.out.sety ⟨qk, qn, qf, qs⟩); clear hb6)
    | (go_at_call 10; refine (Exact_exp _ _ _ _ _ _ _ _ HW.out.2.2.1 HW.out.2.2.2 HHA.out _).mono ?_; rintro e w8 ⟨rfl, hb8⟩; have HO8 := Lib.hid (HO7.out.next hb8); clear hb8 HHA))
  · go_ret
    exact ⟨rfl, hb0.out.trans (HBK.out.mono hb0.out.size)⟩
  · go_ret
    exact ⟨rfl, HO8.out.below.trans (HBK.out.mono HO8.out.below.size)⟩
end Go.Proofs.Ytaanejhpodbdnaa
