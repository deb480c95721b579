/- The walks of graph: connected. -/
import Derived.Test.YtmjpdknnglblcaaDoorGrW
namespace Go.Proofs.YtmjpdknnglblcaaDoor
open Go.RowKit
open Gr
set_option maxRecDepth 100000

theorem low_lt (s n : Nat) (h0 : s ≠ 0) (hs : s < 4294967296) (h : s < 2 ^ n) : lowB s < n := by
  have hb := (Lib.lowest_bit 32 s h0 hs)
  apply Nat.lt_of_not_le
  intro hle
  have h1 : 2 ^ lowB s ≤ s := by
    have := hb.1
    have e : 2 ^ lowB s = s &&& (2 ^ 32 - s) := this.symm
    rw [e]; exact Nat.and_le_left
  have h2 : 2 ^ n ≤ 2 ^ lowB s := Nat.pow_le_pow_right (by omega) hle
  omega

set_option maxHeartbeats 1000000 in
theorem connected_any (b off n cap s : Nat) (A : Nat → Nat → Bool) (w : World) (hr : Row32 w b off (evL n A)) (hn : n ≤ 12) (hs : s < 4294967296) :
    Calls Tryd.prog 24 #[.slice (some ⟨b, off, none⟩) n cap, .int .u32 s] w fun e w' => e = .returned (.bool (connB n A s)) ∧ w = w' := by
  have hd : (s : Int) / 2 ^ n = ((s / 2 ^ n : Nat) : Int) := by simp
  have hdz : s / 2 ^ n = 0 ↔ s < 2 ^ n := by
    rw [Nat.div_eq_zero_iff]
    have := Nat.pow_pos (n := n) (show 0 < 2 by omega)
    omega
  obtain ⟨q, hq⟩ : ∃ q, q = s / 2 ^ n := ⟨_, rfl⟩
  rw [← hq] at hd hdz
  by_cases h0 : s = 0
  · subst h0
    rw [show connB n A 0 = false by simp [connB]]
    clear hd hdz hq hs hr
    go_enter Tryd.func24, Tryd.ntmps24
    go_wp2
    go_ret
    exact ⟨rfl, rfl⟩
  have g0 : ((s : Int) != 0) = true := by simp; omega
  by_cases h1 : s < 2 ^ n
  · have e : connB n A s = decide (growB n A s (lowB s) = s) := by simp [connB, h0, h1]
    rw [e]
    have hq0 : q = 0 := hdz.2 h1
    subst hq0
    have hl := fun w' (h : Row32 w' b off (evL n A)) => grown_any b off n cap (lowB s) s A w' h hn (low_lt s n h0 hs h1) hs
    have HG := Lib.hid (hl w hr)
    have HL := Lib.hid (lowest_any s w hs h0)
    clear hl hdz hq h0 h1 e hr
    generalize growB n A s (lowB s) = g at *
    generalize 2 ^ lowB s = lo at *
    have hgb : ((g : Int) == (s : Int)) = decide (g = s) := by
      rw [Bool.eq_iff_iff]; simp; omega
    generalize decide (g = s) = r at *
    clear hs
    go_enter Tryd.func24, Tryd.ntmps24
    go_wp2_with (first | (go_at_call 33; refine HL.out.mono ?_; rintro e w' ⟨rfl, rfl⟩) | (go_at_call 32; refine HG.out.mono ?_; rintro e w' ⟨rfl, rfl⟩))
    go_ret
    exact ⟨rfl, rfl⟩
  · have e : connB n A s = false := by simp [connB, h1]
    rw [e]
    have hq0 : ((q : Int) == 0) = false := by simp; omega
    clear hdz hq h0 h1 e hr hs
    go_enter Tryd.func24, Tryd.ntmps24
    go_wp2
    go_ret
    exact ⟨rfl, rfl⟩
end Go.Proofs.YtmjpdknnglblcaaDoor
