/- The references: has, Many, Next. -/
import Derived.Test.YtmjpdknnglblcaaDoorGrY
namespace Go.Proofs.YtmjpdknnglblcaaDoor
open Go.RowKit
open Gr Go.Deep
set_option maxRecDepth 100000

theorem has_any (s k : Nat) (w : World) (hs : s < 4294967296) (hk : k < 32) :
    Calls Tryd.prog 28 #[.int .u32 s, .int .i64 k] w fun e w' => e = .returned (.bool (s.testBit k)) ∧ w = w' := by
  have hd : (s : Int) / 2 ^ k = ((s / 2 ^ k : Nat) : Int) := by simp
  have hbit : s.testBit k = decide (s / 2 ^ k % 2 = 1) := Nat.testBit_eq_decide_div_mod_eq
  obtain ⟨sk, hsk⟩ : ∃ z, z = s / 2 ^ k := ⟨_, rfl⟩
  rw [← hsk] at hd hbit
  have hm : ((sk : Int)).tmod 2 = ((sk % 2 : Nat) : Int) := rfl
  have hsk32 : sk < 4294967296 := by rw [hsk]; exact Nat.lt_of_le_of_lt (Nat.div_le_self _ _) hs
  by_cases h1 : sk % 2 = 1
  · rw [h1] at hm
    rw [hbit, h1]
    clear hbit hsk
    go_enter Tryd.func28, Tryd.ntmps28
    go_wp2
    go_ret
    exact ⟨rfl, rfl⟩
  · have h0 : sk % 2 = 0 := by omega
    rw [h0] at hm
    rw [hbit, h0]
    clear hbit hsk
    go_enter Tryd.func28, Tryd.ntmps28
    go_wp2
    go_ret
    exact ⟨rfl, rfl⟩

theorem Many_any (a : Option Addr) (len cap : Nat) (w : World) (hl : len < 2 ^ 63) :
    Calls Tryd.prog 27 #[.slice a len cap] w fun e w' => e = .returned (.int .i64 ((min len 12 : Nat) : Int)) ∧ w = w' := by
  by_cases h : (12 : Int) < (len : Int)
  · rw [show min len 12 = 12 by omega]
    go_enter Tryd.func27, Tryd.ntmps27
    go_wp2
    go_ret
    exact ⟨rfl, rfl⟩
  · rw [show min len 12 = len by omega]
    have h2 : (len : Int) ≤ 12 := by omega
    clear h
    go_enter Tryd.func27, Tryd.ntmps27
    go_wp2
    go_ret
    exact ⟨rfl, rfl⟩

theorem EdgesAt.at {w : World} {a : Option Addr} {len cap : Nat} {es : List Nat} (h : EdgesAt w a len cap es) (i : Nat) (hi : i < es.length) : ∃ b off, a = some ⟨b, off, none⟩ ∧ i < len ∧ len ≤ cap ∧ cap < 2 ^ 63 ∧ w.cell? ⟨b, off + i, none⟩ = some (.int .u32 ((es.getD i 0 : Nat) : Int)) ∧ es.getD i 0 < 4294967296 := by
  obtain ⟨h1, h2, h3, h4, h5⟩ := h
  unfold maxLen at h2
  rcases h5 with h5 | ⟨b, off, rfl, hr⟩
  · omega
  · exact ⟨b, off, rfl, by omega, h1, by omega, hr i hi, h4 _ (getD_mem' es i hi)⟩

theorem adj_same (es : List Nat) (n i : Nat) : adj es n i i = false := by unfold adj rowE; simp
theorem adj_at (es : List Nat) (n i k : Nat) (hi : i < n) (hk : k < n) (h : i ≠ k) : adj es n i k = ((es.getD i 0).testBit k || (es.getD k 0).testBit i) := by
  unfold adj rowE
  have h' : k ≠ i := fun e => h e.symm
  simp [hi, hk, h, h']

theorem Next_any (a : Option Addr) (len cap i k : Nat) (es : List Nat) (w : World) (h : EdgesAt w a len cap es) (hi : i < es.length) (hk : k < es.length) :
    Calls Tryd.prog 29 #[.slice a len cap, .int .i64 i, .int .i64 k] w fun e w' => e = .returned (.bool (adj es es.length i k)) ∧ w = w' := by
  have hn := h.le12
  obtain ⟨b, off, rfl, hil, hlc, hcap, hci, hei⟩ := h.at i hi
  obtain ⟨b', off', he, hkl, _, _, hck, hek⟩ := h.at k hk
  cases he
  by_cases hik : i = k
  · subst hik
    rw [adj_same]
    clear h
    go_enter Tryd.func29, Tryd.ntmps29
    go_wp2
    go_ret
    exact ⟨rfl, rfl⟩
  · have hz : ((i : Int) != (k : Int)) = true := by simp; omega
    rw [adj_at es _ i k hi hk hik]
    have hi32 : i < 32 := by omega
    have hk32 : k < 32 := by omega
    generalize es.getD i 0 = x at *
    generalize es.getD k 0 = y at *
    clear h hi hk hn
    cases hx : x.testBit k with
    | true =>
      go_enter Tryd.func29, Tryd.ntmps29
      go_wp2_with (go_at_call 28; refine (has_any _ _ _ (by assumption) (by omega)).mono ?_; (try rw [hx]); rintro e w' ⟨rfl, rfl⟩)
      go_ret
      exact ⟨rfl, rfl⟩
    | false =>
      go_enter Tryd.func29, Tryd.ntmps29
      go_wp2_with (go_at_call 28; refine (has_any _ _ _ (by assumption) (by omega)).mono ?_; (try rw [hx]); rintro e w' ⟨rfl, rfl⟩)
      go_ret
      exact ⟨by simp, rfl⟩
end Go.Proofs.YtmjpdknnglblcaaDoor
