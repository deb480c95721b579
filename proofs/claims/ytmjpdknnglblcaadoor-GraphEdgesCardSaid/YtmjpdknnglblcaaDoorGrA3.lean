/- The walks of the reference's from, least, Connected. -/
import Derived.Test.YtmjpdknnglblcaaDoorGrA2
import Derived.Test.YtmjpdknnglblcaaDoorGrG
namespace Go.Proofs.YtmjpdknnglblcaaDoor
open Go.RowKit
open Gr Go.Deep
set_option maxRecDepth 100000

set_option maxHeartbeats 1000000 in
theorem RFrom_any (a : Option Addr) (len cap i s : Nat) (es : List Nat) (w : World) (h : EdgesAt w a len cap es) (hi : i < 32) (hs : s < 4294967296) :
    Calls Tryd.prog 30 #[.slice a len cap, .int .i64 i, .int .u32 s] w fun e w' => e = .returned (.int .u32 ((growB es.length (adj es es.length) s i : Nat) : Int)) ∧ w = w' := by
  have hn := h.le12
  have hl63 : len < 2 ^ 63 := by have := h.1; have := h.2.1; unfold maxLen at this; omega
  have HM := Lib.hid (Many_any a len cap w hl63)
  rw [← h.2.2.1] at HM
  have HN := Lib.hid (fun x hx => RNear_any a len cap x es w h hx)
  obtain ⟨n, hn'⟩ : ∃ n, n = es.length := ⟨_, rfl⟩
  rw [← hn'] at HM hn HN ⊢
  clear h hn' hl63
  generalize adj es n = A at *
  have hp : 2 ^ i < 4294967296 := Nat.lt_of_lt_of_le (Nat.pow_lt_pow_right (by omega) hi) (by decide)
  have hlt := it_lt n A s (2 ^ i) 32 hp hs
  have E2 : IntKind.u32.wrap ((2 : Int) ^ i) = ((2 ^ i : Nat) : Int) := by
    have e : (2 : Int) ^ i = ((2 ^ i : Nat) : Int) := by simp
    rw [wrap_u32', e]; generalize 2 ^ i = z at *; omega
  have h0 : ((2 ^ i : Nat) : Int) = ((itB n A s (2 ^ i) 0 : Nat) : Int) := rfl
  have hstep : ∀ j, itB n A s (2 ^ i) (j + 1) = itB n A s (2 ^ i) j ||| (nearB n A (itB n A s (2 ^ i) j) &&& s) := fun j => rfl
  show Calls Tryd.prog 30 _ w fun e w' => e = .returned (.int .u32 ((itB n A s (2 ^ i) n : Nat) : Int)) ∧ w = w'
  generalize hit : itB n A s (2 ^ i) = it at *
  obtain ⟨p, hp2⟩ : ∃ p, p = 2 ^ i := ⟨_, rfl⟩
  rw [← hp2] at E2 h0
  have H := Lib.hid (And.intro hlt hstep)
  clear hp hlt hit hp2 hstep
  go_enter Tryd.func30, Tryd.ntmps30
  go_wp2
  go_loop [7, 8] (fun o j => ∃ k : Nat, k ≤ n ∧ j = .int .i64 k ∧ o = .int .u32 ((it k : Nat) : Int)) (fun _ j => n - (intOf j).toNat)
  case atStart => exact ⟨0, Nat.zero_le _, rfl, by first | rfl | rw [h0]⟩
  case round =>
    obtain ⟨k, hk, rfl, rfl⟩ := hrel
    by_cases hlk : k < n
    · obtain ⟨hlt, hstep⟩ := H.out
      have hx := hlt k
      have hnb := Nat.lt_of_lt_of_le (nearB_lt n A (it k)) (Nat.le_trans (Nat.pow_le_pow_right (by omega) hn) (show 2 ^ 12 ≤ 4294967296 by decide))
      have E3 := u32_and_nat _ s hnb hs
      have E4 := u32_or_nat (it k) (nearB n A (it k) &&& s) hx (Nat.lt_of_le_of_lt Nat.and_le_right hs)
      rw [← hstep k] at E4
      have hc := HN.out (it k) hx
      obtain ⟨o2, ho2⟩ : ∃ z, z = it (k + 1) := ⟨_, rfl⟩
      rw [← ho2] at E4
      generalize it k = o at *
      generalize nearB n A o = nb at *
      generalize nb &&& s = m at *
      have HC := Lib.hid hc
      have HO2 := Lib.hid ho2
      clear hlt hstep hx hnb hc ho2
      go_wp2_with (first | (go_at_call 27; refine HM.out.mono ?_; rintro e w' ⟨rfl, rfl⟩) | (go_at_call 11; refine HC.out.mono ?_; rintro e w' ⟨rfl, rfl⟩))
      go_round
      case rel => exact ⟨k + 1, by omega, by go_num, by rw [← HO2.out]⟩
      case measure => simp [intOf]; omega
    · obtain rfl : k = n := by omega
      go_wp2_with (go_at_call 27; refine HM.out.mono ?_; rintro e w' ⟨rfl, rfl⟩)
      go_ret
      exact ⟨rfl, rfl⟩

theorem RLeast_any (s : Nat) (w : World) (hs : s < 4294967296) (h0 : s ≠ 0) :
    Calls Tryd.prog 31 #[.int .u32 s] w fun e w' => e = .returned (.int .i64 ((lowB s : Nat) : Int)) ∧ w = w' := by
  have hat := testBit_at s h0 hs
  have hless := low_least s
  have hlow : lowB s < 32 := low_lt' s 32 h0 hs hs
  have hat' : s.testBit (lowB s) = true := hat
  obtain ⟨l, hl⟩ : ∃ l, l = lowB s := ⟨_, rfl⟩
  rw [← hl] at hat' hlow ⊢
  have HL := Lib.hid (fun j (hj : j < l) => hless j h0 hs (by rw [← hl]; exact hj))
  clear hat hless hl h0
  go_enter Tryd.func31, Tryd.ntmps31
  go_wp2
  go_loop [3] (fun j => ∃ k : Nat, k ≤ l ∧ j = .int .i64 k) (fun j => l - (intOf j).toNat)
  case atStart => exact ⟨0, Nat.zero_le _, rfl⟩
  case round =>
    obtain ⟨k, hk, rfl⟩ := hrel
    by_cases hlk : k < l
    · have hb := HL.out k hlk
      go_wp2_with (go_at_call 28; refine (has_any _ _ _ hs (by omega)).mono ?_; rw [hb]; rintro e w' ⟨rfl, rfl⟩)
      go_round
      case rel => exact ⟨k + 1, by omega, by go_num⟩
      case measure => simp [intOf]; omega
    · obtain rfl : k = l := by omega
      go_wp2_with (go_at_call 28; refine (has_any _ _ _ hs (by omega)).mono ?_; rw [hat']; rintro e w' ⟨rfl, rfl⟩)
      go_ret
      exact ⟨rfl, rfl⟩

set_option maxHeartbeats 1000000 in
theorem RConn_any (a : Option Addr) (len cap s : Nat) (es : List Nat) (w : World) (h : EdgesAt w a len cap es) (hs : s < 4294967296) :
    Calls Tryd.prog 12 #[.slice a len cap, .int .u32 s] w fun e w' => e = .returned (.bool (connB es.length (adj es es.length) s)) ∧ w = w' := by
  have hn := h.le12
  have hl63 : len < 2 ^ 63 := by have := h.1; have := h.2.1; unfold maxLen at this; omega
  have HM := Lib.hid (Many_any a len cap w hl63)
  rw [← h.2.2.1] at HM
  have HF := Lib.hid (fun i hi => RFrom_any a len cap i s es w h hi hs)
  obtain ⟨n, hn'⟩ : ∃ n, n = es.length := ⟨_, rfl⟩
  rw [← hn'] at HM hn HF ⊢
  clear h hn' hl63
  generalize adj es n = A at *
  have hpn : 2 ^ n < 4294967296 := Nat.lt_of_le_of_lt (Nat.pow_le_pow_right (by omega) hn) (by decide)
  have E2 : IntKind.u32.wrap ((2 : Int) ^ n) = ((2 ^ n : Nat) : Int) := by
    have e : (2 : Int) ^ n = ((2 ^ n : Nat) : Int) := by simp
    rw [wrap_u32', e]; generalize 2 ^ n = z at *; omega
  obtain ⟨c, hc⟩ : ∃ c, c = connB n A s := ⟨_, rfl⟩
  rw [← hc]
  unfold connB at hc
  by_cases h0 : s = 0
  · subst h0
    have : c = false := by rw [hc]; simp
    subst this
    clear hc E2
    go_enter Tryd.func12, Tryd.ntmps12
    go_wp2_with (go_at_call 27; refine HM.out.mono ?_; rintro e w' ⟨rfl, rfl⟩)
    all_goals go_ret
    all_goals exact ⟨rfl, rfl⟩
  · have hz : ((s : Int) == 0) = false := by simp; omega
    by_cases hlt : s < 2 ^ n
    · have HL := Lib.hid (RLeast_any s w hs h0)
      have hl32 := low_lt' s 32 h0 hs hs
      have hf := HF.out (lowB s) hl32
      simp only [h0, hlt, decide_true, ne_eq, not_false_eq_true, Bool.true_and] at hc
      generalize lowB s = l at *
      obtain ⟨g, hg⟩ : ∃ g, g = growB n A s l := ⟨_, rfl⟩
      rw [← hg] at hc hf
      have HFF := Lib.hid hf
      generalize 2 ^ n = P at *
      clear hf hg
      by_cases hgs : g = s
      · subst hgs
        have : c = true := by rw [hc]; simp
        subst this
        clear hc
        go_enter Tryd.func12, Tryd.ntmps12
        go_wp2_with (first | (go_at_call 27; refine HM.out.mono ?_; rintro e w' ⟨rfl, rfl⟩) | (go_at_call 31; refine HL.out.mono ?_; rintro e w' ⟨rfl, rfl⟩) | (go_at_call 30; refine HFF.out.mono ?_; rintro e w' ⟨rfl, rfl⟩))
        go_ret
        exact ⟨rfl, rfl⟩
      · have : c = false := by rw [hc]; simp [hgs]
        subst this
        have hgz : ((g : Int) == (s : Int)) = false := by simp; omega
        clear hc hgs
        go_enter Tryd.func12, Tryd.ntmps12
        go_wp2_with (first | (go_at_call 27; refine HM.out.mono ?_; rintro e w' ⟨rfl, rfl⟩) | (go_at_call 31; refine HL.out.mono ?_; rintro e w' ⟨rfl, rfl⟩) | (go_at_call 30; refine HFF.out.mono ?_; rintro e w' ⟨rfl, rfl⟩))
        go_ret
        exact ⟨rfl, rfl⟩
    · have : c = false := by rw [hc]; simp [hlt]
      subst this
      generalize 2 ^ n = P at *
      have hle : P ≤ s := by omega
      clear hc hlt
      go_enter Tryd.func12, Tryd.ntmps12
      go_wp2_with (go_at_call 27; refine HM.out.mono ?_; rintro e w' ⟨rfl, rfl⟩)
      go_ret
      exact ⟨rfl, rfl⟩
end Go.Proofs.YtmjpdknnglblcaaDoor
