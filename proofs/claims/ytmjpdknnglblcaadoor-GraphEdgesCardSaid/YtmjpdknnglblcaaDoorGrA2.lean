/- The walk of the reference's Near. -/
import Derived.Test.YtmjpdknnglblcaaDoorGrA1
namespace Go.Proofs.YtmjpdknnglblcaaDoor
open Go.RowKit
open Gr Go.Deep
set_option maxRecDepth 100000

set_option maxHeartbeats 1000000 in
theorem RNear_any (a : Option Addr) (len cap s : Nat) (es : List Nat) (w : World) (h : EdgesAt w a len cap es) (hs : s < 4294967296) :
    Calls Tryd.prog 11 #[.slice a len cap, .int .u32 s] w fun e w' => e = .returned (.int .u32 ((nearB es.length (adj es es.length) s : Nat) : Int)) ∧ w = w' := by
  have hn := h.le12
  have hl63 : len < 2 ^ 63 := by have := h.1; have := h.2.1; unfold maxLen at this; omega
  have HM := Lib.hid (Many_any a len cap w hl63)
  rw [← h.2.2.1] at HM
  have HX := Lib.hid (fun i k hi hk => Next_any a len cap i k es w h hi hk)
  have hend := nearN_end es.length (adj es es.length) s
  have hzero := nearN_zero es.length (adj es es.length) s
  have HNX := Lib.hid (nearN_next es.length (adj es es.length) s)
  have HST := Lib.hid (nearN_step es.length (adj es es.length) s)
  have HLT := Lib.hid (nearN_lt es.length (adj es es.length) s)
  rw [← hend]
  obtain ⟨n, hn'⟩ : ∃ n, n = es.length := ⟨_, rfl⟩
  rw [← hn'] at HX HM hn hend hzero HNX HST HLT ⊢
  clear h hn' hend hl63
  generalize adj es n = A at *
  have hz0 : ((nearN n A s 0 0 : Nat) : Int) = 0 := by rw [hzero]; rfl
  clear hzero
  go_enter Tryd.func11, Tryd.ntmps11
  go_wp2
  go_loop [5, 6, 7] (fun o i _ => ∃ k : Nat, k ≤ n ∧ i = .int .i64 k ∧ o = .int .u32 ((nearN n A s k 0 : Nat) : Int)) (fun _ i _ => n - (intOf i).toNat)
  case atStart => exact ⟨0, Nat.zero_le _, rfl, by rw [hz0]⟩
  case round =>
    obtain ⟨i, hi, rfl, rfl⟩ := hrel
    by_cases hlt : i < n
    · go_wp2_with (go_at_call 27; refine HM.out.mono ?_; rintro e w' ⟨rfl, rfl⟩)
      go_loop [5, 7] (fun o k' => ∃ k : Nat, k ≤ n ∧ k' = .int .i64 k ∧ o = .int .u32 ((nearN n A s i k : Nat) : Int)) (fun _ k' => n - (intOf k').toNat)
      case atStart => exact ⟨0, Nat.zero_le _, rfl, rfl⟩
      case round =>
        obtain ⟨k, hk, rfl, rfl⟩ := hrel
        by_cases hlk : k < n
        · have hst := HST.out i k hlk
          have hN := Nat.lt_of_lt_of_le (HLT.out i k) (Nat.le_trans (Nat.pow_le_pow_right (by omega) hn) (show 2 ^ 12 ≤ 4294967296 by decide))
          have hp := Nat.lt_of_le_of_lt (Nat.pow_le_pow_right (show 0 < 2 by omega) (show k ≤ 12 by omega)) (show 2 ^ 12 < 4294967296 by decide)
          have E1 := u32_or_nat (nearN n A s i k) (2 ^ k) hN hp
          have E2 : IntKind.u32.wrap ((2 : Int) ^ k) = ((2 ^ k : Nat) : Int) := by
            have e : (2 : Int) ^ k = ((2 ^ k : Nat) : Int) := by simp
            rw [wrap_u32', e]; generalize 2 ^ k = z at *; omega
          have hi32 : i < 32 := by omega
          have hk32 : k < 32 := by omega
          have hx := HX.out i k hlt hlk
          generalize 2 ^ k = p at *
          obtain ⟨o2, ho2⟩ : ∃ z, z = nearN n A s i (k + 1) := ⟨_, rfl⟩
          rw [← ho2] at hst
          generalize nearN n A s i k = o at *
          have HO2 := Lib.hid ho2
          clear hN hp ho2
          cases b1 : s.testBit i with
          | false =>
            rw [b1] at hst
            simp only [Bool.false_and, Bool.false_eq_true, if_false] at hst
            go_wp2_with (first | (go_at_call 27; refine HM.out.mono ?_; rintro e w' ⟨rfl, rfl⟩) | (go_at_call 28; refine (has_any _ _ _ hs (by omega)).mono ?_; (first | rw [b1] | rw [b2]); rintro e w' ⟨rfl, rfl⟩))
            go_round
            case rel => exact ⟨k + 1, by omega, by go_num, by rw [← HO2.out, hst]⟩
            case measure => simp [intOf]; omega
          | true =>
            cases b2 : s.testBit k with
            | true =>
              rw [b1, b2] at hst
              simp only [Bool.not_true, Bool.and_false, Bool.false_and, Bool.false_eq_true, if_false] at hst
              go_wp2_with (first | (go_at_call 27; refine HM.out.mono ?_; rintro e w' ⟨rfl, rfl⟩) | (go_at_call 28; refine (has_any _ _ _ hs (by omega)).mono ?_; (first | rw [b1] | rw [b2]); rintro e w' ⟨rfl, rfl⟩))
              go_round
              case rel => exact ⟨k + 1, by omega, by go_num, by rw [← HO2.out, hst]⟩
              case measure => simp [intOf]; omega
            | false =>
              cases b3 : A i k with
              | false =>
                rw [b1, b2, b3] at hst
                rw [b3] at hx
                have HXX := Lib.hid hx
                simp only [Bool.and_false, Bool.false_eq_true, if_false] at hst
                clear hx
                go_wp2_with (first | (go_at_call 27; refine HM.out.mono ?_; rintro e w' ⟨rfl, rfl⟩) | (go_at_call 28; refine (has_any _ _ _ hs (by omega)).mono ?_; (first | rw [b1] | rw [b2]); rintro e w' ⟨rfl, rfl⟩) | (go_at_call 29; refine HXX.out.mono ?_; rintro e w' ⟨rfl, rfl⟩))
                go_round
                case rel => exact ⟨k + 1, by omega, by go_num, by rw [← HO2.out, hst]⟩
                case measure => simp [intOf]; omega
              | true =>
                rw [b1, b2, b3] at hst
                rw [b3] at hx
                have HXX := Lib.hid hx
                simp only [Bool.not_false, Bool.and_true, if_true] at hst
                rw [← hst] at E1
                clear hx
                go_wp2_with (first | (go_at_call 27; refine HM.out.mono ?_; rintro e w' ⟨rfl, rfl⟩) | (go_at_call 28; refine (has_any _ _ _ hs (by omega)).mono ?_; (first | rw [b1] | rw [b2]); rintro e w' ⟨rfl, rfl⟩) | (go_at_call 29; refine HXX.out.mono ?_; rintro e w' ⟨rfl, rfl⟩))
                go_round
                case rel => exact ⟨k + 1, by omega, by go_num, by rw [← HO2.out, hst]⟩
                case measure => simp [intOf]; omega
        · obtain rfl : k = n := by omega
          go_wp2_with (go_at_call 27; refine HM.out.mono ?_; rintro e w' ⟨rfl, rfl⟩)
          go_round
          case rel => exact ⟨i + 1, by omega, by go_num, by rw [HNX.out]⟩
          case measure => simp [intOf]; omega
    · obtain rfl : i = n := by omega
      go_wp2_with (go_at_call 27; refine HM.out.mono ?_; rintro e w' ⟨rfl, rfl⟩)
      go_ret
      exact ⟨rfl, rfl⟩
end Go.Proofs.YtmjpdknnglblcaaDoor
