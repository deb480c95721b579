/- The walk of bits.Div64: a long division by two digits. -/
import Derived.Test.YtmpbhgcdkbpdeaaFxW
import Derived.Test.YtmpbhgcdkbpdeaaFxL
import Derived.Deep.DeepCutAuto
import Derived.Deep.CutBlock
namespace Go.Proofs.Ytmpbhgcdkbpdeaa
open Go.RowKit
open Fx
set_option maxRecDepth 100000

theorem bitLen_le64 (x : Nat) (h : x ≤ 18446744073709551615) : Lib.bitLen x ≤ 64 := Lib.bitLen_le x 64 (Nat.le_refl _) (by omega)
theorem lz64_any (x : Int) (w : World) (h0 : 0 ≤ x) (h1 : x ≤ 18446744073709551615) :
    Calls Try.prog 31 #[.int .u64 x] w fun e w' => e = .returned (.int .i64 (64 - Lib.bitLen x.toNat)) ∧ w = w' := by
  have hb := bitLen_le64 x.toNat (by omega)
  go_enter Try.func31, Try.ntmps31
  go_wp2_with (go_at_call 30; refine (len64_any _ _ (by omega) (by omega)).mono ?_; rintro e w' ⟨rfl, rfl⟩)
  go_ret
  refine ⟨congrArg Ending.returned (congrArg (Value.int IntKind.i64) ?_), rfl⟩
  omega
theorem log_any (x : Int) (w : World) (h0 : 0 ≤ x) (h1 : x ≤ 18446744073709551615) :
    Calls Try.prog 17 #[.int .u64 x] w fun e w' => e = .returned (.int .u64 (Lib.bitLen x.toNat)) ∧ w = w' := by
  have hb := bitLen_le64 x.toNat (by omega)
  go_enter Try.func17, Try.ntmps17
  go_wp2_with (go_at_call 30; refine (len64_any _ _ (by omega) (by omega)).mono ?_; rintro e w' ⟨rfl, rfl⟩)
  go_ret
  exact ⟨rfl, rfl⟩

theorem div64_zero (lo d : Int) (w : World) (hl : 0 ≤ lo) (hl' : lo ≤ 18446744073709551615) (hd : 0 < d) (hd' : d ≤ 18446744073709551615) :
    Calls Try.prog 28 #[.int .u64 0, .int .u64 lo, .int .u64 d] w fun e w' => e = .returned (.tuple #[.int .u64 (lo / d), .int .u64 (lo % d)]) ∧ ∃ n, w' = w.drewN n := by
  have h1 : (d == 0) = false := by simp; omega
  go_enter Try.func28, Try.ntmps28
  go_wp2
  go_quiet (fail)
  go_wp2
  go_ret2
  exact ⟨rfl, _, rfl⟩

set_option maxHeartbeats 1000000 in
theorem div64_more (hi lo d : Nat) (w : World) (hh : 0 < hi) (hhd : hi < d) (hl' : lo < 18446744073709551616) (hd' : d < 18446744073709551616) :
    Calls Try.prog 28 #[.int .u64 hi, .int .u64 lo, .int .u64 d] w fun e w' => e = .returned (.tuple #[.int .u64 (((hi * 18446744073709551616 + lo) / d : Nat) : Int), .int .u64 (((hi * 18446744073709551616 + lo) % d : Nat) : Int)]) ∧ w = w' := by
  have h1 : ((d : Int) == 0) = false := by simp; omega
  have h2 : ((hi : Int) == 0) = false := by simp; omega
  have h3 : ¬ (d : Int) ≤ (hi : Int) := by omega
  have hb1 := bitLen_le64 d (by omega)
  have hb2 := bitLen_pos d (by omega) hd'
  obtain ⟨S, hS⟩ : ∃ S, S + Lib.bitLen d = 64 := ⟨64 - Lib.bitLen d, by omega⟩
  obtain ⟨n1, n2, n3, n4, n5, n6⟩ := norm hi lo d (by omega) hd' hhd hl' S hS
  have hS1 : S ≤ 63 := by omega
  have E1 : IntKind.u64.wrap (64 - (Lib.bitLen d : Int)) = (S : Int) := by rw [IntKind.wrap_u64]; omega
  have hT : lo * 2 ^ S % 18446744073709551616 < 18446744073709551616 := Nat.mod_lt _ (by omega)
  have hL : lo / 2 ^ (64 - S) < 18446744073709551616 := Nat.lt_of_le_of_lt (Nat.div_le_self _ _) hl'
  -- the quotient and the rest of the whole
  have hp : 0 < 2 ^ S := Nat.pow_pos (by omega)
  have hq : (hi * 18446744073709551616 + lo) / d = ((hi * 18446744073709551616 + lo) * 2 ^ S) / (d * 2 ^ S) := (Nat.mul_div_mul_right _ _ hp).symm
  have hr : (hi * 18446744073709551616 + lo) % d = ((hi * 18446744073709551616 + lo) * 2 ^ S) % (d * 2 ^ S) / 2 ^ S := by
    rw [Nat.mul_mod_mul_right, Nat.mul_div_cancel _ hp]
  rw [hq, hr, n6]
  have pc : ∀ x : Nat, (x : Int) * 2 ^ S = ((x * 2 ^ S : Nat) : Int) := fun x => by simp
  have E2 : IntKind.u64.wrap ((d : Int) * 2 ^ S) = ((d * 2 ^ S : Nat) : Int) := by rw [pc, IntKind.wrap_u64]; generalize d * 2 ^ S = z at *; omega
  have E3 : IntKind.u64.wrap ((hi : Int) * 2 ^ S) = ((hi * 2 ^ S : Nat) : Int) := by rw [pc, IntKind.wrap_u64]; generalize hi * 2 ^ S = z at *; omega
  have E4 : (lo : Int) / 2 ^ (64 - S) = ((lo / 2 ^ (64 - S) : Nat) : Int) := by simp
  have E5 : IntKind.u64.wrap ((lo : Int) * 2 ^ S) = ((lo * 2 ^ S % 18446744073709551616 : Nat) : Int) := by rw [pc, IntKind.wrap_u64]; generalize lo * 2 ^ S = z at *; omega
  have E6 := bits_or_u64_nat (hi * 2 ^ S) (lo / 2 ^ (64 - S)) n3 hL
  rw [n4] at E6
  clear pc hb1 hb2 hS n4 n6 hq hr hL n3
  generalize hi * 2 ^ S + lo / 2 ^ (64 - S) = U at *
  generalize hi * 2 ^ S = H at *
  generalize lo / 2 ^ (64 - S) = L at *
  generalize d * 2 ^ S = Y at *
  generalize lo * 2 ^ S % 18446744073709551616 = T at *
  have F1 : (Y : Int) / 4294967296 = ((Y / 4294967296 : Nat) : Int) := by omega
  have F2 := Mul64.maskN Y n2
  have F3 : (T : Int) / 4294967296 = ((T / 4294967296 : Nat) : Int) := by omega
  have F4 := Mul64.maskN T hT
  have y0 : Y % 4294967296 < 4294967296 := Nat.mod_lt _ (by omega)
  have y1 : 2147483648 ≤ Y / 4294967296 := by omega
  have y2 : Y / 4294967296 < 4294967296 := by omega
  have ye : 4294967296 * (Y / 4294967296) + Y % 4294967296 = Y := Nat.div_add_mod _ _
  have t0 : T % 4294967296 < 4294967296 := Nat.mod_lt _ (by omega)
  have t2 : T / 4294967296 < 4294967296 := by omega
  have te : 4294967296 * (T / 4294967296) + T % 4294967296 = T := Nat.div_add_mod _ _
  generalize Y / 4294967296 = Y1 at *
  generalize Y % 4294967296 = Y0 at *
  generalize T / 4294967296 = T1 at *
  generalize T % 4294967296 = T0 at *
  have YE := Lib.hid ye
  have TE := Lib.hid te
  clear ye te
  have hY1z : ((Y1 : Int) == 0) = false := by simp; omega
  have hY1p : (0 : Int) < (Y1 : Int) := by omega
  have hY1q : ¬ Y1 = 0 := by omega
  have hU0 : (0 : Int) ≤ (U : Int) := by omega
  have ds := dig_start U T1 Y1 Y0 y1 y0 t2 y2 (by have := YE.out; omega)
  have hld : (U : Int) / (Y1 : Int) = ((U / Y1 : Nat) : Int) := by simp
  obtain ⟨q0, hq0⟩ : ∃ q0, q0 = U / Y1 := ⟨_, rfl⟩
  obtain ⟨r0, hr0⟩ : ∃ r0, r0 = U % Y1 := ⟨_, rfl⟩
  rw [← hq0] at hld ds
  rw [← hr0] at ds
  have DS : DigRel U T1 Y1 Y0 q0 r0 := ds
  obtain ⟨ds1, ds2, ds3, ds4⟩ := ds
  have hlp : IntKind.u64.wrap ((U : Int) - IntKind.u64.wrap ((q0 : Int) * (Y1 : Int))) = (r0 : Int) := by
    have e : (q0 : Int) * (Y1 : Int) + (r0 : Int) = (U : Int) := by rw [← ds1]; simp
    generalize (q0 : Int) * (Y1 : Int) = z at *
    rw [IntKind.wrap_u64, IntKind.wrap_u64]; omega
  clear hq0 hr0 ds1 ds2
  go_enter Try.func28, Try.ntmps28
  go_upto_block 0 with (go_at_call 31; refine (lz64_any _ _ (by omega) (by omega)).mono ?_; rintro e w' ⟨rfl, rfl⟩)
  go_cut [15, 16] (fun q _ wx => wx = w ∧ ∃ Q R : Nat, q = .int .u64 (Q : Int) ∧ DigOut U T1 Y Q R)
  case first =>
    go_wp2
    go_loop [15, 16] (fun q r => ∃ Q R : Nat, q = .int .u64 (Q : Int) ∧ r = .int .u64 (R : Int) ∧ DigRel U T1 Y1 Y0 Q R) (fun q _ => (intOf q).toNat)
    case atStart => exact ⟨q0, r0, rfl, rfl, DS⟩
    case round =>
      obtain ⟨Q, R, rfl, rfl, hd⟩ := hrel
      have hQ := hd.2.2.1
      have hR := hd.2.2.2
      clear E1 E2 E3 E4 E5 E6 F1 F2 F3 F4 hld hlp h1 h2 h3 hY1z hY1p hY1q n1 n2
      have hU1 : U < Y1 * 4294967296 + Y0 := by have := YE.out; omega
      have hmore := rel_more U T1 Y1 Y0 Q R hd t2 y0 y1 hU1
      have hend := rel_end U T1 Y1 Y0 Q R hd y1
      have hout := fun q h => out_of U T1 Y1 Y0 Y q t2 n5 YE.out h
      have e1 : IntKind.u64.wrap (4294967296 * (R : Int)) = ((4294967296 * R : Nat) : Int) := by rw [IntKind.wrap_u64]; omega
      have e2 : IntKind.u64.wrap (((4294967296 * R : Nat) : Int) + (T1 : Int)) = ((4294967296 * R + T1 : Nat) : Int) := by rw [IntKind.wrap_u64]; omega
      have e3 : Q < 4294967296 → IntKind.u64.wrap ((Q : Int) * (Y0 : Int)) = ((Q * Y0 : Nat) : Int) := by
        intro c1
        have := Nat.mul_le_mul (show Q ≤ 4294967295 by omega) (show Y0 ≤ 4294967295 by omega)
        rw [← Int.natCast_mul, IntKind.wrap_u64]; generalize Q * Y0 = z at *; omega
      have e4 : IntKind.u64.wrap ((R : Int) + (Y1 : Int)) = ((R + Y1 : Nat) : Int) := by rw [IntKind.wrap_u64]; omega
      have e5 : 1 ≤ Q → IntKind.u64.wrap ((Q : Int) - 1) = ((Q - 1 : Nat) : Int) := by intro h1; rw [IntKind.wrap_u64]; omega
      obtain ⟨RT, hRT⟩ : ∃ RT, RT = 4294967296 * R + T1 := ⟨_, rfl⟩
      obtain ⟨QY, hQY⟩ : ∃ QY, QY = Q * Y0 := ⟨_, rfl⟩
      obtain ⟨RY, hRY⟩ : ∃ RY, RY = R + Y1 := ⟨_, rfl⟩
      rw [← hRT] at e2 hmore hend
      rw [← hQY] at e3 hmore hend
      rw [← hRY] at e4 hmore
      obtain ⟨RB, hRB⟩ : ∃ RB, RB = 4294967296 * R := ⟨_, rfl⟩
      rw [← hRB] at e1 e2
      clear hRT hQY hRY hRB
      have HE := Lib.hid hend
      have HO := Lib.hid hout
      clear hQ hR hend hout hU1 y1 y2 y0 t2 t0 hT ds3 ds4 hl' hd'
      by_cases c1 : Q < 4294967296
      · replace e3 := e3 c1
        have c1' : ¬ (4294967296 : Int) ≤ (Q : Int) := by omega
        clear c1
        by_cases c2 : RT < QY
        · have c2' : (RT : Int) < (QY : Int) := by omega
          obtain ⟨m1, m2, m3⟩ := hmore (Or.inr c2)
          replace e5 := e5 m1
          have hme : Hid (Q - 1 < Q) := by exact Lib.hid (by omega)
          generalize Q - 1 = QP at *
          clear m1
          by_cases c3 : RY < 4294967296
          · have c3' : ¬ (4294967296 : Int) ≤ (RY : Int) := by omega
            replace m2 := m2 c3
            clear c3 m3
            go_wp2
            go_round
            case rel => exact ⟨QP, RY, rfl, rfl, m2⟩
            case measure => have := hme.out; simp [intOf]; omega
          · have c3' : 4294967296 ≤ (RY : Int) := by omega
            replace m3 := HO.out _ (m3 (by omega))
            clear c3 m2
            go_wp2
            go_meet
            case rel => exact ⟨rfl, QP, _, rfl, m3⟩
        · have c2' : ¬ (RT : Int) < (QY : Int) := by omega
          have hh := HO.out _ (HE.out (by omega))
          clear hmore e5
          go_wp2
          go_meet
          case rel => exact ⟨rfl, Q, _, rfl, hh⟩
      · have c1' : (4294967296 : Int) ≤ (Q : Int) := by omega
        obtain ⟨m1, m2, m3⟩ := hmore (Or.inl (by omega))
        replace e5 := e5 m1
        have hme : Hid (Q - 1 < Q) := by exact Lib.hid (by omega)
        generalize Q - 1 = QP at *
        clear m1 e3 c1
        by_cases c3 : RY < 4294967296
        · have c3' : ¬ (4294967296 : Int) ≤ (RY : Int) := by omega
          replace m2 := m2 c3
          clear c3 m3
          go_wp2
          go_round
          case rel => exact ⟨QP, RY, rfl, rfl, m2⟩
          case measure => have := hme.out; simp [intOf]; omega
        · have c3' : 4294967296 ≤ (RY : Int) := by omega
          replace m3 := HO.out _ (m3 (by omega))
          clear c3 m2
          go_wp2
          go_meet
          case rel => exact ⟨rfl, QP, _, rfl, m3⟩
  case rest =>
    obtain ⟨hwc, Q1, R1, hu, hdo⟩ := hcut
    subst hwc hu
    obtain ⟨do1, do2, n6⟩ := hdo
    have e6 : IntKind.u64.wrap (IntKind.u64.wrap (IntKind.u64.wrap ((U : Int) * 4294967296) + (T1 : Int)) - IntKind.u64.wrap ((Q1 : Int) * (Y : Int))) = (R1 : Int) := by
      have e : (Y : Int) * (Q1 : Int) + (R1 : Int) = 4294967296 * (U : Int) + (T1 : Int) := by omega
      have e' : (Q1 : Int) * (Y : Int) = 4294967296 * (U : Int) + (T1 : Int) - (R1 : Int) := by rw [Int.mul_comm]; omega
      rw [e', Int.mul_comm (U : Int)]
      simp only [IntKind.wrap_u64]
      omega
    have hfin := dig_two U T1 T0 Y Q1 R1 (by omega) do1
    have ds := dig_start R1 T0 Y1 Y0 y1 y0 t0 y2 (by have := YE.out; omega)
    have hld1 : (R1 : Int) / (Y1 : Int) = ((R1 / Y1 : Nat) : Int) := by simp
    obtain ⟨q1, hq1⟩ : ∃ q1, q1 = R1 / Y1 := ⟨_, rfl⟩
    obtain ⟨r1, hr1⟩ : ∃ r1, r1 = R1 % Y1 := ⟨_, rfl⟩
    rw [← hq1] at hld1 ds
    rw [← hr1] at ds
    have DS1 : DigRel R1 T0 Y1 Y0 q1 r1 := ds
    obtain ⟨ds1, ds2, ds3', ds4'⟩ := ds
    have hlp1 : IntKind.u64.wrap ((R1 : Int) - IntKind.u64.wrap ((q1 : Int) * (Y1 : Int))) = (r1 : Int) := by
      have e : (q1 : Int) * (Y1 : Int) + (r1 : Int) = (R1 : Int) := by rw [← ds1]; simp
      generalize (q1 : Int) * (Y1 : Int) = z at *
      rw [IntKind.wrap_u64, IntKind.wrap_u64]; omega
    have DO := Lib.hid (And.intro do1 do2)
    have hR0 : (0 : Int) ≤ (R1 : Int) := by omega
    have hR1 : (R1 : Int) ≤ 18446744073709551615 := by omega
    have hq1b : (q1 : Int) ≤ 18446744073709551615 := by omega
    have HF := Lib.hid hfin
    clear hq1 hr1 ds1 ds2 ds3' ds4' do1 do2 hfin DS
    clear E1 E2 E3 E4 E5 E6 F1 F2 F3 F4 hld hlp
    clear ds3 ds4
    go_upto_block 2 with fail
    go_cut [18, 16] (fun q _ wx => wx = wc ∧ ∃ Q R : Nat, q = .int .u64 (Q : Int) ∧ DigOut R1 T0 Y Q R)
    case first =>
      go_wp2
      go_loop [18, 16] (fun q r => ∃ Q R : Nat, q = .int .u64 (Q : Int) ∧ r = .int .u64 (R : Int) ∧ DigRel R1 T0 Y1 Y0 Q R) (fun q _ => (intOf q).toNat)
      case atStart => exact ⟨q1, r1, rfl, rfl, DS1⟩
      case round =>
        obtain ⟨Q, R, rfl, rfl, hd⟩ := hrel
        have hQ := hd.2.2.1
        have hR := hd.2.2.2
        clear h1 h2 h3 hY1z hY1p hY1q n1 n2 hld1 hlp1 hR0 hR1 hq1b e6
        have hU1 : R1 < Y1 * 4294967296 + Y0 := by have := YE.out; omega
        have hmore := rel_more R1 T0 Y1 Y0 Q R hd t0 y0 y1 hU1
        have hend := rel_end R1 T0 Y1 Y0 Q R hd y1
        have hout := fun q h => out_of R1 T0 Y1 Y0 Y q t0 n6 YE.out h
        have e1 : IntKind.u64.wrap (4294967296 * (R : Int)) = ((4294967296 * R : Nat) : Int) := by rw [IntKind.wrap_u64]; omega
        have e2 : IntKind.u64.wrap (((4294967296 * R : Nat) : Int) + (T0 : Int)) = ((4294967296 * R + T0 : Nat) : Int) := by rw [IntKind.wrap_u64]; omega
        have e3 : Q < 4294967296 → IntKind.u64.wrap ((Q : Int) * (Y0 : Int)) = ((Q * Y0 : Nat) : Int) := by
          intro c1
          have := Nat.mul_le_mul (show Q ≤ 4294967295 by omega) (show Y0 ≤ 4294967295 by omega)
          rw [← Int.natCast_mul, IntKind.wrap_u64]; generalize Q * Y0 = z at *; omega
        have e4 : IntKind.u64.wrap ((R : Int) + (Y1 : Int)) = ((R + Y1 : Nat) : Int) := by rw [IntKind.wrap_u64]; omega
        have e5 : 1 ≤ Q → IntKind.u64.wrap ((Q : Int) - 1) = ((Q - 1 : Nat) : Int) := by intro h1; rw [IntKind.wrap_u64]; omega
        obtain ⟨RT, hRT⟩ : ∃ RT, RT = 4294967296 * R + T0 := ⟨_, rfl⟩
        obtain ⟨QY, hQY⟩ : ∃ QY, QY = Q * Y0 := ⟨_, rfl⟩
        obtain ⟨RY, hRY⟩ : ∃ RY, RY = R + Y1 := ⟨_, rfl⟩
        rw [← hRT] at e2 hmore hend
        rw [← hQY] at e3 hmore hend
        rw [← hRY] at e4 hmore
        obtain ⟨RB, hRB⟩ : ∃ RB, RB = 4294967296 * R := ⟨_, rfl⟩
        rw [← hRB] at e1 e2
        clear hRT hQY hRY hRB
        have HE := Lib.hid hend
        have HO := Lib.hid hout
        clear hQ hR hend hout hU1 y1 y2 y0 t2 t0 hT hl' hd'
        by_cases c1 : Q < 4294967296
        · replace e3 := e3 c1
          have c1' : ¬ (4294967296 : Int) ≤ (Q : Int) := by omega
          clear c1
          by_cases c2 : RT < QY
          · have c2' : (RT : Int) < (QY : Int) := by omega
            obtain ⟨m1, m2, m3⟩ := hmore (Or.inr c2)
            replace e5 := e5 m1
            have hme : Hid (Q - 1 < Q) := by exact Lib.hid (by omega)
            generalize Q - 1 = QP at *
            clear m1
            by_cases c3 : RY < 4294967296
            · have c3' : ¬ (4294967296 : Int) ≤ (RY : Int) := by omega
              replace m2 := m2 c3
              clear c3 m3
              go_wp2
              go_round
              case rel => exact ⟨QP, RY, rfl, rfl, m2⟩
              case measure => have := hme.out; simp [intOf]; omega
            · have c3' : 4294967296 ≤ (RY : Int) := by omega
              replace m3 := HO.out _ (m3 (by omega))
              clear c3 m2
              go_wp2
              go_meet
              case rel => exact ⟨rfl, QP, _, rfl, m3⟩
          · have c2' : ¬ (RT : Int) < (QY : Int) := by omega
            have hh := HO.out _ (HE.out (by omega))
            clear hmore e5
            go_wp2
            go_meet
            case rel => exact ⟨rfl, Q, _, rfl, hh⟩
        · have c1' : (4294967296 : Int) ≤ (Q : Int) := by omega
          obtain ⟨m1, m2, m3⟩ := hmore (Or.inl (by omega))
          replace e5 := e5 m1
          have hme : Hid (Q - 1 < Q) := by exact Lib.hid (by omega)
          generalize Q - 1 = QP at *
          clear m1 e3 c1
          by_cases c3 : RY < 4294967296
          · have c3' : ¬ (4294967296 : Int) ≤ (RY : Int) := by omega
            replace m2 := m2 c3
            clear c3 m3
            go_wp2
            go_round
            case rel => exact ⟨QP, RY, rfl, rfl, m2⟩
            case measure => have := hme.out; simp [intOf]; omega
          · have c3' : 4294967296 ≤ (RY : Int) := by omega
            replace m3 := HO.out _ (m3 (by omega))
            clear c3 m2
            go_wp2
            go_meet
            case rel => exact ⟨rfl, QP, _, rfl, m3⟩
    case rest =>
      obtain ⟨hwc, Q0, R0, hu, hdo⟩ := hcut
      subst hwc hu
      obtain ⟨do1, do2, n7⟩ := hdo
      obtain ⟨ea, eb⟩ := HF.out
      have hwhole : 18446744073709551616 * U + (4294967296 * T1 + T0) = U * 18446744073709551616 + T := by rw [TE.out, Nat.mul_comm]
      rw [hwhole] at ea eb
      have hY : 0 < Y := by omega
      have eq0 : (4294967296 * R1 + T0) / Y = Q0 := by
        rw [← do1]
        rw [Nat.mul_add_div hY, Nat.div_eq_of_lt n7]; rfl
      have er0 : (4294967296 * R1 + T0) % Y = R0 := by
        rw [← do1, Nat.mul_add_mod, Nat.mod_eq_of_lt n7]
      rw [eq0] at ea
      rw [er0] at eb
      have q1b := DO.out.2
      have e7 : IntKind.u64.wrap (IntKind.u64.wrap ((Q1 : Int) * 4294967296) + (Q0 : Int)) = ((4294967296 * Q1 + Q0 : Nat) : Int) := by
        rw [Int.mul_comm]; simp only [IntKind.wrap_u64]; omega
      have e8 : IntKind.u64.wrap (IntKind.u64.wrap (IntKind.u64.wrap ((R1 : Int) * 4294967296) + (T0 : Int)) - IntKind.u64.wrap ((Q0 : Int) * (Y : Int))) = (R0 : Int) := by
        have e : (Y : Int) * (Q0 : Int) + (R0 : Int) = 4294967296 * (R1 : Int) + (T0 : Int) := by omega
        have e' : (Q0 : Int) * (Y : Int) = 4294967296 * (R1 : Int) + (T0 : Int) - (R0 : Int) := by rw [Int.mul_comm]; omega
        rw [e', Int.mul_comm (R1 : Int)]
        simp only [IntKind.wrap_u64]
        omega
      have EA := Lib.hid ea
      have EB := Lib.hid eb
      clear ea eb do1 do2 n7 hwhole eq0 er0 q1b HF DO hY y1 y2 y0 t2 t0 hT hl' hd' n1 n2 n5 n6 e6
      go_wp2
      go_ret2
      refine ⟨?_, rfl⟩
      rw [EA.out, EB.out]
      simp

theorem div64_any (hi lo d : Int) (w : World) (h0 : 0 ≤ hi) (hhd : hi < d) (hl : 0 ≤ lo) (hl' : lo ≤ 18446744073709551615) (hd' : d ≤ 18446744073709551615) :
    Calls Try.prog 28 #[.int .u64 hi, .int .u64 lo, .int .u64 d] w fun e w' => e = .returned (.tuple #[.int .u64 ((hi * 18446744073709551616 + lo) / d), .int .u64 ((hi * 18446744073709551616 + lo) % d)]) ∧ ∃ n, w' = w.drewN n := by
  by_cases hz : hi = 0
  · subst hz
    rw [show (0 : Int) * 18446744073709551616 + lo = lo from by omega]
    exact div64_zero lo d w hl hl' hhd hd'
  · obtain ⟨A, rfl⟩ := Int.eq_ofNat_of_zero_le h0
    obtain ⟨B, rfl⟩ := Int.eq_ofNat_of_zero_le hl
    obtain ⟨D, rfl⟩ := Int.eq_ofNat_of_zero_le (show 0 ≤ d by omega)
    have e : (A : Int) * 18446744073709551616 + (B : Int) = ((A * 18446744073709551616 + B : Nat) : Int) := by omega
    rw [e, ← Int.natCast_ediv, ← Int.natCast_emod]
    refine (div64_more A B D w (by omega) (by omega) (by omega) (by omega)).mono ?_
    rintro e w' ⟨he, rfl⟩
    exact ⟨he, 0, rfl⟩
end Go.Proofs.Ytmpbhgcdkbpdeaa
