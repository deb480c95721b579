/- The walks of the reference's Sets and Splits. -/
import Derived.Test.YtmjpdknnglblcaaDoorGrA4
import Derived.Test.YtmjpdknnglblcaaDoorGrL
namespace Go.Proofs.YtmjpdknnglblcaaDoor
open Go.RowKit
open Gr Go.Deep
set_option maxRecDepth 100000

set_option maxHeartbeats 1000000 in
theorem RSets_any (a : Option Addr) (len cap : Nat) (es : List Nat) (w : World) (h : EdgesAt w a len cap es) :
    Calls Tryd.prog 17 #[.slice a len cap] w fun e w' => ∃ v, e = .returned v ∧ w'.ownsRow w.heap.size 23 1 v (setsL es.length (adj es es.length)).length ((setsL es.length (adj es es.length)).map U32) ∧ Below w.heap.size w w' := by
  have hn := h.le12
  have hl63 : len < 2 ^ 63 := by have := h.1; have := h.2.1; unfold maxLen at this; omega
  have HM := Lib.hid (fun W => Many_any a len cap W hl63)
  rw [← h.2.2.1] at HM
  have HCN := Lib.hid (fun s W hb hs => RConn_any a len cap s es W (h.later hb) hs)
  obtain ⟨n, hn'⟩ : ∃ n, n = es.length := ⟨_, rfl⟩
  rw [← hn'] at HM HCN hn ⊢
  clear h hn' hl63
  generalize adj es n = A at *
  obtain ⟨i0, hi, hz0, hz1, hz2⟩ := info_parts info23
  have hpn : 2 ^ n ≤ 4096 := Nat.le_trans (Nat.pow_le_pow_right (by omega) hn) (by decide)
  obtain ⟨P, hP⟩ : ∃ P, P = 2 ^ n := ⟨_, rfl⟩
  have hall0 : IntKind.u32.wrap ((2 : Int) ^ n) = (P : Int) := by
    have e : (2 : Int) ^ n = ((2 ^ n : Nat) : Int) := by simp
    rw [wrap_u32', e]; omega
  have HP := Lib.hid (And.intro hP hpn)
  clear hpn hP
  go_enter Tryd.func17, Tryd.ntmps17
  go_wp2
  go_loopw [3, 4] (fun v s wr => ∃ k : Nat, s = .int .u32 k ∧ k ≤ P ∧ OutSt w 23 1 v (setsTo n A k).length ((setsTo n A k).map U32) wr) (fun _ s _ => P - (intOf s).toNat)
  case atStart => exact ⟨0, rfl, by omega, World.ownsRow_nil _ _ _ _, Below.refl _ _⟩
  case round =>
    obtain ⟨k, rfl, hk, hown, hbl⟩ := hrel
    obtain ⟨hP, hpn⟩ := HP.out
    by_cases hlt : k < P
    · have HC := Lib.hid (HCN.out k wr hbl (by omega))
      have hsucc := Lib.hid (setsTo_succ n A k)
      have hle := setsTo_len n A k
      have hsz := hbl.size
      have HBL := Lib.hid hbl
      have hk1 : IntKind.u32.wrap ((k : Int) + 1) = ((k + 1 : Nat) : Int) := by rw [wrap_u32']; omega
      have hle12 : (setsTo n A k).length ≤ 4096 := by omega
      obtain ⟨kk, hkk⟩ : ∃ x, x = k + 1 := ⟨_, rfl⟩
      rw [← hkk] at hk1
      have HKK := Lib.hid hkk
      have hlti : (k : Int) < (P : Int) := by omega
      clear hbl hP hpn hle hkk hk
      cases hcb : connB n A k with
      | true =>
        rw [hcb] at HC hsucc
        clear hcb
        go_wp2_with (first | (go_at_call 27; refine (HM.out _).mono ?_; rintro e w' ⟨rfl, rfl⟩) | (go_at_call 12; refine HC.out.mono ?_; rintro e w' ⟨rfl, rfl⟩) | (at_builtin; refine wpList_append_own _ rfl _ _ 22 rfl w.heap.size 23 i0 (.int .u32 0) 1 4 Tryd.underlying22 hi hz0 hz1 hz2 rfl (by decide) _ _ _ rfl (hown.alloc _) ⟨wr.heap.size, 0, none⟩ 1 1 [.int .u32 (k : Int)] rfl rfl (cell_one_new _ _ _) (by simp [Value.oneCell']) (by unfold maxLen; omega) (by omega) (by simp; omega) ?_; intro v' w2 hown' hgrow _))
        refine ⟨⟨kk, rfl, by have := HKK.out; omega, ?_, ?_⟩, ?_⟩
        · rw [HKK.out, hsucc.out, if_pos trivial, List.length_append, List.map_append]; exact hown'
        · exact HBL.out.trans (((Below.refl _ wr).alloc hsz _).grown hgrow (by simp; omega) (fun j hj => ownsRow_block hown j hj))
        · have := HKK.out; simp [intOf]; omega
      | false =>
        rw [hcb] at HC hsucc
        clear hcb
        go_wp2_with (first | (go_at_call 27; refine (HM.out _).mono ?_; rintro e w' ⟨rfl, rfl⟩) | (go_at_call 12; refine HC.out.mono ?_; rintro e w' ⟨rfl, rfl⟩))
        refine ⟨⟨kk, rfl, by have := HKK.out; omega, ?_, HBL.out⟩, ?_⟩
        · rw [HKK.out, hsucc.out, if_neg (by simp)]; exact hown
        · have := HKK.out; simp [intOf]; omega
    · obtain rfl : k = P := by omega
      have HO := Lib.hid hown
      have HBL := Lib.hid hbl
      clear hown hbl
      go_wp2_with (go_at_call 27; refine (HM.out _).mono ?_; rintro e w' ⟨rfl, rfl⟩)
      go_ret
      exact ⟨_, rfl, by have := HO.out; rw [hP] at this; exact this, HBL.out⟩

namespace Gr
def rTest (n : Nat) (A : Nat → Nat → Bool) (s a : Nat) : Bool := ((a ||| s == s) && a.testBit (lowB s)) && both n A s a
def rTo (n : Nat) (A : Nat → Nat → Bool) (s k : Nat) : List (Nat × Nat) := ((List.range k).filter (rTest n A s)).map (pairOf s)
theorem rTo_succ (n : Nat) (A : Nat → Nat → Bool) (s k : Nat) : rTo n A s (k + 1) = if rTest n A s k then rTo n A s k ++ [pairOf s k] else rTo n A s k := by
  unfold rTo
  rw [List.range_succ, List.filter_append]
  cases h : rTest n A s k <;> simp [h]
theorem rTo_len (n : Nat) (A : Nat → Nat → Bool) (s k : Nat) : (rTo n A s k).length ≤ k := by
  have := List.length_filter_le (rTest n A s) (List.range k)
  unfold rTo
  simpa using this
theorem rTo_end (n : Nat) (A : Nat → Nat → Bool) (s : Nat) (hc : connB n A s = true) : rTo n A s s = splitsL n A s := by
  unfold rTo splitsL partsL
  rw [if_pos hc, List.filter_filter]
  congr 1
  congr 1
  funext a
  exact Bool.and_comm _ _
end Gr

set_option maxHeartbeats 2000000 in
theorem RSplits_any (a : Option Addr) (len cap s : Nat) (es : List Nat) (w : World) (h : EdgesAt w a len cap es) (hs32 : s < 4294967296) (h8 : es.length ≤ 8) :
    Calls Tryd.prog 19 #[.slice a len cap, .int .u32 s] w fun e w' => ∃ v, e = .returned v ∧ w'.ownsRow w.heap.size 27 2 v (splitsL es.length (adj es es.length) s).length (flatP (splitsL es.length (adj es es.length) s)) ∧ Below w.heap.size w w' := by
  have HCN := Lib.hid (fun s W hb hs => RConn_any a len cap s es W (h.later hb) hs)
  obtain ⟨n, hn'⟩ : ∃ n, n = es.length := ⟨_, rfl⟩
  rw [← hn'] at HCN h8 ⊢
  clear h hn'
  generalize adj es n = A at *
  obtain ⟨i0, hi, hz0, hz1, hz2⟩ := info_parts info27
  cases hcon : connB n A s with
  | false =>
    have e : splitsL n A s = [] := by unfold splitsL; rw [if_neg (by rw [hcon]; simp)]
    rw [e]
    have HC := Lib.hid (HCN.out s w (Below.refl _ _) hs32)
    rw [hcon] at HC
    clear hcon e
    go_enter Tryd.func19, Tryd.ntmps19
    go_wp2_with (go_at_call 12; refine HC.out.mono ?_; rintro e w' ⟨rfl, rfl⟩)
    go_ret
    exact ⟨_, rfl, World.ownsRow_nil _ _ _ _, Below.refl _ _⟩
  | true =>
    have HC := Lib.hid (HCN.out s w (Below.refl _ _) hs32)
    rw [hcon] at HC
    have h0 : s ≠ 0 := by intro e; subst e; simp [connB] at hcon
    have hs : s < 256 := by
      have h1 : s < 2 ^ n := by unfold connB at hcon; simp only [Bool.and_eq_true, decide_eq_true_eq] at hcon; exact hcon.1.2
      have h2 : 2 ^ n ≤ 2 ^ 8 := Nat.pow_le_pow_right (by omega) h8
      omega
    have HEnd := Lib.hid (rTo_end n A s hcon)
    have HL := Lib.hid (fun W => RLeast_any s W hs32 h0)
    have HL32 := Lib.hid (low_lt' s 32 h0 hs32 hs32)
    have HPS := Lib.hid (parts_spec s h0 hs).2
    clear hcon h0
    go_enter Tryd.func19, Tryd.ntmps19
    go_wp2_with (go_at_call 12; refine HC.out.mono ?_; rintro e w' ⟨rfl, rfl⟩)
    go_loopw [5, 6] (fun v i wr => ∃ k : Nat, i = .int .u32 k ∧ k ≤ s ∧ OutSt w 27 2 v (rTo n A s k).length (flatP (rTo n A s k)) wr) (fun _ i _ => s - (intOf i).toNat)
    case atStart => exact ⟨0, rfl, by omega, World.ownsRow_nil _ _ _ _, Below.refl _ _⟩
    case round =>
      obtain ⟨k, rfl, hk, hown, hbl⟩ := hrel
      by_cases hlt : k < s
      · have hsucc := rTo_succ n A s k
        have HC1 := Lib.hid (HCN.out k wr hbl (by omega))
        have HC2 := Lib.hid (HCN.out (s - k) wr hbl (by omega))
        have hle := rTo_len n A s k
        have hk32 : k < 4294967296 := by omega
        have hle12 : (rTo n A s k).length ≤ 256 := by omega
        have hk1 : IntKind.u32.wrap ((k : Int) + 1) = ((k + 1 : Nat) : Int) := by rw [wrap_u32']; omega
        have hlti : (k : Int) < (s : Int) := by omega
        have hsz := hbl.size
        have E1 := u32_or_nat k s hk32 hs32
        have hsub : IntKind.u32.wrap ((s : Int) - (k : Int)) = ((s - k : Nat) : Int) := by rw [wrap_u32']; omega
        have HBL := Lib.hid hbl
        have hme : (k ||| s == s) = true → k.testBit (lowB s) = true → dif s k = s - k := fun h1 h2 => HPS.out k (by unfold partsL; exact List.mem_filter.2 ⟨List.mem_range.2 hlt, by rw [h1, h2]; rfl⟩)
        have hbo : both n A s k = (connB n A k && connB n A (dif s k)) := rfl
        have hpo : pairOf s k = (k, dif s k) := rfl
        unfold rTest at hsucc
        rw [hbo, hpo] at hsucc
        clear hbo hpo
        have HHA := Lib.hid (has_any k (lowB s) wr hk32 HL32.out)
        obtain ⟨o, ho⟩ : ∃ o, o = k ||| s := ⟨_, rfl⟩
        rw [← ho] at E1 hsucc hme
        obtain ⟨l, hl⟩ : ∃ l, l = lowB s := ⟨_, rfl⟩
        rw [← hl] at HL HHA hsucc hme
        obtain ⟨d, hd⟩ : ∃ d, d = s - k := ⟨_, rfl⟩
        rw [← hd] at hsub HC2 hme
        obtain ⟨kk, hkk⟩ : ∃ x, x = k + 1 := ⟨_, rfl⟩
        rw [← hkk] at hk1 hsucc
        have HKK := Lib.hid hkk
        have hd32 : d < 4294967296 := by omega
        clear hbl hle hkk hk ho hl hd
        have out : ∀ (c : Bool), c = false → (if c = true then rTo n A s k ++ [(k, dif s k)] else rTo n A s k) = rTo n A s k := fun c hc => by rw [hc]; rfl
        by_cases t1 : o = s
        · subst t1
          cases t2 : k.testBit l with
          | false =>
            rw [t2] at HHA
            rw [t2, out _ (by simp)] at hsucc
            have HS := Lib.hid hsucc
            clear hsucc out hme t2
            go_wp2_with (first | (go_at_call 31; refine (HL.out _).mono ?_; rintro e w' ⟨rfl, rfl⟩) | (go_at_call 28; refine HHA.out.mono ?_; rintro e w' ⟨rfl, rfl⟩))
            refine ⟨⟨kk, rfl, by have := HKK.out; omega, ?_, HBL.out⟩, ?_⟩
            · rw [HS.out]; exact hown
            · have := HKK.out; simp [intOf]; omega
          | true =>
            rw [t2] at HHA
            rw [hme (by simp) t2, t2] at hsucc
            have fls : (o == o && true) = true := by simp
            rw [fls, Bool.true_and] at hsucc
            clear hme t2 fls out
            cases c1 : connB n A k with
            | false =>
              rw [c1, Bool.false_and, if_neg (by simp)] at hsucc
              rw [c1] at HC1
              have HS := Lib.hid hsucc
              clear hsucc c1
              go_wp2_with (first | (go_at_call 31; refine (HL.out _).mono ?_; rintro e w' ⟨rfl, rfl⟩) | (go_at_call 28; refine HHA.out.mono ?_; rintro e w' ⟨rfl, rfl⟩) | (go_at_call 12; refine HC1.out.mono ?_; rintro e w' ⟨rfl, rfl⟩))
              refine ⟨⟨kk, rfl, by have := HKK.out; omega, ?_, HBL.out⟩, ?_⟩
              · rw [HS.out]; exact hown
              · have := HKK.out; simp [intOf]; omega
            | true =>
              cases c2 : connB n A d with
              | false =>
                rw [c1, c2, Bool.and_false, if_neg (by simp)] at hsucc
                have HS := Lib.hid hsucc
                have X1 := Lib.hid c1
                have X2 := Lib.hid c2
                clear hsucc c1 c2
                go_wp2_with (first | (go_at_call 31; refine (HL.out _).mono ?_; rintro e w' ⟨rfl, rfl⟩) | (go_at_call 28; refine HHA.out.mono ?_; rintro e w' ⟨rfl, rfl⟩) | (go_at_call 12; refine (HCN.out _ _ HBL.out (by assumption)).mono ?_; (first | rw [X1.out] | rw [X2.out]); rintro e w' ⟨rfl, rfl⟩))
                refine ⟨⟨kk, rfl, by have := HKK.out; omega, ?_, HBL.out⟩, ?_⟩
                · rw [HS.out]; exact hown
                · have := HKK.out; simp [intOf]; omega
              | true =>
                rw [c1, c2, Bool.and_true, if_pos rfl] at hsucc
                have HS := Lib.hid hsucc
                have X1 := Lib.hid c1
                have X2 := Lib.hid c2
                clear hsucc c1 c2
                go_wp2_with (first | (go_at_call 31; refine (HL.out _).mono ?_; rintro e w' ⟨rfl, rfl⟩) | (go_at_call 28; refine HHA.out.mono ?_; rintro e w' ⟨rfl, rfl⟩) | (go_at_call 12; refine (HCN.out _ _ HBL.out (by assumption)).mono ?_; (first | rw [X1.out] | rw [X2.out]); rintro e w' ⟨rfl, rfl⟩) | (at_builtin; refine wpList_append_own _ rfl _ _ 25 rfl w.heap.size 27 i0 (.agg #[.int .u32 0, .int .u32 0]) 2 8 Tryd.underlying25 hi hz0 hz1 hz2 rfl (by decide) _ _ _ rfl (hown.alloc _) ⟨wr.heap.size, 0, none⟩ 1 1 [.int .u32 (k : Int), .int .u32 (d : Int)] rfl rfl (cell_two_new _ _ _ _) (by simp [Value.oneCell']) (by unfold maxLen; omega) (by omega) (by simp; omega) ?_; intro v' w2 hown' hgrow _))
                refine ⟨⟨kk, rfl, by have := HKK.out; omega, ?_, ?_⟩, ?_⟩
                · rw [HS.out, List.length_append, flatP_snoc]; exact hown'
                · exact HBL.out.trans (((Below.refl _ wr).alloc hsz _).grown hgrow (by simp; omega) (fun j hj => ownsRow_block hown j hj))
                · have := HKK.out; simp [intOf]; omega
        · have hz : ((o : Int) == (s : Int)) = false := by simp; omega
          have hoo : (o == s) = false := by simp; exact t1
          rw [hoo, Bool.false_and, Bool.false_and, out _ rfl] at hsucc
          have HS := Lib.hid hsucc
          clear hsucc out hme t1 hoo
          go_wp2
          refine ⟨⟨kk, rfl, by have := HKK.out; omega, ?_, HBL.out⟩, ?_⟩
          · rw [HS.out]; exact hown
          · have := HKK.out; simp [intOf]; omega
      · obtain rfl : k = s := by omega
        have HO := Lib.hid hown
        have HBL := Lib.hid hbl
        clear hown hbl
        go_wp2
        go_ret
        exact ⟨_, rfl, by rw [← HEnd.out]; exact HO.out, HBL.out⟩
end Go.Proofs.YtmjpdknnglblcaaDoor
