/- The walk of the reference's Edges. -/
import Derived.Test.YtmjpdknnglblcaaDoorGrD4
import Derived.Deep.DeepCutAuto
namespace Go.Proofs.YtmjpdknnglblcaaDoor
open Go.RowKit
open Gr Go.Deep
set_option maxRecDepth 100000

/-- Does one of the expressions name both? -/
def pairB (ts : List Tx) (i k : Nat) : Bool := decide (i ≠ k) && ts.any fun t => (relsT t).testBit i && (relsT t).testBit k
theorem rowS_eq (n : Nat) (ts : List Tx) (i : Nat) : rowS n ts i = ofB n (pairB ts i) := rfl
theorem ofB_next (k : Nat) (p : Nat → Bool) : ofB (k + 1) p = if p k then ofB k p ||| 2 ^ k else ofB k p := by
  apply Nat.eq_of_testBit_eq
  intro j
  rw [testBit_ofB]
  cases hp : p k with
  | true =>
    rw [if_pos rfl, Nat.testBit_or, testBit_ofB, Nat.testBit_two_pow]
    by_cases hj : k = j
    · subst hj; simp [hp]
    · have e : decide (j < k + 1) = decide (j < k) := by rw [decide_eq_decide]; omega
      rw [e]; simp [hj]
  | false =>
    rw [if_neg (by simp), testBit_ofB]
    by_cases hj : k = j
    · subst hj; simp [hp]
    · have e : decide (j < k + 1) = decide (j < k) := by rw [decide_eq_decide]; omega
      rw [e]
/-- .. behind so many expressions. -/
def sAt (ts : List Tx) (i k j : Nat) : Nat := if pairB (ts.take j) i k then ofB k (pairB ts i) ||| 2 ^ k else ofB k (pairB ts i)
theorem sAt_zero (ts : List Tx) (i k : Nat) : sAt ts i k 0 = ofB k (pairB ts i) := by
  unfold sAt pairB; simp
theorem sAt_end (ts : List Tx) (i k : Nat) : sAt ts i k ts.length = ofB (k + 1) (pairB ts i) := by
  unfold sAt; rw [ofB_next, List.take_length]
theorem sAt_lt (ts : List Tx) (i k j : Nat) (hk : k < 12) : sAt ts i k j < 4294967296 := by
  have h1 := ofB_lt k (pairB ts i)
  have h2 : 2 ^ k < 2 ^ (k + 1) := Nat.pow_lt_pow_right (by omega) (by omega)
  have h3 : 2 ^ (k + 1) ≤ 2 ^ 32 := Nat.pow_le_pow_right (by omega) (by omega)
  unfold sAt
  split
  · exact Nat.lt_of_lt_of_le (Nat.or_lt_two_pow (n := k + 1) (by omega) h2) h3
  · omega
theorem sAt_next (ts : List Tx) (i k j : Nat) (t : Tx) (h : ts[j]? = some t) : sAt ts i k (j + 1) = if (decide (i ≠ k) && ((relsT t).testBit i && (relsT t).testBit k)) then sAt ts i k j ||| 2 ^ k else sAt ts i k j := by
  have e : pairB (ts.take (j + 1)) i k = (pairB (ts.take j) i k || (decide (i ≠ k) && ((relsT t).testBit i && (relsT t).testBit k))) := by
    unfold pairB
    rw [List.take_add_one, h, List.any_append]
    simp only [Option.toList_some, List.any_cons, List.any_nil, Bool.or_false]
    cases decide (i ≠ k) <;> simp
  unfold sAt
  rw [e]
  cases hb : decide (i ≠ k) && ((relsT t).testBit i && (relsT t).testBit k) with
  | false => rw [Bool.or_false, if_neg (by simp : ¬ (false = true))]
  | true =>
    rw [Bool.or_true, if_pos rfl, if_pos rfl]
    split
    · rw [Nat.or_assoc, Nat.or_self]
    · rfl

theorem OutSt.later {w1 W W' : World} {e : TypeId} {size k : Nat} {v : Value} {xs : List Value} (h : OutSt w1 e size v k xs W) (hb : Below W.heap.size W W') : OutSt w1 e size v k xs W' :=
  ⟨ownsRow_congr h.1 fun g o _ hg _ _ => by rw [hb.block g (Array.getElem?_eq_some_iff.1 hg).1]; exact hg, h.2.trans (hb.mono h.2.size)⟩

def rowsL (n : Nat) (ts : List Tx) (i : Nat) : List Nat := (List.range i).map (rowS n ts)
theorem rowsL_next (n : Nat) (ts : List Tx) (i : Nat) : rowsL n ts (i + 1) = rowsL n ts i ++ [rowS n ts i] := by
  unfold rowsL; rw [List.range_succ, List.map_append]; rfl
theorem rowsL_length (n : Nat) (ts : List Tx) (i : Nat) : (rowsL n ts i).length = i := by unfold rowsL; simp

set_option maxHeartbeats 2000000 in
theorem REdges_any (d : Nat) (a : Option Addr) (len cap n : Nat) (ts : List Tx) (n0 : Int) (w : World) (h : ExsAt w d a len cap ts) (hn0 : min (max n0 0) 12 = (n : Int)) :
    Calls Tryd.prog 22 #[.slice a len cap, .int .i64 n0] w fun e w' => ∃ v, e = .returned v ∧ OutSt w 23 1 v n ((rowsL n ts n).map U32) w' := by
  have hn : n ≤ 12 := by omega
  have h63 : len < 2 ^ 63 := by have := h.2.1; have := h.2.2.1; unfold maxLen at this; omega
  obtain ⟨i0, hi, hz0, hz1, hz2⟩ := info_parts info23
  have HR := Lib.hid h
  have HEnd := Lib.hid (fun i k => (show sAt ts i k len = ofB (k + 1) (pairB ts i) by rw [← h.1]; exact sAt_end ts i k))
  clear h
  obtain ⟨n1, hn1⟩ : ∃ n1, n1 = min n0 12 := ⟨_, rfl⟩
  have HN := Lib.hid (And.intro hn0 hn1)
  clear hn0
  go_enter Tryd.func22, Tryd.ntmps22
  go_upto_if 12 with fail
  go_cut [1] from 11 to 12 (fun v w' => v = .int .i64 n1 ∧ w' = w)
  case first =>
    clear hn1
    by_cases h12 : (12 : Int) < n0
    · have e : n1 = 12 := by have := HN.out.2; omega
      subst e
      go_wp2
      go_meet
      exact ⟨rfl, rfl⟩
    · have e : n1 = n0 := by have := HN.out.2; omega
      subst e
      go_wp2
      go_meet
      exact ⟨rfl, rfl⟩
  case rest =>
    obtain ⟨rfl, rfl⟩ := hcut
    by_cases hneg : n1 < 0
    · have e : n = 0 := by have := HN.out.1; omega
      subst e
      clear hn1
      go_wp2
      go_loopw [5, 6] (fun v i wr => i = .int .i64 0 ∧ v = .slice none 0 0 ∧ wr = wc) (fun _ _ _ => 0)
      case atStart => exact ⟨rfl, rfl, rfl⟩
      case round =>
        obtain ⟨rfl, rfl, rfl⟩ := hrel
        go_wp2
        go_ret
        exact ⟨_, rfl, World.ownsRow_nil _ _ _ _, Below.refl _ _⟩
    · have e : n1 = (n : Int) := by have := HN.out.1; omega
      subst e
      clear hn1 hneg
      go_wp2
      go_loopw [5, 6] (fun v i wr => ∃ k : Nat, i = .int .i64 k ∧ k ≤ n ∧ OutSt wc 23 1 v k ((rowsL n ts k).map U32) wr) (fun _ i _ => n - (intOf i).toNat)
      case atStart => exact ⟨0, rfl, Nat.zero_le _, World.ownsRow_nil _ _ _ _, Below.refl _ _⟩
      case round =>
        obtain ⟨i, rfl, hin, hout⟩ := hrel
        by_cases hlt : i < n
        · have HO := Lib.hid hout
          clear hout
          obtain ⟨xs, hxs⟩ : ∃ xs, xs = (rowsL n ts i).map U32 := ⟨_, rfl⟩
          have HXS := Lib.hid hxs
          rw [← hxs] at HO
          clear hxs
          go_wp2
          go_loopw [7, 8] (fun s k W => ∃ k' : Nat, k = .int .i64 k' ∧ k' ≤ n ∧ s = .int .u32 ((ofB k' (pairB ts i) : Nat) : Int) ∧ OutSt wc 23 1 u5 i xs W) (fun _ k _ => n - (intOf k).toNat)
          case atStart => exact ⟨0, rfl, Nat.zero_le _, rfl, HO.out⟩
          case round =>
            obtain ⟨k, rfl, hkn, rfl, hout⟩ := hrel
            have HO2 := Lib.hid hout
            clear hout
            by_cases hlk : k < n
            · have hz := Lib.hid (sAt_zero ts i k)
              go_wp2
              go_loopw [7, 9] (fun s j W => ∃ j' : Nat, j = .int .i64 j' ∧ j' ≤ len ∧ s = .int .u32 ((sAt ts i k j' : Nat) : Int) ∧ OutSt wc 23 1 u5 i xs W) (fun _ j _ => len - (intOf j).toNat)
              case atStart => exact ⟨0, rfl, Nat.zero_le _, by rw [hz.out], HO2.out⟩
              case round =>
                obtain ⟨j, rfl, hjl, rfl, hout⟩ := hrel
                by_cases hlj : j < len
                · obtain ⟨h1, _, _, h4⟩ := HR.out
                  obtain ⟨b, off, rfl, hbl, hc⟩ := h4.resolve_left (by omega)
                  have hj' : j < ts.length := by omega
                  obtain ⟨t, ht⟩ : ∃ t, ts[j]? = some t := ⟨_, List.getElem?_eq_getElem hj'⟩
                  obtain ⟨cs, hR, hcs⟩ := hc j t ht
                  obtain ⟨k0, k1, k2, k3, k4, k5, k6, ka, kl, kc, rfl⟩ := hR.cells
                  have hbb := hout.2
                  have d0 := (hbb.cell (p := ⟨b, off + j * 8 + 0, none⟩) hbl).trans (hcs 0 _ rfl)
                  have d1 := (hbb.cell (p := ⟨b, off + j * 8 + 1, none⟩) hbl).trans (hcs 1 _ rfl)
                  have d2 := (hbb.cell (p := ⟨b, off + j * 8 + 2, none⟩) hbl).trans (hcs 2 _ rfl)
                  have d3 := (hbb.cell (p := ⟨b, off + j * 8 + 3, none⟩) hbl).trans (hcs 3 _ rfl)
                  have d4 := (hbb.cell (p := ⟨b, off + j * 8 + 4, none⟩) hbl).trans (hcs 4 _ rfl)
                  have d5 := (hbb.cell (p := ⟨b, off + j * 8 + 5, none⟩) hbl).trans (hcs 5 _ rfl)
                  have d6 := (hbb.cell (p := ⟨b, off + j * 8 + 6, none⟩) hbl).trans (hcs 6 _ rfl)
                  have d7 := (hbb.cell (p := ⟨b, off + j * 8 + 7, none⟩) hbl).trans (hcs 7 _ rfl)
                  rw [Nat.add_zero] at d0
                  have HIH := Lib.hid (fun W hb => RRels_any d _ t W (hR.later hb))
                  have hnx := sAt_next ts i k j t ht
                  have hrt32 := relsT_lt t
                  have hs32 := sAt_lt ts i k j (by omega)
                  have hp12 : 2 ^ k < 4294967296 := Nat.lt_of_le_of_lt (Nat.pow_le_pow_right (by omega) (show k ≤ 12 by omega)) (by decide)
                  have E2 : IntKind.u32.wrap ((2 : Int) ^ k) = ((2 ^ k : Nat) : Int) := by
                    have e : (2 : Int) ^ k = ((2 ^ k : Nat) : Int) := by simp
                    rw [wrap_u32', e]; generalize 2 ^ k = z at *; omega
                  have E4 := u32_or_nat (sAt ts i k j) (2 ^ k) hs32 hp12
                  have hi32 : i < 32 := by omega
                  have hk32 : k < 32 := by omega
                  generalize relsT t = rt at *
                  generalize 2 ^ k = p at *
                  obtain ⟨o, ho⟩ : ∃ o, o = sAt ts i k j := ⟨_, rfl⟩
                  obtain ⟨o2, ho2⟩ : ∃ o2, o2 = sAt ts i k (j + 1) := ⟨_, rfl⟩
                  rw [← ho] at E4 hnx
                  rw [← ho2] at hnx
                  rw [← ho]
                  have HBB := Lib.hid hbb
                  have HO3 := Lib.hid hout
                  have HO2' := Lib.hid ho2
                  clear hcs hR ht hbb hout hc h4 h1 hj' hs32 hp12 ho ho2
                  by_cases hik : i = k
                  · have hzz : ((i : Int) != (k : Int)) = false := by simp; omega
                    rw [if_neg (by simp [hik])] at hnx
                    have HNX := Lib.hid hnx
                    clear hnx hik
                    go_wp2_with (first | (go_at_call 35; refine (HIH.out _ HBB.out).mono ?_; rintro e w5 ⟨rfl, hb5⟩; have HO5 := Lib.hid (HO3.out.later hb5); clear hb5) | (go_at_call 28; refine (has_any _ _ _ (by assumption) (by assumption)).mono ?_; (first | rw [BI.out] | rw [BK.out]); rintro e w' ⟨rfl, rfl⟩))
                    go_roundw
                    case rel => exact ⟨j + 1, by go_num, by omega, by rw [← HO2'.out, HNX.out], HO5.out⟩
                    case measure => simp [intOf]; omega
                  · have hzz : ((i : Int) != (k : Int)) = true := by simp; omega
                    cases bi : rt.testBit i with
                    | false =>
                      rw [bi, if_neg (by simp)] at hnx
                      have HNX := Lib.hid hnx
                      have BI := Lib.hid bi
                      have BK := BI
                      clear hnx hik bi
                      go_wp2_with (first | (go_at_call 35; refine (HIH.out _ HBB.out).mono ?_; rintro e w5 ⟨rfl, hb5⟩; have HO5 := Lib.hid (HO3.out.later hb5); clear hb5) | (go_at_call 28; refine (has_any _ _ _ (by assumption) (by assumption)).mono ?_; (first | rw [BI.out] | rw [BK.out]); rintro e w' ⟨rfl, rfl⟩))
                      go_roundw
                      case rel => exact ⟨j + 1, by go_num, by omega, by rw [← HO2'.out, HNX.out], HO5.out⟩
                      case measure => simp [intOf]; omega
                    | true =>
                      cases bk : rt.testBit k with
                      | false =>
                        rw [bi, bk, if_neg (by simp)] at hnx
                        have HNX := Lib.hid hnx
                        have BI := Lib.hid bi
                        have BK := Lib.hid bk
                        clear hnx hik bi bk
                        go_wp2_with (first | (go_at_call 35; refine (HIH.out _ HBB.out).mono ?_; rintro e w5 ⟨rfl, hb5⟩; have HO5 := Lib.hid (HO3.out.later hb5); clear hb5) | (go_at_call 28; refine (has_any _ _ _ (by assumption) (by assumption)).mono ?_; (first | rw [BI.out] | rw [BK.out]); rintro e w' ⟨rfl, rfl⟩))
                        go_roundw
                        case rel => exact ⟨j + 1, by go_num, by omega, by rw [← HO2'.out, HNX.out], HO5.out⟩
                        case measure => simp [intOf]; omega
                      | true =>
                        rw [bi, bk, if_pos (by simp [hik])] at hnx
                        rw [← hnx] at E4
                        have BI := Lib.hid bi
                        have BK := Lib.hid bk
                        clear hnx hik bi bk
                        go_wp2_with (first | (go_at_call 35; refine (HIH.out _ HBB.out).mono ?_; rintro e w5 ⟨rfl, hb5⟩; have HO5 := Lib.hid (HO3.out.later hb5); clear hb5) | (go_at_call 28; refine (has_any _ _ _ (by assumption) (by assumption)).mono ?_; (first | rw [BI.out] | rw [BK.out]); rintro e w' ⟨rfl, rfl⟩))
                        go_roundw
                        case rel => exact ⟨j + 1, by go_num, by omega, by rw [← HO2'.out], HO5.out⟩
                        case measure => simp [intOf]; omega
                · obtain rfl : j = len := by omega
                  have HO3 := Lib.hid hout
                  have he := Lib.hid (HEnd.out i k)
                  clear hout
                  go_wp2
                  go_roundw
                  case rel => exact ⟨k + 1, by go_num, by omega, by rw [he.out], HO3.out⟩
                  case measure => simp [intOf]; omega
            · obtain rfl : k = n := by omega
              have hown := HO2.out.1
              have hbl := HO2.out.2
              have hsz := hbl.size
              have HBL := Lib.hid hbl
              have HRW := Lib.hid (rowsL_next k ts i)
              have hre := rowS_eq k ts i
              obtain ⟨r, hr⟩ : ∃ r, r = ofB k (pairB ts i) := ⟨_, rfl⟩
              rw [← hr] at hre
              rw [hre] at HRW
              rw [← hr]
              clear hbl hre hr
              go_wp2_with (at_builtin; refine wpList_append_own _ rfl _ _ 22 rfl wc.heap.size 23 i0 (.int .u32 0) 1 4 Tryd.underlying22 hi hz0 hz1 hz2 rfl (by decide) _ _ _ rfl (hown.alloc _) ⟨wr.heap.size, 0, none⟩ 1 1 [.int .u32 (r : Int)] rfl rfl (cell_one_new _ _ _) (by simp [Value.oneCell']) (by unfold maxLen; omega) (by omega) (by simp; omega) ?_; intro v' w2 hown' hgrow _)
              refine ⟨⟨i + 1, by go_num, by omega, ?_, ?_⟩, ?_⟩
              · rw [HRW.out, List.map_append, ← HXS.out]; exact hown'
              · exact HBL.out.trans (((Below.refl _ wr).alloc hsz _).grown hgrow (by simp; omega) (fun j hj => ownsRow_block hown j hj))
              · simp [intOf]; omega
        · obtain rfl : i = n := by omega
          have HO := Lib.hid hout
          clear hout
          go_wp2
          go_ret
          exact ⟨_, rfl, HO.out⟩
end Go.Proofs.YtmjpdknnglblcaaDoor
