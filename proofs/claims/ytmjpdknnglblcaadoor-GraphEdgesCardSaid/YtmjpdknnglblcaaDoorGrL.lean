/- The walk of tabularylaw33.GraphSplits. -/
import Derived.Test.YtmjpdknnglblcaaDoorGrY
import Derived.Test.YtmjpdknnglblcaaDoorGrJ
import Derived.Test.YtmjpdknnglblcaaDoorGrH
import Derived.Deep.DeepCutAuto
import Derived.Deep.CutBlock
namespace Go.Proofs.YtmjpdknnglblcaaDoor
open Go.RowKit
open Gr Go.Deep
set_option maxRecDepth 100000

theorem splitsL_at (n : Nat) (A : Nat → Nat → Bool) (s k a b : Nat) (h : (splitsL n A s)[k]? = some (a, b)) : connB n A s = true ∧ s < 2 ^ n ∧ a ∈ (partsL s).filter (both n A s) ∧ b = dif s a := by
  unfold splitsL at h
  by_cases hc : connB n A s = true
  · rw [if_pos hc, List.getElem?_map] at h
    cases hx : ((partsL s).filter (both n A s))[k]? with
    | none => rw [hx] at h; simp at h
    | some x =>
      rw [hx] at h
      simp only [Option.map_some, Option.some.injEq, pairOf, Prod.mk.injEq] at h
      obtain ⟨rfl, rfl⟩ := h
      refine ⟨hc, ?_, List.mem_of_getElem? hx, rfl⟩
      unfold connB at hc; simp only [Bool.and_eq_true, decide_eq_true_eq] at hc; exact hc.1.2
  · rw [if_neg hc] at h; simp at h
theorem splitsL_rise (n : Nat) (A : Nat → Nat → Bool) (s k a b a' b' : Nat) (h : (splitsL n A s)[k]? = some (a, b)) (h' : (splitsL n A s)[k + 1]? = some (a', b')) : a < a' := by
  unfold splitsL at h h'
  by_cases hc : connB n A s = true
  · rw [if_pos hc, List.getElem?_map] at h h'
    have hs := List.Pairwise.filter (both n A s) (parts_sorted s)
    generalize (partsL s).filter (both n A s) = l at *
    cases hx : l[k]? with
    | none => rw [hx] at h; simp at h
    | some x =>
      cases hx' : l[k + 1]? with
      | none => rw [hx'] at h'; simp at h'
      | some x' =>
        rw [hx] at h; rw [hx'] at h'
        simp only [Option.map_some, Option.some.injEq, pairOf, Prod.mk.injEq] at h h'
        obtain ⟨rfl, _⟩ := h
        obtain ⟨rfl, _⟩ := h'
        obtain ⟨h1, e1⟩ := List.getElem?_eq_some_iff.1 hx
        obtain ⟨h2, e2⟩ := List.getElem?_eq_some_iff.1 hx'
        have := List.pairwise_iff_getElem.1 hs k (k + 1) h1 h2 (by omega)
        rw [e1, e2] at this; exact this
  · rw [if_neg hc] at h; simp at h
theorem flatP_at : ∀ (l : List (Nat × Nat)) (k a b : Nat), l[k]? = some (a, b) → (flatP l)[2 * k]? = some (U32 a) ∧ (flatP l)[2 * k + 1]? = some (U32 b)
  | [], k, a, b, h => by simp at h
  | p :: l, 0, a, b, h => by
    simp only [List.getElem?_cons_zero, Option.some.injEq] at h
    subst h; exact ⟨rfl, rfl⟩
  | p :: l, k + 1, a, b, h => by
    simp only [List.getElem?_cons_succ] at h
    have := flatP_at l k a b h
    have e : flatP (p :: l) = U32 p.1 :: U32 p.2 :: flatP l := rfl
    rw [e, show 2 * (k + 1) = 2 * k + 1 + 1 by omega]
    exact this

/-- What stands ahead of a split: k of them have been looked at. -/
def SplSt (w2 : World) (n : Nat) (A : Nat → Nat → Bool) (s k la : Nat) (wr : World) : Prop :=
  Below w2.heap.size w2 wr ∧ k ≤ (splitsL n A s).length ∧ ∀ a b, (splitsL n A s)[k]? = some (a, b) → la < a

/-- Are all of the first relations next to all? -/
def fullB (n : Nat) (A : Nat → Nat → Bool) (s : Nat) : Nat → Bool
  | 0 => true
  | i + 1 => fullB n A s i && (!s.testBit i || ((nearB n A (2 ^ i) ||| 2 ^ i) &&& s == s))
theorem popB_succ (i s : Nat) : popB (i + 1) s = popB i s + if s.testBit i then 1 else 0 := by
  unfold popB
  rw [List.range_succ, List.countP_append]
  simp [List.countP_cons]
theorem popB_le (i s : Nat) : popB i s ≤ i := by
  unfold popB; have := List.countP_le_length (p := s.testBit) (l := List.range i); simpa using this
theorem popB_more (n s : Nat) (hs : s < 2 ^ n) : ∀ d, popB (n + d) s = popB n s
  | 0 => rfl
  | d + 1 => by
    rw [show n + (d + 1) = (n + d) + 1 by omega, popB_succ, popB_more n s hs d]
    rw [Nat.testBit_lt_two_pow (Nat.lt_of_lt_of_le hs (Nat.pow_le_pow_right (by omega) (by omega)))]; rfl
theorem fullB_at (n : Nat) (A : Nat → Nat → Bool) (s i : Nat) : ∀ m, fullB n A s m = true → i < m → s.testBit i = true → (nearB n A (2 ^ i) ||| 2 ^ i) &&& s = s
  | 0, _, h, _ => absurd h (by omega)
  | m + 1, h, hi, hb => by
    simp only [fullB, Bool.and_eq_true, Bool.or_eq_true, Bool.not_eq_true', beq_iff_eq] at h
    by_cases e : i = m
    · subst e
      rcases h.2 with h2 | h2
      · rw [hb] at h2; cases h2
      · exact h2
    · exact fullB_at n A s i m h.1 (by omega) hb
theorem fullB_all (n : Nat) (A : Nat → Nat → Bool) (s : Nat) (hs : s < 2 ^ n) (h : fullB n A s n = true) : ∀ i j, s.testBit i = true → s.testBit j = true → i ≠ j → A i j = true := by
  intro i j hi hj hne
  have hin : i < n := by
    apply Nat.lt_of_not_le; intro hle
    rw [Nat.testBit_lt_two_pow (Nat.lt_of_lt_of_le hs (Nat.pow_le_pow_right (by omega) hle))] at hi; cases hi
  have := fullB_at n A s i n h hin hi
  rw [← this, Nat.testBit_and, Nat.testBit_or, testBit_nearB, Nat.testBit_two_pow] at hj
  simp only [hne, decide_false, Bool.or_false, Bool.and_eq_true] at hj
  obtain ⟨⟨_, _, h3⟩, _⟩ := hj
  obtain ⟨x, _, hx⟩ := List.any_eq_true.1 h3
  simp only [Bool.and_eq_true, Nat.testBit_two_pow, decide_eq_true_eq] at hx
  rw [hx.1]; exact hx.2

set_option maxHeartbeats 1000000 in
theorem GraphSplits_any (a : Option Addr) (len cap s : Nat) (es : List Nat) (w : World) (h : EdgesAt w a (min len 8) cap es) (hlc : len ≤ cap) (hT : TabAt w) (hs : s < 4294967296) :
    Calls Tryd.prog 3 #[.slice a len cap, .int .u32 s] w fun e w' => e = .returned (.bool true) ∧ Below w.heap.size w w' := by
  obtain ⟨len', hlen'⟩ : ∃ z, z = min len 8 := ⟨_, rfl⟩
  rw [← hlen'] at h
  have hlen := h.2.2.1
  have h8 : es.length ≤ 8 := by omega
  have hcap := h.2.1
  unfold maxLen at hcap
  have HW := Lib.hid (works_any w hT)
  have HS := Lib.hid (fun W hb => Splits_any a len' cap s es W (h.later hb) (hT.later hb) hs h8)
  have HN := Lib.hid (fun x W hb hx => Near_any a len' cap x es W (h.later hb) (hT.later hb) hx)
  have HC := Lib.hid (fun x W hb hx => Connected_any a len' cap x es W (h.later hb) (hT.later hb) hx)
  obtain ⟨n, hn'⟩ : ∃ n, n = es.length := ⟨_, rfl⟩
  have hnl : n = len' := by omega
  rw [← hn'] at HS HN HC h8
  have hsym := adj_symm es n
  clear h hn' hT hlen
  subst hnl
  have HLEN := Lib.hid (show (8 < len → n = 8) ∧ (len ≤ 8 → len = n) from by constructor <;> (intro h; omega))
  clear hlen'
  generalize adj es n = A at *
  go_enter Tryd.func3, Tryd.ntmps3
  go_upto_if 18 with (go_at_call 7; refine HW.out.mono ?_; rintro e w1 ⟨rfl, hb⟩; have HB := Lib.hid hb; clear hb)
  go_cut [0] from 16 to 20 (fun e0 w' => e0 = .slice a n cap ∧ Hid (Below w.heap.size w w'))
  case first =>
    by_cases hl : (8 : Int) < (len : Int)
    · have hn8 : n = 8 := HLEN.out.1 (by omega)
      clear HLEN
      subst hn8
      have hc8 : 8 ≤ cap := by omega
      go_wp2
      go_meet
      exact ⟨rfl, HB⟩
    · have hn8 : len = n := HLEN.out.2 (by omega)
      clear HLEN
      subst hn8
      go_wp2
      go_meet
      exact ⟨rfl, HB⟩
  case rest =>
    obtain ⟨rfl, HB2⟩ := hcut
    clear HB
    go_wp2_with (go_at_call 8; refine (HS.out _ HB2.out).mono ?_; rintro e w2 ⟨v, rfl, hown, hb⟩; have HB3 := Lib.hid (HB2.out.trans (hb.mono HB2.out.size)); obtain ⟨ad, cap', rfl, hsh⟩ := ownsRow_shape hown; have HO := Lib.hid hsh; clear hown hb hsh)
    obtain ⟨L, hL⟩ : ∃ L, L = (splitsL n A s).length := ⟨_, rfl⟩
    rw [← hL] at HO ⊢
    have HL := Lib.hid hL
    clear hL
    go_loopw [6, 26] (fun la i wr => ∃ k la' : Nat, i = .int .i64 k ∧ la = .int .u32 la' ∧ SplSt w2 n A s k la' wr) (fun _ i _ => L - (intOf i).toNat)
    case atStart =>
      refine ⟨0, 0, rfl, rfl, Below.refl _ _, Nat.zero_le _, fun x y h => ?_⟩
      obtain ⟨z1, z2, z3, z4⟩ := splitsL_at n A s 0 x y h
      have := (split_spec n A s x h8 z2 z1 z3).2.2.2.2.2.2
      omega
    case round =>
      obtain ⟨k, la, rfl, rfl, hst⟩ := hrel
      obtain ⟨hb, hkL, hla⟩ := hst
      rw [← HL.out] at hkL
      by_cases hk : k < L
      · have hk' : k < (splitsL n A s).length := by rw [← HL.out]; exact hk
        obtain ⟨x, y, hxy⟩ : ∃ x y, (splitsL n A s)[k]? = some (x, y) := ⟨_, _, List.getElem?_eq_getElem hk'⟩
        obtain ⟨z1, z2, z3, z4⟩ := splitsL_at n A s k x y hxy
        obtain ⟨q1, q2, q3, q4, q5, q6, q7⟩ := split_spec n A s x h8 z2 z1 z3
        rw [← z4] at q1 q2 q5 q6
        have hlax := hla x y hxy
        have hs0 : s ≠ 0 := by intro e; subst e; simp [connB] at z1
        have hx : x ≤ s := by rw [← q1]; exact Nat.left_le_or
        have hy : y ≤ s := by rw [← q1]; exact Nat.right_le_or
        have hlo2 : 2 ^ lowB s < 4294967296 := by
          have := low_lt' s n hs0 hs z2
          exact Nat.lt_of_le_of_lt (Nat.pow_le_pow_right (by omega) (show lowB s ≤ 8 by omega)) (by decide)
        have E1 := u32_or_nat x y (by omega) (by omega)
        rw [q1] at E1
        have E2 := and32 x y (by omega) (by omega)
        rw [q2] at E2
        have E3 := low_and s hs hs0
        have E4 := and32 x (2 ^ lowB s) (by omega) hlo2
        have hnb := Nat.lt_of_lt_of_le (nearB_lt n A x) (Nat.le_trans (Nat.pow_le_pow_right (by omega) h8) (show 2 ^ 8 ≤ 4294967296 by decide))
        have E5 := and32 (nearB n A x) y hnb (by omega)
        have hcx := HC.out x
        have hcy := HC.out y
        have hnx := HN.out x
        rw [q4] at hcx
        rw [q5] at hcy
        generalize 2 ^ lowB s = lo at *
        generalize nearB n A x = nb at *
        obtain ⟨u, hu⟩ : ∃ u, u = x &&& lo := ⟨_, rfl⟩
        obtain ⟨v, hv⟩ : ∃ v, v = nb &&& y := ⟨_, rfl⟩
        rw [← hu] at E4 q3
        rw [← hv] at E5 q6
        have F4 : ((u : Int) == 0) = false := by simp; omega
        have F5 : ((v : Int) == 0) = false := by simp; omega
        have F6 : ((x : Int) ≤ (la : Int)) = False := by simp; omega
        obtain ⟨g, rfl, g1, g2, g3, g4, g5⟩ := HO.out.resolve_left (by omega)
        unfold maxLen at g4
        obtain ⟨f1, f2⟩ := flatP_at _ k x y hxy
        have c1 := (hb.cell (p := ⟨g, 2 * k, none⟩) g1).trans (g5 _ _ f1)
        have c2 := (hb.cell (p := ⟨g, 2 * k + 1, none⟩) g1).trans (g5 _ _ f2)
        unfold U32 at c1 c2
        have hx32 : x < 4294967296 := by omega
        have hy32 : y < 4294967296 := by omega
        have HCX := Lib.hid hcx
        have HCY := Lib.hid hcy
        have HNX := Lib.hid hnx
        have HXY := Lib.hid hxy
        have HBB := Lib.hid hb
        have HB4 := Lib.hid (HB3.out.trans (hb.mono HB3.out.size))
        clear hcx hcy hnx hxy z1 z2 z3 z4 q1 q2 q3 q4 q5 q6 q7 hu hv hlax hs0 hx hy hnb hlo2 f1 f2 g5 hla hb hk' HO hsym
        have k2 : k * 2 = 2 * k := by omega
        have hnewb := World.alloc_heap_new wr (.cells #[.int .u32 x, .int .u32 y] 27)
        have d0 : (wr.alloc (.cells #[.int .u32 x, .int .u32 y] 27)).cell? ⟨wr.heap.size, 0, none⟩ = some (.int .u32 x) := by simp only [World.cell?]; rw [hnewb]; simp
        have d1 : (wr.alloc (.cells #[.int .u32 x, .int .u32 y] 27)).cell? ⟨wr.heap.size, 1, none⟩ = some (.int .u32 y) := by simp only [World.cell?]; rw [hnewb]; simp
        have HB5 := Lib.hid (HB4.out.trans ((Below.refl _ wr).alloc HB4.out.size (.cells #[.int .u32 x, .int .u32 y] 27)))
        have HB5' := Lib.hid (HBB.out.trans ((Below.refl _ wr).alloc HBB.out.size (.cells #[.int .u32 x, .int .u32 y] 27)))
        clear hnewb
        go_wp2
        go_region
        all_goals (first | (go_wp2_with (first | (go_at_call 9; (first | (refine (HCX.out _ HB5.out.drew hx32).mono ?_; rintro e w5 ⟨rfl, hb5⟩; have HB6 := Lib.hid (HB5.out.drew.trans (hb5.mono HB5.out.drew.size)); have HB6' := Lib.hid (HB5'.out.drew.trans (hb5.mono HB5'.out.drew.size)); clear hb5) | (refine (HCY.out _ HB6.out hy32).mono ?_; rintro e w6 ⟨rfl, hb6⟩; have HB7 := Lib.hid (HB6.out.trans (hb6.mono HB6.out.size)); have HB7' := Lib.hid (HB6'.out.trans (hb6.mono HB6'.out.size)); clear hb6))) | (go_at_call 10; refine (HNX.out _ HB7.out hx32).mono ?_; rintro e w7 ⟨rfl, hb7⟩; have HB8 := Lib.hid (HB7.out.trans (hb7.mono HB7.out.size)); have HB8' := Lib.hid (HB7'.out.trans (hb7.mono HB7'.out.size)); clear hb7))))
        refine ⟨⟨k + 1, x, by go_num, rfl, HB8'.out, by rw [← HL.out]; omega, fun x' y' h => splitsL_rise n A s k x y x' y' HXY.out h⟩, ?_⟩
        simp [intOf]; omega
      · obtain rfl : k = L := by omega
        have HB4 := Lib.hid (HB3.out.trans (hb.mono HB3.out.size))
        clear hb hla hkL hk
        go_wp2
        go_loopw [11, 12, 83] (fun c f i wr => ∃ idx : Nat, idx ≤ n ∧ i = .int .i64 idx ∧ c = .int .i64 (popB idx s : Nat) ∧ f = .bool (fullB n A s idx) ∧ Hid (Below w.heap.size w wr)) (fun _ _ i _ => n - (intOf i).toNat)
        case atStart => exact ⟨0, Nat.zero_le _, rfl, rfl, rfl, HB4⟩
        case round =>
          obtain ⟨idx, hi, rfl, rfl, rfl, HB5⟩ := hrel
          by_cases hlt : idx < n
          · have hd : (s : Int) / 2 ^ idx = ((s / 2 ^ idx : Nat) : Int) := by simp
            have hb := shr_and s idx hs
            obtain ⟨sk, hsk⟩ : ∃ z, z = s / 2 ^ idx := ⟨_, rfl⟩
            rw [← hsk] at hd hb
            have hps := Lib.hid (popB_succ idx s)
            have hpl := popB_le idx s
            have hfs := Lib.hid (show fullB n A s (idx + 1) = (fullB n A s idx && (!s.testBit idx || ((nearB n A (2 ^ idx) ||| 2 ^ idx) &&& s == s))) from rfl)
            have hp8 : 2 ^ idx < 4294967296 := Nat.lt_of_le_of_lt (Nat.pow_le_pow_right (by omega) (show idx ≤ 8 by omega)) (by decide)
            have hnb := Nat.lt_of_lt_of_le (nearB_lt n A (2 ^ idx)) (Nat.le_trans (Nat.pow_le_pow_right (by omega) h8) (show 2 ^ 8 ≤ 4294967296 by decide))
            have E2 : IntKind.u32.wrap ((2 : Int) ^ idx) = ((2 ^ idx : Nat) : Int) := by
              have e : (2 : Int) ^ idx = ((2 ^ idx : Nat) : Int) := by simp
              rw [wrap_u32', e]; generalize 2 ^ idx = z at *; omega
            have E3 := u32_or_nat (nearB n A (2 ^ idx)) (2 ^ idx) hnb hp8
            have E4 := u32_and_nat (nearB n A (2 ^ idx) ||| 2 ^ idx) s (Nat.or_lt_two_pow (n := 32) hnb hp8) hs
            have hcall := HN.out (2 ^ idx)
            generalize nearB n A (2 ^ idx) = nb at *
            generalize 2 ^ idx = p2 at *
            generalize nb ||| p2 = o at *
            obtain ⟨q, hq⟩ : ∃ z, z = o &&& s := ⟨_, rfl⟩
            rw [← hq] at E4 hfs
            have HCALL := Lib.hid hcall
            generalize popB idx s = c0 at *
            generalize fullB n A s idx = f0 at *
            clear hsk hq hcall hnb
            cases ht : s.testBit idx with
            | false =>
              rw [ht] at hb
              rw [ht] at hps hfs
              go_wp2
              go_roundw
              case rel => exact ⟨idx + 1, by omega, by go_num, by rw [hps.out]; rfl, by rw [hfs.out]; simp, HB5⟩
              case measure => simp [intOf]; omega
            | true =>
              rw [ht] at hb
              rw [ht] at hps hfs
              cases f0 with
              | false =>
                go_wp2
                go_roundw
                case rel => exact ⟨idx + 1, by omega, by go_num, by rw [hps.out]; go_num, by rw [hfs.out]; rfl, HB5⟩
                case measure => simp [intOf]; omega
              | true =>
                by_cases hqs : q = s
                · rw [hqs] at E4 hfs
                  clear hqs
                  go_wp2_with (go_at_call 10; refine (HCALL.out _ HB5.out hp8).mono ?_; rintro e w5 ⟨rfl, hb5⟩; have HB6 := Lib.hid (HB5.out.trans (hb5.mono HB5.out.size)); clear hb5)
                  go_roundw
                  case rel => exact ⟨idx + 1, by omega, by go_num, by rw [hps.out]; go_num, by rw [hfs.out]; simp, HB6⟩
                  case measure => simp [intOf]; omega
                · have hq2 : ((q : Int) == (s : Int)) = false := by simp; omega
                  go_wp2_with (go_at_call 10; refine (HCALL.out _ HB5.out hp8).mono ?_; rintro e w5 ⟨rfl, hb5⟩; have HB6 := Lib.hid (HB5.out.trans (hb5.mono HB5.out.size)); clear hb5)
                  go_roundw
                  case rel => exact ⟨idx + 1, by omega, by go_num, by rw [hps.out]; go_num, by rw [hfs.out]; simp [hqs], HB6⟩
                  case measure => simp [intOf]; omega
          · obtain rfl : idx = n := by omega
            by_cases hcon : connB idx A s = true
            · have hsn : s < 2 ^ idx := by
                have h := hcon
                unfold connB at h; simp only [Bool.and_eq_true, decide_eq_true_eq] at h; exact h.1.2
              have hpop : popB 8 s = popB idx s := by
                have := popB_more idx s hsn (8 - idx)
                rwa [show idx + (8 - idx) = 8 by omega] at this
              have hcall := HC.out s
              rw [hcon] at hcall
              have HCALL := Lib.hid hcall
              have hpl := popB_le idx s
              cases hf : fullB idx A s idx with
              | true =>
                obtain ⟨q1, q2⟩ := split_full idx A s h8 hsn hcon (fullB_all idx A s hsn hf)
                rw [hpop] at q1 q2
                rw [← HL.out] at q1
                generalize popB idx s = c0 at *
                have e1 : ((c0 : Int) - 1) = ((c0 - 1 : Nat) : Int) := by omega
                obtain ⟨c1, hc1⟩ : ∃ z, z = c0 - 1 := ⟨_, rfl⟩
                rw [← hc1] at e1 q1
                have hc7 : c1 ≤ 7 := by omega
                have hp7 : 2 ^ c1 ≤ 128 := Nat.le_trans (Nat.pow_le_pow_right (by omega) hc7) (by decide)
                have hp1 : 0 < 2 ^ c1 := Nat.pow_pos (by omega)
                obtain ⟨p2, hp2⟩ : ∃ z, z = 2 ^ c1 := ⟨_, rfl⟩
                have e2 : (2 : Int) ^ c1 = (p2 : Int) := by rw [hp2]; simp
                rw [← hp2] at q1 hp7 hp1
                have e3 : (p2 : Int) - 1 = (k : Int) := by omega
                clear hcall hcon hpop hsn HL HO hf hp2 hc1
                go_wp2_with (go_at_call 9; refine (HCALL.out _ HB5.out hs).mono ?_; rintro e w5 ⟨rfl, hb5⟩; have HB6 := Lib.hid (HB5.out.trans (hb5.mono HB5.out.size)); clear hb5)
                go_ret
                exact ⟨rfl, HB6.out⟩
              | false =>
                clear hcall hcon hpop hsn HL HO
                go_wp2_with (go_at_call 9; refine (HCALL.out _ HB5.out hs).mono ?_; rintro e w5 ⟨rfl, hb5⟩; have HB6 := Lib.hid (HB5.out.trans (hb5.mono HB5.out.size)); clear hb5)
                go_ret
                exact ⟨rfl, HB6.out⟩
            · have hcf : connB idx A s = false := by simpa using hcon
              have hcall := HC.out s
              rw [hcf] at hcall
              have HCALL := Lib.hid hcall
              have hk0 : k = 0 := by rw [HL.out]; unfold splitsL; rw [if_neg hcon]; rfl
              have hk0' : (k : Int) = 0 := by omega
              clear hcall hcon hcf HL HO hk0
              go_wp2_with (go_at_call 9; refine (HCALL.out _ HB5.out hs).mono ?_; rintro e w5 ⟨rfl, hb5⟩; have HB6 := Lib.hid (HB5.out.trans (hb5.mono HB5.out.size)); clear hb5)
              go_ret
              exact ⟨rfl, HB6.out⟩
end Go.Proofs.YtmjpdknnglblcaaDoor
