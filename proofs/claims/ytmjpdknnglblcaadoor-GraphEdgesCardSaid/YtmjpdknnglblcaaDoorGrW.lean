/- The walks of graph: TrailingZeros32, lowest. -/
import Derived.Test.YtmjpdknnglblcaaDoorRows
import Derived.Test.YtmjpdknnglblcaaDoorGrM
import Derived.WalkKit
import Derived.Laws.BitsAllLaws
import Derived.Lib.Hide
import Derived.Lib.LaidTab
import Derived.Below
import Derived.WalkSmall
namespace Go.Proofs.YtmjpdknnglblcaaDoor
open Go.RowKit
open Gr
set_option maxRecDepth 100000

theorem wrap_u32' (n : Int) : IntKind.u32.wrap n = n % 4294967296 := by simp [IntKind.wrap, IntKind.signed, IntKind.bits]

/-- The library's table in its variable. -/
def TabAt (w : World) : Prop := ∀ j, j < Lib.deBruijn32tab.length → w.cell? ⟨0, j, none⟩ = some (.int .u8 (Lib.deBruijn32tab.getD j 0))
theorem TabAt.below {B : Nat} {w w' : World} (h : TabAt w) (hb : Below B w w') (h0 : 0 < B) : TabAt w' := fun j hj => (hb.cell (p := ⟨0, j, none⟩) h0).trans (h j hj)

theorem and32 (a b : Nat) (ha : a < 4294967296) (hb : b < 4294967296) : bits .and .u32 (a : Int) (b : Int) = ((a &&& b : Nat) : Int) := u32_and_nat a b ha hb

set_option maxHeartbeats 1000000 in
theorem tz32_core (x k idx : Nat) (w : World) (hx0 : ((x : Int) == 0) = false)
    (key : bits BinOp.and IntKind.u32 (x : Int) (-(x : Int) % 4294967296) * 125613361 % 4294967296 / 134217728 = (idx : Int))
    (hi : idx < 32) (hk : k < 32) (hcell : w.cell? ⟨0, idx, none⟩ = some (.int .u8 k)) :
    Calls Tryd.prog 39 #[.int .u32 x] w fun e w' => e = .returned (.int .i64 k) ∧ w = w' := by
  go_enter Tryd.func39, Tryd.ntmps39
  go_wp2_with (simp only [key])
  go_ret
  exact ⟨rfl, rfl⟩

theorem tz32_key (x a : Nat) (hx : x < 4294967296) (hx0 : x ≠ 0) (hlow : x &&& (4294967296 - x) = a) :
    bits BinOp.and IntKind.u32 (x : Int) (-(x : Int) % 4294967296) * 125613361 % 4294967296 / 134217728 = ((a * 125613361 % 4294967296 / 134217728 : Nat) : Int) := by
  have e1 : -(x : Int) % 4294967296 = ((4294967296 - x : Nat) : Int) := by omega
  rw [e1, and32 x _ hx (by omega), hlow]
  omega

/-- math/bits.TrailingZeros32 of a number that is not 0. -/
theorem tz32_any (x : Nat) (w : World) (hx : x < 4294967296) (hx0 : x ≠ 0) (hT : TabAt w) :
    Calls Tryd.prog 39 #[.int .u32 x] w fun e w' => e = .returned (.int .i64 (Lib.ctz 32 x)) ∧ w = w' := by
  obtain ⟨hlow, hk⟩ := Lib.lowest_bit 32 x hx0 hx
  obtain ⟨hi, htab⟩ := Lib.deBruijn32_at _ hk
  have hcell := hT _ hi
  rw [htab] at hcell
  exact tz32_core x _ _ w (by simp; omega) (tz32_key x _ hx hx0 hlow) hi hk hcell

theorem lowest_any (x : Nat) (w : World) (hx : x < 4294967296) (hx0 : x ≠ 0) :
    Calls Tryd.prog 33 #[.int .u32 x] w fun e w' => e = .returned (.int .u32 ((2 ^ lowB x : Nat) : Int)) ∧ w = w' := by
  obtain ⟨hlow, hk⟩ := Lib.lowest_bit 32 x hx0 hx
  have key : bits BinOp.and IntKind.u32 (x : Int) (-(x : Int) % 4294967296) = ((2 ^ lowB x : Nat) : Int) := by
    have e1 : -(x : Int) % 4294967296 = ((4294967296 - x : Nat) : Int) := by omega
    rw [e1, and32 x _ hx (by omega)]
    exact congrArg (fun n : Nat => (n : Int)) hlow
  obtain ⟨z, hz⟩ : ∃ z, z = 2 ^ lowB x := ⟨_, rfl⟩
  rw [← hz] at key ⊢
  clear hz hlow hk
  go_enter Tryd.func33, Tryd.ntmps33
  go_wp2
  go_ret
  exact ⟨by rw [← key]; rfl, rfl⟩

/-- A row of numbers in memory. -/
def Row32 (w : World) (b off : Nat) (zs : List Nat) : Prop := ∀ i, i < zs.length → w.cell? ⟨b, off + i, none⟩ = some (.int .u32 ((zs.getD i 0 : Nat) : Int))
theorem Row32.drewN {w : World} {b off : Nat} {zs : List Nat} (h : Row32 w b off zs) (n : Nat) : Row32 (w.drewN n) b off zs := h
theorem Row32.below {B : Nat} {w w' : World} {b off : Nat} {zs : List Nat} (h : Row32 w b off zs) (hb : Below B w w') (h0 : b < B) : Row32 w' b off zs := fun i hi => (hb.cell (p := ⟨b, off + i, none⟩) h0).trans (h i hi)

/-- Is relation k in a set: as the code asks. -/
theorem shr_and (s k : Nat) (hs : s < 4294967296) : bits BinOp.and IntKind.u32 (((s / 2 ^ k : Nat) : Nat) : Int) 1 = if s.testBit k then 1 else 0 := by
  have h1 : s / 2 ^ k < 4294967296 := Nat.lt_of_le_of_lt (Nat.div_le_self _ _) hs
  have := and32 (s / 2 ^ k) 1 h1 (by omega)
  rw [show ((1 : Nat) : Int) = 1 from rfl] at this
  rw [this, Nat.testBit_eq_decide_div_mod_eq, Nat.and_one_is_mod]
  by_cases h : s / 2 ^ k % 2 = 1
  · simp [h]
  · have : s / 2 ^ k % 2 = 0 := by omega
    simp [this]

/-- What near gathers of a list of rows. -/
def orL (ev : List Nat) (s k : Nat) : Nat := (List.range k).foldl (fun a i => if s.testBit i then a ||| ev.getD i 0 else a) 0
theorem orL_succ (ev : List Nat) (s k : Nat) : orL ev s (k + 1) = if s.testBit k then orL ev s k ||| ev.getD k 0 else orL ev s k := by
  unfold orL; rw [List.range_succ, List.foldl_append]; rfl
theorem orL_lt (ev : List Nat) (s : Nat) (h : ∀ x ∈ ev, x < 4294967296) : ∀ k, k ≤ ev.length → orL ev s k < 4294967296
  | 0, _ => by simp [orL]
  | k + 1, hk => by
    rw [orL_succ]
    have := orL_lt ev s h k (by omega)
    split
    · refine Nat.or_lt_two_pow (n := 32) this (h _ ?_)
      simp [List.getD, show k < ev.length by omega]
    · exact this
theorem getD_lt (ev : List Nat) (h : ∀ x ∈ ev, x < 4294967296) (k : Nat) : ev.getD k 0 < 4294967296 := by
  by_cases hk : k < ev.length
  · exact h _ (by simp [List.getD, hk])
  · simp [List.getD, show ev[k]? = none from List.getElem?_eq_none (by omega)]

set_option maxHeartbeats 1000000 in
theorem near_row (b off len cap s : Nat) (ev : List Nat) (w : World) (hr : Row32 w b off ev) (hl : len = ev.length) (hlen : len ≤ 12) (he : ∀ x ∈ ev, x < 4294967296) (hs : s < 4294967296) :
    Calls Tryd.prog 26 #[.slice (some ⟨b, off, none⟩) len cap, .int .u32 s] w fun e w' => e = .returned (.int .u32 ((dif (orL ev s len) s : Nat) : Int)) ∧ w = w' := by
  obtain ⟨Z, hZ⟩ : ∃ Z, Z = dif (orL ev s len) s := ⟨_, rfl⟩
  rw [← hZ]
  have H := Lib.hid (And.intro hr (And.intro hl (And.intro he (And.intro hs hZ))))
  clear hr hl he hs hZ
  go_enter Tryd.func26, Tryd.ntmps26
  go_wp2
  go_loop [5, 10] (fun n i => ∃ k : Nat, k ≤ len ∧ i = .int .i64 k ∧ n = .int .u32 ((orL ev s k : Nat) : Int)) (fun _ i => len - (intOf i).toNat)
  case atStart => exact ⟨0, by omega, rfl, rfl⟩
  case round =>
    obtain ⟨k, hk, rfl, rfl⟩ := hrel
    obtain ⟨hr, hl, he, hs, hZ⟩ := H.out
    by_cases hlt : k < len
    · have hc := hr k (by omega)
      have hd : (s : Int) / 2 ^ k = ((s / 2 ^ k : Nat) : Int) := by simp
      have hb := shr_and s k hs
      obtain ⟨sk, hsk⟩ : ∃ z, z = s / 2 ^ k := ⟨_, rfl⟩
      rw [← hsk] at hd hb
      have hsucc := Lib.hid (orL_succ ev s k)
      have ho := orL_lt ev s he k (by omega)
      have hg := getD_lt ev he k
      have hor := u32_or_nat _ _ ho hg
      generalize ev.getD k 0 = z at *
      generalize orL ev s k = o at *
      clear hr hl he hs hZ hsk ho hg
      cases ht : s.testBit k with
      | true =>
        rw [ht] at hb
        go_wp2
        go_round
        case rel => exact ⟨k + 1, by omega, by go_num, by rw [hsucc.out, ht]; rfl⟩
        case measure => simp [intOf]; omega
      | false =>
        rw [ht] at hb
        go_wp2
        go_round
        case rel => exact ⟨k + 1, by omega, by go_num, by rw [hsucc.out, ht]; rfl⟩
        case measure => simp [intOf]; omega
    · obtain rfl : k = len := by omega
      have hand := u32_andNot_nat (orL ev s k) s (orL_lt ev s he k (by omega)) hs
      rw [show (orL ev s k) &&& (4294967295 - s) = Z from hZ.symm] at hand
      clear hr hl he hs hZ
      go_wp2
      go_ret
      exact ⟨rfl, rfl⟩

/-- The rows of a list of edges that are even. -/
def evL (n : Nat) (A : Nat → Nat → Bool) : List Nat := (List.range n).map fun i => ofB n (A i)
theorem evL_length (n : Nat) (A : Nat → Nat → Bool) : (evL n A).length = n := by simp [evL]
theorem evL_getD (n : Nat) (A : Nat → Nat → Bool) (i : Nat) (h : i < n) : (evL n A).getD i 0 = ofB n (A i) := by simp [evL, List.getD, h]
theorem evL_lt (n : Nat) (A : Nat → Nat → Bool) (hn : n ≤ 12) : ∀ x ∈ evL n A, x < 4294967296 := by
  intro x hx
  obtain ⟨i, hi, rfl⟩ := List.mem_map.1 hx
  exact Nat.lt_of_lt_of_le (ofB_lt n _) (show 2 ^ n ≤ 2 ^ 32 from Nat.pow_le_pow_right (by omega) (by omega))

theorem testBit_orL (n : Nat) (A : Nat → Nat → Bool) (s j : Nat) : ∀ k, k ≤ n → (orL (evL n A) s k).testBit j = (decide (j < n) && (List.range k).any fun i => s.testBit i && A i j)
  | 0, _ => by simp [orL]
  | k + 1, hk => by
    rw [orL_succ, evL_getD n A k (by omega), List.range_succ, List.any_append]
    have ih := testBit_orL n A s j k (by omega)
    by_cases h : s.testBit k = true
    · rw [if_pos h, Nat.testBit_or, ih, testBit_ofB]
      simp only [List.any_cons, List.any_nil, Bool.or_false, h, Bool.true_and]
      cases decide (j < n) <;> simp
    · rw [if_neg h, ih]
      simp only [Bool.not_eq_true] at h
      simp [h]

theorem near_is (n : Nat) (A : Nat → Nat → Bool) (s : Nat) (hn : n ≤ 12) (hs : s < 4294967296) : dif (orL (evL n A) s n) s = nearB n A s := by
  apply Nat.eq_of_testBit_eq
  intro j
  rw [testBit_dif _ _ _ (orL_lt _ s (evL_lt n A hn) n (by rw [evL_length]; exact Nat.le_refl _)) hs, testBit_orL n A s j n (Nat.le_refl _), testBit_nearB]
  cases decide (j < n) <;> cases s.testBit j <;> simp

theorem near_any (b off n cap s : Nat) (A : Nat → Nat → Bool) (w : World) (hr : Row32 w b off (evL n A)) (hn : n ≤ 12) (hs : s < 4294967296) :
    Calls Tryd.prog 26 #[.slice (some ⟨b, off, none⟩) n cap, .int .u32 s] w fun e w' => e = .returned (.int .u32 ((nearB n A s : Nat) : Int)) ∧ w = w' := by
  rw [← near_is n A s hn hs]
  exact near_row b off n cap s (evL n A) w hr (evL_length n A).symm hn (evL_lt n A hn) hs

set_option maxHeartbeats 1000000 in
theorem grown_any (b off n cap i within : Nat) (A : Nat → Nat → Bool) (w : World) (hr : Row32 w b off (evL n A)) (hn : n ≤ 12) (hi : i < n) (hw : within < 4294967296) :
    Calls Tryd.prog 32 #[.slice (some ⟨b, off, none⟩) n cap, .int .u32 ((2 ^ i : Nat) : Int), .int .u32 within] w fun e w' => e = .returned (.int .u32 ((growB n A within i : Nat) : Int)) ∧ w = w' := by
  have hi0 : 2 ^ i < 4294967296 := Nat.lt_of_lt_of_le (Nat.pow_lt_pow_right (by omega) (show i < 32 by omega)) (by omega)
  have hlt := it_lt n A within (2 ^ i) 32 hi0 hw
  have hend := it_end n A within (2 ^ i) (card_one n i hi)
  have H := Lib.hid (And.intro hr (And.intro hw (And.intro hlt hend)))
  obtain ⟨Z, hZ⟩ : ∃ Z, Z = growB n A within i := ⟨_, rfl⟩
  obtain ⟨S, hS⟩ : ∃ S, S = 2 ^ i := ⟨_, rfl⟩
  rw [← hZ, ← hS]
  have HZ := Lib.hid (And.intro hZ hS)
  clear hr hw hlt hend hZ hS hi0 hi
  go_enter Tryd.func32, Tryd.ntmps32
  go_wp2
  go_loop [1] (fun s => ∃ j : Nat, s = .int .u32 ((itB n A within (2 ^ i) j : Nat) : Int)) (fun s => 4294967296 - (intOf s).toNat)
  case atStart => exact ⟨0, by rw [HZ.out.2]; rfl⟩
  case round =>
    obtain ⟨j, rfl⟩ := hrel
    obtain ⟨hr, hw, hlt, hend⟩ := H.out
    have hc := hlt j
    have hnl : nearB n A (itB n A within (2 ^ i) j) < 4294967296 := Nat.lt_of_lt_of_le (nearB_lt n A _) (show 2 ^ n ≤ 2 ^ 32 from Nat.pow_le_pow_right (by omega) (by omega))
    have hand := u32_and_nat _ _ hnl hw
    have hml : nearB n A (itB n A within (2 ^ i) j) &&& within < 4294967296 := Nat.lt_of_le_of_lt Nat.and_le_right hw
    have hor := u32_or_nat _ _ hc hml
    have hz := near_and_zero n A within (itB n A within (2 ^ i) j)
    have hstep : itB n A within (2 ^ i) j ||| (nearB n A (itB n A within (2 ^ i) j) &&& within) = itB n A within (2 ^ i) (j + 1) := rfl
    have hgt : nearB n A (itB n A within (2 ^ i) j) &&& within ≠ 0 → itB n A within (2 ^ i) j < itB n A within (2 ^ i) (j + 1) := by
      intro h
      have h1 : itB n A within (2 ^ i) j ≤ itB n A within (2 ^ i) (j + 1) := Nat.left_le_or
      have h2 : itB n A within (2 ^ i) (j + 1) ≠ itB n A within (2 ^ i) j := fun e => h (hz.2 e)
      omega
    have hl1 := hlt (j + 1)
    have hcall := fun w' (h : Row32 w' b off (evL n A)) => near_any b off n cap (itB n A within (2 ^ i) j) A w' h hn hc
    have he := hend j
    rw [hstep] at hor
    have HC := Lib.hid (hcall w hr)
    have HE := Lib.hid (And.intro he (And.intro hz (And.intro hgt (And.intro hc hl1))))
    clear hr hw hlt hend hc hnl hml hz hstep hgt hl1 hcall he
    obtain ⟨M, hM⟩ : ∃ M, M = nearB n A (itB n A within (2 ^ i) j) &&& within := ⟨_, rfl⟩
    rw [← hM] at hand hor HE
    by_cases c : M = 0
    · have e : itB n A within (2 ^ i) j = Z := by
        obtain ⟨he, hz, _, _, _⟩ := HE.out
        rw [HZ.out.1]
        exact he (hz.1 c)
      subst c
      generalize itB n A within (2 ^ i) j = cur at *
      subst e
      clear hor HE
      go_wp2_with (go_at_call 26; refine HC.out.mono ?_; rintro e w' ⟨rfl, rfl⟩)
      go_ret
      exact ⟨rfl, rfl⟩
    · have hlt : Hid (itB n A within (2 ^ i) j < itB n A within (2 ^ i) (j + 1) ∧ itB n A within (2 ^ i) (j + 1) < 4294967296) := by
        obtain ⟨_, _, hgt, _, hl1⟩ := HE.out
        exact Lib.hid ⟨hgt c, hl1⟩
      have hz : ((M : Int) == 0) = false := by simp; omega
      clear c HE hM
      obtain ⟨nx, hnx⟩ : ∃ nx, nx = itB n A within (2 ^ i) (j + 1) := ⟨_, rfl⟩
      rw [← hnx] at hor hlt
      have HN := Lib.hid hnx
      clear hnx
      generalize itB n A within (2 ^ i) j = cur at *
      go_wp2_with (go_at_call 26; refine HC.out.mono ?_; rintro e w' ⟨rfl, rfl⟩)
      go_round
      case rel => exact ⟨j + 1, by rw [← HN.out]⟩
      case measure => have := hlt.out; simp [intOf]; omega
end Go.Proofs.YtmjpdknnglblcaaDoor
