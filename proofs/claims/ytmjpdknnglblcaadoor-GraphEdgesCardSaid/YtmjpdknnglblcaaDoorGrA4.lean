/- The walk of the reference's Components. -/
import Derived.Test.YtmjpdknnglblcaaDoorGrA3
import Derived.Test.YtmjpdknnglblcaaDoorGrH
namespace Go.Proofs.YtmjpdknnglblcaaDoor
open Go.RowKit
open Gr Go.Deep
set_option maxRecDepth 100000
namespace Gr

/-- What is grown within all of the set is what is grown within what is left. -/
theorem it_all {n : Nat} {A : Nat → Nat → Bool} {all t seen last i : Nat} (h : PartI n A all t seen last) (hA : ∀ i j, A i j = A j i) (hi : t.testBit i = true) :
    ∀ j, itB n A all (2 ^ i) j = itB n A t (2 ^ i) j ∧ ∀ x, (itB n A t (2 ^ i) j).testBit x = true → t.testBit x = true
  | 0 => ⟨rfl, fun x hx => by
      simp only [itB, Nat.testBit_two_pow, decide_eq_true_eq] at hx
      rw [← hx]; exact hi⟩
  | j + 1 => by
    obtain ⟨h1, h2⟩ := it_all h hA hi j
    have e : itB n A all (2 ^ i) (j + 1) = itB n A t (2 ^ i) (j + 1) := by
      simp only [itB]
      rw [h1]
      apply Nat.eq_of_testBit_eq
      intro x
      simp only [stepB, Nat.testBit_or, Nat.testBit_and]
      cases hx : (nearB n A (itB n A t (2 ^ i) j)).testBit x with
      | false => simp
      | true =>
        cases htx : t.testBit x with
        | true => rw [h.sub x htx]
        | false =>
          cases hax : all.testBit x with
          | false => rfl
          | true =>
            exfalso
            have hs : seen.testBit x = true := by rw [h.told, hax, htx]; rfl
            rw [testBit_nearB] at hx
            simp only [Bool.and_eq_true] at hx
            obtain ⟨y, _, hy⟩ := List.any_eq_true.1 hx.2.2
            simp only [Bool.and_eq_true] at hy
            have := h.shut x y hs (h2 y hy.1)
            rw [hA, hy.2] at this; cases this
    refine ⟨e, fun x hx => ?_⟩
    simp only [itB, stepB, Nat.testBit_or, Nat.testBit_and, Bool.or_eq_true, Bool.and_eq_true] at hx
    rcases hx with hx | hx
    · exact h2 x hx
    · exact hx.2

/-- Behind the relations below i, t being left. -/
structure FromI (n : Nat) (A : Nat → Nat → Bool) (all i t seen : Nat) (cs : List Nat) : Prop where
  part : ∃ last, PartI n A all t seen last
  list : cs ++ compsL n A t = compsL n A all
  least : ∀ j, j < i → t.testBit j = false
  size : cs.length + t ≤ all

theorem FromI.start (n : Nat) (A : Nat → Nat → Bool) (all : Nat) : FromI n A all 0 all 0 [] where
  part := ⟨0, PartI.start n A all⟩
  list := rfl
  least := fun j h => absurd h (by omega)
  size := by simp

theorem FromI.seen_lt {n : Nat} {A : Nat → Nat → Bool} {all i t seen : Nat} {cs : List Nat} (h : FromI n A all i t seen cs) : seen ≤ all := by
  obtain ⟨last, hp⟩ := h.part
  exact testBit_ext_le _ _ (fun i hi => by rw [hp.told] at hi; simp at hi; exact hi.1)

theorem FromI.bit {n : Nat} {A : Nat → Nat → Bool} {all i t seen : Nat} {cs : List Nat} (h : FromI n A all i t seen cs) : t.testBit i = (all.testBit i && !seen.testBit i) := by
  obtain ⟨last, hp⟩ := h.part
  rw [hp.told]
  cases ht : t.testBit i with
  | true => rw [hp.sub i ht]; rfl
  | false => cases all.testBit i <;> rfl

theorem FromI.pass {n : Nat} {A : Nat → Nat → Bool} {all i t seen : Nat} {cs : List Nat} (h : FromI n A all i t seen cs) (hb : t.testBit i = false) : FromI n A all (i + 1) t seen cs where
  part := h.part
  list := h.list
  least := fun j hj => by
    by_cases e : j = i
    · rw [e]; exact hb
    · exact h.least j (by omega)
  size := h.size

theorem FromI.step {n : Nat} {A : Nat → Nat → Bool} {all i t seen : Nat} {cs : List Nat} (h : FromI n A all i t seen cs) (hn : n ≤ 12) (hA : ∀ i j, A i j = A j i) (hall : all < 2 ^ n) (hb : t.testBit i = true) :
    FromI n A all (i + 1) (dif t (growB n A all i)) (seen ||| growB n A all i) (cs ++ [growB n A all i]) ∧ growB n A all i ≤ all ∧ cs.length < all := by
  have hp : 2 ^ n ≤ 2 ^ 32 := Nat.pow_le_pow_right (by omega) (by omega)
  obtain ⟨last, hpt⟩ := h.part
  have h0 : t ≠ 0 := ne_zero_of t i hb
  have htl : t ≤ all := testBit_ext_le _ _ hpt.sub
  have hlow : lowB t = i := by
    apply Nat.le_antisymm (low_le t i h0 (by omega) hb)
    apply Nat.le_of_not_lt
    intro hlt
    have : t.testBit (lowB t) = true := testBit_at t h0 (by omega)
    rw [h.least _ hlt] at this; cases this
  have hg : growB n A all i = growB n A t (lowB t) := by rw [hlow]; exact (it_all hpt hA hb n).1
  rw [hg]
  obtain ⟨c, hc⟩ : ∃ c, c = growB n A t (lowB t) := ⟨_, rfl⟩
  obtain ⟨q1, q2, q3, q4, q5, q6, q7, q8⟩ := hpt.step hn hA hall h0 c hc
  have hst := compsL_step n A t hn h0 q8
  have hls := comp_less n A t hn h0 q8
  have hhas := grow_has n A t (lowB t)
  rw [← hc] at hst hls hhas ⊢
  have hl := h.list
  rw [hst] at hl
  have hs := h.size
  refine ⟨⟨⟨_, q5⟩, by rw [List.append_assoc]; exact hl, fun j hj => ?_, by rw [List.length_append, List.length_singleton]; omega⟩, by omega, by omega⟩
  rw [testBit_dif t c j (by omega) (by omega)]
  by_cases e : j = i
  · rw [e, ← hlow, hhas]; simp
  · rw [h.least j (by omega)]; rfl

theorem FromI.done {n : Nat} {A : Nat → Nat → Bool} {all t seen : Nat} {cs : List Nat} (h : FromI n A all n t seen cs) (hall : all < 2 ^ n) : cs = compsL n A all := by
  obtain ⟨last, hpt⟩ := h.part
  have htl : t ≤ all := testBit_ext_le _ _ hpt.sub
  have : t = 0 := by
    apply Nat.eq_of_testBit_eq
    intro j
    rw [Nat.zero_testBit]
    by_cases hj : j < n
    · exact h.least j hj
    · exact Nat.testBit_lt_two_pow (Nat.lt_of_lt_of_le (show t < 2 ^ n by omega) (Nat.pow_le_pow_right (by omega) (by omega)))
  have hl := h.list
  rw [this, compsL_zero, List.append_nil] at hl
  exact hl
end Gr

/-- What the call has told so far. -/
def RCompSt (w0 : World) (n : Nat) (A : Nat → Nat → Bool) (all i seen : Nat) (v : Value) (wr : World) : Prop :=
  ∃ (cs : List Nat) (t : Nat), wr.ownsRow w0.heap.size 23 1 v cs.length (cs.map U32) ∧ Below w0.heap.size w0 wr ∧ FromI n A all i t seen cs

set_option maxHeartbeats 1000000 in
theorem RComponents_any (a : Option Addr) (len cap s : Nat) (es : List Nat) (w : World) (h : EdgesAt w a len cap es) (_hs : s < 4294967296) :
    Calls Tryd.prog 15 #[.slice a len cap, .int .u32 s] w fun e w' => ∃ v, e = .returned v ∧ w'.ownsRow w.heap.size 23 1 v (compsL es.length (adj es es.length) (s % 2 ^ es.length)).length ((compsL es.length (adj es es.length) (s % 2 ^ es.length)).map U32) ∧ Below w.heap.size w w' := by
  have hn := h.le12
  have hl63 : len < 2 ^ 63 := by have := h.1; have := h.2.1; unfold maxLen at this; omega
  have HM := Lib.hid (fun W => Many_any a len cap W hl63)
  rw [← h.2.2.1] at HM
  have HF := Lib.hid (fun i s hi hs W hb => RFrom_any a len cap i s es W (h.later hb) hi hs)
  have hsym := adj_symm es es.length
  obtain ⟨n, hn'⟩ : ∃ n, n = es.length := ⟨_, rfl⟩
  rw [← hn'] at HM HF hn hsym ⊢
  clear h hn' hl63
  generalize adj es n = A at *
  obtain ⟨i0, hi, hz0, hz1, hz2⟩ := info_parts info23
  have hpn : 2 ^ n ≤ 4096 := Nat.le_trans (Nat.pow_le_pow_right (by omega) hn) (by decide)
  have hpn0 : 0 < 2 ^ n := Nat.pow_pos (by omega)
  obtain ⟨t0, ht0⟩ : ∃ t, t = s % 2 ^ n := ⟨_, rfl⟩
  have ht0lt : t0 < 2 ^ n := by rw [ht0]; exact Nat.mod_lt _ hpn0
  obtain ⟨P, hP⟩ : ∃ P, P = 2 ^ n := ⟨_, rfl⟩
  have hall0 : IntKind.u32.wrap ((2 : Int) ^ n) = (P : Int) := by
    have e : (2 : Int) ^ n = ((2 ^ n : Nat) : Int) := by simp
    rw [wrap_u32', e]; omega
  have hrem : ((s : Int)).tmod (P : Int) = (t0 : Int) := by rw [ht0, hP]; rfl
  have hPz : ((P : Int) == 0) = false := by simp; omega
  have hPz2 : ((P : Int) = 0) = False := by simp; omega
  have hPz3 : (P = 0) = False := by simp; omega
  rw [← ht0]
  have HT0 := Lib.hid (And.intro ht0lt (And.intro hpn hsym))
  clear hpn hpn0 ht0 hP ht0lt _hs hsym
  go_enter Tryd.func15, Tryd.ntmps15
  go_wp2_with (go_at_call 27; refine (HM.out _).mono ?_; rintro e w' ⟨rfl, rfl⟩)
  go_loopw [5, 6, 8] (fun v se i wr => ∃ k se' : Nat, i = .int .i64 k ∧ k ≤ n ∧ se = .int .u32 se' ∧ RCompSt w n A t0 k se' v wr) (fun _ _ i _ => n - (intOf i).toNat)
  case atStart => exact ⟨0, 0, rfl, Nat.zero_le _, rfl, [], t0, World.ownsRow_nil _ _ _ _, Below.refl _ _, FromI.start _ _ _⟩
  case round =>
    obtain ⟨k, se, rfl, hk, rfl, cs, t, hown, hb, hf⟩ := hrel
    obtain ⟨ht0, hpn, hsym⟩ := HT0.out
    by_cases hlt : k < n
    · have hk32 : k < 32 := by omega
      have ht32 : t0 < 4294967296 := by omega
      have hse32 : se < 4294967296 := by have := hf.seen_lt; omega
      have hbit := hf.bit
      cases ba : t0.testBit k with
      | false =>
        rw [ba, Bool.false_and] at hbit
        have HH := Lib.hid (fun W => has_any t0 k W ht32 hk32)
        rw [ba] at HH
        have HF2 := Lib.hid (hf.pass hbit)
        have HB := Lib.hid hb
        clear hb hf hbit ht0 hpn hsym hk ba
        go_wp2_with (first | (go_at_call 27; refine (HM.out _).mono ?_; rintro e w' ⟨rfl, rfl⟩) | (go_at_call 28; refine (HH.out _).mono ?_; rintro e w' ⟨rfl, rfl⟩))
        go_roundw
        case rel => exact ⟨k + 1, se, by go_num, by omega, rfl, cs, t, hown, HB.out, HF2.out⟩
        case measure => simp [intOf]; omega
      | true =>
        cases bs : se.testBit k with
        | true =>
          rw [ba, bs] at hbit
          have BA := Lib.hid ba
          have BS := Lib.hid bs
          have HF2 := Lib.hid (hf.pass (by simpa using hbit))
          have HB := Lib.hid hb
          clear hb hf hbit ht0 hpn hsym hk ba bs
          go_wp2_with (first | (go_at_call 27; refine (HM.out _).mono ?_; rintro e w' ⟨rfl, rfl⟩) | (go_at_call 28; refine (has_any _ _ _ (by assumption) (by assumption)).mono ?_; (try rw [BA.out]); (try rw [BS.out]); rintro e w' ⟨rfl, rfl⟩))
          go_roundw
          case rel => exact ⟨k + 1, se, by go_num, by omega, rfl, cs, t, hown, HB.out, HF2.out⟩
          case measure => simp [intOf]; omega
        | false =>
          rw [ba, bs] at hbit
          have BA := Lib.hid ba
          have BS := Lib.hid bs
          have hstep := hf.step hn hsym ht0 (by simpa using hbit)
          have hfr := fun W hb => HF.out k t0 hk32 ht32 W hb
          obtain ⟨c, hc⟩ : ∃ c, c = growB n A t0 k := ⟨_, rfl⟩
          rw [← hc] at hstep hfr
          obtain ⟨h1, h2, h3⟩ := hstep
          have E4 := u32_or_nat se c hse32 (by omega)
          obtain ⟨se2, hse2⟩ : ∃ z, z = se ||| c := ⟨_, rfl⟩
          rw [← hse2] at E4 h1
          have HFR := Lib.hid (hfr wr hb)
          have HF2 := Lib.hid h1
          have HB := Lib.hid hb
          have hsz := hb.size
          have hle12 : cs.length ≤ 4096 := by omega
          clear hb hf hbit ht0 hpn hsym hk ba bs hc h1 hfr hse2 h2 h3
          go_wp2_with (first | (go_at_call 27; refine (HM.out _).mono ?_; rintro e w' ⟨rfl, rfl⟩) | (go_at_call 28; refine (has_any _ _ _ (by assumption) (by assumption)).mono ?_; (try rw [BA.out]); (try rw [BS.out]); rintro e w' ⟨rfl, rfl⟩) | (go_at_call 30; refine HFR.out.mono ?_; rintro e w' ⟨rfl, rfl⟩) | (at_builtin; refine wpList_append_own _ rfl _ _ 22 rfl w.heap.size 23 i0 (.int .u32 0) 1 4 Tryd.underlying22 hi hz0 hz1 hz2 rfl (by decide) _ _ _ rfl (hown.alloc _) ⟨wr.heap.size, 0, none⟩ 1 1 [.int .u32 (c : Int)] rfl rfl (cell_one_new _ _ _) (by simp [Value.oneCell']) (by unfold maxLen; omega) (by omega) (by simp; omega) ?_; intro v' w2 hown' hgrow _))
          refine ⟨⟨k + 1, se2, by go_num, by omega, rfl, cs ++ [c], dif t c, ?_, ?_, HF2.out⟩, ?_⟩
          · rw [List.length_append, List.map_append]; exact hown'
          · exact HB.out.trans (((Below.refl _ wr).alloc hsz _).grown hgrow (by simp; omega) (fun j hj => ownsRow_block hown j hj))
          · simp [intOf]; omega
    · obtain rfl : k = n := by omega
      have hcs := hf.done ht0
      have HC := Lib.hid hcs
      have HO := Lib.hid hown
      have HB := Lib.hid hb
      clear hb hf ht0 hpn hsym hk hcs hown
      go_wp2_with (go_at_call 27; refine (HM.out _).mono ?_; rintro e w' ⟨rfl, rfl⟩)
      go_ret
      exact ⟨_, rfl, by rw [← HC.out]; exact HO.out, HB.out⟩
end Go.Proofs.YtmjpdknnglblcaaDoor
