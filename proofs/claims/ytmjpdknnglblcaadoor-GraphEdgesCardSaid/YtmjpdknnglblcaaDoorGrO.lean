/- The walk of graph.Components. -/
import Derived.Test.YtmjpdknnglblcaaDoorGrK
import Derived.Test.YtmjpdknnglblcaaDoorGrP
import Derived.Maps.AppendAt
namespace Go.Proofs.YtmjpdknnglblcaaDoor
open Go.RowKit
open Gr Go.Deep
set_option maxRecDepth 100000

def U32 (c : Nat) : Value := .int .u32 (c : Int)
/-- What the call has told so far, the set t being left. -/
def CompSt (w1 : World) (n : Nat) (A : Nat → Nat → Bool) (t0 t : Nat) (v : Value) (wr : World) : Prop :=
  ∃ cs : List Nat, wr.ownsRow w1.heap.size 23 1 v cs.length (cs.map U32) ∧ Below w1.heap.size w1 wr ∧ cs ++ compsL n A t = compsL n A t0 ∧ t ≤ t0 ∧ cs.length + t ≤ t0

theorem CompSt.start (w1 : World) (n : Nat) (A : Nat → Nat → Bool) (t0 : Nat) : CompSt w1 n A t0 t0 (.slice none 0 0) w1 :=
  ⟨[], World.ownsRow_nil _ _ _ _, Below.refl _ _, rfl, Nat.le_refl _, by simp⟩

theorem ownsRow_mono {w : World} {b b' : Nat} {e : TypeId} {size : Nat} {v : Value} {n : Nat} {xs : List Value} (h : w.ownsRow b e size v n xs) (hb : b' ≤ b) : w.ownsRow b' e size v n xs := by
  obtain ⟨h1, h2 | ⟨g, cap, cur, h3, h4, h5⟩⟩ := h
  · exact ⟨h1, .inl h2⟩
  · exact ⟨h1, .inr ⟨g, cap, cur, h3, Nat.le_trans hb h4, h5⟩⟩

theorem ownsRow_block {w : World} {b : Nat} {e : TypeId} {size : Nat} {v : Value} {n : Nat} {xs : List Value} (h : w.ownsRow b e size v n xs) (j : Nat) (hj : v.ownBlock = some j) : b ≤ j := by
  obtain ⟨h1, ⟨h2, _⟩ | ⟨g, cap, cur, h3, h4, h5⟩⟩ := h
  · rw [h2] at hj; cases hj
  · rw [h3] at hj; cases hj; exact h4

set_option maxHeartbeats 1000000 in
theorem Components_any (a : Option Addr) (len cap s : Nat) (es : List Nat) (w : World) (h : EdgesAt w a len cap es) (hT : TabAt w) (hs : s < 4294967296) :
    Calls Tryd.prog 14 #[.slice a len cap, .int .u32 s] w fun e w' => ∃ v, e = .returned v ∧ w'.ownsRow w.heap.size 23 1 v (compsL es.length (adj es es.length) (s % 2 ^ es.length)).length ((compsL es.length (adj es es.length) (s % 2 ^ es.length)).map U32) ∧ Below w.heap.size w w' := by
  have hn := h.le12
  have HE := Lib.hid (even_any a len cap es w h hT)
  obtain ⟨n, hn'⟩ : ∃ n, n = es.length := ⟨_, rfl⟩
  rw [← hn'] at HE hn ⊢
  clear h hT hn'
  generalize adj es n = A at *
  obtain ⟨i0, hi, hz0, hz1, hz2⟩ := info_parts info23
  have hpn : 2 ^ n ≤ 4096 := Nat.le_trans (Nat.pow_le_pow_right (by omega) hn) (by decide)
  have hpn0 : 0 < 2 ^ n := Nat.pow_pos (by omega)
  obtain ⟨t0, ht0⟩ : ∃ t, t = s % 2 ^ n := ⟨_, rfl⟩
  have ht0lt : t0 < 2 ^ n := by rw [ht0]; exact Nat.mod_lt _ hpn0
  obtain ⟨P, hP⟩ : ∃ P, P = 2 ^ n := ⟨_, rfl⟩
  have hall0 : IntKind.u32.wrap ((2 : Int) ^ n) = (P : Int) := by
    have e : (2 : Int) ^ n = ((2 ^ n : Nat) : Int) := by simp
    rw [wrap_u32', e]; omega
  have hall : IntKind.u32.wrap ((P : Int) - 1) = ((P - 1 : Nat) : Int) := by rw [wrap_u32']; omega
  have hand := and32 s (P - 1) hs (by omega)
  rw [show s &&& (P - 1) = t0 by rw [ht0, hP, Nat.and_two_pow_sub_one_eq_mod]] at hand
  obtain ⟨M, hM⟩ : ∃ M, M = P - 1 := ⟨_, rfl⟩
  rw [← hM] at hall hand
  rw [← ht0]
  have HT0 := Lib.hid (And.intro ht0lt hpn)
  clear hpn hpn0 ht0 hP hM ht0lt hs
  go_enter Tryd.func14, Tryd.ntmps14
  go_wp2_with (go_at_call 23; refine HE.out.mono ?_; rintro e w1 ⟨B, rfl, hrow, hb⟩; have HB := Lib.hid hb; have HRW := Lib.hid hrow; clear hb hrow)
  go_loopw [1, 5] (fun t v wr => ∃ k : Nat, t = .int .u32 k ∧ CompSt w1 n A t0 k v wr) (fun t _ _ => (intOf t).toNat)
  case atStart => exact ⟨t0, rfl, CompSt.start w1 n A t0⟩
  case round =>
    obtain ⟨k, rfl, cs, hown, hbl, hcs, hkt, hlen⟩ := hrel
    obtain ⟨ht0lt, hpn⟩ := HT0.out
    by_cases hk0 : k = 0
    · subst hk0
      rw [compsL_zero, List.append_nil] at hcs
      have HC := Lib.hid hcs
      have HO := Lib.hid hown
      have HBL := Lib.hid hbl
      clear hcs hown hbl
      go_wp2
      go_ret
      exact ⟨_, rfl, by rw [← HC.out]; exact ownsRow_mono HO.out HB.out.size, HB.out.trans (HBL.out.mono HB.out.size)⟩
    · have hkn : k < 2 ^ n := by omega
      have hp32 : 2 ^ n ≤ 4294967296 := by omega
      have hln := low_lt' k n hk0 (by omega) hkn
      have hrowr := HRW.out.below hbl (block_lt (HRW.out 0 (by rw [evL_length]; omega)))
      have HL := Lib.hid (lowest_any k wr (by omega) hk0)
      have HG := Lib.hid (grown_any B 0 n n (lowB k) k A wr hrowr hn hln (by omega))
      have hcl := grow_lt n A k hn hk0 hkn
      have hless := comp_less n A k hn hk0 hkn
      have hstep := compsL_step n A k hn hk0 hkn
      have hdif := u32_andNot_nat k (growB n A k (lowB k)) (by omega) hcl
      rw [show k &&& (4294967295 - growB n A k (lowB k)) = dif k (growB n A k (lowB k)) from rfl] at hdif
      generalize growB n A k (lowB k) = c at *
      obtain ⟨k2, hk2⟩ : ∃ k2, k2 = dif k c := ⟨_, rfl⟩
      rw [← hk2] at hdif hless hstep
      rw [hstep] at hcs
      generalize 2 ^ lowB k = lo at *
      have hkz : ((k : Int) != 0) = true := by simp; omega
      have hle12 : cs.length ≤ 4096 := by omega
      have HK := Lib.hid (And.intro hcs (And.intro hless (And.intro hkt hlen)))
      have hsz := hbl.size
      have HBL := Lib.hid hbl
      clear hk2 hk0 hkn hp32 hln hrowr hcl hless hstep hcs hkt hlen ht0lt hpn hbl
      go_wp2_with (first | (go_at_call 33; refine HL.out.mono ?_; rintro e w' ⟨rfl, rfl⟩) | (go_at_call 32; refine HG.out.mono ?_; rintro e w' ⟨rfl, rfl⟩) | (at_builtin; refine wpList_append_own _ rfl _ _ 22 rfl w1.heap.size 23 i0 (.int .u32 0) 1 4 Tryd.underlying22 hi hz0 hz1 hz2 rfl (by decide) _ _ _ rfl (hown.alloc _) ⟨wr.heap.size, 0, none⟩ 1 1 [.int .u32 (c : Int)] rfl rfl (cell_one_new _ _ _) (by simp [Value.oneCell']) (by unfold maxLen; omega) (by omega) (by simp; omega) ?_; intro v' w2 hown' hgrow _))
      obtain ⟨hcs, hless, hkt, hlen⟩ := HK.out
      refine ⟨⟨k2, rfl, cs ++ [c], ?_, ?_, ?_, ?_, ?_⟩, ?_⟩
      · rw [List.length_append, List.map_append]; exact hown'
      · exact HBL.out.trans (((Below.refl _ wr).alloc hsz _).grown hgrow (by simp; omega) (fun j hj => ownsRow_block hown j hj))
      · rw [List.append_assoc]; exact hcs
      · omega
      · simp; omega
      · simp [intOf]; omega
end Go.Proofs.YtmjpdknnglblcaaDoor
