/- The walk of graph.Sets. -/
import Derived.Test.YtmjpdknnglblcaaDoorGrO
namespace Go.Proofs.YtmjpdknnglblcaaDoor
open Go.RowKit
open Gr Go.Deep
set_option maxRecDepth 100000

/-- The connected sets below k, rising. -/
def setsTo (n : Nat) (A : Nat → Nat → Bool) (k : Nat) : List Nat := (List.range k).filter (connB n A)
def setsL (n : Nat) (A : Nat → Nat → Bool) : List Nat := setsTo n A (2 ^ n)
theorem setsTo_succ (n : Nat) (A : Nat → Nat → Bool) (k : Nat) : setsTo n A (k + 1) = if connB n A k then setsTo n A k ++ [k] else setsTo n A k := by
  unfold setsTo
  rw [List.range_succ, List.filter_append]
  cases h : connB n A k <;> simp [h]
theorem setsTo_len (n : Nat) (A : Nat → Nat → Bool) (k : Nat) : (setsTo n A k).length ≤ k := by
  have := List.length_filter_le (connB n A) (List.range k); simpa [setsTo] using this

def OutSt (w1 : World) (e : TypeId) (size : Nat) (v : Value) (k : Nat) (xs : List Value) (wr : World) : Prop :=
  wr.ownsRow w1.heap.size e size v k xs ∧ Below w1.heap.size w1 wr

set_option maxHeartbeats 1000000 in
theorem Sets_any (a : Option Addr) (len cap : Nat) (es : List Nat) (w : World) (h : EdgesAt w a len cap es) (hT : TabAt w) :
    Calls Tryd.prog 16 #[.slice a len cap] w fun e w' => ∃ v, e = .returned v ∧ w'.ownsRow w.heap.size 23 1 v (setsL es.length (adj es es.length)).length ((setsL es.length (adj es es.length)).map U32) ∧ Below w.heap.size w w' := by
  have hn := h.le12
  have HE := Lib.hid (even_any a len cap es w h hT)
  obtain ⟨n, hn'⟩ : ∃ n, n = es.length := ⟨_, rfl⟩
  rw [← hn'] at HE hn ⊢
  clear h hT hn'
  generalize adj es n = A at *
  obtain ⟨i0, hi, hz0, hz1, hz2⟩ := info_parts info23
  have hpn : 2 ^ n ≤ 4096 := Nat.le_trans (Nat.pow_le_pow_right (by omega) hn) (by decide)
  obtain ⟨P, hP⟩ : ∃ P, P = 2 ^ n := ⟨_, rfl⟩
  have hall0 : IntKind.u32.wrap ((2 : Int) ^ n) = (P : Int) := by
    have e : (2 : Int) ^ n = ((2 ^ n : Nat) : Int) := by simp
    rw [wrap_u32', e]; omega
  have HP := Lib.hid (And.intro hP hpn)
  clear hpn hP
  go_enter Tryd.func16, Tryd.ntmps16
  go_wp2_with (go_at_call 23; refine HE.out.mono ?_; rintro e w1 ⟨B, rfl, hrow, hb⟩; have HB := Lib.hid hb; have HRW := Lib.hid hrow; clear hb hrow)
  go_loopw [3, 11] (fun v s wr => ∃ k : Nat, s = .int .u32 k ∧ k ≤ P ∧ OutSt w1 23 1 v (setsTo n A k).length ((setsTo n A k).map U32) wr) (fun _ s _ => P - (intOf s).toNat)
  case atStart => exact ⟨0, rfl, by omega, World.ownsRow_nil _ _ _ _, Below.refl _ _⟩
  case round =>
    obtain ⟨k, rfl, hk, hown, hbl⟩ := hrel
    obtain ⟨hP, hpn⟩ := HP.out
    by_cases hlt : k < P
    · have hrowr : Row32 wr B 0 (evL n A) := by
        by_cases hn0 : n = 0
        · intro i hi; rw [evL_length] at hi; omega
        · exact HRW.out.below hbl (block_lt (HRW.out 0 (by rw [evL_length]; omega)))
      have HC := Lib.hid (connected_any B 0 n n k A wr hrowr hn (by omega))
      have hsucc := Lib.hid (setsTo_succ n A k)
      have hle := setsTo_len n A k
      have hsz := hbl.size
      have HBL := Lib.hid hbl
      have hk1 : IntKind.u32.wrap ((k : Int) + 1) = ((k + 1 : Nat) : Int) := by rw [wrap_u32']; omega
      have hle12 : (setsTo n A k).length ≤ 4096 := by omega
      obtain ⟨kk, hkk⟩ : ∃ x, x = k + 1 := ⟨_, rfl⟩
      rw [← hkk] at hk1
      have HKK := Lib.hid hkk
      have hlti : (k : Int) < (P : Int) := by omega
      clear hrowr hbl hP hpn hle hkk hk
      cases hcb : connB n A k with
      | true =>
        rw [hcb] at HC hsucc
        clear hcb
        go_wp2_with (first | (go_at_call 24; refine HC.out.mono ?_; rintro e w' ⟨rfl, rfl⟩) | (at_builtin; refine wpList_append_own _ rfl _ _ 22 rfl w1.heap.size 23 i0 (.int .u32 0) 1 4 Tryd.underlying22 hi hz0 hz1 hz2 rfl (by decide) _ _ _ rfl (hown.alloc _) ⟨wr.heap.size, 0, none⟩ 1 1 [.int .u32 (k : Int)] rfl rfl (cell_one_new _ _ _) (by simp [Value.oneCell']) (by unfold maxLen; omega) (by omega) (by simp; omega) ?_; intro v' w2 hown' hgrow _))
        refine ⟨⟨kk, rfl, by have := HKK.out; omega, ?_, ?_⟩, ?_⟩
        · rw [HKK.out, hsucc.out, if_pos trivial, List.length_append, List.map_append]; exact hown'
        · exact HBL.out.trans (((Below.refl _ wr).alloc hsz _).grown hgrow (by simp; omega) (fun j hj => ownsRow_block hown j hj))
        · have := HKK.out; simp [intOf]; omega
      | false =>
        rw [hcb] at HC hsucc
        clear hcb
        go_wp2_with (go_at_call 24; refine HC.out.mono ?_; rintro e w' ⟨rfl, rfl⟩)
        refine ⟨⟨kk, rfl, by have := HKK.out; omega, ?_, HBL.out⟩, ?_⟩
        · rw [HKK.out, hsucc.out, if_neg (by simp)]; exact hown
        · have := HKK.out; simp [intOf]; omega
    · obtain rfl : k = P := by omega
      have HO := Lib.hid hown
      have HBL := Lib.hid hbl
      clear hown hbl
      go_wp2
      go_ret
      exact ⟨_, rfl, by have := ownsRow_mono HO.out HB.out.size; rw [hP] at this; exact this, HB.out.trans (HBL.out.mono HB.out.size)⟩
end Go.Proofs.YtmjpdknnglblcaaDoor
