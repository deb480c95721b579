/- The walk of tabularylaw33.GraphEdges. -/
import Derived.Test.YtmjpdknnglblcaaDoorGrD5
namespace Go.Proofs.YtmjpdknnglblcaaDoor
open Go.RowKit
open Gr Go.Deep
set_option maxRecDepth 100000

theorem EdSt.row {w W : World} {n : Nat} {ts : List Tx} (h : EdSt w n (rowS n ts) W) (hn : n ≤ 12) : RowX W (some ⟨w.heap.size, 0, none⟩) n n 1 ((rowsL n ts n).map U32) := by
  refine ⟨by rw [List.length_map, rowsL_length, Nat.one_mul], Nat.le_refl _, by unfold maxLen; omega, .inr ⟨w.heap.size, 0, rfl, h.2.1, fun i x hx => ?_⟩⟩
  have hi : i < n := by
    have := (List.getElem?_eq_some_iff.1 hx).1
    rw [List.length_map, rowsL_length] at this; exact this
  rw [Nat.zero_add, (h.2.2 i hi).1, ← hx]
  unfold rowsL U32
  simp [hi]

set_option maxHeartbeats 1000000 in
theorem GraphEdges_any (d : Nat) (a : Option Addr) (len cap : Nat) (ts : List Tx) (n0 : Int) (w : World) (h : ExsAt w d a len cap ts) (hT : TabAt w) :
    Calls Tryd.prog 6 #[.slice a len cap, .int .i64 n0] w fun e w' => e = .returned (.bool true) ∧ Below w.heap.size w w' := by
  obtain ⟨n, hn0⟩ : ∃ n : Nat, min (max n0 0) 12 = (n : Int) := ⟨(min (max n0 0) 12).toNat, by omega⟩
  have hn : n ≤ 12 := by omega
  have HW := Lib.hid (fun W hb => works_any W (hT.later hb))
  have H20 := Lib.hid (Bulk_any d a len cap ts 400 w h)
  have H21 := Lib.hid (Edges_any d a len cap n ts n0 w h hn0)
  have H22 := Lib.hid (fun W hb => REdges_any d a len cap n ts n0 W (h.later' hb) hn0)
  clear h hT hn0
  go_enter Tryd.func6, Tryd.ntmps6
  go_wp2_with (first | (go_at_call 20; refine H20.out.mono ?_; rintro e w' ⟨⟨z, rfl⟩, rfl⟩; by_cases hz : (400 : Int) < z) | (go_at_call 21; refine H21.out.mono ?_; rintro e w1 ⟨rfl, hs⟩; have HB1 := Lib.hid hs.1; have HR1 := Lib.hid (hs.row hn); clear hs) | (go_at_call 22; refine (H22.out _ HB1.out).mono ?_; rintro e w2 ⟨v, rfl, ho⟩; obtain ⟨a2, cap2, rfl, hc2⟩ := RowX.of_own ho.1 (by rw [List.length_map, rowsL_length, Nat.one_mul]); have HB2 := Lib.hid (HB1.out.trans (ho.2.mono HB1.out.size)); have HR2 := HR1.out.below ho.2; clear ho) | (go_at_call 13; refine (Same_eq _ _ _ _ _ _ _ (by assumption) (by assumption)).mono ?_; rintro e w3 ⟨rfl, hb⟩; have HB3 := Lib.hid (HB2.out.trans (hb.mono HB2.out.size)); clear hb) | (go_at_call 7; refine (HW.out _ HB3.out).mono ?_; rintro e w4 ⟨rfl, hb⟩; have HB4 := Lib.hid (HB3.out.trans (hb.mono HB3.out.size)); clear hb))
  · go_ret
    exact ⟨rfl, Below.refl _ _⟩
  · go_ret
    exact ⟨rfl, HB4.out⟩
end Go.Proofs.YtmjpdknnglblcaaDoor
