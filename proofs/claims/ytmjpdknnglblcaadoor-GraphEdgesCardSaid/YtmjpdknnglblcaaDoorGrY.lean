/- The walk of tabularylaw33.works. -/
import Derived.Test.YtmjpdknnglblcaaDoorGrX
import Derived.Test.YtmjpdknnglblcaaDoorGrS
namespace Go.Proofs.YtmjpdknnglblcaaDoor
open Go.RowKit
open Gr Go.Deep
set_option maxRecDepth 100000

theorem ownsRow_cells {w : World} {b : Nat} {e : TypeId} {size : Nat} {v : Value} {n : Nat} {xs : List Value} (h : w.ownsRow b e size v n xs) (hn : n ≠ 0) :
    ∃ g cap, v = .slice (some ⟨g, 0, none⟩) n cap ∧ b ≤ g ∧ g < w.heap.size ∧ n ≤ cap ∧ cap ≤ maxLen ∧ ∀ j x, xs[j]? = some x → w.cell? ⟨g, j, none⟩ = some x := by
  obtain ⟨h1, ⟨_, h2⟩ | ⟨g, cap, cur, h3, h4, h5, h6, h7, h8, h9⟩⟩ := h
  · exact absurd h2 hn
  · refine ⟨g, cap, h3, h4, (Array.getElem?_eq_some_iff.1 h5).1, h6, h7, fun j x hj => ?_⟩
    rw [← h9, List.getElem?_take] at hj
    split at hj
    · simp only [World.cell?, h5]; simpa using hj
    · cases hj

def exA : Nat → Nat → Bool := adj [2, 5, 2] 3
theorem ex_sets : setsL 3 exA = [1, 2, 3, 4, 6, 7] := by decide +kernel
theorem ex_splits : splitsL 3 exA 7 = [(1, 6), (3, 4)] := by decide +kernel
theorem ex_conn : connB 3 exA 5 = false := by decide +kernel

theorem ex_edges (w : World) (t : TypeId) : EdgesAt (w.alloc (.cells #[.int .u32 2, .int .u32 5, .int .u32 2] t)) (some ⟨w.heap.size, 0, none⟩) 3 3 [2, 5, 2] := by
  refine ⟨by omega, by unfold maxLen; omega, rfl, by decide, .inr ⟨w.heap.size, 0, rfl, fun i hi => ?_⟩⟩
  have hb := World.alloc_heap_new w (.cells #[.int .u32 2, .int .u32 5, .int .u32 2] t)
  simp only [World.cell?]; rw [hb]
  match i, hi with
  | 0, _ => rfl
  | 1, _ => rfl
  | 2, _ => rfl

theorem eq27 (a b c d : Int) (w : World) : (Op.equalIn 10000 27 (.agg #[.int .u32 a, .int .u32 b]) (.agg #[.int .u32 c, .int .u32 d])).run Tryd.prog w = .ok (a == c && b == d) w := by
  have u3 := Tryd.underlying23
  have a3 := Tryd.isAgg23
  have z3 := Tryd.sizeOf23
  rw [show (10000 : Nat) = 9999 + 1 from rfl, Op.equalIn]
  simp only [Sem.run_bind, run_underlying Tryd.underlying27, Result.andThen_ok]
  simp only [Std.Legacy.Range.forIn_eq_forIn_range', Std.Legacy.Range.size, Nat.sub_zero, Nat.add_sub_cancel, Nat.div_one, List.range'_succ, List.range'_zero, List.forIn_cons, List.forIn_nil]
  go_simp
  by_cases h1 : a = c <;> by_cases h2 : b = d <;> simp [h1, h2]
attribute [local go_sem] eq27

set_option maxHeartbeats 1000000 in
theorem works_any (w : World) (hT : TabAt w) : Calls Tryd.prog 7 #[] w fun e w' => e = .returned (.bool true) ∧ Below w.heap.size w w' := by
  have hE := ex_edges w 23
  have hb0 : Below w.heap.size w (w.alloc (.cells #[.int .u32 2, .int .u32 5, .int .u32 2] 23)) := (Below.refl _ w).alloc (Nat.le_refl _) _
  have HS := Lib.hid (Sets_any _ _ _ _ _ hE (hT.later hb0))
  have HP := Lib.hid (fun W hb => Splits_any _ _ _ 7 _ W (hE.later hb) ((hT.later hb0).later hb) (by decide) (by decide))
  have HC := Lib.hid (fun W hb => Connected_any _ _ _ 5 _ W (hE.later hb) ((hT.later hb0).later hb) (by decide))
  have HB0 := Lib.hid hb0
  clear hE hb0
  simp only [List.length_cons, List.length_nil, Nat.reduceAdd] at HS HP HC
  rw [show adj [2, 5, 2] 3 = exA from rfl] at HS HP HC
  simp only [ex_sets, ex_splits, ex_conn] at HS HP HC
  rw [show ((7 : Nat) : Int) = 7 from rfl] at HP
  rw [show ((5 : Nat) : Int) = 5 from rfl] at HC
  go_enter Tryd.func7, Tryd.ntmps7
  go_wp2_with (first | (go_at_call 16; refine HS.out.mono ?_; rintro e w1 ⟨v, rfl, hown, hb⟩; obtain ⟨g, cap, rfl, hg1, hg2, hg3, hg4, hg5⟩ := ownsRow_cells hown (by decide); have HB1 := Lib.hid hb; have HG := Lib.hid hg5; clear hown hb hg5) | (go_at_call 8; refine (HP.out _ HB1.out).mono ?_; rintro e w2 ⟨v, rfl, hown, hb⟩; obtain ⟨g', cap', rfl, hg1', hg2', hg3', hg4', hg5'⟩ := ownsRow_cells hown (by decide); have HB2 := Lib.hid hb; have c2 := (hb.cell (p := ⟨g, 2, none⟩) hg2).trans (HG.out 2 _ rfl); have c5 := (hb.cell (p := ⟨g, 5, none⟩) hg2).trans (HG.out 5 _ rfl); have d0 := hg5' 0 _ rfl; have d1 := hg5' 1 _ rfl; have d2 := hg5' 2 _ rfl; have d3 := hg5' 3 _ rfl; simp only [U32] at c2 c5 d0 d1 d2 d3; clear hown hb hg5') | (go_at_call 9; refine (HC.out _ (HB1.out.trans (HB2.out.mono HB1.out.size))).mono ?_; rintro e w3 ⟨rfl, hb⟩; have HB3 := Lib.hid hb; clear hb))
  go_ret
  exact ⟨rfl, (HB0.out.trans (HB1.out.mono HB0.out.size)).trans ((HB2.out.trans (HB3.out.mono HB2.out.size)).mono (Nat.le_trans HB0.out.size HB1.out.size))⟩
end Go.Proofs.YtmjpdknnglblcaaDoor
