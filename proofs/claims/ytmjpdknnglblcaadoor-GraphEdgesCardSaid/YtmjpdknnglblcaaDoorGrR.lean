/- The iterator 'ones', and a range over it. -/
import Derived.RangeFuncNested
import Derived.RangeFuncBound
import Derived.RangeFuncCalls
import Derived.RangeFuncLeaves
import Derived.RangeFuncBox
import Derived.Shelf.Abstract
import Derived.Shelf.RegionOpen
import Derived.WalkKit
import Derived.OwnWalkIn
import Derived.TacticsInMore
import Derived.LoopNIn
import Derived.LoopIn
import Derived.Test.YtmjpdknnglblcaaDoorGrC
namespace Go.Proofs.YtmjpdknnglblcaaDoor
open Go.RowKit
open Gr
set_option maxRecDepth 100000
attribute [local go_sem] Oper.semAt_some

theorem ones_in (n e : Nat) (w : World) :
    CallsIn Fence.wide n Tryd.prog 36 #[.int .u32 e] w fun r w' => r = .returned (.func (.func 38) #[] #[.pointer (some ⟨w.heap.size, 0, none⟩)]) ∧ w' = w.alloc (.cells #[.int .u32 e] 23) := by
  refine callsIn_of_wp Tryd.func36 rfl trivial ?_ rfl
  simp only [Tryd.ntmps36, List.size_toArray, List.length_cons, List.length_nil, Nat.reduceAdd, Nat.reduceSub, Array.replicate_succ, Array.replicate_zero, List.push_toArray, List.append_toArray, List.nil_append, List.cons_append]
  gi_wp2
  go_ret
  exact ⟨rfl, rfl⟩

theorem and_pred_lt (s : Nat) (h : s ≠ 0) : s &&& (s - 1) < s := Nat.lt_of_le_of_lt Nat.and_le_right (by omega)

/-- How much is left, read off the iterator's own cell. -/
def leftAt (Bs : Nat) (w : World) : Nat := match w.cell? ⟨Bs, 0, none⟩ with | some v => (intOf v).toNat | none => 0
theorem leftAt_eq {Bs : Nat} {w : World} {s : Nat} (h : w.cell? ⟨Bs, 0, none⟩ = some (.int .u32 s)) : leftAt Bs w = s := by
  simp [leftAt, h, intOf]

set_option maxHeartbeats 1000000 in
theorem ones1_in (l Bs e n : Nat) (hn : 3 ≤ n) (J J' : Nat → World → Prop)
    (hJ : ∀ s W, J s W → s < 4294967296 ∧ W.cell? ⟨Bs, 0, none⟩ = some (.int .u32 s) ∧ W.frozen? ⟨Bs, 0, none⟩ = false ∧ TabAt W)
    (hY : ∀ s W, s ≠ 0 → J s W → YieldAt Fence.wide (n - 1) Tryd.prog l #[.int .i64 (Lib.ctz 32 s : Int)] W fun r W' => r = .returned (.bool true) ∧ J' s W')
    (hJ' : ∀ s W, J' s W → s < 4294967296 ∧ W.cell? ⟨Bs, 0, none⟩ = some (.int .u32 s) ∧ W.frozen? ⟨Bs, 0, none⟩ = false ∧ J (s &&& (s - 1)) (W.setCell ⟨Bs, 0, none⟩ (.int .u32 ((s &&& (s - 1) : Nat) : Int))))
    (W : World) (h0 : J e W) :
    CallsIn Fence.wide n Tryd.prog 38 #[.func (.yield l) #[] #[], .pointer (some ⟨Bs, 0, none⟩)] W fun r W' => (∃ v, r = .returned v) ∧ J 0 W' := by
  have HJ := Lib.hid hJ
  have HY := Lib.hid hY
  have HJ' := Lib.hid hJ'
  clear hJ hY hJ'
  refine callsIn_of_wp Tryd.func38 rfl trivial ?_ rfl
  simp only [Tryd.ntmps38, List.size_toArray, List.length_cons, List.length_nil, Nat.reduceAdd, Nat.reduceSub, Array.replicate_succ, Array.replicate_zero, List.push_toArray, List.append_toArray, List.nil_append, List.cons_append]
  gi_wp2
  gi_loopw [3] (fun p wr => ∃ s : Nat, Hid (J s wr)) (fun p wr => leftAt Bs wr)
  case atStart => exact ⟨e, Lib.hid h0⟩
  case round =>
    obtain ⟨s, hs⟩ := hrel
    obtain ⟨hs32, hc, hf, hT⟩ := HJ.out s wr hs.out
    by_cases h0 : s = 0
    · subst h0
      clear hs32
      gi_wp2
      go_end0
      exact ⟨⟨_, rfl⟩, hs.out⟩
    · have hz : ((s : Int) != 0) = true := by simp; omega
      obtain ⟨fn, tmps, assign, body, hy, hR⟩ := HY.out s wr h0 hs.out
      have HT := Lib.hid (tz32_any s wr hs32 h0 hT)
      have HR := Lib.hid hR
      have hlf := Lib.hid (leftAt_eq hc)
      have hlt := Lib.hid (And.intro hs32 (And.intro h0 (and_pred_lt s h0)))
      generalize hct : Lib.ctz 32 s = ct at *
      clear hct h0 hs32 hR hT
      gi_wp2_with (refine ⟨trivial, fun _ => by omega, ?_⟩; refine (callsIn_wide.2 HT.out).mono ?_; rintro e w' ⟨rfl, rfl⟩)
      refine ⟨fun _ => by omega, HR.out.mono ?_⟩
      rintro e W2 ⟨rfl, hJ2⟩
      obtain ⟨hs2, hc2, hf2, hn2⟩ := HJ'.out s W2 hJ2
      have hW2 := Lib.hid hn2
      obtain ⟨p, hp⟩ : ∃ p, p = s - 1 := ⟨_, rfl⟩
      have hs0 := hlt.out.2.1
      have e1 : (s : Int) - 1 = (p : Int) := by omega
      have e2 : (p : Int) % 4294967296 = (p : Int) := by omega
      have e3 := u32_and_nat s p hs2 (by omega)
      obtain ⟨q, hq⟩ : ∃ q, q = s &&& p := ⟨_, rfl⟩
      rw [← hq] at e3
      rw [hp] at hq
      rw [← hq] at hW2
      have HQ := Lib.hid hq
      have hW2' := hW2.out
      have hcell := (HJ.out q _ hW2').2.1
      have hmeas := Lib.hid (leftAt_eq hcell)
      clear hn2 hs2 hp hq hs0 hW2' hcell hJ2
      gi_wp2
      go_roundw
      case rel => exact ⟨q, hW2⟩
      case measure => rw [hmeas.out, hlf.out, HQ.out]; exact hlt.out.2.2
end Go.Proofs.YtmjpdknnglblcaaDoor
