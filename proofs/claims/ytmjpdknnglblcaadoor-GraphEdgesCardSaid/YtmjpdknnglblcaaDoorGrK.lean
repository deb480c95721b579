/- The walks of graph.Near, graph.Connected, graph.Components, graph.Sets. -/
import Derived.Test.YtmjpdknnglblcaaDoorGrZ
namespace Go.Proofs.YtmjpdknnglblcaaDoor
open Go.RowKit
open Gr
set_option maxRecDepth 100000

abbrev A0 (es : List Nat) : Nat → Nat → Bool := adj es es.length

theorem EdgesAt.le12 {w : World} {a : Option Addr} {len cap : Nat} {es : List Nat} (h : EdgesAt w a len cap es) : es.length ≤ 12 := by have := h.2.2.1; omega

theorem Near_any (a : Option Addr) (len cap s : Nat) (es : List Nat) (w : World) (h : EdgesAt w a len cap es) (hT : TabAt w) (hs : s < 4294967296) :
    Calls Tryd.prog 10 #[.slice a len cap, .int .u32 s] w fun e w' => e = .returned (.int .u32 ((nearB es.length (adj es es.length) s : Nat) : Int)) ∧ Below w.heap.size w w' := by
  have hn := h.le12
  have HE := Lib.hid (even_any a len cap es w h hT)
  obtain ⟨n, hn'⟩ : ∃ n, n = es.length := ⟨_, rfl⟩
  rw [← hn'] at HE hn ⊢
  clear h hT hn'
  go_enter Tryd.func10, Tryd.ntmps10
  go_wp2_with (first | (go_at_call 23; refine HE.out.mono ?_; rintro e w1 ⟨B, rfl, hrow, hb⟩; have HB := Lib.hid hb; have HRW := Lib.hid hrow; clear hb hrow) | (go_at_call 26; refine (near_any _ _ _ _ _ (adj es n) _ HRW.out hn hs).mono ?_; rintro e w' ⟨rfl, rfl⟩))
  go_ret
  exact ⟨rfl, HB.out⟩

theorem Connected_any (a : Option Addr) (len cap s : Nat) (es : List Nat) (w : World) (h : EdgesAt w a len cap es) (hT : TabAt w) (hs : s < 4294967296) :
    Calls Tryd.prog 9 #[.slice a len cap, .int .u32 s] w fun e w' => e = .returned (.bool (connB es.length (adj es es.length) s)) ∧ Below w.heap.size w w' := by
  have hn := h.le12
  have HE := Lib.hid (even_any a len cap es w h hT)
  obtain ⟨n, hn'⟩ : ∃ n, n = es.length := ⟨_, rfl⟩
  rw [← hn'] at HE hn ⊢
  clear h hT hn'
  obtain ⟨c, hc⟩ : ∃ c, c = connB n (adj es n) s := ⟨_, rfl⟩
  rw [← hc]
  have HC := Lib.hid hc
  clear hc
  go_enter Tryd.func9, Tryd.ntmps9
  go_wp2_with (first | (go_at_call 23; refine HE.out.mono ?_; rintro e w1 ⟨B, rfl, hrow, hb⟩; have HB := Lib.hid hb; have HRW := Lib.hid hrow; clear hb hrow) | (go_at_call 24; refine (connected_any _ _ _ _ _ (adj es n) _ HRW.out hn hs).mono ?_; rw [← HC.out]; rintro e w' ⟨rfl, rfl⟩))
  go_ret
  exact ⟨rfl, HB.out⟩
end Go.Proofs.YtmjpdknnglblcaaDoor
