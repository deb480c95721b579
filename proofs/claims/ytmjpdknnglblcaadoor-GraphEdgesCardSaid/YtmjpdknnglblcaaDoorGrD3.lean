/- The walk of Bulk: it tells some number. -/
import Derived.Test.YtmjpdknnglblcaaDoorGrD2
namespace Go.Proofs.YtmjpdknnglblcaaDoor
open Go.RowKit
open Gr Go.Deep
set_option maxRecDepth 100000

set_option maxHeartbeats 1000000 in
theorem Bulk_any : ∀ (d : Nat) (a : Option Addr) (len cap : Nat) (ts : List Tx) (most : Int) (w : World), ExsAt w d a len cap ts →
    Calls Tryd.prog 20 #[.slice a len cap, .int .i64 most] w fun e w' => (∃ z : Int, e = .returned (.int .i64 z)) ∧ w = w'
  | d, a, len, cap, ts, most, w, h => by
    have ih : Hid (∀ d', d = d' + 1 → ∀ (a : Option Addr) (len cap : Nat) (ts : List Tx) (most : Int) (w : World), ExsAt w d' a len cap ts →
        Calls Tryd.prog 20 #[.slice a len cap, .int .i64 most] w fun e w' => (∃ z : Int, e = .returned (.int .i64 z)) ∧ w = w') :=
      Lib.hid (fun d' hd => by subst hd; exact Bulk_any d')
    have h63 : len < 2 ^ 63 := by have := h.2.1; have := h.2.2.1; unfold maxLen at this; omega
    have HR := Lib.hid h
    clear h
    go_enter Tryd.func20, Tryd.ntmps20
    go_wp2
    · go_ret
      exact ⟨⟨_, rfl⟩, rfl⟩
    · go_loop [5, 6] (fun n i => ∃ (k : Nat) (z : Int), i = .int .i64 k ∧ k ≤ len ∧ n = .int .i64 z) (fun _ i => len - (intOf i).toNat)
      case atStart => exact ⟨0, len, rfl, Nat.zero_le _, rfl⟩
      case round =>
        obtain ⟨k, z, rfl, hk, rfl⟩ := hrel
        by_cases hlt : k < len
        · obtain ⟨h1, _, _, h4⟩ := HR.out
          obtain ⟨b, off, rfl, hbl, hc⟩ := h4.resolve_left (by omega)
          have hk' : k < ts.length := by omega
          obtain ⟨t, ht⟩ : ∃ t, ts[k]? = some t := ⟨_, List.getElem?_eq_getElem hk'⟩
          obtain ⟨cs, hR, hcs⟩ := hc k t ht
          obtain ⟨d', rfl⟩ : ∃ d', d = d' + 1 := by
            cases d with
            | zero => exact hR.elim
            | succ d => exact ⟨d, rfl⟩
          obtain ⟨k0, k1, k2, k3, k4, k5, k6, kids⟩ := t
          obtain ⟨ka, kl, kc, rfl, _, hkids⟩ := hR
          have d6 := hcs 6 _ rfl
          have d7 := hcs 7 _ rfl
          have IH := Lib.hid (fun m => ih.out d' rfl ka kl kc kids m w hkids)
          clear hcs hkids ht hc h4 h1 hk'
          go_wp2_with (go_at_call 20; refine (IH.out _).mono ?_; rintro e w' ⟨⟨z2, rfl⟩, rfl⟩)
          all_goals first
            | (go_ret; exact ⟨⟨_, rfl⟩, rfl⟩)
            | (refine ⟨⟨k + 1, _, by go_num, by omega, rfl⟩, ?_⟩; simp [intOf]; omega)
            | (exact ⟨⟨_, rfl⟩, rfl⟩)
        · obtain rfl : k = len := by omega
          go_wp2
          go_ret
          exact ⟨⟨_, rfl⟩, rfl⟩
  termination_by d => d
end Go.Proofs.YtmjpdknnglblcaaDoor
