/- The walk of FixedSums. -/
import Derived.Test.YtmpbhgcdkbpdeaaFxU
import Derived.Below
import Derived.WalkSmall
namespace Go.Proofs.Ytmpbhgcdkbpdeaa
open Go.RowKit
open Fx
set_option maxRecDepth 100000

theorem Drew.below {w w' : World} (h : Drew w w') : Below w.heap.size w w' := by
  obtain ⟨n, rfl⟩ := h
  exact below_drewN (Below.refl _ _) n

theorem sums_big (a b : Int) (l : Option Addr) (len cap : Nat) (w : World) (h : 1000 < len) :
    Calls Try.prog 6 #[.int .u64 a, .int .u64 b, .slice l len cap] w fun e w' => e = .returned (.bool true) ∧ Drew w w' := by
  have h' : (1000 : Int) < (len : Int) := by omega
  clear h
  go_enter Try.func6, Try.ntmps6
  go_wp2
  go_ret
  exact ⟨rfl, Drew.refl _⟩

set_option maxHeartbeats 1000000 in
theorem sums_core (a b : Int) (l : Option Addr) (len cap : Nat) (S : Int) (w : World) (ha : 0 ≤ a) (ha' : a ≤ 18446744073709551615) (hb : 0 ≤ b) (hb' : b ≤ 18446744073709551615) (h : ¬ 1000 < len)
    (h1 : ∀ n, Calls Try.prog 21 #[.slice l len cap] (w.drewN n) fun e w' => e = .returned (.int .u64 S) ∧ w.drewN n = w')
    (h2 : ∀ n, Calls Try.prog 22 #[.slice l len cap] (w.drewN n) fun e w' => e = .returned (.int .u64 S) ∧ w.drewN n = w') :
    Calls Try.prog 6 #[.int .u64 a, .int .u64 b, .slice l len cap] w fun e w' => e = .returned (.bool true) ∧ Drew w w' := by
  have h' : ¬ (1000 : Int) < (len : Int) := by omega
  have H1 := Lib.hid h1
  have H2 := Lib.hid h2
  clear h h1 h2
  go_enter Try.func6, Try.ntmps6
  go_wp2_with (first | (go_at_call 7; refine (works_any _).mono ?_; rintro e w' ⟨rfl, ⟨nd, rfl⟩⟩) | (go_at_call 8; refine (add_any _ _ _ ha hb).mono ?_; rintro e w' ⟨rfl, rfl⟩) | (go_at_call 18; refine (radd_any _ _ _ ha ha' hb hb').mono ?_; rintro e w' ⟨rfl, rfl⟩) | (go_at_call 16; refine (sub_any _ _ _ ha' hb).mono ?_; rintro e w' ⟨rfl, rfl⟩) | (go_at_call 19; refine (rsub_any _ _ _ ha ha' hb hb').mono ?_; rintro e w' ⟨rfl, rfl⟩) | (go_at_call 9; refine (mul_any _ _ _ ha ha' hb hb').mono ?_; rintro e w' ⟨rfl, rfl⟩) | (go_at_call 20; refine (rmul_any _ _ _ ha ha' hb hb').mono ?_; rintro e w' ⟨rfl, ⟨nd, rfl⟩⟩) | (go_at_call 21; refine (H1.out _).mono ?_; rintro e w' ⟨rfl, rfl⟩) | (go_at_call 22; refine (H2.out _).mono ?_; rintro e w' ⟨rfl, rfl⟩) | (go_at_call 17; refine (log_any _ _ ha ha').mono ?_; rintro e w' ⟨rfl, rfl⟩) | (go_at_call 23; refine (rlog_any _ _ ha ha').mono ?_; rintro e w' ⟨rfl, rfl⟩))
  go_ret
  exact ⟨rfl, _, rfl⟩

theorem sums_walk (a b : Int) (l : Option Addr) (len cap : Nat) (zs : List Int) (w : World) (ha : 0 ≤ a) (ha' : a ≤ 18446744073709551615) (hb : 0 ≤ b) (hb' : b ≤ 18446744073709551615)
    (hz : ∀ n ∈ zs, (Lit.int .u64 n).wf = true) (hl : len ≤ zs.length) (hc : ∀ x, l = some x → ∀ i, i < zs.length → w.cell? (x.add i) = some (.int .u64 (zs.getD i 0))) (hn : l = none → len = 0) :
    Calls Try.prog 6 #[.int .u64 a, .int .u64 b, .slice l len cap] w fun e w' => e = .returned (.bool true) ∧ Drew w w' := by
  by_cases h : 1000 < len
  · exact sums_big a b l len cap w h
  by_cases h0 : len = 0
  · subst h0
    exact sums_core a b l 0 cap 0 w ha ha' hb hb' (by omega) (fun n => sum_none l cap _) (fun n => rsum_none l cap _)
  · cases l with
    | none => exact absurd (hn rfl) h0
    | some x =>
      obtain ⟨bl, off, rfl, hr⟩ := ints_at (hc x rfl) (by omega)
      exact sums_core a b _ len cap (sumS (zs.take len)) w ha ha' hb hb' h
        (fun n => sum_row bl off len cap zs _ (fun i hi => hr i hi) hl (by omega) (fun n hn => Fx.u64_bd (hz n hn)))
        (fun n => rsum_row bl off len cap zs _ (fun i hi => hr i hi) hl (by omega) (fun n hn => Fx.u64_bd (hz n hn)))
end Go.Proofs.Ytmpbhgcdkbpdeaa
