/- The walks of the sums of lists, and the reference's Log. -/
import Derived.Test.YtmpbhgcdkbpdeaaFxT
import Derived.OpenShut
import Derived.LoopTactic
namespace Go.Proofs.Ytmpbhgcdkbpdeaa
open Go.RowKit
open Fx
set_option maxRecDepth 100000

def sumS (l : List Int) : Int := l.foldl addS 0
theorem sumS_snoc (l : List Int) (k : Nat) (h : k < l.length) : sumS (l.take (k + 1)) = addS (sumS (l.take k)) (l.getD k 0) := by
  have e : l.take (k + 1) = l.take k ++ [l.getD k 0] := by
    rw [List.take_succ_eq_append_getElem h]; simp [List.getD, h]
  unfold sumS
  rw [e, List.foldl_append]; rfl
theorem sumS_bd (l : List Int) (h : ∀ n ∈ l, 0 ≤ n ∧ n ≤ 18446744073709551615) : 0 ≤ sumS l ∧ sumS l ≤ 18446744073709551615 := by
  unfold sumS
  have : ∀ (l : List Int) (a : Int), 0 ≤ a → a ≤ 18446744073709551615 → (∀ n ∈ l, 0 ≤ n ∧ n ≤ 18446744073709551615) → 0 ≤ l.foldl addS a ∧ l.foldl addS a ≤ 18446744073709551615 := by
    intro l
    induction l with
    | nil => intro a h0 h1 _; exact ⟨h0, h1⟩
    | cons x l ih =>
      intro a h0 h1 h
      have hx := h x (by simp)
      have := addS_bd a x h0 hx.1
      exact ih _ this.1 this.2 (fun n hn => h n (by simp [hn]))
  exact this l 0 (by omega) (by omega) h

/-- A row of numbers in memory. -/
def Row64 (w : World) (b off : Nat) (zs : List Int) : Prop := ∀ i, i < zs.length → w.cell? ⟨b, off + i, none⟩ = some (.int .u64 (zs.getD i 0))

theorem getD_mem (l : List Int) (k : Nat) (h : k < l.length) : l.getD k 0 ∈ l := by
  simp [List.getD, h]

theorem sum_row (b off len cap : Nat) (zs : List Int) (w : World) (hr : Row64 w b off zs) (hl : len ≤ zs.length) (hlen : len ≤ 1000) (hz : ∀ n ∈ zs, 0 ≤ n ∧ n ≤ 18446744073709551615) :
    Calls Try.prog 21 #[.slice (some ⟨b, off, none⟩) len cap] w fun e w' => e = .returned (.int .u64 (sumS (zs.take len))) ∧ w = w' := by
  have HR := Lib.hid hr
  have HZ := Lib.hid hz
  clear hr hz
  go_enter Try.func21, Try.ntmps21
  go_wp2
  go_loop [3, 8] (fun n i => ∃ k : Nat, k ≤ len ∧ i = .int .i64 k ∧ n = .int .u64 (sumS (zs.take k))) (fun _ i => len - (intOf i).toNat)
  case atStart => exact ⟨0, by omega, rfl, rfl⟩
  case round =>
    obtain ⟨k, hk, rfl, rfl⟩ := hrel
    by_cases hlt : k < len
    · have hc := HR.out k (by omega)
      have hs := Lib.hid (sumS_snoc zs k (by omega))
      have hb1 := (sumS_bd (zs.take k) (fun n hn => HZ.out n (List.mem_of_mem_take hn))).1
      have hb2 := (HZ.out _ (getD_mem zs k (by omega))).1
      generalize zs.getD k 0 = z at *
      go_wp2_with (go_at_call 8; refine (add_any _ _ _ hb1 hb2).mono ?_; rintro e w' ⟨rfl, rfl⟩)
      go_round
      case rel => exact ⟨k + 1, by omega, by go_num, by rw [hs.out]⟩
      case measure => simp [intOf]; omega
    · obtain rfl : k = len := by omega
      go_wp2
      go_ret
      exact ⟨rfl, rfl⟩

theorem sum_none (a : Option Addr) (cap : Nat) (w : World) :
    Calls Try.prog 21 #[.slice a 0 cap] w fun e w' => e = .returned (.int .u64 0) ∧ w = w' := by
  go_enter Try.func21, Try.ntmps21
  go_wp2
  go_loop [3, 8] (fun n i => i = .int .i64 0 ∧ n = .int .u64 0) (fun _ _ => 0)
  case atStart => exact ⟨rfl, rfl⟩
  case round =>
    obtain ⟨rfl, rfl⟩ := hrel
    go_wp2
    go_ret
    exact ⟨rfl, rfl⟩

theorem rsum_none (a : Option Addr) (cap : Nat) (w : World) :
    Calls Try.prog 22 #[.slice a 0 cap] w fun e w' => e = .returned (.int .u64 0) ∧ w = w' := by
  go_enter Try.func22, Try.ntmps22
  go_wp2
  go_loop [3, 4] (fun n i => i = .int .i64 0 ∧ n = .int .u64 0) (fun _ _ => 0)
  case atStart => exact ⟨rfl, rfl⟩
  case round =>
    obtain ⟨rfl, rfl⟩ := hrel
    go_wp2
    go_ret
    exact ⟨rfl, rfl⟩

theorem rsum_row (b off len cap : Nat) (zs : List Int) (w : World) (hr : Row64 w b off zs) (hl : len ≤ zs.length) (hlen : len ≤ 1000) (hz : ∀ n ∈ zs, 0 ≤ n ∧ n ≤ 18446744073709551615) :
    Calls Try.prog 22 #[.slice (some ⟨b, off, none⟩) len cap] w fun e w' => e = .returned (.int .u64 (sumS (zs.take len))) ∧ w = w' := by
  have HR := Lib.hid hr
  have HZ := Lib.hid hz
  clear hr hz
  go_enter Try.func22, Try.ntmps22
  go_wp2
  go_loop [3, 4] (fun n i => ∃ k : Nat, k ≤ len ∧ i = .int .i64 k ∧ n = .int .u64 (sumS (zs.take k))) (fun _ i => len - (intOf i).toNat)
  case atStart => exact ⟨0, by omega, rfl, rfl⟩
  case round =>
    obtain ⟨k, hk, rfl, rfl⟩ := hrel
    by_cases hlt : k < len
    · have hc := HR.out k (by omega)
      have hs := Lib.hid (sumS_snoc zs k (by omega))
      have ⟨hb1, hb1'⟩ := (sumS_bd (zs.take k) (fun n hn => HZ.out n (List.mem_of_mem_take hn)))
      have ⟨hb2, hb2'⟩ := (HZ.out _ (getD_mem zs k (by omega)))
      generalize zs.getD k 0 = z at *
      go_wp2_with (go_at_call 18; refine (radd_any _ _ _ hb1 hb1' hb2 hb2').mono ?_; rintro e w' ⟨rfl, rfl⟩)
      go_round
      case rel => exact ⟨k + 1, by omega, by go_num, by rw [hs.out]⟩
      case measure => simp [intOf]; omega
    · obtain rfl : k = len := by omega
      go_wp2
      go_ret
      exact ⟨rfl, rfl⟩

set_option maxHeartbeats 1000000 in
theorem rlog_any (x : Int) (w : World) (h0 : 0 ≤ x) (h1 : x ≤ 18446744073709551615) :
    Calls Try.prog 23 #[.int .u64 x] w fun e w' => e = .returned (.int .u64 (Lib.bitLen x.toNat)) ∧ w = w' := by
  obtain ⟨X, rfl⟩ := Int.eq_ofNat_of_zero_le h0
  have e0 : ((X : Int)).toNat = X := by omega
  rw [e0]
  have hX : X < 18446744073709551616 := by omega
  have hB := bitLen_le64 X (by omega)
  obtain ⟨B, hBe⟩ : ∃ B, B = Lib.bitLen X := ⟨_, rfl⟩
  rw [← hBe] at hB ⊢
  have HX := Lib.hid (And.intro hX hBe)
  clear hX hBe e0 h0 h1
  go_enter Try.func23, Try.ntmps23
  go_wp2
  go_loop [0, 3] (fun n k => ∃ N K : Nat, n = .int .u64 (N : Int) ∧ k = .int .u64 (K : Int) ∧ Hid (N < 18446744073709551616 ∧ K + Lib.bitLen N = B)) (fun n _ => (intOf n).toNat)
  case atStart => exact ⟨X, 0, rfl, rfl, Lib.hid ⟨HX.out.1, by have := HX.out.2; omega⟩⟩
  case round =>
    obtain ⟨N, K, rfl, rfl, hd⟩ := hrel
    obtain ⟨hN, hK⟩ := hd.out
    cases hN0 : decide (0 < N) with
    | true =>
      have hp : 0 < N := by simpa using hN0
      have hh := Lib.bitLen_half N (by omega) hN
      have f1 : (N : Int) / 2 = ((N / 2 : Nat) : Int) := by omega
      have f3 : IntKind.u64.wrap ((K : Int) + 1) = ((K + 1 : Nat) : Int) := by rw [IntKind.wrap_u64]; omega
      have hlt : Hid (N / 2 < N ∧ N / 2 < 18446744073709551616 ∧ (K + 1) + Lib.bitLen (N / 2) = B) := Lib.hid ⟨by omega, by omega, by omega⟩
      obtain ⟨N2, hN2⟩ : ∃ b, b = N / 2 := ⟨_, rfl⟩
      obtain ⟨K2, hK2⟩ : ∃ b, b = K + 1 := ⟨_, rfl⟩
      rw [← hN2] at f1 hlt
      rw [← hK2] at f3 hlt
      have f2 : IntKind.u64.wrap (N2 : Int) = (N2 : Int) := by rw [IntKind.wrap_u64]; omega
      have hg : (0 : Int) < (N : Int) := by omega
      clear hN hK hh hN2 hK2 hp hN0
      go_wp2
      go_round
      case rel => exact ⟨N2, K2, rfl, rfl, Lib.hid ⟨hlt.out.2.1, hlt.out.2.2⟩⟩
      case measure => have := hlt.out.1; simp [intOf]; omega
    | false =>
      have hp : N = 0 := by simpa using hN0
      subst hp
      obtain rfl : K = B := by simpa [Lib.bitLen, Lib.bitLenAux] using hK
      clear hN hK hN0
      go_wp2
      go_ret
      exact ⟨rfl, rfl⟩
end Go.Proofs.Ytmpbhgcdkbpdeaa
