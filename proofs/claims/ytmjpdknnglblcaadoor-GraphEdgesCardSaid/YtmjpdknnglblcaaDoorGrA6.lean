/- The walks of the reference's Same and Pairs, of rows that hold the same. -/
import Derived.Test.YtmjpdknnglblcaaDoorGrA5
namespace Go.Proofs.YtmjpdknnglblcaaDoor
open Go.RowKit
open Gr Go.Deep
set_option maxRecDepth 100000

/-- A row whose cells are xs. -/
def RowX (w : World) (a : Option Addr) (len cap size : Nat) (xs : List Value) : Prop :=
  xs.length = size * len ∧ len ≤ cap ∧ cap ≤ maxLen ∧ (len = 0 ∨ ∃ b off, a = some ⟨b, off, none⟩ ∧ b < w.heap.size ∧ ∀ i x, xs[i]? = some x → w.cell? ⟨b, off + i, none⟩ = some x)

theorem RowX.below {w w' : World} {a : Option Addr} {len cap size : Nat} {xs : List Value} (h : RowX w a len cap size xs) (hb : Below w.heap.size w w') : RowX w' a len cap size xs := by
  obtain ⟨h1, h2, h3, h4⟩ := h
  refine ⟨h1, h2, h3, ?_⟩
  rcases h4 with h4 | ⟨b, off, e, hl, hc⟩
  · exact .inl h4
  · exact .inr ⟨b, off, e, Nat.lt_of_lt_of_le hl hb.size, fun i x hx => (hb.cell hl).trans (hc i x hx)⟩

theorem RowX.of_own {w : World} {b : Nat} {e : TypeId} {size len : Nat} {v : Value} {xs : List Value} (h : w.ownsRow b e size v len xs) (hx : xs.length = size * len) : ∃ a cap, v = .slice a len cap ∧ RowX w a len cap size xs := by
  by_cases hn : len = 0
  · obtain ⟨h1, ⟨h2, _⟩ | ⟨g, cap, cur, h3, h4, h5, h6, h7, _⟩⟩ := h
    · subst hn
      exact ⟨_, _, h2, hx, Nat.le_refl _, by unfold maxLen; omega, .inl rfl⟩
    · exact ⟨_, _, h3, hx, h6, h7, .inl hn⟩
  · obtain ⟨g, cap, h1, h2, h3, h4, h5, h6⟩ := ownsRow_cells h hn
    exact ⟨_, _, h1, hx, h4, h5, .inr ⟨g, 0, rfl, h3, fun i x hx => by rw [Nat.zero_add]; exact h6 i x hx⟩⟩

theorem U32_at (zs : List Nat) (i : Nat) (hi : i < zs.length) : (zs.map U32)[i]? = some (.int .u32 ((zs.getD i 0 : Nat) : Int)) := by
  simp [U32, hi]

set_option maxHeartbeats 1000000 in
theorem Same_eq (a a' : Option Addr) (len cap cap' : Nat) (zs : List Nat) (w : World) (h : RowX w a len cap 1 (zs.map U32)) (h' : RowX w a' len cap' 1 (zs.map U32)) :
    Calls Tryd.prog 13 #[.slice a len cap, .slice a' len cap'] w fun e w' => e = .returned (.bool true) ∧ Below w.heap.size w w' := by
  obtain ⟨h1, h2, h3, h4⟩ := h
  obtain ⟨_, h2', h3', h4'⟩ := h'
  rw [List.length_map, Nat.one_mul] at h1
  unfold maxLen at h3 h3'
  have H4 := Lib.hid h4
  have H4' := Lib.hid h4'
  have H1 := Lib.hid h1
  clear h4 h4' h1
  go_enter Tryd.func13, Tryd.ntmps13
  go_wp2
  go_loopw [5] (fun i wr => ∃ k : Nat, i = .int .i64 k ∧ k ≤ len ∧ Below w.heap.size w wr) (fun i _ => len - (intOf i).toNat)
  case atStart => exact ⟨0, rfl, Nat.zero_le _, Below.refl _ _⟩
  case round =>
    obtain ⟨k, rfl, hk, hb⟩ := hrel
    by_cases hlt : k < len
    · obtain ⟨b, off, rfl, hl, hc⟩ := H4.out.resolve_left (by omega)
      obtain ⟨b', off', rfl, hl', hc'⟩ := H4'.out.resolve_left (by omega)
      have c1 := (hb.cell (p := ⟨b, off + k, none⟩) hl).trans (hc k _ (U32_at zs k (by rw [H1.out]; exact hlt)))
      have c2 := (hb.cell (p := ⟨b', off' + k, none⟩) hl').trans (hc' k _ (U32_at zs k (by rw [H1.out]; exact hlt)))
      generalize zs.getD k 0 = z at *
      have HB := Lib.hid hb
      clear hb hc hc'
      go_wp2
      go_region
      all_goals go_wp2
      all_goals go_roundw
      case rel => exact ⟨k + 1, by go_num, by omega, HB.out.drew⟩
      case measure => simp [intOf]; omega
    · obtain rfl : k = len := by omega
      have HB := Lib.hid hb
      clear hb
      go_wp2
      go_ret
      exact ⟨rfl, HB.out⟩

attribute [local go_sem] eq27
set_option maxHeartbeats 1000000 in
theorem Pairs_eq (a a' : Option Addr) (len cap cap' : Nat) (ps : List (Nat × Nat)) (w : World) (hl : ps.length = len) (h : RowX w a len cap 2 (flatP ps)) (h' : RowX w a' len cap' 2 (flatP ps)) :
    Calls Tryd.prog 18 #[.slice a len cap, .slice a' len cap'] w fun e w' => e = .returned (.bool true) ∧ Below w.heap.size w w' := by
  obtain ⟨_, h2, h3, h4⟩ := h
  obtain ⟨_, h2', h3', h4'⟩ := h'
  unfold maxLen at h3 h3'
  have H4 := Lib.hid h4
  have H4' := Lib.hid h4'
  have H1 := Lib.hid hl
  clear h4 h4' hl
  go_enter Tryd.func18, Tryd.ntmps18
  go_wp2
  go_loopw [5] (fun i wr => ∃ k : Nat, i = .int .i64 k ∧ k ≤ len ∧ Below w.heap.size w wr) (fun i _ => len - (intOf i).toNat)
  case atStart => exact ⟨0, rfl, Nat.zero_le _, Below.refl _ _⟩
  case round =>
    obtain ⟨k, rfl, hk, hb⟩ := hrel
    by_cases hlt : k < len
    · obtain ⟨b, off, rfl, hl, hc⟩ := H4.out.resolve_left (by omega)
      obtain ⟨b', off', rfl, hl', hc'⟩ := H4'.out.resolve_left (by omega)
      have hk' : k < ps.length := by rw [H1.out]; exact hlt
      obtain ⟨x, y, hxy⟩ : ∃ x y, ps[k]? = some (x, y) := ⟨_, _, List.getElem?_eq_getElem hk'⟩
      obtain ⟨f1, f2⟩ := flatP_at _ k x y hxy
      have c1 := (hb.cell (p := ⟨b, off + 2 * k, none⟩) hl).trans (hc _ _ f1)
      have c2 := (hb.cell (p := ⟨b, off + (2 * k + 1), none⟩) hl).trans (hc _ _ f2)
      have d1 := (hb.cell (p := ⟨b', off' + 2 * k, none⟩) hl').trans (hc' _ _ f1)
      have d2 := (hb.cell (p := ⟨b', off' + (2 * k + 1), none⟩) hl').trans (hc' _ _ f2)
      rw [← Nat.add_assoc] at c2 d2
      unfold U32 at c1 c2 d1 d2
      have HB := Lib.hid hb
      have k2 : k * 2 = 2 * k := by omega
      clear hb hc hc' hk' hxy f1 f2
      go_wp2
      go_region
      all_goals go_wp2
      all_goals go_roundw
      case rel => exact ⟨k + 1, by go_num, by omega, HB.out.drew⟩
      case measure => simp [intOf]; omega
    · obtain rfl : k = len := by omega
      have HB := Lib.hid hb
      clear hb
      go_wp2
      go_ret
      exact ⟨rfl, HB.out⟩
end Go.Proofs.YtmjpdknnglblcaaDoor
