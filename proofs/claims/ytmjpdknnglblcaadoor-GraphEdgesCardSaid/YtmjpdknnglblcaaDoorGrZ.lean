/- graph.even of no edges; and of any. -/
import Derived.Test.YtmjpdknnglblcaaDoorGrE
namespace Go.Proofs.YtmjpdknnglblcaaDoor
open Go.RowKit
open Gr Go.Deep
set_option maxRecDepth 100000

set_option maxHeartbeats 1000000 in
theorem even_none (a : Option Addr) (cap : Nat) (w : World) :
    Calls Tryd.prog 23 #[.slice a 0 cap] w fun e w' => ∃ B, e = .returned (.slice (some ⟨B, 0, none⟩) 0 0) ∧ w.heap.size ≤ B ∧ Below w.heap.size w w' := by
  have hmk : ∀ W : World, (Instr.makeSlice 22 (.int .i64 0) (.int .i64 0)).run Tryd.prog W = .ok (.slice (some ⟨W.heap.size, 0, none⟩) 0 0) (W.alloc (.cells (madeCells #[.int .u32 0] 0) 23)) :=
    fun W => run_make_row' (P := Tryd.prog) 22 23 (.int .u32 0) 4 Tryd.underlying22 info23 rfl .i64 .i64 0 (by omega) (by omega) W
  go_enter Tryd.func23, Tryd.ntmps23
  go_wp2
  go_loop [23] (fun i => i = .int .i64 0) (fun _ => 0)
  case atStart => exact rfl
  case round =>
    subst hrel
    go_wp2
    go_ret
    refine ⟨w.heap.size, rfl, Nat.le_refl _, ?_⟩
    exact ((Below.refl _ w).alloc (Nat.le_refl _) _).alloc (by simp) _

/-- THE EDGES THAT COME IN: the first n of them, n being how many there are, or 12. -/
def EdgesAt (w : World) (a : Option Addr) (len cap : Nat) (es : List Nat) : Prop :=
  len ≤ cap ∧ cap ≤ maxLen ∧ es.length = min len 12 ∧ (∀ x ∈ es, x < 4294967296) ∧ (len = 0 ∨ ∃ b off, a = some ⟨b, off, none⟩ ∧ Row32 w b off es)

theorem even_any (a : Option Addr) (len cap : Nat) (es : List Nat) (w : World) (h : EdgesAt w a len cap es) (hT : TabAt w) :
    Calls Tryd.prog 23 #[.slice a len cap] w fun e w' => ∃ B, e = .returned (.slice (some ⟨B, 0, none⟩) es.length es.length) ∧ Row32 w' B 0 (evL es.length (adj es es.length)) ∧ Below w.heap.size w w' := by
  obtain ⟨h1, h2, h3, h4, h5⟩ := h
  by_cases h0 : len = 0
  · subst h0
    have e0 : es.length = 0 := by omega
    rw [e0]
    refine (even_none a cap w).mono ?_
    rintro e w' ⟨B, he, _, hb⟩
    exact ⟨B, he, fun i hi => by rw [evL_length] at hi; omega, hb⟩
  · rcases h5 with h | ⟨b, off, rfl, hr⟩
    · exact absurd h h0
    · refine (callsIn_wide.1 (even_in b off len cap es.length es w hr h3 rfl (by omega) h1 h2 hT h4)).mono ?_
      rintro e w' ⟨B, he, _, hrow, hb⟩
      exact ⟨B, he, hrow, hb⟩

theorem EdgesAt.below {B : Nat} {w w' : World} {a : Option Addr} {len cap : Nat} {es : List Nat} (h : EdgesAt w a len cap es) (hb : Below B w w') (hB : ∀ x, a = some x → len ≠ 0 → x.block < B) : EdgesAt w' a len cap es := by
  obtain ⟨h1, h2, h3, h4, h5⟩ := h
  refine ⟨h1, h2, h3, h4, ?_⟩
  rcases h5 with h | ⟨b, off, rfl, hr⟩
  · exact .inl h
  · by_cases h0 : len = 0
    · exact .inl h0
    · exact .inr ⟨b, off, rfl, hr.below hb (hB _ rfl h0)⟩
theorem EdgesAt.lt {w : World} {a : Option Addr} {len cap : Nat} {es : List Nat} (h : EdgesAt w a len cap es) : ∀ x, a = some x → len ≠ 0 → x.block < w.heap.size := by
  obtain ⟨h1, h2, h3, h4, h5⟩ := h
  intro x hx h0
  rcases h5 with h | ⟨b, off, rfl, hr⟩
  · exact absurd h h0
  · cases hx
    exact block_lt (a := ⟨b, off + 0, none⟩) (hr 0 (by omega))
/-- They lie on wherever what was there lies on. -/
theorem EdgesAt.later {w w' : World} {a : Option Addr} {len cap : Nat} {es : List Nat} (h : EdgesAt w a len cap es) (hb : Below w.heap.size w w') : EdgesAt w' a len cap es := h.below hb h.lt
theorem TabAt.pos {w : World} (h : TabAt w) : 0 < w.heap.size := block_lt (h 0 (by decide))
theorem TabAt.later {w w' : World} (h : TabAt w) (hb : Below w.heap.size w w') : TabAt w' := h.below hb h.pos
end Go.Proofs.YtmjpdknnglblcaaDoor
