/- Rows of rows; the walk of the reference's Bulk: it tells some number. -/
import Derived.Test.YtaanejhpodbdnaaVaJ
namespace Go.Proofs.Ytaanejhpodbdnaa
open Go.RowKit
set_option maxRecDepth 100000
set_option linter.unusedVariables false

/-- A slice of values, and what it holds. -/
structure Slc where
  a : Option Addr
  len : Nat
  cap : Nat
  l : List Val
/-- A row of rows of values. -/
def RowsV (W : World) (a : Option Addr) (len cap : Nat) (ll : List Slc) : Prop :=
  ll.length = len ∧ len ≤ cap ∧ cap ≤ maxLen ∧ (len = 0 ∨ ∃ b off, a = some ⟨b, off, none⟩ ∧ b < W.heap.size ∧ ∀ (i : Nat) (s : Slc), ll[i]? = some s → W.cell? ⟨b, off + i, none⟩ = some (.slice s.a s.len s.cap) ∧ RowV W s.a s.len s.cap s.l)
theorem RowsV.later {W W' : World} {a : Option Addr} {len cap : Nat} {ll : List Slc} (h : RowsV W a len cap ll) (hb : Below W.heap.size W W') : RowsV W' a len cap ll := by
  obtain ⟨h1, h2, h3, h4⟩ := h
  refine ⟨h1, h2, h3, ?_⟩
  rcases h4 with h4 | ⟨b, off, e, hl, hc⟩
  · exact .inl h4
  · exact .inr ⟨b, off, e, Nat.lt_of_lt_of_le hl hb.size, fun i s hi => ⟨(hb.cell hl).trans (hc i s hi).1, (hc i s hi).2.later hb⟩⟩
theorem RowsV.two (W : World) (x y : Slc) (hx : RowV W x.a x.len x.cap x.l) (hy : RowV W y.a y.len y.cap y.l) (t : TypeId) : RowsV (W.alloc (.cells #[.slice x.a x.len x.cap, .slice y.a y.len y.cap] t)) (some ⟨W.heap.size, 0, none⟩) 2 2 [x, y] := by
  have hb := World.alloc_heap_new W (.cells #[.slice x.a x.len x.cap, .slice y.a y.len y.cap] t)
  have hl := (Below.refl W.heap.size W).alloc (Nat.le_refl _) (.cells #[.slice x.a x.len x.cap, .slice y.a y.len y.cap] t)
  refine ⟨rfl, Nat.le_refl _, by unfold maxLen; omega, .inr ⟨W.heap.size, 0, rfl, by simp, fun i s hi => ?_⟩⟩
  match i, hi with
  | 0, hi =>
    obtain rfl : x = s := by simpa using hi
    exact ⟨by simp only [World.cell?]; rw [hb]; rfl, hx.later hl⟩
  | 1, hi =>
    obtain rfl : y = s := by simpa using hi
    exact ⟨by simp only [World.cell?]; rw [hb]; rfl, hy.later hl⟩

set_option maxHeartbeats 1000000 in
theorem Bulk_any (most : Int) (a : Option Addr) (len cap : Nat) (ll : List Slc) (w : World) (h : RowsV w a len cap ll) : Calls Try.prog 6 #[.slice a len cap, .int .i64 most] w
    fun e w' => (∃ z : Int, e = .returned (.int .i64 z)) ∧ w = w' := by
  have h63 : len < 2 ^ 63 := by have := h.2.1; have := h.2.2.1; unfold maxLen at this; omega
  have HR := Lib.hid h
  clear h
  go_enter Try.func6, Try.ntmps6
  go_wp2
  · go_ret
    exact ⟨⟨_, rfl⟩, rfl⟩
  · go_loop [5, 6, 7] (fun n i _ => ∃ (k : Nat) (z : Int), i = .int .i64 k ∧ k ≤ len ∧ n = .int .i64 z) (fun _ i _ => len - (intOf i).toNat)
    case atStart => exact ⟨0, len, rfl, Nat.zero_le _, rfl⟩
    case round =>
      obtain ⟨k, z, rfl, hk, rfl⟩ := hrel
      by_cases hlt : k < len
      · obtain ⟨h1, _, _, h4⟩ := HR.out
        obtain ⟨b, off, rfl, hbl, hc⟩ := h4.resolve_left (by omega)
        have hk' : k < ll.length := by omega
        obtain ⟨⟨sa, sl, sc, s⟩, ht⟩ : ∃ t, ll[k]? = some t := ⟨_, List.getElem?_eq_getElem hk'⟩
        obtain ⟨c1, hrow⟩ := hc k _ ht
        simp only at c1 hrow
        have s63 : sl < 2 ^ 63 := by have := hrow.2.1; have := hrow.2.2.1; unfold maxLen at this; omega
        have HROW := Lib.hid hrow
        clear hc ht h4 h1 hk' hrow
        go_wp2
        · go_ret
          exact ⟨⟨_, rfl⟩, rfl⟩
        · go_loop [5, 7] (fun n j => ∃ (m : Nat) (y : Int), j = .int .i64 m ∧ m ≤ sl ∧ n = .int .i64 y) (fun _ j => sl - (intOf j).toNat)
          case atStart => exact ⟨0, z, rfl, Nat.zero_le _, rfl⟩
          case round =>
            obtain ⟨m, y, rfl, hm, rfl⟩ := hrel
            by_cases hmt : m < sl
            · obtain ⟨b', off', rfl, x, hx, hwf, ⟨d1, d2, d3, d4⟩, _⟩ := fold_row HROW.out (Below.refl _ _) hmt
              clear hx
              by_cases hg : most < y
              · go_wp2
                all_goals first
                  | (go_ret; exact ⟨⟨_, rfl⟩, rfl⟩)
                  | (refine ⟨⟨m + 1, _, by go_num, by omega, rfl⟩, ?_⟩; simp [intOf]; omega)
              · have hd : decide (most < y) = false := by simp [hg]
                go_wp2
                all_goals first
                  | (go_ret; exact ⟨⟨_, rfl⟩, rfl⟩)
                  | (refine ⟨⟨m + 1, _, by go_num, by omega, rfl⟩, ?_⟩; simp [intOf]; omega)
            · obtain rfl : m = sl := by omega
              go_wp2
              refine ⟨⟨k + 1, _, by go_num, by omega, rfl⟩, ?_⟩
              simp [intOf]; omega
      · obtain rfl : k = len := by omega
        go_wp2
        go_ret
        exact ⟨⟨_, rfl⟩, rfl⟩
end Go.Proofs.Ytaanejhpodbdnaa
