/- For the walk of GroupsHalves: parts of rows, Same, Bulk, the cut. -/
import Derived.Test.YtaanejhpodbdnaaVbA
import Derived.Test.YtaanejhpodbdnaaVaW
namespace Go.Proofs.Ytaanejhpodbdnaa
open Go.RowKit
set_option maxRecDepth 100000
set_option linter.unusedVariables false
attribute [local go_sem] run_store_float

theorem Cmp_exp' (k n : Int) (f : Nat) (s : ByteArray) (k' n' : Int) (f' : Nat) (s' : ByteArray) (ha : Val.wf ⟨k, n, f, s⟩) (hb : Val.wf ⟨k', n', f', s'⟩) (w : World) : Calls Try.prog 27 #[.agg #[.int .i64 k, .int .i64 n, .float .f64 f, .string s], .agg #[.int .i64 k', .int .i64 n', .float .f64 f', .string s']] w
    fun e w' => e = .returned (.int .i64 (cmpV ⟨k, n, f, s⟩ ⟨k', n', f', s'⟩)) ∧ Below w.heap.size w w' := Cmp_any _ _ ha hb w

theorem Same_exp (k n : Int) (f : Nat) (s : ByteArray) (k' n' : Int) (f' : Nat) (s' : ByteArray) (ha : Val.wf ⟨k, n, f, s⟩) (hb : Val.wf ⟨k', n', f', s'⟩) (h : cmpV ⟨k, n, f, s⟩ ⟨k', n', f', s'⟩ = 0) (w : World) : Calls Try.prog 13 #[.agg #[.int .i64 k, .int .i64 n, .float .f64 f, .string s], .agg #[.int .i64 k', .int .i64 n', .float .f64 f', .string s']] w
    fun e w' => e = .returned (.bool true) ∧ Below w.heap.size w w' := by
  have HC := Lib.hid (fun W => Cmp_exp' k n f s k' n' f' s' ha hb W)
  rw [h] at HC
  clear h ha hb
  go_enter Try.func13, Try.ntmps13
  go_wp2_with (go_at_call 27; refine (HC.out _).mono ?_; rintro e w1 ⟨rfl, hb1⟩)
  go_ret
  exact ⟨rfl, (((Below.refl _ w).alloc (Nat.le_refl _) _).alloc (by simp) _).trans (hb1.mono (by simp only [World.size_alloc]; omega))⟩

theorem addr_add0 (b off k : Nat) : (⟨b, off, none⟩ : Addr).add k = ⟨b, off + k, none⟩ := by
  by_cases h : k = 0
  · subst h; rw [Addr.add, if_pos rfl, Nat.add_zero]
  · rw [Addr.add, if_neg h]
theorem RowV.take {W : World} {a : Option Addr} {len cap : Nat} {l : List Val} (h : RowV W a len cap l) (n : Nat) (hn : n ≤ len) : RowV W a n cap (l.take n) := by
  obtain ⟨h1, h2, h3, h4, h5⟩ := h
  refine ⟨by rw [List.length_take]; omega, by omega, h3, fun v hv => h4 v (List.mem_of_mem_take hv), ?_⟩
  rcases h5 with h5 | ⟨b, off, e, hl, hc⟩
  · exact .inl (by omega)
  · refine .inr ⟨b, off, e, hl, fun i v hi => hc i v ?_⟩
    rw [List.getElem?_take] at hi
    split at hi
    · exact hi
    · cases hi
theorem RowV.drop {W : World} {a : Option Addr} {len cap : Nat} {l : List Val} (h : RowV W a len cap l) (n : Nat) (hn : n ≤ len) : RowV W (if cap = n then a else a.map (·.add (n * 4))) (len - n) (cap - n) (l.drop n) := by
  obtain ⟨h1, h2, h3, h4, h5⟩ := h
  refine ⟨by rw [List.length_drop]; omega, by omega, by omega, fun v hv => h4 v (List.mem_of_mem_drop hv), ?_⟩
  by_cases h0 : len - n = 0
  · exact .inl h0
  · rcases h5 with h5 | ⟨b, off, e, hl, hc⟩
    · exact .inl (by omega)
    · refine .inr ⟨b, off + n * 4, ?_, hl, fun i v hi => ?_⟩
      · rw [if_neg (by omega), e]
        simp only [Option.map_some, addr_add0]
      · rw [List.getElem?_drop] at hi
        have := hc (n + i) v hi
        rw [show off + (n + i) * 4 = off + n * 4 + i * 4 by omega] at this
        exact this

theorem RowsV.one (W : World) (x : Slc) (hx : RowV W x.a x.len x.cap x.l) (t : TypeId) : RowsV (W.alloc (.cells #[.slice x.a x.len x.cap] t)) (some ⟨W.heap.size, 0, none⟩) 1 1 [x] := by
  have hb := World.alloc_heap_new W (.cells #[.slice x.a x.len x.cap] t)
  have hl := (Below.refl W.heap.size W).alloc (Nat.le_refl _) (.cells #[.slice x.a x.len x.cap] t)
  refine ⟨rfl, Nat.le_refl _, by unfold maxLen; omega, .inr ⟨W.heap.size, 0, rfl, by simp, fun i s hi => ?_⟩⟩
  match i, hi with
  | 0, hi =>
    obtain rfl : x = s := by simpa using hi
    exact ⟨by simp only [World.cell?]; rw [hb]; rfl, hx.later hl⟩

set_option maxHeartbeats 1000000 in
theorem Bulk_len (most : Int) (hm : 0 ≤ most ∧ most < 4611686018427387904) (a : Option Addr) (len cap : Nat) (ll : List Slc) (w : World) (h : RowsV w a len cap ll) : Calls Try.prog 6 #[.slice a len cap, .int .i64 most] w
    fun e w' => (∃ z : Int, e = .returned (.int .i64 z) ∧ (z ≤ most → ∀ s ∈ ll, (s.len : Int) ≤ most)) ∧ w = w' := by
  have h63 : len < 2 ^ 63 := by have := h.2.1; have := h.2.2.1; unfold maxLen at this; omega
  have HR := Lib.hid h
  have HM := Lib.hid hm
  have hw1 : wrap64 (most + 1) = most + 1 := by unfold wrap64; omega
  clear h hm
  go_enter Try.func6, Try.ntmps6
  go_wp2
  · go_ret
    exact ⟨⟨_, rfl, fun h => by omega⟩, rfl⟩
  · go_loop [5, 6, 7] (fun n i _ => ∃ (k : Nat) (z : Int), i = .int .i64 k ∧ k ≤ len ∧ n = .int .i64 z ∧ Hid (∀ j s, j < k → ll[j]? = some s → (s.len : Int) ≤ most)) (fun _ i _ => len - (intOf i).toNat)
    case atStart => exact ⟨0, len, rfl, Nat.zero_le _, rfl, Lib.hid (fun j s hj => by omega)⟩
    case round =>
      obtain ⟨k, z, rfl, hk, rfl, HJ⟩ := hrel
      by_cases hlt : k < len
      · obtain ⟨h1, _, _, h4⟩ := HR.out
        obtain ⟨b, off, rfl, hbl, hc⟩ := h4.resolve_left (by omega)
        have hk' : k < ll.length := by omega
        obtain ⟨⟨sa, sl, sc, s⟩, ht⟩ : ∃ t, ll[k]? = some t := ⟨_, List.getElem?_eq_getElem hk'⟩
        obtain ⟨c1, hrow⟩ := hc k _ ht
        simp only at c1 hrow
        have s63 : sl < 2 ^ 63 := by have := hrow.2.1; have := hrow.2.2.1; unfold maxLen at this; omega
        have HROW := Lib.hid hrow
        have HT := Lib.hid ht
        clear hc ht h4 h1 hk' hrow
        go_wp2
        · go_ret
          exact ⟨⟨_, rfl, fun h => by omega⟩, rfl⟩
        · go_loop [5, 7] (fun n j => ∃ (m : Nat) (y : Int), j = .int .i64 m ∧ m ≤ sl ∧ n = .int .i64 y) (fun _ j => sl - (intOf j).toNat)
          case atStart => exact ⟨0, z, rfl, Nat.zero_le _, rfl⟩
          case round =>
            obtain ⟨m, y, rfl, hm, rfl⟩ := hrel
            by_cases hmt : m < sl
            · obtain ⟨b', off', rfl, x, hx, hwf, ⟨d1, d2, d3, d4⟩, _⟩ := fold_row HROW.out (Below.refl _ _) hmt
              clear hx
              by_cases hg : most < y
              · go_wp2
                all_goals first
                  | (go_ret; exact ⟨⟨_, rfl, fun h => by omega⟩, rfl⟩)
                  | (refine ⟨⟨m + 1, _, by go_num, by omega, rfl⟩, ?_⟩; simp [intOf]; omega)
              · have hd : decide (most < y) = false := by simp [hg]
                go_wp2
                all_goals first
                  | (go_ret; exact ⟨⟨_, rfl, fun h => by omega⟩, rfl⟩)
                  | (refine ⟨⟨m + 1, _, by go_num, by omega, rfl⟩, ?_⟩; simp [intOf]; omega)
            · obtain rfl : m = sl := by omega
              go_wp2
              refine ⟨⟨k + 1, _, by go_num, by omega, rfl, Lib.hid (fun j s hj hs => ?_)⟩, ?_⟩
              · by_cases hjk : j < k
                · exact HJ.out j s hjk hs
                · obtain rfl : j = k := by omega
                  rw [HT.out] at hs
                  cases hs
                  simp only
                  omega
              · simp [intOf]; omega
      · obtain rfl : k = len := by omega
        go_wp2
        go_ret
        refine ⟨⟨_, rfl, fun _ s hs => ?_⟩, rfl⟩
        obtain ⟨j, hj⟩ := List.getElem?_of_mem hs
        exact HJ.out j s (by have := (List.getElem?_eq_some_iff.1 hj).1; have := HR.out.1; omega) hj

theorem at_val (len : Nat) (at_ : Int) (h : len ≤ 800) : ∃ N : Nat, N ≤ len ∧ wrap64 ((IntKind.u64.wrap at_).tmod (IntKind.u64.wrap (wrap64 ((len : Int) + 1)))) = (N : Int) := by
  have e1 : IntKind.u64.wrap (wrap64 ((len : Int) + 1)) = (len : Int) + 1 := by
    have e : wrap64 ((len : Int) + 1) = (len : Int) + 1 := by unfold wrap64; omega
    rw [e]; simp [IntKind.wrap, IntKind.signed, IntKind.bits]; omega
  have e2 : IntKind.u64.wrap at_ = at_ % 18446744073709551616 := by simp [IntKind.wrap, IntKind.signed, IntKind.bits]
  rw [e1, e2, Int.tmod_eq_emod_of_nonneg (by omega)]
  obtain ⟨M, hM⟩ : ∃ M : Int, M = at_ % 18446744073709551616 := ⟨_, rfl⟩
  rw [← hM]
  have h0 : 0 ≤ M % ((len : Int) + 1) := Int.emod_nonneg _ (by omega)
  have h1 : M % ((len : Int) + 1) < (len : Int) + 1 := Int.emod_lt_of_pos _ (by omega)
  generalize M % ((len : Int) + 1) = q at *
  refine ⟨q.toNat, by omega, ?_⟩
  unfold wrap64; omega
theorem at_div (len : Nat) (h : len < 9223372036854775808) : ¬ IntKind.u64.wrap (wrap64 ((len : Int) + 1)) = 0 := by
  unfold wrap64
  simp [IntKind.wrap, IntKind.signed, IntKind.bits]; omega
theorem fold_null (kind : Int) (l : List Val) (h : (foldV kind l).2 ≠ 0) : (foldV kind l).1 = Val.null := by
  have hg : ∀ (l : List Val) (h : Val), (goAdd h l).2 ≠ 0 → (goAdd h l).1 = Val.null := by
    intro l
    induction l with
    | nil => intro h hh; exact absurd rfl hh
    | cons v l ih =>
      intro h hh
      rw [goAdd_cons] at hh ⊢
      split
      · rename_i hs; rw [if_pos hs] at hh; exact ih h hh
      · rename_i hs
        rw [if_neg hs] at hh
        split
        · rename_i h0; rw [if_pos h0] at hh; exact ih _ hh
        · rfl
  unfold foldV at *
  by_cases h1 : kind = 1
  · rw [if_pos h1] at h; exact absurd rfl h
  · rw [if_neg h1] at h ⊢
    by_cases h2 : kind = 2
    · rw [if_pos h2] at h ⊢; exact hg l _ h
    · rw [if_neg h2] at h ⊢
      by_cases h3 : kind = 3
      · rw [if_pos h3] at h; exact absurd rfl h
      · rw [if_neg h3] at h ⊢
        by_cases h4 : kind = 4
        · rw [if_pos h4] at h; exact absurd rfl h
        · rw [if_neg h4]

end Go.Proofs.Ytaanejhpodbdnaa
