/- The walk of a Group of no tuples with one aggregate: the chapter's example. -/
import Derived.Test.YtaanejhpodbdnaaVaT
import Derived.OwnWalk
import Derived.Laws.AppendOwn
import Derived.Maps.AppendAt
namespace Go.Proofs.Ytaanejhpodbdnaa
open Go.RowKit
set_option maxRecDepth 100000
set_option linter.unusedVariables false
attribute [local go_sem] run_store_float

/-- The aggregate's nine cells. -/
def AggAt (W : World) (B : Nat) : Prop :=
  W.cell? ⟨B, 0, none⟩ = some (.int .i64 1) ∧ W.cell? ⟨B, 1, none⟩ = some (.int .i64 2) ∧ W.cell? ⟨B, 2, none⟩ = some (.int .i64 0) ∧ W.cell? ⟨B, 3, none⟩ = some (.int .i64 0) ∧
  W.cell? ⟨B, 4, none⟩ = some (.int .i64 0) ∧ W.cell? ⟨B, 5, none⟩ = some (.int .i64 0) ∧ W.cell? ⟨B, 6, none⟩ = some (.float .f64 0) ∧ W.cell? ⟨B, 7, none⟩ = some (.string ⟨#[]⟩) ∧ W.cell? ⟨B, 8, none⟩ = some (.slice none 0 0) ∧ B < W.heap.size
theorem AggAt.later {W W' : World} {B : Nat} (h : AggAt W B) (hb : Below W.heap.size W W') : AggAt W' B := by
  obtain ⟨h0, h1, h2, h3, h4, h5, h6, h7, h8, hl⟩ := h
  exact ⟨(hb.cell hl).trans h0, (hb.cell hl).trans h1, (hb.cell hl).trans h2, (hb.cell hl).trans h3, (hb.cell hl).trans h4, (hb.cell hl).trans h5, (hb.cell hl).trans h6, (hb.cell hl).trans h7, (hb.cell hl).trans h8, Nat.lt_of_lt_of_le hl hb.size⟩

theorem Test_one' (w : World) : Calls Try.prog 30 #[.agg #[.int .i64 1, .int .i64 2, .int .i64 0, .int .i64 0, .int .i64 0, .int .i64 0, .float .f64 0, .string ⟨#[]⟩, .slice none 0 0]] w fun e w' => e = .returned (.bool false) ∧ Below w.heap.size w w' := Test_one w

set_option maxHeartbeats 1000000 in
theorem Index_one (B : Nat) (w : World) (h : AggAt w B) : Calls Try.prog 47 #[.slice (some ⟨B, 0, none⟩) 1 1, .func (.func 30) #[] #[]] w fun e w' => e = .returned (.int .i64 (-1)) ∧ Below w.heap.size w w' := by
  obtain ⟨h0, h1, h2, h3, h4, h5, h6, h7, h8, hl⟩ := h
  go_enter Try.func47, Try.ntmps47
  go_wp2
  refine wp_loop_rounds 2 ?_
  rw [rounds_succ]
  go_wp2_with (go_at_call 30; refine (Test_one' _).mono ?_; rintro e w1 ⟨rfl, hb1⟩)
  rw [rounds_succ]
  go_wp2
  go_ret
  exact ⟨rfl, hb1⟩

theorem Contains_one (B : Nat) (w : World) (h : AggAt w B) : Calls Try.prog 29 #[.slice (some ⟨B, 0, none⟩) 1 1, .func (.func 30) #[] #[]] w fun e w' => e = .returned (.bool false) ∧ Below w.heap.size w w' := by
  go_enter Try.func29, Try.ntmps29
  go_wp2_with (go_at_call 47; refine (Index_one _ _ h).mono ?_; rintro e w1 ⟨rfl, hb1⟩)
  go_ret
  exact ⟨rfl, hb1⟩

theorem values_nil (w : World) : Calls Try.prog 53 #[.agg #[.int .i64 2, .int .i64 0, .int .i64 0, .int .i64 0, .int .i64 0, .float .f64 0, .string ⟨#[]⟩, .slice none 0 0], .slice none 0 0, .slice none 0 0] w
    fun e w' => e = .returned (.tuple #[.slice none 0 0, .int .i64 0]) ∧ Below w.heap.size w w' := by
  go_enter Try.func53, Try.ntmps53
  go_wp2
  refine wp_loop_rounds 1 ?_
  rw [rounds_succ]
  go_wp2
  go_ret2
  exact ⟨rfl, (Below.refl _ w).alloc (Nat.le_refl _) _⟩

theorem Try.info28 : (Try.prog.info? 28).map (fun i => (i.zero, i.size, i.bytes)) = some (some (.agg #[.int .i64 0, .int .i64 0, .float .f64 0, .string ⟨#[]⟩]), 4, 40) := by kernel_rfl
theorem Try.info22 : (Try.prog.info? 22).map (fun i => (i.zero, i.size, i.bytes)) = some (some (.slice none 0 0), 1, 24) := by kernel_rfl

theorem fold_nil_1 (w : World) : Calls Try.prog 8 #[.int .i64 1, .slice none 0 0] w
    fun e w' => e = .returned (.tuple #[.agg #[.int .i64 2, .int .i64 0, .float .f64 0, .string ⟨#[]⟩], .int .i64 0]) ∧ Below w.heap.size w w' :=
  Fold_any 1 none 0 0 [] w ⟨rfl, Nat.le_refl _, Nat.zero_le _, fun v hv => (by cases hv), .inl rfl⟩

theorem first_new (W : World) (l : List Value) (x : Value) (t : TypeId) (h : l[0]? = some x) : (W.alloc (.cells ⟨l⟩ t)).cell? ⟨W.heap.size, 0, none⟩ = some x := by
  have hb := World.alloc_heap_new W (.cells ⟨l⟩ t)
  simp only [World.cell?]; rw [hb]; simpa using h
theorem four_at (W : World) (x0 x1 x2 x3 : Value) (t : TypeId) (j : Nat) (u : Value) (h : [x0, x1, x2, x3][j]? = some u) :
    (W.alloc (.cells #[x0, x1, x2, x3] t)).cell? (Addr.add ⟨W.heap.size, 0, none⟩ j) = some u := by
  have hb := World.alloc_heap_new W (.cells #[x0, x1, x2, x3] t)
  have e : ∀ k, (W.alloc (.cells #[x0, x1, x2, x3] t)).cell? ⟨W.heap.size, k, none⟩ = [x0, x1, x2, x3][k]? := by
    intro k
    simp only [World.cell?]; rw [hb]; simp
  rw [show Addr.add ⟨W.heap.size, 0, none⟩ j = ⟨W.heap.size, j, none⟩ by unfold Addr.add; split <;> simp_all, e, h]

set_option maxHeartbeats 1000000 in
theorem one_ex (B : Nat) (w : World) (h : AggAt w B) : Calls Try.prog 32 #[.slice none 0 0, .slice (some ⟨B, 0, none⟩) 1 1, .slice none 0 0, .slice none 0 0] w
    fun e w' => ∃ v, e = .returned (.tuple #[v, .int .i64 0]) ∧ w'.ownsRow w.heap.size 28 4 v 1 [.int .i64 2, .int .i64 0, .float .f64 0, .string ⟨#[]⟩] ∧ Below w.heap.size w w' := by
  obtain ⟨i0, hi, hz0, hz1, hz2⟩ := info_parts Try.info28
  obtain ⟨h0, h1, h2, h3, h4, h5, h6, h7, h8, hl⟩ := h
  go_enter Try.func32, Try.ntmps32
  go_wp2
  refine wp_loop_rounds 2 ?_
  rw [rounds_succ]
  go_wp2_with (first | (go_at_call 53; refine (values_nil _).mono ?_; rintro e w1 ⟨rfl, hb1⟩; have c0 : w1.cell? ⟨w.heap.size, 0, none⟩ = some (.int .i64 1) := (hb1.cell (by simp)).trans (first_new w _ _ _ rfl)) | (go_at_call 8; refine (fold_nil_1 _).mono ?_; rintro e w2 ⟨rfl, hb2⟩) | (at_builtin; refine wpList_append_own _ rfl _ _ 22 rfl w.heap.size 28 i0 (.agg #[.int .i64 0, .int .i64 0, .float .f64 0, .string ⟨#[]⟩]) 4 40 Try.underlying22 hi hz0 hz1 hz2 rfl (by decide) _ 0 [] rfl (World.ownsRow_nil _ _ _ _) ⟨w2.heap.size + 1, 0, none⟩ 1 1 [.int .i64 2, .int .i64 0, .float .f64 0, .string ⟨#[]⟩] rfl rfl (fun j u hj => by have := four_at (w2.alloc (.cells #[.int .i64 2, .int .i64 0, .float .f64 0, .string ⟨#[]⟩] 28)) _ _ _ _ 28 j u hj; simpa only [World.size_alloc] using this) (by simp [Value.oneCell']) (by unfold maxLen; omega) (by omega) (by have := hb1.size; have := hb2.size; simp at *; omega) ?_; intro v' w3 hown hgrow _))
  rw [rounds_succ]
  go_wp2
  go_ret2
  have z1 : w.heap.size ≤ w1.heap.size := by have := hb1.size; simp only [World.size_alloc] at this; omega
  have z2 := Nat.le_trans z1 hb2.size
  have k1 : Below w.heap.size w w1 := ((Below.refl _ w).alloc (Nat.le_refl _) _).trans (hb1.mono (by simp))
  have k2 : Below w.heap.size w w2 := k1.trans (hb2.mono z1)
  exact ⟨_, rfl, hown, ((k2.alloc z2 _).alloc (by simp only [World.size_alloc]; omega) _).grown hgrow (by simp only [World.size_alloc]; omega) (fun j hj => by cases hj)⟩

/-- What is told of no tuples: one row, of one 0. -/
def Told (W : World) (v : Value) : Prop := ∃ g cap g' cap', v = .slice (some ⟨g, 0, none⟩) 1 cap ∧ W.cell? ⟨g, 0, none⟩ = some (.slice (some ⟨g', 0, none⟩) 1 cap') ∧
  W.cell? ⟨g', 0, none⟩ = some (.int .i64 2) ∧ W.cell? ⟨g', 1, none⟩ = some (.int .i64 0)

theorem ownsRow_one {W : World} {b : Nat} {e : TypeId} {size : Nat} {v : Value} {xs : List Value} (h : W.ownsRow b e size v 1 xs) :
    ∃ g cap, v = .slice (some ⟨g, 0, none⟩) 1 cap ∧ b ≤ g ∧ g < W.heap.size ∧ ∀ j u, xs[j]? = some u → W.cell? ⟨g, j, none⟩ = some u := by
  obtain ⟨hx, ⟨_, h0⟩ | ⟨g, cap, cur, rfl, hg, hh, _, _, hsz, htk⟩⟩ := h
  · cases h0
  · refine ⟨g, cap, rfl, hg, (Array.getElem?_eq_some_iff.1 hh).1, fun j u hj => ?_⟩
    simp only [World.cell?]
    rw [hh]
    rw [← htk] at hj
    rw [List.getElem?_take] at hj
    split at hj
    · simpa using hj
    · cases hj

theorem one_at (W : World) (x : Value) (t : TypeId) (j : Nat) (u : Value) (h : [x][j]? = some u) :
    (W.alloc (.cells #[x] t)).cell? (Addr.add ⟨W.heap.size, 0, none⟩ j) = some u := by
  match j, h with
  | 0, h =>
    obtain rfl : x = u := by simpa using h
    exact first_new W [x] x t rfl

set_option maxHeartbeats 1000000 in
theorem Group_ex (B : Nat) (w : World) (h : AggAt w B) : Calls Try.prog 15 #[.slice none 0 0, .slice (some ⟨B, 0, none⟩) 1 1, .slice none 0 0] w
    fun e w' => ∃ v, e = .returned (.tuple #[v, .int .i64 0]) ∧ Told w' v ∧ Below w.heap.size w w' := by
  obtain ⟨i0, hi, hz0, hz1, hz2⟩ := info_parts Try.info22
  have HA := Lib.hid h
  have HC := Lib.hid (Contains_one B w h)
  clear h
  go_enter Try.func15, Try.ntmps15
  go_wp2_with (first | (go_at_call 29; refine HC.out.mono ?_; rintro e w1 ⟨rfl, hb1⟩) | (go_at_call 17; refine (Project_nil _).mono ?_; rintro e w' ⟨rfl, rfl⟩) | (go_at_call 31; refine (grouped_nil _).mono ?_; rintro e w2 ⟨rfl, hb2⟩))
  have HO := Lib.hid (one_ex B (w2.alloc (.cells #[.slice none 0 0] 76)) ((HA.out.later (hb1.trans (hb2.mono hb1.size))).later ((Below.refl _ w2).alloc (Nat.le_refl _) _)))
  refine wp_loop_rounds 2 ?_
  rw [rounds_succ]
  go_wp2_with (first | (go_at_call 32; refine HO.out.mono ?_; rintro e w3 ⟨v, rfl, hown, hb3⟩; obtain ⟨g, cap, rfl, hg, hgl, hcs⟩ := ownsRow_one hown) | (at_builtin; refine wpList_append_own _ rfl _ _ 24 rfl w3.heap.size 22 i0 (.slice none 0 0) 1 24 Try.underlying24 hi hz0 hz1 hz2 rfl (by decide) _ 0 [] rfl (World.ownsRow_nil _ _ _ _) ⟨w3.heap.size, 0, none⟩ 1 1 [.slice (some ⟨g, 0, none⟩) 1 cap] rfl rfl (fun j u hj => one_at w3 _ 22 j u hj) (by simp [Value.oneCell']) (by unfold maxLen; omega) (by omega) (by simp only [World.size_alloc]; omega) ?_; intro v' w4 hown' hgrow _))
  rw [rounds_succ]
  go_wp2
  go_ret2
  obtain ⟨g2, cap2, rfl, hg2, hgl2, hcs2⟩ := ownsRow_one hown'
  have z1 := hb1.size
  have z2 := hb2.size
  have z3 := hb3.size
  simp only [World.size_alloc] at z3
  have k2 : Below w.heap.size w w2 := hb1.trans (hb2.mono hb1.size)
  have k3 : Below w.heap.size w w3 := (k2.alloc (by omega) _).trans (hb3.mono (by simp only [World.size_alloc]; omega))
  have e0 := hcs 0 _ rfl
  have e1 := hcs 1 _ rfl
  have kg : Below w3.heap.size w3 w4 := ((Below.refl _ w3).alloc (Nat.le_refl _) _).grown hgrow (by simp only [World.size_alloc]; omega) (fun j hj => by cases hj)
  exact ⟨_, rfl, ⟨g2, cap2, g, cap, rfl, hcs2 0 _ rfl, (kg.cell hgl).trans e0, (kg.cell hgl).trans e1⟩, k3.trans (kg.mono (by omega))⟩
end Go.Proofs.Ytaanejhpodbdnaa
