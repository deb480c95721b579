/- The walk of the chapter's example: works. -/
import Derived.Test.YtaanejhpodbdnaaVaU
import Derived.Test.YtaanejhpodbdnaaVaR
namespace Go.Proofs.Ytaanejhpodbdnaa
open Go.RowKit
set_option maxRecDepth 100000
set_option linter.unusedVariables false
attribute [local go_sem] run_store_float

theorem RowV.three (W : World) (x y z : Val) (hx : x.wf) (hy : y.wf) (hz : z.wf) (t : TypeId) : RowV (W.alloc (.cells #[.int .i64 x.kind, .int .i64 x.int, .float .f64 x.flt, .string x.text, .int .i64 y.kind, .int .i64 y.int, .float .f64 y.flt, .string y.text, .int .i64 z.kind, .int .i64 z.int, .float .f64 z.flt, .string z.text] t)) (some ⟨W.heap.size, 0, none⟩) 3 3 [x, y, z] := by
  have hb := World.alloc_heap_new W (.cells #[.int .i64 x.kind, .int .i64 x.int, .float .f64 x.flt, .string x.text, .int .i64 y.kind, .int .i64 y.int, .float .f64 y.flt, .string y.text, .int .i64 z.kind, .int .i64 z.int, .float .f64 z.flt, .string z.text] t)
  refine ⟨rfl, Nat.le_refl _, by unfold maxLen; omega, ?_, .inr ⟨W.heap.size, 0, rfl, by simp, fun i v hi => ?_⟩⟩
  · intro v hv
    rcases List.mem_cons.1 hv with rfl | hv
    · exact hx
    · rcases List.mem_cons.1 hv with rfl | hv
      · exact hy
      · rcases List.mem_cons.1 hv with rfl | hv
        · exact hz
        · cases hv
  · match i, hi with
    | 0, hi =>
      obtain rfl : x = v := by simpa using hi
      refine ⟨?_, ?_, ?_, ?_⟩ <;> (simp only [World.cell?]; rw [hb]; rfl)
    | 1, hi =>
      obtain rfl : y = v := by simpa using hi
      refine ⟨?_, ?_, ?_, ?_⟩ <;> (simp only [World.cell?]; rw [hb]; rfl)
    | 2, hi =>
      obtain rfl : z = v := by simpa using hi
      refine ⟨?_, ?_, ?_, ?_⟩ <;> (simp only [World.cell?]; rw [hb]; rfl)

theorem works_sum : foldV 2 [Val.num 1, Val.null, Val.num 2] = (Val.num 3, 0) := by
  have hs : ∀ k, skipV (Val.num k) = false := fun k => by unfold skipV; rw [num_right]; rfl
  have hn : skipV Val.null = true := by unfold skipV Val.null; simp
  have ha : ∀ (h : Val) (k : Int), addV h (Val.num k) = (Val.num (wrap64 ((if h.kind = 0 then 0 else h.int) + k)), 0) := by
    intro h k
    unfold addV calcAdd
    rw [show numV (Val.num k) = true from numV_num k]
    rfl
  unfold foldV
  rw [if_neg (by omega), if_pos rfl, goAdd_cons, hs, ha]
  simp only [Bool.false_eq_true, if_false, if_true]
  rw [goAdd_cons, hn, if_pos rfl, goAdd_cons, hs, ha]
  simp only [Bool.false_eq_true, if_false, if_true]
  unfold goAdd
  have e : wrap64 ((if (Val.num (wrap64 ((if Val.null.kind = 0 then 0 else Val.null.int) + 1))).kind = 0 then 0 else (Val.num (wrap64 ((if Val.null.kind = 0 then 0 else Val.null.int) + 1))).int) + 2) = 3 := by
    unfold wrap64 Val.num Val.null; decide
  rw [e]
theorem works_fold (w : World) (a : Option Addr) (h : RowV w a 3 3 [Val.num 1, Val.null, Val.num 2]) : Calls Try.prog 8 #[.int .i64 2, .slice a 3 3] w
    fun e w' => e = .returned (.tuple #[.agg #[.int .i64 2, .int .i64 3, .float .f64 0, .string ⟨#[]⟩], .int .i64 0]) ∧ Below w.heap.size w w' := by
  have := Fold_any 2 a 3 3 _ w h
  rw [works_sum] at this
  exact this
theorem fold_nil_3 (w : World) : Calls Try.prog 8 #[.int .i64 3, .slice none 0 0] w
    fun e w' => e = .returned (.tuple #[.agg #[.int .i64 0, .int .i64 0, .float .f64 0, .string ⟨#[]⟩], .int .i64 0]) ∧ Below w.heap.size w w' :=
  Fold_any 3 none 0 0 [] w ⟨rfl, Nat.le_refl _, Nat.zero_le _, fun v hv => (by cases hv), .inl rfl⟩

theorem AggAt.new (W : World) (t : TypeId) : AggAt (W.alloc (.cells #[.int .i64 1, .int .i64 2, .int .i64 0, .int .i64 0, .int .i64 0, .int .i64 0, .float .f64 0, .string ⟨#[]⟩, .slice none 0 0] t)) W.heap.size := by
  have hb := World.alloc_heap_new W (.cells #[.int .i64 1, .int .i64 2, .int .i64 0, .int .i64 0, .int .i64 0, .int .i64 0, .float .f64 0, .string ⟨#[]⟩, .slice none 0 0] t)
  refine ⟨?_, ?_, ?_, ?_, ?_, ?_, ?_, ?_, ?_, by simp⟩ <;> (simp only [World.cell?]; rw [hb]; rfl)

set_option maxHeartbeats 2000000 in
theorem works_any (w : World) : Calls Try.prog 7 #[] w fun e w' => e = .returned (.bool true) ∧ Below w.heap.size w w' := by
  have h1 : (Val.num 1).wf := num_wf (by decide)
  have h2 : (Val.num 2).wf := num_wf (by decide)
  go_enter Try.func7, Try.ntmps7
  go_wp2_with (first
    | (go_at_call 19; refine (Number_exp 1 _).mono ?_; rintro e w1 ⟨rfl, hb1⟩; have HB1 := Lib.hid hb1; clear hb1)
    | (go_at_call 19; refine (Number_exp 2 _).mono ?_; rintro e w2 ⟨rfl, hb2⟩; have HR := Lib.hid (RowV.three w2 (Val.num 1) Val.null (Val.num 2) h1 null_wf h2 28); have HB2 := Lib.hid hb2; clear hb2 h1 h2)
    | (go_at_call 8; refine (works_fold _ _ HR.out).mono ?_; rintro e w3 ⟨rfl, hb3⟩; have HB3 := Lib.hid hb3; clear hb3 HR)
    | (go_at_call 8; refine (fold_nil_3 _).mono ?_; rintro e w4 ⟨rfl, hb4⟩; have HB4 := Lib.hid hb4; clear hb4; have hA := AggAt.new (w4.alloc (.cells #[.int .i64 0, .int .i64 0, .float .f64 0, .string ⟨#[]⟩] 28)) 47; simp only [World.size_alloc] at hA; have HA := Lib.hid hA; clear hA)
    | (go_at_call 15; refine (Group_ex _ _ HA.out).mono ?_; rintro e w5 ⟨v, rfl, ⟨g, cap, g', cap', rfl, t0, t1, t2⟩, hb5⟩; have z4 := HB4.out.size; simp only [World.size_alloc] at z4; have k4 : Below w4.heap.size w4 w5 := (((Below.refl _ w4).alloc (Nat.le_refl _) _).alloc (by simp) _).trans (hb5.mono (by simp only [World.size_alloc]; omega)); have K4 := Lib.hid k4; obtain ⟨⟨_, c1, _, _⟩, _⟩ := ((LiesV.new w3 ⟨2, 3, 0, ⟨#[]⟩⟩ 28).below HB4.out (by simp)).below k4 (by omega); obtain ⟨⟨c3, _, _, _⟩, _⟩ := (LiesV.new w4 ⟨0, 0, 0, ⟨#[]⟩⟩ 28).below (show Below (w4.heap.size + 1) (w4.alloc (.cells #[.int .i64 0, .int .i64 0, .float .f64 0, .string ⟨#[]⟩] 28)) w5 from (((Below.refl _ _).alloc (by simp) _).trans (hb5.mono (by simp)))) (by simp); simp only [Nat.zero_add] at c1 c3; clear hb5 k4))
  go_ret
  refine ⟨rfl, ?_⟩
  have z1 := HB1.out.size
  have z2 := HB2.out.size
  have z3 := HB3.out.size
  have z4 := HB4.out.size
  simp only [World.size_alloc] at z3 z4
  have k2 : Below w.heap.size w w2 := HB1.out.trans (HB2.out.mono z1)
  have k3 : Below w.heap.size w w3 := (k2.alloc (by omega) _).trans (HB3.out.mono (by simp only [World.size_alloc]; omega))
  have k4 : Below w.heap.size w w4 := (k3.alloc (by omega) _).trans (HB4.out.mono (by simp only [World.size_alloc]; omega))
  exact k4.trans (K4.out.mono (by omega))
end Go.Proofs.Ytaanejhpodbdnaa
