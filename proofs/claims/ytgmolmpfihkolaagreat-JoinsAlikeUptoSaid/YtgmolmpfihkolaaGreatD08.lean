/- Part of the proof. -/
import Derived.Test.YtgmolmpfihkolaaGreatD07
import Derived.Defers
import Derived.Recover
import Derived.Laws.AppendOwn
import Derived.Test.YtgmolmpfihkolaaGreatRows
namespace Go.Proofs.YtgmolmpfihkolaaGreat
open Go.RowKit
open Go.Deep
set_option linter.unusedVariables false
set_option maxRecDepth 100000
attribute [local go_sem] run_store_float
theorem grown_val {W w1 : World} (h : Below W.heap.size W w1) (b : Nat) (x0 x1 x2 x3 : Value) : W.grownBy ((((w1.setCell ⟨b, 0, none⟩ x0).setCell ⟨b, 1, none⟩ x1).setCell ⟨b, 2, none⟩ x2).setCell ⟨b, 3, none⟩ x3) (some b) := by
 refine ⟨?_, ?_, ?_, ?_, fun k hk hne => ?_⟩
 ·exact h.os
 ·exact h.tape
 ·exact h.output
 ·simpa using h.size
 ·have hkb : b ≠ k := fun e => hne (by rw [e])
  have e : ∀ (w : World) (i : Nat) (x : Value), (w.setCell ⟨b, i, none⟩ x).heap[k]? = w.heap[k]? := fun w i x => by
   exact Below.heap_setCell w ⟨b, i, none⟩ x k (fun e => hkb e.symm)
  rw [e, e, e, e]
  exact h.block k hk
theorem evalc_ok (D : Nat) (k0 k1 k2 k3 k4 : Int) (k5 : Nat) (k6 : ByteArray) (ka : Option Addr) (kl kc : Nat) (t : Tx) (d : Nat) (ra : Option Addr) (rl rc : Nat) (R : List Slc) (be br bv : Nat) (W : World)
 (hx : ExAt W D [.int .i64 k0, .int .i64 k1, .int .i64 k2, .int .i64 k3, .int .i64 k4, .float .f64 k5, .string k6, .slice ka kl kc] t) (hR : RowsV W ra rl rc R) (hok : okT d t = true)
 (c0 : W.cell? ⟨be, 0, none⟩ = some (.int .i64 k0)) (c1 : W.cell? ⟨be, 1, none⟩ = some (.int .i64 k1)) (c2 : W.cell? ⟨be, 2, none⟩ = some (.int .i64 k2)) (c3 : W.cell? ⟨be, 3, none⟩ = some (.int .i64 k3)) (c4 : W.cell? ⟨be, 4, none⟩ = some (.int .i64 k4)) (c5 : W.cell? ⟨be, 5, none⟩ = some (.float .f64 k5)) (c6 : W.cell? ⟨be, 6, none⟩ = some (.string k6)) (c7 : W.cell? ⟨be, 7, none⟩ = some (.slice ka kl kc))
 (r0 : W.cell? ⟨br, 0, none⟩ = some (.slice ra rl rc)) (hv : LiesV W bv 0 Val.null) (hbv : bv < W.heap.size) (he : (evalV (R.map (·.l)) t).2 = 0) :
 Calls Tryz.prog 53 #[.pointer (some ⟨be, 0, none⟩), .pointer (some ⟨br, 0, none⟩), .pointer (some ⟨bv, 0, none⟩)] W fun e w' => e = .returned (.tuple #[]) ∧ LiesV w' bv 0 (evalV (R.map (·.l)) t).1 ∧ W.grownBy w' (some bv) := by
 have HE := hdq (eval_any D _ t d ra rl rc R W hx hR hok)
 obtain ⟨⟨p, pe⟩, hp⟩ : ∃ x, x = evalV (R.map (·.l)) t := ⟨_, rfl⟩
 rw [← hp] at HE he ⊢
 simp only at he
 subst he
 obtain ⟨pk, pn, pf, ps⟩ := p
 have HV := hdq hv
 clear hx hR hok hp
 go_enter Tryz.func53, Tryz.ntmps53
 go_wp2_with (go_at_call 54; refine HE.out.mono ?_; rw [endE_ok]; unfold Val.agg; rintro e w1 ⟨rfl, hb1⟩; have HB1 := hdq hb1; have HV1 := hdq (HV.out.below hb1 hbv); obtain ⟨⟨q1, q2, q3, q4⟩, f1, f2, f3, f4⟩ := HV1.out; simp only [Nat.zero_add] at q1 q2 q3 q4 f1 f2 f3 f4; clear hb1)
 go_end0
 exact ⟨rfl, HV1.out.stored ⟨pk, pn, pf, ps⟩, grown_val HB1.out bv _ _ _ _⟩
theorem evalc_bad (D : Nat) (k0 k1 k2 k3 k4 : Int) (k5 : Nat) (k6 : ByteArray) (ka : Option Addr) (kl kc : Nat) (t : Tx) (d : Nat) (ra : Option Addr) (rl rc : Nat) (R : List Slc) (be br bv : Nat) (W : World)
 (hx : ExAt W D [.int .i64 k0, .int .i64 k1, .int .i64 k2, .int .i64 k3, .int .i64 k4, .float .f64 k5, .string k6, .slice ka kl kc] t) (hR : RowsV W ra rl rc R) (hok : okT d t = true)
 (c0 : W.cell? ⟨be, 0, none⟩ = some (.int .i64 k0)) (c1 : W.cell? ⟨be, 1, none⟩ = some (.int .i64 k1)) (c2 : W.cell? ⟨be, 2, none⟩ = some (.int .i64 k2)) (c3 : W.cell? ⟨be, 3, none⟩ = some (.int .i64 k3)) (c4 : W.cell? ⟨be, 4, none⟩ = some (.int .i64 k4)) (c5 : W.cell? ⟨be, 5, none⟩ = some (.float .f64 k5)) (c6 : W.cell? ⟨be, 6, none⟩ = some (.string k6)) (c7 : W.cell? ⟨be, 7, none⟩ = some (.slice ka kl kc))
 (r0 : W.cell? ⟨br, 0, none⟩ = some (.slice ra rl rc)) (he : ¬ (evalV (R.map (·.l)) t).2 = 0) :
 Calls Tryz.prog 53 #[.pointer (some ⟨be, 0, none⟩), .pointer (some ⟨br, 0, none⟩), .pointer (some ⟨bv, 0, none⟩)] W fun e w' => e = .panicked [{ v := .iface 30 (.int .i64 (evalV (R.map (·.l)) t).2), recovered := false }] ∧ Below W.heap.size W w' := by
 have HE := hdq (eval_any D _ t d ra rl rc R W hx hR hok)
 obtain ⟨⟨p, pe⟩, hp⟩ : ∃ x, x = evalV (R.map (·.l)) t := ⟨_, rfl⟩
 rw [← hp] at HE he ⊢
 simp only at he ⊢
 clear hx hR hok hp
 go_enter Tryz.func53, Tryz.ntmps53
 go_wp2_with (go_at_call 54; refine HE.out.mono ?_; rw [endE_bad _ _ he]; rintro e w1 ⟨rfl, hb1⟩; have HB1 := hdq hb1; clear hb1)
 exact ⟨rfl, rfl, HB1.out⟩
theorem catch_idle (p : Addr) (w : World) :
 CallsD Tryz.prog 79 #[.pointer (some p)] .returning w fun e u' w' => e = .returned (.tuple #[]) ∧ u' = .returning ∧ w' = w := by
 refine callsD_of_wpS Tryz.func79 rfl fun c₀ cs hu => ?_
 apply wpS_seq
 apply wpS_region
 simp [wpOpsS, go_sem, recoverD, hu, Tryz.ntmps79, Exit.thenS]
 refine wpS_of_wp ?_
 show Code.wp _ _ _ { tmps := #[.pointer (some p), .nilIface, undef, undef, .nilIface, undef, undef, undef, undef, undef, undef, undef, undef, undef], defers := [] } w
 go_wp2
 cases c₀
 simp_all [bodyPostS, results, Tryz.results79]
theorem assert_errno (n : Int) (w : World) : (Instr.typeAssert (.iface 30 (.int .i64 n)) 20 30 true).run Tryz.prog w = .ok (.tuple #[.int .i64 n, .bool true]) w := by
 simp [Instr.typeAssert, run_underlying Tryz.underlying30, go_sem, Result.andThen]
attribute [local go_sem] assert_errno
theorem catch_bad (p : Addr) (n : Int) (w : World) (hc : w.cell? p = some (.int .i64 0)) (hz : w.frozen? p = false) :
 CallsD Tryz.prog 79 #[.pointer (some p)] (.panicking [{ v := .iface 30 (.int .i64 n), recovered := false }]) w fun e u' w' => e = .returned (.tuple #[]) ∧ u' = .panicking [{ v := .iface 30 (.int .i64 n), recovered := true }] ∧ w' = (w.setCell p (.int .i64 2)).setCell p (.int .i64 n) := by
 refine callsD_of_wpS Tryz.func79 rfl fun c₀ cs hu => ?_
 apply wpS_seq
 apply wpS_region
 simp [wpOpsS, go_sem, recoverD, hu, Tryz.ntmps79, Exit.thenS]
 refine wpS_of_wp ?_
 show Code.wp _ _ _ { tmps := #[.pointer (some p), .iface 30 (.int .i64 n), undef, undef, .iface 30 (.int .i64 n), undef, undef, undef, undef, undef, undef, undef, undef, undef], defers := [] } w
 go_wp2
 cases c₀
 simp_all [bodyPostS, results, Tryz.results79]
theorem grown_cell {w w' : World} {r : Option Nat} (h : w.grownBy w' r) {b i : Nat} (hb : b < w.heap.size) (hr : some b ≠ r) : w'.cell? ⟨b, i, none⟩ = w.cell? ⟨b, i, none⟩ := World.cell?_of_block (h.block b hb hr)
theorem grown_frozen {w w' : World} {r : Option Nat} (h : w.grownBy w' r) {b i : Nat} (hb : b < w.heap.size) (hr : some b ≠ r) : w'.frozen? ⟨b, i, none⟩ = w.frozen? ⟨b, i, none⟩ := World.frozen?_of_block (h.block b hb hr)
theorem grown_back {w w1 : World} {o : Obj} {r : Option Nat} (h : (w.alloc o).grownBy w1 r) (x : Value) : w.grownBy (w1.setCell ⟨w.heap.size, 0, none⟩ x) r := by
 refine ⟨h.os, h.tape, h.output, ?_, fun k hk hr => ?_⟩
 ·have := h.size
  simp only [World.size_alloc, World.size_setCell] at this ⊢
  omega
 ·rw [Below.heap_setCell w1 ⟨w.heap.size, 0, none⟩ x k (Nat.ne_of_lt hk), h.block k (by simp; omega) hr]
  exact ((Below.refl w.heap.size w).alloc (Nat.le_refl _) o).block k hk
theorem guarded_ok (be br bv : Nat) (v : Val) (w : World) (hbv : bv < w.heap.size)
 (h : Calls Tryz.prog 53 #[.pointer (some ⟨be, 0, none⟩), .pointer (some ⟨br, 0, none⟩), .pointer (some ⟨bv, 0, none⟩)] (w.alloc (.cells #[.int .i64 0] 30)) fun e w' => e = .returned (.tuple #[]) ∧ LiesV w' bv 0 v ∧ (w.alloc (.cells #[.int .i64 0] 30)).grownBy w' (some bv)) :
 Calls Tryz.prog 52 #[.func (.func 53) #[] #[.pointer (some ⟨be, 0, none⟩), .pointer (some ⟨br, 0, none⟩), .pointer (some ⟨bv, 0, none⟩)]] w fun e w' => e = .returned (.int .i64 0) ∧ LiesV w' bv 0 v ∧ w.grownBy w' (some bv) := by
 have hmf : ∀ (fn : Fn) (first cap : Array Value) (w : World), (Instr.makeFunc fn first cap).run Tryz.prog w = .ok (.func fn first cap) w := fun _ _ _ _ => rfl
 have H := hdq h
 clear h
 go_enter_defers Tryz.func52, Tryz.ntmps52
 have n0 : some w.heap.size ≠ some bv := fun e => by cases e; omega
 go_wp2_with (go_at_call 53; refine H.out.mono ?_; rintro e w1 ⟨rfl, hv1, hg1⟩; have q0 := (grown_cell (i := 0) hg1 (b := w.heap.size) (by simp) n0).trans (first_new w _ _ _ rfl); have q1 := (grown_frozen (i := 0) hg1 (b := w.heap.size) (by simp) n0).trans (World.frozen?_alloc_at _ _ _ _ rfl); have HV1 := hdq hv1; have HG1 := hdq hg1; clear hv1 hg1)
 refine leaves_cons (f := 79) (args := #[.pointer (some ⟨w.heap.size, 0, none⟩)]) (by simp) (by simp [go_sem]) ?_
 refine (catch_idle ⟨w.heap.size, 0, none⟩ _).mono ?_
 rintro e u' w'' ⟨rfl, rfl, rfl⟩
 have hl : LiesV (w1.setCell ⟨w.heap.size, 0, none⟩ (.int .i64 0)) bv 0 v := HV1.out.other (fun e => n0 (congrArg some e))
 have hg := grown_back HG1.out (.int .i64 0)
 simp [Leaves, settle, results, Tryz.results52, go_sem, q0]
 exact ⟨hl, hg⟩
theorem guarded_bad (be br bv : Nat) (n : Int) (w : World)
 (h : Calls Tryz.prog 53 #[.pointer (some ⟨be, 0, none⟩), .pointer (some ⟨br, 0, none⟩), .pointer (some ⟨bv, 0, none⟩)] (w.alloc (.cells #[.int .i64 0] 30)) fun e w' => e = .panicked [{ v := .iface 30 (.int .i64 n), recovered := false }] ∧ Below (w.alloc (.cells #[.int .i64 0] 30)).heap.size (w.alloc (.cells #[.int .i64 0] 30)) w') :
 Calls Tryz.prog 52 #[.func (.func 53) #[] #[.pointer (some ⟨be, 0, none⟩), .pointer (some ⟨br, 0, none⟩), .pointer (some ⟨bv, 0, none⟩)]] w fun e w' => e = .returned (.int .i64 n) ∧ Below w.heap.size w w' := by
 have hmf : ∀ (fn : Fn) (first cap : Array Value) (w : World), (Instr.makeFunc fn first cap).run Tryz.prog w = .ok (.func fn first cap) w := fun _ _ _ _ => rfl
 have H := hdq h
 clear h
 go_enter_defers Tryz.func52, Tryz.ntmps52
 go_wp2_with (go_at_call 53; refine H.out.mono ?_; rintro e w1 ⟨rfl, hb1⟩; have q0 := (hb1.cell (p := ⟨w.heap.size, 0, none⟩) (by simp)).trans (first_new w _ _ _ rfl); have q1 := (World.frozen?_of_block (a := ⟨w.heap.size, 0, none⟩) (hb1.block w.heap.size (by simp))).trans (World.frozen?_alloc_at _ _ _ _ rfl); have HB1 := hdq hb1; clear hb1)
 refine leaves_cons (f := 79) (args := #[.pointer (some ⟨w.heap.size, 0, none⟩)]) (by simp) (by simp [go_sem]) ?_
 refine (catch_bad ⟨w.heap.size, 0, none⟩ n _ q0 q1).mono ?_
 rintro e u' w'' ⟨rfl, rfl, rfl⟩
 have hb : Below w.heap.size w ((w1.setCell ⟨w.heap.size, 0, none⟩ (.int .i64 2)).setCell ⟨w.heap.size, 0, none⟩ (.int .i64 n)) :=
  ((((Below.refl w.heap.size w).alloc (Nat.le_refl _) _).trans (HB1.out.mono (by simp))).setCell (Nat.le_refl _) _).setCell (Nat.le_refl _) _
 simp [Leaves, settle, results, Tryz.results52, go_sem, q0]
 exact hb
end Go.Proofs.YtgmolmpfihkolaaGreat
namespace Go.Proofs.YtgmolmpfihkolaaGreat
open Go.RowKit
open Go.Deep
set_option linter.unusedVariables false
set_option maxRecDepth 100000
attribute [local go_sem] run_store_float
theorem calcC_null (op : Int) (a b : Val) (h : (calcC op a b).2 ≠ 0) : (calcC op a b).1 = Val.null := by
 unfold calcC at h ⊢
 split
 ·rfl
 ·rename_i h1
  rw [if_neg h1] at h
  split
  ·rename_i h2
   rw [if_pos h2] at h
   split
   ·rfl
   ·rename_i h3
    rw [if_neg h3] at h
    split
    ·rfl
    ·rename_i h4
     rw [if_neg h4] at h
     split <;> (rename_i h5; first | (rw [if_pos h5] at h; exact absurd rfl h) | (rw [if_neg h5] at h; exact absurd rfl h))
  ·rfl
theorem testV_null (op : Int) (a b : Val) (h : (testV op a b).2 ≠ 0) : (testV op a b).1 = Val.null := by
 unfold testV at h ⊢
 split
 ·rfl
 ·rename_i h1
  rw [if_neg h1] at h
  split
  ·rename_i h2
   rw [if_pos h2] at h
   split
   ·rfl
   ·rename_i h3
    rw [if_neg h3] at h
    split
    ·rfl
    ·rename_i h4
     rw [if_neg h4] at h
     exact absurd rfl h
  ·rfl
theorem bothC_null (op : Int) (a b : Val) (h : (bothC op a b).2 ≠ 0) : (bothC op a b).1 = Val.null := by
 unfold bothC at h ⊢
 split
 ·rfl
 ·rename_i h1
  rw [if_neg h1] at h
  split
  ·rename_i h2
   rw [if_pos h2] at h
   exfalso
   apply h
   repeat' split
   all_goals rfl
  ·rfl
theorem evalV_null (rows : List (List Val)) (t : Tx) (h : (evalV rows t).2 ≠ 0) : (evalV rows t).1 = Val.null := by
 obtain ⟨k, r, c, con, ks⟩ := t
 simp only [evalV] at h ⊢
 unfold combV at h ⊢
 split
 ·rfl
 ·rename_i h1
  rw [if_neg h1] at h
  split
  ·rfl
  ·rename_i h2
   rw [if_neg h2] at h
   unfold opV at h ⊢
   split
   ·rename_i h3; rw [if_pos h3] at h; exact absurd rfl h
   ·rename_i h3
    rw [if_neg h3] at h
    split
    ·rename_i h4; rw [if_pos h4] at h; exact absurd rfl h
    ·rename_i h4
     rw [if_neg h4] at h
     split
     ·rename_i h5; rw [if_pos h5] at h; exact calcC_null _ _ _ h
     ·rename_i h5
      rw [if_neg h5] at h
      split
      ·rename_i h6; rw [if_pos h6] at h; exact testV_null _ _ _ h
      ·rename_i h6
       rw [if_neg h6] at h
       split
       ·rename_i h7; rw [if_pos h7] at h; exact bothC_null _ _ _ h
       ·rename_i h7; rw [if_neg h7] at h; exact absurd rfl h
set_option maxHeartbeats 1000000 in
theorem Eval_any (D : Nat) (cs : List Value) (t : Tx) (ra : Option Addr) (rl rc : Nat) (R : List Slc) (w : World) (hx : ExAt w D cs t) (hR : RowsV w ra rl rc R) : Calls Tryz.prog 22 #[.agg cs.toArray, .slice ra rl rc] w
 fun e w' => e = .returned (.tuple #[(tellV (R.map (·.l)) t).1.agg, .int .i64 (tellV (R.map (·.l)) t).2]) ∧ Below w.heap.size w w' := by
 obtain ⟨k0, k1, k2, k3, k4, k5, k6, ka, kl, kc, rfl⟩ := hx.cells
 let W0 := ((w.alloc (.cells #[.int .i64 k0, .int .i64 k1, .int .i64 k2, .int .i64 k3, .int .i64 k4, .float .f64 k5, .string k6, .slice ka kl kc] 53)).alloc (.cells #[.slice ra rl rc] 22)).alloc (.cells #[.int .i64 0, .int .i64 0, .float .f64 0, .string ⟨#[]⟩] 39)
 have hB0 : Below w.heap.size w W0 := (((Below.refl _ w).alloc (Nat.le_refl _) _).alloc (by simp) _).alloc (by simp; omega) _
 have hbx : BoxE w k0 k1 k2 k3 k4 k5 k6 ka kl kc W0 := ((BoxE.start w k0 k1 k2 k3 k4 k5 k6 ka kl kc 53).next ((Below.refl _ _).alloc (Nat.le_refl _) (.cells #[.slice ra rl rc] 22))).next ((Below.refl _ _).alloc (Nat.le_refl _) _)
 have hrb : W0.cell? ⟨w.heap.size + 1, 0, none⟩ = some (.slice ra rl rc) := by
  have h1 := first_new (w.alloc (.cells #[.int .i64 k0, .int .i64 k1, .int .i64 k2, .int .i64 k3, .int .i64 k4, .float .f64 k5, .string k6, .slice ka kl kc] 53)) [.slice ra rl rc] _ 22 rfl
  rw [World.size_alloc] at h1
  exact (((Below.refl _ _).alloc (Nat.le_refl _) _).cell (p := ⟨w.heap.size + 1, 0, none⟩) (by simp)).trans h1
 have hvb : LiesV W0 (w.heap.size + 2) 0 Val.null := by
  have h1 := LiesV.new ((w.alloc (.cells #[.int .i64 k0, .int .i64 k1, .int .i64 k2, .int .i64 k3, .int .i64 k4, .float .f64 k5, .string k6, .slice ka kl kc] 53)).alloc (.cells #[.slice ra rl rc] 22)) Val.null 39
  rw [World.size_alloc, World.size_alloc] at h1
  exact h1
 have hs0 : W0.heap.size = w.heap.size + 3 := by simp [W0]
 have HF := hdq (Formed_any D _ t W0 (hx.later hB0))
 have HB0 := hdq hB0
 have HS0 := hdq hs0
 have HV0 := hdq hvb
 have cl : ∀ W1, Below W0.heap.size W0 W1 → formedT t = true → ∀ o : Obj, (∀ (i : Nat) (v : Value), W0.cell? ⟨w.heap.size, i, none⟩ = some v → (W1.alloc o).cell? ⟨w.heap.size, i, none⟩ = some v) ∧ (W1.alloc o).cell? ⟨w.heap.size + 1, 0, none⟩ = some (.slice ra rl rc) ∧ LiesV (W1.alloc o) (w.heap.size + 2) 0 Val.null ∧ w.heap.size + 2 < (W1.alloc o).heap.size ∧ Below w.heap.size w (W1.alloc o) := by
  intro W1 hb _ o
  have hb2 := hb.alloc hb.size o
  refine ⟨fun i v hv => (hb2.cell (by simp only; omega)).trans hv, (hb2.cell (by simp only; omega)).trans hrb, hvb.below hb2 (by omega), ?_, hB0.trans (hb2.mono hB0.size)⟩
  have := hb2.size
  omega
 obtain ⟨x0, x1, x2, x3, x4, x5, x6, x7, _⟩ := hbx
 have CL := hdq cl
 have HX := hdq hx
 have HR := hdq hR
 have X := hdq (And.intro x0 (And.intro x1 (And.intro x2 (And.intro x3 (And.intro x4 (And.intro x5 (And.intro x6 x7)))))))
 clear hx hR hB0 hrb hvb hs0 cl x0 x1 x2 x3 x4 x5 x6 x7
 have hmf : ∀ (fn : Fn) (first cap : Array Value) (w : World), (Instr.makeFunc fn first cap).run Tryz.prog w = .ok (.func fn first cap) w := fun _ _ _ _ => rfl
 unfold tellV
 cases hf : formedT t with
 | false =>
  rw [hf] at HF
  rw [if_neg (by simp)]
  clear hf
  go_enter Tryz.func22, Tryz.ntmps22
  go_wp2_with (go_at_call 51; refine HF.out.mono ?_; rintro e w1 ⟨rfl, hb1⟩; have HV1 := hdq (HV0.out.below hb1 (by rw [HS0.out]; omega)); have HB1 := hdq (HB0.out.trans (hb1.mono HB0.out.size)); obtain ⟨⟨q1, q2, q3, q4⟩, f1, f2, f3, f4⟩ := HV1.out; simp only [Nat.zero_add] at q1 q2 q3 q4 f1 f2 f3 f4; clear hb1)
  exact ret_val2 Tryz.results22 rfl rfl rfl (HV1.out.stored Val.null) ⟨rfl, below_val HB1.out (by omega) _ _ _ _⟩
 | true =>
  rw [hf] at HF
  rw [if_pos rfl]
  have hok : okT 1 t = true := by unfold formedT at hf; rw [Bool.and_eq_true] at hf; exact hf.1
  by_cases he : (evalV (R.map (·.l)) t).2 = 0
  ·have HG : Hid (∀ W1, Below W0.heap.size W0 W1 → Calls Tryz.prog 52 #[.func (.func 53) #[] #[.pointer (some ⟨w.heap.size, 0, none⟩), .pointer (some ⟨w.heap.size + 1, 0, none⟩), .pointer (some ⟨w.heap.size + 2, 0, none⟩)]] W1 fun e w' => e = .returned (.int .i64 0) ∧ LiesV w' (w.heap.size + 2) 0 (evalV (R.map (·.l)) t).1 ∧ W1.grownBy w' (some (w.heap.size + 2))) := hdq (fun W1 hb => by
    obtain ⟨g1, g2, g3, g4, g5⟩ := CL.out W1 hb hf (.cells #[.int .i64 0] 30)
    obtain ⟨x0, x1, x2, x3, x4, x5, x6, x7⟩ := X.out
    have := HS0.out
    have := hb.size
    exact guarded_ok w.heap.size (w.heap.size + 1) (w.heap.size + 2) _ W1 (by omega) (evalc_ok D k0 k1 k2 k3 k4 k5 k6 ka kl kc t 1 ra rl rc R _ _ _ _ (HX.out.later g5) (HR.out.later g5) hok (g1 0 _ x0) (g1 1 _ x1) (g1 2 _ x2) (g1 3 _ x3) (g1 4 _ x4) (g1 5 _ x5) (g1 6 _ x6) (g1 7 _ x7) g2 g3 g4 he))
   obtain ⟨⟨p, pe⟩, hp⟩ : ∃ x, x = evalV (R.map (·.l)) t := ⟨_, rfl⟩
   rw [← hp] at HG he ⊢
   obtain rfl : pe = 0 := he
   obtain ⟨pk, pn, pf, ps⟩ := p
   clear hf hok hp CL HX HR X
   go_enter Tryz.func22, Tryz.ntmps22
   go_wp2_with (first | (go_at_call 51; refine HF.out.mono ?_; rintro e w1 ⟨rfl, hb1⟩; have HB1 := hdq hb1; clear hb1) | (go_at_call 52; refine (HG.out _ HB1.out).mono ?_; rintro e w2 ⟨rfl, hv2, hg2⟩; have HV2 := hdq hv2; have HG2 := hdq hg2; obtain ⟨⟨q1, q2, q3, q4⟩, f1, f2, f3, f4⟩ := hv2; simp only [Nat.zero_add] at q1 q2 q3 q4 f1 f2 f3 f4; clear hg2))
   have hbb : Below w.heap.size w w2 := (HB0.out.trans (HB1.out.mono HB0.out.size)).grown HG2.out (HB0.out.trans (HB1.out.mono HB0.out.size)).size (fun k hk => by cases hk; omega)
   exact ret_val2 Tryz.results22 rfl rfl rfl (HV2.out.stored ⟨pk, pn, pf, ps⟩) ⟨rfl, below_val hbb (by omega) _ _ _ _⟩
  ·have HG : Hid (∀ W1, Below W0.heap.size W0 W1 → Calls Tryz.prog 52 #[.func (.func 53) #[] #[.pointer (some ⟨w.heap.size, 0, none⟩), .pointer (some ⟨w.heap.size + 1, 0, none⟩), .pointer (some ⟨w.heap.size + 2, 0, none⟩)]] W1 fun e w' => e = .returned (.int .i64 (evalV (R.map (·.l)) t).2) ∧ Below W1.heap.size W1 w') := hdq (fun W1 hb => by
    obtain ⟨g1, g2, g3, g4, g5⟩ := CL.out W1 hb hf (.cells #[.int .i64 0] 30)
    obtain ⟨x0, x1, x2, x3, x4, x5, x6, x7⟩ := X.out
    exact guarded_bad w.heap.size (w.heap.size + 1) (w.heap.size + 2) _ W1 (evalc_bad D k0 k1 k2 k3 k4 k5 k6 ka kl kc t 1 ra rl rc R _ _ _ _ (HX.out.later g5) (HR.out.later g5) hok (g1 0 _ x0) (g1 1 _ x1) (g1 2 _ x2) (g1 3 _ x3) (g1 4 _ x4) (g1 5 _ x5) (g1 6 _ x6) (g1 7 _ x7) g2 he))
   have hnull := evalV_null _ t he
   obtain ⟨⟨p, pe⟩, hp⟩ : ∃ x, x = evalV (R.map (·.l)) t := ⟨_, rfl⟩
   rw [← hp] at HG he hnull ⊢
   obtain rfl : p = Val.null := hnull
   simp only at he HG ⊢
   have he' : (pe == 0) = false := by simp; exact he
   clear hf hok hp CL HX HR X
   go_enter Tryz.func22, Tryz.ntmps22
   go_wp2_with (first | (go_at_call 51; refine HF.out.mono ?_; rintro e w1 ⟨rfl, hb1⟩; have HB1 := hdq hb1; clear hb1) | (go_at_call 52; refine (HG.out _ HB1.out).mono ?_; rintro e w2 ⟨rfl, hb2⟩; have HBB := hdq ((HB0.out.trans (HB1.out.mono HB0.out.size)).trans (hb2.mono (HB0.out.trans (HB1.out.mono HB0.out.size)).size)); have HV2 := hdq ((HV0.out.below HB1.out (by rw [HS0.out]; omega)).below hb2 (by have := HB1.out.size; rw [HS0.out] at this; omega)); obtain ⟨⟨q1, q2, q3, q4⟩, f1, f2, f3, f4⟩ := HV2.out; simp only [Nat.zero_add] at q1 q2 q3 q4 f1 f2 f3 f4; clear hb2))
   exact ret_val2 Tryz.results22 rfl rfl rfl (HV2.out.stored Val.null) ⟨rfl, below_val HBB.out (by omega) _ _ _ _⟩
end Go.Proofs.YtgmolmpfihkolaaGreat
namespace Go.Proofs.YtgmolmpfihkolaaGreat
open Go.RowKit Go.Proofs.YtgmolmpfihkolaaGreatW.PrintWords Go.Proofs.YtgmolmpfihkolaaGreat.Pj
set_option linter.unusedVariables false
set_option maxRecDepth 100000
instance : Inhabited Slc := ⟨⟨none, 0, 0, []⟩⟩
abbrev PV := S39
abbrev PE := S53
def vOf (x : PV) : Val := ⟨x.f0, x.f1, x.f2, x.f3⟩
def rOf (l : List PV) : List Val := l.map vOf
def rsOf (l : List (List PV)) : List (List Val) := l.map rOf
mutual
def tOf : PE → Tx
 | ⟨k, r, c, v, ks⟩ => .mk k r c (vOf v) (tsOf ks)
def tsOf : List PE → List Tx
 | [] => []
 | e :: es => tOf e :: tsOf es
end
theorem tsOf_map : ∀ l : List PE, tsOf l = l.map tOf
 | [] => rfl
 | e :: es => by rw [tsOf, tsOf_map es]; rfl
instance (v : Val) : Decidable v.wf := by unfold Val.wf; infer_instance
def wfV (x : PV) : Bool := decide (vOf x).wf
def wfR (l : List PV) : Bool := l.all wfV
def wfRs (l : List (List PV)) : Bool := l.all wfR
mutual
def wfE : PE → Bool
 | ⟨k, r, c, v, ks⟩ => (Lit.int .i64 k).wf && ((Lit.int .i64 r).wf && ((Lit.int .i64 c).wf && (wfV v && wfEs ks)))
def wfEs : List PE → Bool
 | [] => true
 | e :: es => wfE e && wfEs es
end
theorem wfEs_get : ∀ {l : List PE}, wfEs l = true → ∀ {i : Nat} {x : PE}, l[i]? = some x → wfE x = true
 | [], _, i, x, h => by simp at h
 | e :: es, h, 0, x, hx => by
  obtain rfl : e = x := by simpa using hx
  rw [wfEs, Bool.and_eq_true] at h; exact h.1
 | e :: es, h, i + 1, x, hx => by
  rw [wfEs, Bool.and_eq_true] at h
  exact wfEs_get h.2 (i := i) (by simpa using hx)
theorem plain_ad {W : World} {a : Addr} {v : Value} (h : W.cell? a = some v) : a = ⟨a.block, a.off, none⟩ ∧ a.block < W.heap.size := ⟨plain_addr h, World.block_lt_of_cell? W a h⟩
theorem row_of {w : World} {A : Option Addr} {n c : Nat} {xs : List PV} (h : Kd.C k39 w A n xs) (hc : n ≤ c) (hw : wfR xs = true) : RowV w A n c (rOf xs) := by
 obtain ⟨h1, h2, h3⟩ := h
 refine ⟨by rw [rOf, List.length_map, h1], hc, by unfold maxLen; omega, ?_, ?_⟩
 ·intro v hv
  obtain ⟨x, hx, rfl⟩ := List.mem_map.1 hv
  exact of_decide_eq_true (List.all_eq_true.1 hw x hx)
 ·by_cases h0 : n = 0
  ·exact .inl h0
  ·obtain ⟨ad, rfl, hcell⟩ := h3 (by omega)
   have hx0 : 0 < xs.length := by omega
   obtain ⟨cs, _, hK, hcs⟩ := hcell 0 _ (List.getElem?_eq_getElem hx0)
   obtain rfl := k39_open hK
   obtain ⟨e0, hlt⟩ := plain_ad (hcs 0 _ rfl)
   have hz : ad.add (0 * 4 + 0) = ad := by rw [Nat.zero_mul, Addr.add, if_pos rfl]
   have e0 : ad.add (0 * 4 + 0) = ⟨(ad.add (0 * 4 + 0)).block, (ad.add (0 * 4 + 0)).off, none⟩ := e0
   have hlt : (ad.add (0 * 4 + 0)).block < w.heap.size := hlt
   rw [hz] at e0 hlt
   refine .inr ⟨ad.block, ad.off, by rw [← e0], hlt, fun i v hi => ?_⟩
   rw [rOf, List.getElem?_map, Option.map_eq_some_iff] at hi
   obtain ⟨x, hx, rfl⟩ := hi
   obtain ⟨cs, _, hK, hcs⟩ := hcell i x hx
   obtain rfl := k39_open hK
   have at_ : ∀ j u, [Value.int .i64 x.f0, .int .i64 x.f1, .float .f64 x.f2, .string x.f3][j]? = some u → w.cell? ⟨ad.block, ad.off + i * 4 + j, none⟩ = some u := by
    intro j u hu
    have h : w.cell? (ad.add (i * 4 + j)) = some u := hcs j u hu
    rw [e0, addr_add] at h
    rw [Nat.add_assoc]; exact h
   exact ⟨at_ 0 _ rfl, at_ 1 _ rfl, at_ 2 _ rfl, at_ 3 _ rfl⟩
theorem rows_of {w : World} {A : Option Addr} {n c : Nat} {xs : List (List PV)} (h : Kd.C (Kd.slice 39 k39) w A n xs) (hc : n ≤ c) (hw : wfRs xs = true) : ∃ R : List Slc, RowsV w A n c R ∧ R.map (·.l) = rsOf xs := by
 obtain ⟨h1, h2, h3⟩ := h
 by_cases h0 : n = 0
 ·subst h0
  obtain rfl : xs = [] := by cases xs with
   | nil => rfl
   | cons x xs => simp at h1
  exact ⟨[], ⟨rfl, hc, by unfold maxLen; omega, .inl rfl⟩, rfl⟩
 ·obtain ⟨ad, rfl, hcell⟩ := h3 (by omega)
  have each : ∀ i, i < n → ∃ s : Slc, w.cell? (ad.add i) = some (.slice s.a s.len s.cap) ∧ RowV w s.a s.len s.cap s.l ∧ xs[i]?.map rOf = some s.l := by
   intro i hi
   have hx := List.getElem?_eq_getElem (l := xs) (i := i) (by omega)
   obtain ⟨cs, _, ⟨A', c', rfl, hl, hC⟩, hcs⟩ := hcell i _ hx
   have h : w.cell? (ad.add (i * 1 + 0)) = some (.slice A' xs[i].length c') := hcs 0 _ rfl
   rw [Nat.mul_one, Nat.add_zero] at h
   exact ⟨⟨A', xs[i].length, c', rOf xs[i]⟩, h, row_of hC hl (List.all_eq_true.1 hw _ (List.getElem_mem _)), by rw [hx]; rfl⟩
  obtain ⟨f, hf⟩ := Go.Deep.choose_lt each
  obtain ⟨e0, hlt⟩ := plain_ad (hf 0 (by omega)).1
  have hz : ad.add 0 = ad := by rw [Addr.add, if_pos rfl]
  rw [hz] at e0 hlt
  refine ⟨(List.range n).map f, ⟨by simp, hc, by unfold maxLen; omega, .inr ⟨ad.block, ad.off, by rw [← e0], hlt, fun i s hi => ?_⟩⟩, ?_⟩
  ·have hin : i < n := by
    have := (List.getElem?_eq_some_iff.1 hi).1
    simpa using this
   have hfs : f i = s := by
    rw [List.getElem?_map, List.getElem?_range hin] at hi
    simpa using hi
   obtain ⟨p, q, _⟩ := hf i hin
   rw [hfs] at p q
   rw [e0, addr_add] at p
   exact ⟨p, q⟩
  ·apply List.ext_getElem?
   intro i
   by_cases hin : i < n
   ·obtain ⟨_, _, q⟩ := hf i hin
    rw [rsOf, List.getElem?_map, List.getElem?_map, List.getElem?_map, List.getElem?_range hin, q]
    rfl
   ·rw [List.getElem?_eq_none (by simp; omega), List.getElem?_eq_none (by simp [rsOf]; omega)]
theorem up_ex {w : World} : ∀ (n : Nat) (x : PE) (cs : List Value), (Kd.upto F53 8 [53] n).K w x cs → wfE x = true → ExAt w n cs (tOf x)
 | 0, _, _, h, _ => h.elim
 | n + 1, ⟨k, r, c, v, ks⟩, cs, h, hw => by
  obtain ⟨_, _, rfl, rfl, ⟨_, _, rfl, rfl, ⟨_, _, rfl, rfl, ⟨_, _, rfl, s3, ⟨A7, c7, rfl, l7, g7⟩⟩⟩⟩⟩ := h
  obtain rfl := k39_open s3
  simp only [wfE, Bool.and_eq_true] at hw
  obtain ⟨w1, w2, w3, w4, w5⟩ := hw
  refine ⟨A7, ks.length, c7, rfl, ⟨w1, w2, w3, of_decide_eq_true w4⟩, ?_⟩
  obtain ⟨h1, h2, h3⟩ := g7
  refine ⟨by rw [tsOf_map, List.length_map], l7, by unfold maxLen; exact h2, ?_⟩
  by_cases h0 : ks.length = 0
  ·exact .inl h0
  ·obtain ⟨ad, rfl, hcell⟩ := h3 (by simp only; omega)
   have key : ∀ i t, ks[i]? = some t → ∃ cs, ExAt w n cs (tOf t) ∧ ∀ j u, cs[j]? = some u → w.cell? (ad.add (i * 8 + j)) = some u := by
    intro i t ht
    obtain ⟨cs, _, hK, hcs⟩ := hcell i t ht
    refine ⟨cs, up_ex n t cs hK (wfEs_get w5 ht), ?_⟩
    rw [sz53 n] at hcs
    exact hcs
   have hx0 := List.getElem?_eq_getElem (l := ks) (i := 0) (by omega)
   obtain ⟨cs0, hE0, hc0⟩ := key 0 _ hx0
   obtain ⟨k0, k1, k2, k3, k4, k5, k6, a, len, cap, rfl⟩ := hE0.cells
   obtain ⟨e0, hlt⟩ := plain_ad (hc0 0 _ rfl)
   have hz : ad.add (0 * 8 + 0) = ad := by rw [Nat.zero_mul, Addr.add, if_pos rfl]
   rw [hz] at e0 hlt
   refine .inr ⟨ad.block, ad.off, by rw [← e0], hlt, fun i t ht => ?_⟩
   rw [tsOf_map, List.getElem?_map, Option.map_eq_some_iff] at ht
   obtain ⟨x, hx, rfl⟩ := ht
   obtain ⟨cs, hE, hcs⟩ := key i x hx
   refine ⟨cs, hE, fun j u hu => ?_⟩
   have := hcs j u hu
   rw [e0, addr_add] at this
   rw [Nat.add_assoc]; exact this
theorem ex_of {w : World} {x : PE} {cs : List Value} (h : k53.K w x cs) (hw : wfE x = true) : ∃ D, ExAt w D cs (tOf x) := by
 obtain ⟨n, h⟩ := h
 exact ⟨n, up_ex n x cs h hw⟩
end Go.Proofs.YtgmolmpfihkolaaGreat
namespace Go.Proofs.YtgmolmpfihkolaaGreat
open Go.ChangeShapes Go.WideShapes Go.ChangeAt Go.RowKit Go.Proofs.YtgmolmpfihkolaaGreatW.PrintWords Go.Proofs.YtgmolmpfihkolaaGreat.Pj
set_option linter.unusedVariables false
set_option maxRecDepth 100000
theorem bulk_one {H : Type} (d : DataW H) : 1 ≤ Rows.uptoBulk d := by
 cases d with
 | lit l => cases l <;> simp [Rows.uptoBulk]
 | nil => simp [Rows.uptoBulk]
 | ptr d => simp [Rows.uptoBulk]
 | slice elems spare => simp [Rows.uptoBulk]
 | agg parts => simp [Rows.uptoBulk]
 | iface t d => simp [Rows.uptoBulk]
 | map entries => simp [Rows.uptoBulk]
 | held h => simp [Rows.uptoBulk]
theorem bulk_length {H : Type} (l : List (DataW H)) : l.length ≤ Rows.uptoBulkAll l := by
 induction l with
 | nil => simp [Rows.uptoBulkAll]
 | cons x r ih => have := bulk_one x; simp only [Rows.uptoBulkAll, List.length_cons]; omega
theorem cells_e53 : Tryz.prog.cellsOf 53 = 8 := by kernel_rfl
section
variable {H : Type} {enc : TypeId × Value → H} {W : World} {base : Nat} {spare : Nat → Bool} {held : Bool}
theorem open_sliceK {α : Type} [Inhabited α] (d : Kd α) (e t : TypeId) (Q : α → Prop) (ht : Tryz.prog.underlying t = some (.slice e)) (hsz : Tryz.prog.cellsOf e = d.sz) {fuel : Nat} {cs : List Value} {x : DataW H × List MemPlace} (h : DataW.trod enc Tryz.prog W base spare held fuel t cs = some x)
 (hel : ∀ n, n < fuel → ∀ cs x, DataW.trod enc Tryz.prog W base spare held n e cs = some x → ∃ p, d.K W p cs ∧ Q p) :
 ∃ l, (Kd.slice e d).K W l cs ∧ (∀ p ∈ l, Q p) ∧ l.length ≤ Rows.uptoBulk x.1 := by
 rcases DataW.trod_slice ht h with ⟨rfl, _⟩ | ⟨a, len, cap, elems, rest, n, hn, rfl, hx, hb, hl, hm, hlen, hev, _, _⟩
 ·exact ⟨[], ⟨none, 0, rfl, Nat.le_refl _, Kd.C_nil _ _⟩, fun p hp => (by cases hp), Nat.zero_le _⟩
 ·have each : ∀ i, i < len → ∃ p : α, ∃ cs', W.cells? base (a.add (i * d.sz)) d.sz = some cs' ∧ d.K W p cs' ∧ Q p := by
   intro i hi
   have := hev i hi
   rw [hsz] at this
   have hi' : i < elems.length := by omega
   rw [List.getElem?_eq_getElem hi', Option.bind_eq_some_iff] at this
   obtain ⟨cs', h1, h2⟩ := this
   obtain ⟨p, hp, hq⟩ := hel n (by omega) _ _ h2
   exact ⟨p, cs', h1, hp, hq⟩
  obtain ⟨f, hf⟩ := Go.Deep.choose_lt each
  obtain ⟨l, hld⟩ : ∃ l, l = (List.range len).map f := ⟨_, rfl⟩
  have hll : l.length = len := by rw [hld]; simp
  refine ⟨l, ⟨some a, cap, by rw [hll], by omega, rfl, by unfold maxLen at hm; omega, fun _ => ⟨a, rfl, fun j p hj => ?_⟩⟩, ?_, ?_⟩
  ·have hi : j < len := by rw [← hll]; exact (List.getElem?_eq_some_iff.1 hj).1
   have hft : f j = p := by
    rw [hld, List.getElem?_map, List.getElem?_range hi] at hj
    simpa using hj
   obtain ⟨cs', h1, h2, _⟩ := hf j hi
   rw [hft] at h2
   obtain ⟨_, hl1, he1⟩ := World.cells?_some h1
   refine ⟨cs', hl1, h2, fun i u hu => ?_⟩
   have hi8 := (List.getElem?_eq_some_iff.1 hu).1
   have := he1 i (by omega)
   rw [hu, Go.Deep.add_add] at this
   exact this
  ·intro p hp
   rw [hld] at hp
   obtain ⟨i, hi, rfl⟩ := List.mem_map.1 hp
   obtain ⟨_, _, _, hq⟩ := hf i (List.mem_range.1 hi)
   exact hq
  ·rw [hll, hx]
   have := bulk_length (elems.map (·.1))
   rw [List.length_map] at this
   simp only [Rows.uptoBulk]
   omega
instance : Inhabited PV := ⟨⟨0, 0, 0, ⟨#[]⟩⟩⟩
instance : Inhabited PE := ⟨⟨0, 0, 0, ⟨0, 0, 0, ⟨#[]⟩⟩, []⟩⟩
theorem open_v39 {fuel : Nat} {cs : List Value} {x : DataW H × List MemPlace} (h : DataW.trod enc Tryz.prog W base spare held fuel 39 cs = some x) : ∃ p : PV, k39.K W p cs ∧ wfV p = true := by
 obtain ⟨v, rfl, hw⟩ := open_val h
 exact ⟨⟨v.kind, v.int, v.flt, v.text⟩, k39_mk W (⟨v.kind, v.int, v.flt, v.text⟩ : PV), decide_eq_true hw⟩
theorem open_row29 {fuel : Nat} {cs : List Value} {x : DataW H × List MemPlace} (h : DataW.trod enc Tryz.prog W base spare held fuel 29 cs = some x) : ∃ l, (Kd.slice 39 k39).K W l cs ∧ wfR l = true := by
 obtain ⟨l, h1, h2, _⟩ := open_sliceK k39 39 _ (fun p => wfV p = true) Tryz.underlying29 cells_val h (fun n _ cs x h => open_v39 h)
 exact ⟨l, h1, List.all_eq_true.2 h2⟩
theorem open_tuple {fuel : Nat} {cs : List Value} {x : DataW H × List MemPlace} (h : DataW.trod enc Tryz.prog W base spare held fuel 22 cs = some x) : ∃ l, (Kd.slice 29 (Kd.slice 39 k39)).K W l cs ∧ wfRs l = true := by
 obtain ⟨l, h1, h2, _⟩ := open_sliceK (Kd.slice 39 k39) 29 _ (fun p => wfR p = true) Tryz.underlying22 (by kernel_rfl) h (fun n _ cs x h => open_row29 h)
 exact ⟨l, h1, List.all_eq_true.2 h2⟩
theorem open_tuples {fuel : Nat} {cs : List Value} {x : DataW H × List MemPlace} (h : DataW.trod enc Tryz.prog W base spare held fuel 25 cs = some x) : ∃ l, (Kd.slice 22 (Kd.slice 29 (Kd.slice 39 k39))).K W l cs ∧ (∀ t ∈ l, wfRs t = true) ∧ l.length ≤ Rows.uptoBulk x.1 :=
 open_sliceK (Kd.slice 29 (Kd.slice 39 k39)) 22 _ (fun p => wfRs p = true) Tryz.underlying25 (by kernel_rfl) h (fun n _ cs x h => open_tuple h)
theorem wfEs_all : ∀ {l : List PE}, (∀ e ∈ l, wfE e = true) → wfEs l = true
 | [], _ => rfl
 | e :: l, h => by
  simp only [wfEs, Bool.and_eq_true]
  exact ⟨h e List.mem_cons_self, wfEs_all (fun x hx => h x (List.mem_cons_of_mem _ hx))⟩
theorem open_expr : ∀ (fuel : Nat) {cs : List Value} {x : DataW H × List MemPlace}, DataW.trod enc Tryz.prog W base spare held fuel 53 cs = some x → ∃ p : PE, k53.K W p cs ∧ wfE p = true := by
 intro fuel
 induction fuel using Nat.strongRecOn with
 | ind fuel ih =>
  intro cs x h
  obtain ⟨xs, n, hn, _, hl, hlen, hf⟩ := DataW.trod_struct Tryz.underlying53 h
  rw [cells_e53] at hl
  obtain ⟨c0, c1, c2, c3, c4, c5, c6, c7, rfl⟩ : ∃ c0 c1 c2 c3 c4 c5 c6 c7, cs = [c0, c1, c2, c3, c4, c5, c6, c7] := by
   match cs, hl with
   | [c0, c1, c2, c3, c4, c5, c6, c7], _ => exact ⟨c0, c1, c2, c3, c4, c5, c6, c7, rfl⟩
  have f0 := hf 0 _ rfl
  have f1 := hf 1 _ rfl
  have f2 := hf 2 _ rfl
  have f3 := hf 3 _ rfl
  have f4 := hf 4 _ rfl
  have hxl : xs.length = 5 := hlen
  obtain ⟨x0, x1, x2, x3, x4, rfl⟩ : ∃ x0 x1 x2 x3 x4, xs = [x0, x1, x2, x3, x4] := by
   match xs, hxl with
   | [x0, x1, x2, x3, x4], _ => exact ⟨x0, x1, x2, x3, x4, rfl⟩
  simp only [List.getElem?_cons_zero, List.getElem?_cons_succ] at f0 f1 f2 f3 f4
  obtain ⟨k0, rfl, w0⟩ := open_i64 Tryz.underlying3 f0
  obtain ⟨k1, rfl, w1⟩ := open_i64 Tryz.underlying3 f1
  obtain ⟨k2, rfl, w2⟩ := open_i64 Tryz.underlying3 f2
  have f3' : DataW.trod enc Tryz.prog W base spare held n 39 [c3, c4, c5, c6] = some x3 := f3
  obtain ⟨v, ev, w3⟩ := open_val f3'
  injection ev with e3 ev
  injection ev with e4 ev
  injection ev with e5 ev
  injection ev with e6 ev
  subst e3 e4 e5 e6
  have f4' : DataW.trod enc Tryz.prog W base spare held n 23 [c7] = some x4 := f4
  obtain ⟨l, ⟨A, c, e7, hlc, hC⟩, hq, _⟩ := open_sliceK k53 53 _ (fun p => wfE p = true) Tryz.underlying23 cells_e53 f4' (fun m hm cs x h => ih m (by omega) h)
  injection e7 with e7
  subst e7
  refine ⟨⟨k0, k1, k2, ⟨v.kind, v.int, v.flt, v.text⟩, l⟩, k53_mk W (⟨k0, k1, k2, ⟨v.kind, v.int, v.flt, v.text⟩, l⟩ : PE) hlc hC, ?_⟩
  simp only [wfE, Bool.and_eq_true]
  exact ⟨w0, w1, w2, decide_eq_true w3, wfEs_all hq⟩
theorem open_exprs {fuel : Nat} {cs : List Value} {x : DataW H × List MemPlace} (h : DataW.trod enc Tryz.prog W base spare held fuel 23 cs = some x) : ∃ l, (Kd.slice 53 k53).K W l cs ∧ wfEs l = true ∧ l.length ≤ Rows.uptoBulk x.1 := by
 obtain ⟨l, h1, h2, h3⟩ := open_sliceK k53 53 _ (fun p => wfE p = true) Tryz.underlying23 cells_e53 h (fun n _ cs x h => open_expr n h)
 exact ⟨l, h1, wfEs_all h2, h3⟩
end
end Go.Proofs.YtgmolmpfihkolaaGreat
namespace Go.Proofs.YtgmolmpfihkolaaGreat
open Go.RowKit
set_option linter.unusedVariables false
set_option maxRecDepth 100000
attribute [local go_sem] run_store_float
def cmpRow : List Val → List Val → Int
 | [], [] => 0
 | [], _ :: _ => -1
 | _ :: _, [] => 1
 | a :: s, b :: t => if cmpV a b ≠ 0 then cmpV a b else cmpRow s t
def EightS (b1 o1 : Nat) (v1 : Val) (b2 o2 : Nat) (v2 : Val) (w W : World) : Prop := HasV W b1 o1 v1 ∧ HasV W b2 o2 v2 ∧ Below w.heap.size w W
theorem eight_next {b1 o1 b2 o2 : Nat} {v1 v2 : Val} {w W W' : World} (h1 : b1 < w.heap.size) (h2 : b2 < w.heap.size) (h : EightS b1 o1 v1 b2 o2 v2 w W) (hb : Below W.heap.size W W') : EightS b1 o1 v1 b2 o2 v2 w W' := by
 have := h.2.2.size
 exact ⟨h.1.below hb (by omega), h.2.1.below hb (by omega), h.2.2.trans (hb.mono this)⟩
set_option maxHeartbeats 4000000 in
theorem lists_any (a1 : Option Addr) (l1 c1 : Nat) (x : List Val) (a2 : Option Addr) (l2 c2 : Nat) (y : List Val) (w : World) (hx : RowV w a1 l1 c1 x) (hy : RowV w a2 l2 c2 y) :
 Calls Tryz.prog 72 #[.slice a1 l1 c1, .slice a2 l2 c2, .func (.func 55) #[] #[]] w fun e w' => e = .returned (.int .i64 (cmpRow x y)) ∧ Below w.heap.size w w' := by
 have h63 : l1 < 2 ^ 63 := by have := hx.2.1; have := hx.2.2.1; unfold maxLen at this; omega
 have h64 : l2 < 2 ^ 63 := by have := hy.2.1; have := hy.2.2.1; unfold maxLen at this; omega
 have HLX := hdq hx.1
 have HLY := hdq hy.1
 have HX := hdq hx
 have HY := hdq hy
 obtain ⟨r, hr⟩ : ∃ r, r = cmpRow x y := ⟨_, rfl⟩
 have HRES := hdq hr
 rw [← hr]
 clear hx hy hr
 go_enter Tryz.func72, Tryz.ntmps72
 go_wp2
 go_loopw [7] (fun i wr => ∃ k : Nat, i = .int .i64 k ∧ k ≤ l1 ∧ k ≤ l2 ∧ Hid (r = cmpRow (x.drop k) (y.drop k)) ∧ Hid (Below w.heap.size w wr)) (fun i _ => l1 - (intOf i).toNat)
 case atStart => exact ⟨0, rfl, Nat.zero_le _, Nat.zero_le _, HRES, hdq (Below.refl _ _)⟩
 case round =>
  obtain ⟨k, rfl, hk1, hk2, HK, HB⟩ := hrel
  by_cases hlt1 : k < l1
  ·by_cases hlt2 : k < l2
   ·obtain ⟨b1, o1, rfl, v1, hv1, hw1, hc1, hd1⟩ := fold_row HX.out HB.out hlt1
    obtain ⟨b2, o2, rfl, v2, hv2, hw2, hc2, hd2⟩ := fold_row HY.out HB.out hlt2
    obtain ⟨_, _, e1, hb1, _⟩ := HX.out.get hlt1
    cases e1
    obtain ⟨_, _, e2, hb2, _⟩ := HY.out.get hlt2
    cases e2
    obtain ⟨ks, ns, fs, ss⟩ := v1
    obtain ⟨kt, nt, ft, st⟩ := v2
    have hK := HK.out
    rw [hd1, hd2] at hK
    simp only [cmpRow] at hK
    have HE := hdq (show EightS b1 (o1 + k * 4) ⟨ks, ns, fs, ss⟩ b2 (o2 + k * 4) ⟨kt, nt, ft, st⟩ w wr from ⟨hc1, hc2, HB.out⟩)
    obtain ⟨p, hp⟩ : ∃ p, p = cmpV ⟨ks, ns, fs, ss⟩ ⟨kt, nt, ft, st⟩ := ⟨_, rfl⟩
    have HC := hdq (fun (W : World) (hS : W.cell? ⟨b1, o1 + k * 4, none⟩ = some (.int .i64 ks) ∧ W.cell? ⟨b1, o1 + k * 4 + 1, none⟩ = some (.int .i64 ns) ∧ W.cell? ⟨b1, o1 + k * 4 + 2, none⟩ = some (.float .f64 fs) ∧ W.cell? ⟨b1, o1 + k * 4 + 3, none⟩ = some (.string ss) ∧ W.cell? ⟨b2, o2 + k * 4, none⟩ = some (.int .i64 kt) ∧ W.cell? ⟨b2, o2 + k * 4 + 1, none⟩ = some (.int .i64 nt) ∧ W.cell? ⟨b2, o2 + k * 4 + 2, none⟩ = some (.float .f64 ft) ∧ W.cell? ⟨b2, o2 + k * 4 + 3, none⟩ = some (.string st) ∧ Hid (EightS b1 (o1 + k * 4) ⟨ks, ns, fs, ss⟩ b2 (o2 + k * 4) ⟨kt, nt, ft, st⟩ w W)) =>
     (Cmp_exp ks ns fs ss kt nt ft st hw1 hw2 W).mono (R' := fun e w' => e = .returned (.int .i64 p) ∧ (w'.cell? ⟨b1, o1 + k * 4, none⟩ = some (.int .i64 ks) ∧ w'.cell? ⟨b1, o1 + k * 4 + 1, none⟩ = some (.int .i64 ns) ∧ w'.cell? ⟨b1, o1 + k * 4 + 2, none⟩ = some (.float .f64 fs) ∧ w'.cell? ⟨b1, o1 + k * 4 + 3, none⟩ = some (.string ss) ∧ w'.cell? ⟨b2, o2 + k * 4, none⟩ = some (.int .i64 kt) ∧ w'.cell? ⟨b2, o2 + k * 4 + 1, none⟩ = some (.int .i64 nt) ∧ w'.cell? ⟨b2, o2 + k * 4 + 2, none⟩ = some (.float .f64 ft) ∧ w'.cell? ⟨b2, o2 + k * 4 + 3, none⟩ = some (.string st) ∧ Hid (EightS b1 (o1 + k * 4) ⟨ks, ns, fs, ss⟩ b2 (o2 + k * 4) ⟨kt, nt, ft, st⟩ w w')))
     (fun e w' h => by
      have hn := eight_next hb1 hb2 hS.2.2.2.2.2.2.2.2.out h.2
      have hn2 := hdq hn
      obtain ⟨⟨n1, n2, n3, n4⟩, ⟨m1, m2, m3, m4⟩, _⟩ := hn
      exact ⟨by rw [h.1, hp], n1, n2, n3, n4, m1, m2, m3, m4, hn2⟩))
    rw [← hp] at hK
    obtain ⟨n1, n2, n3, n4⟩ := hc1
    obtain ⟨m1, m2, m3, m4⟩ := hc2
    simp only at n1 n2 n3 n4 m1 m2 m3 m4
    clear hp hw1 hw2 hd1 hd2 hv1 hv2
    by_cases hp0 : p = 0
    ·subst hp0
     rw [if_neg (by simp)] at hK
     have HK2 := hdq hK
     clear hK
     go_wp2
     go_region_held3 (fun W : World => W.cell? ⟨b1, o1 + k * 4, none⟩ = some (.int .i64 ks) ∧ W.cell? ⟨b1, o1 + k * 4 + 1, none⟩ = some (.int .i64 ns) ∧ W.cell? ⟨b1, o1 + k * 4 + 2, none⟩ = some (.float .f64 fs) ∧ W.cell? ⟨b1, o1 + k * 4 + 3, none⟩ = some (.string ss) ∧ W.cell? ⟨b2, o2 + k * 4, none⟩ = some (.int .i64 kt) ∧ W.cell? ⟨b2, o2 + k * 4 + 1, none⟩ = some (.int .i64 nt) ∧ W.cell? ⟨b2, o2 + k * 4 + 2, none⟩ = some (.float .f64 ft) ∧ W.cell? ⟨b2, o2 + k * 4 + 3, none⟩ = some (.string st) ∧ Hid (EightS b1 (o1 + k * 4) ⟨ks, ns, fs, ss⟩ b2 (o2 + k * 4) ⟨kt, nt, ft, st⟩ w W)) (first | (exact ⟨by simpa using n1, by simpa using n2, by simpa using n3, by simpa using n4, by simpa using m1, by simpa using m2, by simpa using m3, by simpa using m4, hdq (eight_next hb1 hb2 HE.out (Below.refl _ _).drew)⟩) | assumption) (first | (go_at_call 55; refine (HC.out _ (by assumption)).mono ?_; rintro e wx ⟨rfl, hSx⟩))
     have HN := hdq hSx.2.2.2.2.2.2.2.2.out.2.2
     clear hSx HE HC n1 n2 n3 n4 m1 m2 m3 m4
     go_wp2
     go_roundw
     case rel => exact ⟨k + 1, by go_num, by omega, by omega, HK2, HN⟩
     case measure => simp [intOf]; omega
    ·rw [if_pos hp0] at hK
     subst hK
     have hp1 : ((r : Int) != 0) = true := by simp; exact hp0
     clear hp0
     go_wp2
     go_region_held3 (fun W : World => W.cell? ⟨b1, o1 + k * 4, none⟩ = some (.int .i64 ks) ∧ W.cell? ⟨b1, o1 + k * 4 + 1, none⟩ = some (.int .i64 ns) ∧ W.cell? ⟨b1, o1 + k * 4 + 2, none⟩ = some (.float .f64 fs) ∧ W.cell? ⟨b1, o1 + k * 4 + 3, none⟩ = some (.string ss) ∧ W.cell? ⟨b2, o2 + k * 4, none⟩ = some (.int .i64 kt) ∧ W.cell? ⟨b2, o2 + k * 4 + 1, none⟩ = some (.int .i64 nt) ∧ W.cell? ⟨b2, o2 + k * 4 + 2, none⟩ = some (.float .f64 ft) ∧ W.cell? ⟨b2, o2 + k * 4 + 3, none⟩ = some (.string st) ∧ Hid (EightS b1 (o1 + k * 4) ⟨ks, ns, fs, ss⟩ b2 (o2 + k * 4) ⟨kt, nt, ft, st⟩ w W)) (first | (exact ⟨by simpa using n1, by simpa using n2, by simpa using n3, by simpa using n4, by simpa using m1, by simpa using m2, by simpa using m3, by simpa using m4, hdq (eight_next hb1 hb2 HE.out (Below.refl _ _).drew)⟩) | assumption) (first | (go_at_call 55; refine (HC.out _ (by assumption)).mono ?_; rintro e wx ⟨rfl, hSx⟩))
     have HN := hdq hSx.2.2.2.2.2.2.2.2.out.2.2
     clear hSx HE HC n1 n2 n3 n4 m1 m2 m3 m4
     go_wp2
     go_ret
     exact ⟨rfl, HN.out⟩
   ·obtain rfl : k = l2 := by omega
    have hK := HK.out
    rw [List.drop_of_length_le (l := y) (by rw [HLY.out]; exact Nat.le_refl _)] at hK
    obtain ⟨v, hv⟩ : ∃ v, x.drop k = v :: x.drop (k + 1) := ⟨_, List.drop_eq_getElem_cons (by rw [HLX.out]; exact hlt1)⟩
    rw [hv] at hK
    simp only [cmpRow] at hK
    subst hK
    clear hv
    go_wp2_with (go_at_call 50; refine (cmpInt_any _ _ _).mono ?_; rw [show cmpI (l1 : Int) (k : Int) = 1 by unfold cmpI; rw [if_neg (by omega), if_pos (by omega)]]; rintro e w2 ⟨rfl, rfl⟩)
    go_ret
    exact ⟨rfl, HB.out⟩
  ·obtain rfl : k = l1 := by omega
   have hK := HK.out
   rw [List.drop_of_length_le (l := x) (by rw [HLX.out]; exact Nat.le_refl _)] at hK
   by_cases hlt2 : k < l2
   ·obtain ⟨v, hv⟩ : ∃ v, y.drop k = v :: y.drop (k + 1) := ⟨_, List.drop_eq_getElem_cons (by rw [HLY.out]; exact hlt2)⟩
    rw [hv] at hK
    simp only [cmpRow] at hK
    subst hK
    clear hv
    go_wp2_with (go_at_call 50; refine (cmpInt_any _ _ _).mono ?_; rw [show cmpI (k : Int) (l2 : Int) = -1 by unfold cmpI; rw [if_pos (by omega)]]; rintro e w2 ⟨rfl, rfl⟩)
    go_ret
    exact ⟨rfl, HB.out⟩
   ·obtain rfl : l2 = k := by omega
    rw [List.drop_of_length_le (l := y) (by rw [HLY.out]; exact Nat.le_refl _)] at hK
    simp only [cmpRow] at hK
    subst hK
    go_wp2_with (go_at_call 50; refine (cmpInt_any _ _ _).mono ?_; rw [show cmpI (l2 : Int) (l2 : Int) = 0 by unfold cmpI; rw [if_neg (by omega), if_neg (by omega)]]; rintro e w2 ⟨rfl, rfl⟩)
    go_ret
    exact ⟨rfl, HB.out⟩
theorem rowCmp_any (a1 : Option Addr) (l1 c1 : Nat) (x : List Val) (a2 : Option Addr) (l2 c2 : Nat) (y : List Val) (w : World) (hx : RowV w a1 l1 c1 x) (hy : RowV w a2 l2 c2 y) :
 Calls Tryz.prog 45 #[.slice a1 l1 c1, .slice a2 l2 c2] w fun e w' => e = .returned (.int .i64 (cmpRow x y)) ∧ Below w.heap.size w w' := by
 have HL := hdq (lists_any a1 l1 c1 x a2 l2 c2 y w hx hy)
 clear hx hy
 go_enter Tryz.func45, Tryz.ntmps45
 go_wp2_with (go_at_call 72; refine HL.out.mono ?_; rintro e w2 ⟨rfl, hb⟩)
 go_ret
 exact ⟨rfl, hb⟩
end Go.Proofs.YtgmolmpfihkolaaGreat
namespace Go.Proofs.YtgmolmpfihkolaaGreat
open Go.RowKit
set_option linter.unusedVariables false
set_option exponentiation.threshold 4000
theorem bl_trans : ∀ (x y z : List UInt8), Op.bytesLess x y = true → Op.bytesLess y z = true → Op.bytesLess x z = true
 | _, [], _, h, _ => by cases ‹List UInt8› <;> simp [Op.bytesLess] at h
 | _, _ :: _, [], _, h => by simp [Op.bytesLess] at h
 | [], _ :: _, _ :: _, _, _ => by simp [Op.bytesLess]
 | a :: x, b :: y, c :: z, h1, h2 => by
  simp only [Op.bytesLess, Bool.or_eq_true, Bool.and_eq_true, decide_eq_true_eq, beq_iff_eq] at h1 h2 ⊢
  rcases h1 with h1 | ⟨rfl, h1⟩
  ·rcases h2 with h2 | ⟨rfl, h2⟩
   ·exact .inl (UInt8.lt_trans h1 h2)
   ·exact .inl h1
  ·rcases h2 with h2 | ⟨rfl, h2⟩
   ·exact .inl h2
   ·exact .inr ⟨rfl, bl_trans x y z h1 h2⟩
theorem bl_irr : ∀ (x : List UInt8), Op.bytesLess x x = false
 | [] => rfl
 | a :: x => by
  simp only [Op.bytesLess, bl_irr x, Bool.and_false, Bool.or_false, decide_eq_false_iff_not]
  exact UInt8.lt_irrefl a
theorem bl_tri : ∀ (x y : List UInt8), Op.bytesLess x y = true ∨ x = y ∨ Op.bytesLess y x = true
 | [], [] => .inr (.inl rfl)
 | [], _ :: _ => .inl (by simp [Op.bytesLess])
 | _ :: _, [] => .inr (.inr (by simp [Op.bytesLess]))
 | a :: x, b :: y => by
  simp only [Op.bytesLess, Bool.or_eq_true, Bool.and_eq_true, decide_eq_true_eq, beq_iff_eq]
  rcases Nat.lt_trichotomy a.toNat b.toNat with h | h | h
  ·exact .inl (.inl (UInt8.lt_iff_toNat_lt.2 h))
  ·obtain rfl : a = b := UInt8.toNat_inj.1 h
   rcases bl_tri x y with h | h | h
   ·exact .inl (.inr ⟨rfl, h⟩)
   ·exact .inr (.inl (by rw [h]))
   ·exact .inr (.inr (.inr ⟨rfl, h⟩))
  ·exact .inr (.inr (.inl (UInt8.lt_iff_toNat_lt.2 h)))
theorem cmpS_vals (a b : ByteArray) : (cmpS a b = -1 ↔ Op.bytesLess a.toList b.toList = true) ∧ (cmpS a b = 1 ↔ Op.bytesLess b.toList a.toList = true) ∧ (cmpS a b = 0 ↔ a.toList = b.toList) := by
 unfold cmpS
 rcases bl_tri a.toList b.toList with h | h | h
 ·have h2 : Op.bytesLess b.toList a.toList = false := by
   cases e : Op.bytesLess b.toList a.toList with
   | false => rfl
   | true => have := bl_trans _ _ _ h e; rw [bl_irr] at this; cases this
  have h3 : a.toList ≠ b.toList := fun e => by rw [e, bl_irr] at h; cases h
  rw [h, h2]; simp [h3]
 ·rw [h, bl_irr]; simp
 ·have h2 : Op.bytesLess a.toList b.toList = false := by
   cases e : Op.bytesLess a.toList b.toList with
   | false => rfl
   | true => have := bl_trans _ _ _ h e; rw [bl_irr] at this; cases this
  have h3 : a.toList ≠ b.toList := fun e => by rw [e, bl_irr] at h; cases h
  rw [h, h2]; simp [h3]
def magF (M : Nat) : Nat := if M < 4503599627370496 then M else if M < 9218868437227405312 then (4503599627370496 + M % 4503599627370496) * 2 ^ (M / 4503599627370496 - 1) else 2 ^ 2099
def valF (f : Nat) : Int := if nanB f then 2 ^ 2100 else if (f / 9223372036854775808 % 2 == 1) then -(magF (f % 9223372036854775808) : Int) else (magF (f % 9223372036854775808) : Int)
theorem cmp_scale (a b : Int) (k : Nat) (hk : 0 < k) : compare (a * k) (b * k) = compare a b := by
 have hk' : (0 : Int) < k := by omega
 rcases Int.lt_trichotomy a b with h | h | h
 ·rw [Int.compare_eq_lt.2 h, Int.compare_eq_lt]
  exact Int.mul_lt_mul_of_pos_right h hk'
 ·subst h; rw [cmp_self, cmp_self]
 ·rw [Int.compare_eq_gt.2 h, Int.compare_eq_gt]
  exact Int.mul_lt_mul_of_pos_right h hk'
theorem signed_eq (s : Bool) (m k : Nat) : Ieee.signed s m k = if s then -((m * 2 ^ k : Nat) : Int) else ((m * 2 ^ k : Nat) : Int) := by
 unfold Ieee.signed
 rw [Nat.shiftLeft_eq]
theorem signed_scale (s : Bool) (m k j : Nat) : Ieee.signed s m (k + j) = Ieee.signed s m k * ((2 ^ j : Nat) : Int) := by
 rw [signed_eq, signed_eq, Nat.pow_add, ← Nat.mul_assoc]
 cases s
 ·simp only [Bool.false_eq_true, if_false]; rw [Int.natCast_mul (m * 2 ^ k)]
 ·simp only [if_true]; rw [Int.natCast_mul (m * 2 ^ k), Int.neg_mul]
theorem order_num (s t : Bool) (m n : Nat) (i j : Nat) : Ieee.Datum.order (.number s m (-1074 + (i : Int))) (.number t n (-1074 + (j : Int))) = some (compare (Ieee.signed s m i) (Ieee.signed t n j)) := by
 simp only [Ieee.Datum.order]
 congr 1
 obtain ⟨b, hb⟩ : ∃ b : Nat, min (-1074 + (i : Int)) (-1074 + (j : Int)) = -1074 + (b : Int) ∧ b ≤ i ∧ b ≤ j := by
  by_cases h : i ≤ j
  ·exact ⟨i, by omega, by omega, h⟩
  ·exact ⟨j, by omega, by omega, by omega⟩
 rw [hb.1]
 have e1 : (-1074 + (i : Int) - (-1074 + (b : Int))).toNat = i - b := by omega
 have e2 : (-1074 + (j : Int) - (-1074 + (b : Int))).toNat = j - b := by omega
 rw [e1, e2]
 have f1 := signed_scale s m (i - b) b
 have f2 := signed_scale t n (j - b) b
 rw [Nat.sub_add_cancel hb.2.1] at f1
 rw [Nat.sub_add_cancel hb.2.2] at f2
 rw [f1, f2, cmp_scale _ _ _ (Nat.pow_pos (by omega))]
theorem read_form (f : Nat) (h : nanB f = false) : (∃ (s : Bool) (m i : Nat), FloatKind.f64.format.read f = .number s m (-1074 + (i : Int)) ∧ Ieee.signed s m i = valF f ∧ m * 2 ^ i < 2 ^ 2099) ∨
 (∃ s : Bool, FloatKind.f64.format.read f = .infinity s ∧ valF f = if s then -(2 ^ 2099 : Int) else 2 ^ 2099) := by
 unfold nanB at h
 have hM : f % 9223372036854775808 ≤ 9218868437227405312 := by simpa using h
 have hn : nanB f = false := h
 unfold valF
 rw [hn, if_neg (by simp), read_cases]
 generalize (f / 9223372036854775808 % 2 == 1) = s
 generalize f % 9223372036854775808 = M at hM
 unfold magF
 by_cases h1 : M < 4503599627370496
 ·refine .inl ⟨s, M, 0, ?_, ?_, ?_⟩
  ·rw [if_pos h1]; rfl
  ·rw [signed_eq, if_pos h1, Nat.pow_zero, Nat.mul_one]
  ·rw [Nat.pow_zero, Nat.mul_one]
   exact Nat.lt_trans h1 (Nat.lt_of_lt_of_le (show 4503599627370496 < 2 ^ 53 by decide) (Nat.pow_le_pow_right (by omega) (by omega)))
 ·by_cases h2 : M < 9218868437227405312
  ·refine .inl ⟨s, 4503599627370496 + M % 4503599627370496, M / 4503599627370496 - 1, ?_, ?_, ?_⟩
   ·rw [if_neg h1, if_pos h2]
   ·rw [signed_eq, if_neg h1, if_pos h2]
   ·have hm : 4503599627370496 + M % 4503599627370496 < 2 ^ 53 := by
     have := Nat.mod_lt M (show 0 < 4503599627370496 by omega)
     have e : (2 : Nat) ^ 53 = 9007199254740992 := by decide
     omega
    have hi : M / 4503599627370496 - 1 ≤ 2045 := by omega
    calc (4503599627370496 + M % 4503599627370496) * 2 ^ (M / 4503599627370496 - 1)
     < 2 ^ 53 * 2 ^ (M / 4503599627370496 - 1) := Nat.mul_lt_mul_of_pos_right hm (Nat.pow_pos (by omega))
     _ ≤ 2 ^ 53 * 2 ^ 2045 := Nat.mul_le_mul_left _ (Nat.pow_le_pow_right (by omega) hi)
     _ = 2 ^ 2098 := by rw [← Nat.pow_add]
     _ ≤ 2 ^ 2099 := Nat.pow_le_pow_right (by omega) (by omega)
  ·refine .inr ⟨s, ?_, ?_⟩
   ·rw [if_neg h1, if_neg h2, if_pos (by omega)]
   ·rw [if_neg h1, if_neg h2]
    cases s <;> simp
theorem order_val (f g : Nat) (hf : nanB f = false) (hg : nanB g = false) : FloatKind.f64.format.order f g = some (compare (valF f) (valF g)) := by
 unfold Ieee.Format.order
 have lo : ∀ (s : Bool) (m i : Nat), m * 2 ^ i < 2 ^ 2099 → -(2 ^ 2099 : Int) < Ieee.signed s m i ∧ Ieee.signed s m i < 2 ^ 2099 := by
  intro s m i h
  have h' : ((m * 2 ^ i : Nat) : Int) < 2 ^ 2099 := by
   have e : ((2 ^ 2099 : Nat) : Int) = 2 ^ 2099 := by rw [Int.natCast_pow]; rfl
   rw [← e]; exact Int.ofNat_lt.2 h
  rw [signed_eq]
  generalize (2 : Int) ^ 2099 = B at *
  generalize m * 2 ^ i = z at *
  cases s
  ·simp only [Bool.false_eq_true, if_false]; omega
  ·simp only [if_true]; omega
 have hB : (0 : Int) < 2 ^ 2099 := Int.pow_pos (by omega)
 rcases read_form f hf with ⟨s, m, i, e, v, b⟩ | ⟨s, e, v⟩ <;> rcases read_form g hg with ⟨t, n, j, e', v', b'⟩ | ⟨t, e', v'⟩
 ·rw [e, e', order_num, v, v']
 ·rw [e, e', v']
  obtain ⟨l1, l2⟩ := lo s m i b
  rw [v] at l1 l2
  simp only [Ieee.Datum.order]
  generalize (2 : Int) ^ 2099 = B at *
  cases t
  ·simp only [Bool.false_eq_true, if_false]; rw [Int.compare_eq_lt.2 l2]
  ·simp only [if_true]; rw [Int.compare_eq_gt.2 l1]
 ·rw [e, e', v]
  obtain ⟨l1, l2⟩ := lo t n j b'
  rw [v'] at l1 l2
  simp only [Ieee.Datum.order]
  generalize (2 : Int) ^ 2099 = B at *
  cases s
  ·simp only [Bool.false_eq_true, if_false]; rw [Int.compare_eq_gt.2 l2]
  ·simp only [if_true]; rw [Int.compare_eq_lt.2 l1]
 ·rw [e, e', v, v']
  simp only [Ieee.Datum.order]
  generalize (2 : Int) ^ 2099 = B at *
  cases s <;> cases t
  ·simp
  ·simp only [Bool.false_eq_true, if_false, if_true]; rw [Int.compare_eq_gt.2 (by omega)]; rfl
  ·simp only [Bool.false_eq_true, if_false, if_true]; rw [Int.compare_eq_lt.2 (by omega)]; rfl
  ·simp
theorem valF_lt (f : Nat) (h : nanB f = false) : valF f < 2 ^ 2100 := by
 have hB : (0 : Int) < 2 ^ 2099 := Int.pow_pos (by omega)
 have e : (2 : Int) ^ 2100 = 2 * 2 ^ 2099 := by rw [Int.pow_succ]; omega
 rw [e]
 rcases read_form f h with ⟨s, m, i, _, v, b⟩ | ⟨s, _, v⟩
 ·rw [← v, signed_eq]
  have h' : ((m * 2 ^ i : Nat) : Int) < 2 ^ 2099 := by
   have e : ((2 ^ 2099 : Nat) : Int) = 2 ^ 2099 := by rw [Int.natCast_pow]; rfl
   rw [← e]; exact Int.ofNat_lt.2 b
  generalize (2 : Int) ^ 2099 = B at *
  generalize m * 2 ^ i = z at *
  cases s
  ·simp only [Bool.false_eq_true, if_false]; omega
  ·simp only [if_true]; omega
 ·rw [v]
  generalize (2 : Int) ^ 2099 = B at *
  cases s
  ·simp only [Bool.false_eq_true, if_false]; omega
  ·simp only [if_true]; omega
theorem cmpF_val (f g : Nat) : cmpF f g = cmpI (valF f) (valF g) := by
 unfold cmpF cmpI
 cases hf : nanB f <;> cases hg : nanB g
 ·rw [order_val f g hf hg]
  simp only [Bool.false_eq_true, if_false]
  rcases Int.lt_trichotomy (valF f) (valF g) with h | h | h
  ·rw [Int.compare_eq_lt.2 h, if_pos h]; rfl
  ·rw [h, cmp_self, if_neg (Int.lt_irrefl _), if_neg (Int.lt_irrefl _)]; rfl
  ·rw [Int.compare_eq_gt.2 h, if_neg (Int.not_lt.2 (Int.le_of_lt h)), if_pos h]; rfl
 ·have e : valF g = 2 ^ 2100 := by unfold valF; rw [hg]; rfl
  have := valF_lt f hf
  rw [e, if_pos this]; rfl
 ·have e : valF f = 2 ^ 2100 := by unfold valF; rw [hf]; rfl
  have := valF_lt g hg
  simp only [Bool.false_eq_true, if_false, if_true]
  rw [e, if_neg (Int.not_lt.2 (Int.le_of_lt this)), if_pos this]
 ·have e : valF f = 2 ^ 2100 := by unfold valF; rw [hf]; rfl
  have e' : valF g = 2 ^ 2100 := by unfold valF; rw [hg]; rfl
  rw [e, e', if_neg (Int.lt_irrefl _), if_neg (Int.lt_irrefl _)]; rfl
end Go.Proofs.YtgmolmpfihkolaaGreat
