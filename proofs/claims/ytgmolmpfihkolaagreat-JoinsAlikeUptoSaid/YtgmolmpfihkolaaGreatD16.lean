/- Part of the proof. -/
import Derived.Test.YtgmolmpfihkolaaGreatD15
import Derived.RegionTactic
import Derived.ChangeAlike
import Derived.BigRegion
namespace Go.Proofs.YtgmolmpfihkolaaGreat
open Go.RowKit
open Go.Deep
set_option linter.unusedVariables false
set_option maxRecDepth 100000
attribute [local go_sem] run_store_float
def isTrue (v : Val) : Bool := v.kind == 1 && v.int == 1
def holdsV (rows : List (List Val)) : List Tx → Bool × Int
 | [] => (true, 0)
 | t :: ts => if (tellV rows t).2 ≠ 0 then (false, (tellV rows t).2) else if isTrue (tellV rows t).1 then holdsV rows ts else (false, 0)
end Go.Proofs.YtgmolmpfihkolaaGreat
namespace Go.Proofs.YtgmolmpfihkolaaGreat
open Go.RowKit Go.Proofs.YtgmolmpfihkolaaGreatW.PrintWords Go.Proofs.YtgmolmpfihkolaaGreat.Pj
set_option linter.unusedVariables false
set_option maxRecDepth 100000
attribute [local go_sem] run_store_float
def pOf (v : Val) : PV := ⟨v.kind, v.int, v.flt, v.text⟩
theorem vOf_pOf (v : Val) : vOf (pOf v) = v := rfl
def keysGo (rows : List (List Val)) (acc : List Val) (sm : Bool) : List Tx → List Val × Bool × Int
 | [] => (acc, sm, 0)
 | t :: ts => if (tellV rows t).2 ≠ 0 then ([], false, (tellV rows t).2) else keysGo rows (acc ++ [plainV (tellV rows t).1]) (sm && decide ((tellV rows t).1.kind ≠ 0)) ts
end Go.Proofs.YtgmolmpfihkolaaGreat
namespace Go.Proofs.YtgmolmpfihkolaaGreat
open Go.RowKit Go.Proofs.YtgmolmpfihkolaaGreatW.PrintWords Go.Proofs.YtgmolmpfihkolaaGreat.Pj
set_option linter.unusedVariables false
set_option maxRecDepth 100000
instance (a b : Val) : Decidable (Alike a b) := by unfold Alike; infer_instance
def exactF (a b : PV) : Option Bool := if wfV a && (wfV b && decide (Alike (vOf a) (vOf b))) then some true else none
def plainF (a : PV) : Option (Int × Int × Nat × ByteArray) := if wfV a then some ((plainV (vOf a)).kind, (plainV (vOf a)).int, (plainV (vOf a)).flt, (plainV (vOf a)).text) else none
def evalF (e : PE) (rows : List (List PV)) : Option (Int × Int × Nat × ByteArray × Int) :=
 if wfE e && wfRs rows then some ((tellV (rsOf rows) (tOf e)).1.kind, (tellV (rsOf rows) (tOf e)).1.int, (tellV (rsOf rows) (tOf e)).1.flt, (tellV (rsOf rows) (tOf e)).1.text, (tellV (rsOf rows) (tOf e)).2) else none
def rowF (a b : List PV) : Option Int := if wfR a && wfR b then some (cmpRow (rOf a) (rOf b)) else none
end Go.Proofs.YtgmolmpfihkolaaGreat
namespace Go.Proofs.YtgmolmpfihkolaaGreat.Pj
open Go.RowKit Go.Proofs.YtgmolmpfihkolaaGreatW.PrintWords Go.Proofs.YtgmolmpfihkolaaGreatW.PrintLast Go.Proofs.YtgmolmpfihkolaaGreatW.PrintMore
attribute [local go_sem] run_store_flt max2_int min2_int max_two min_two max_three min_three max_four min_four
set_option linter.unusedVariables false
set_option linter.unusedSimpArgs false
def row_Cmp.f (l0 : List (S39)) (l1 : List (S39)) : Option (Int) := rowF l0 l1
theorem row_Cmp.calls (A0 : Option Addr) (c0 : Nat) (l0 : List (S39)) (A1 : Option Addr) (c1 : Nat) (l1 : List (S39)) (r : Int) (w : World) (hr0 : Kd.C k39 w A0 l0.length l0) (hc0 : l0.length ≤ c0) (hr1 : Kd.C k39 w A1 l1.length l1) (hc1 : l1.length ≤ c1) (h : row_Cmp.f l0 l1 = some r) :
 Calls Tryz.prog 45 #[.slice A0 l0.length c0, .slice A1 l1.length c1] w fun e w' => e = .returned (.int .i64 r) ∧ Below w.heap.size w w' := by
 unfold row_Cmp.f rowF at h
 split at h
 ·rename_i hc
  simp only [Bool.and_eq_true] at hc
  cases h
  exact rowCmp_any A0 _ c0 _ A1 _ c1 _ w (row_of hr0 hc0 hc.1) (row_of hr1 hc1 hc.2)
 ·cases h
end Go.Proofs.YtgmolmpfihkolaaGreat.Pj
namespace Go.Proofs.YtgmolmpfihkolaaGreatW.PrintLast
set_option linter.unusedVariables false
open Go.RowKit Go.Proofs.YtgmolmpfihkolaaGreatW.PrintWords Go.Proofs.YtgmolmpfihkolaaGreatW.PrintMore
section
variable {P : Program} {ops : Array Oper} {Q : Exit → Act → World → Prop} {md : Region.Mode} {S : World → Prop} {ds : List Nat}
theorem pT (i : Nat) (N : Tmp) (l' : Array Bool) {oi : Oper} {v : Value} {fuel : Nat} {l : Array Bool} {a a' : Act} {w : World} (h : wpAnyLast P md ops Q S ds fuel l' a' w)
 (hi : ops[i]? = some oi := by rfl) (hN : oi.dst = some N := by rfl) (hc : anyB md ops l l' i = true := by exact any_of HT_.out (by kernel_rfl)) (hQ : ∀ c a w, Q (.panic c) (a.put oi.dst v) w → Q (.panic c) a w := by exact fun _ _ _ h => h)
 (hy : Yields P ops oi v a := by (refine Or.inl ⟨by rfl, ?_⟩; intro w'; go_simp; with_reducible rfl)) (ha : a.put (some N) v = a' := by (simp only [Act.put, List.setIfInBounds_toArray, List.set_cons_zero, List.set_cons_succ, i64_w, i32_w]; rfl)) :
 wpAnyLast P md ops Q S ds (fuel + 1) l a w := pure_ (N := some N) l' hi hN hc hQ hy ha h
theorem pU (i : Nat) (N : Tmp) (l' : Array Bool) {oi : Oper} {fuel : Nat} {l : Array Bool} {a a' : Act} {w : World} (h : wpAnyLast P md ops Q S ds fuel l' a' w)
 (hi : ops[i]? = some oi := by rfl) (hN : oi.dst = some N := by rfl) (hc : anyB md ops l l' i = true := by exact any_of HT_.out (by kernel_rfl)) (hQ : ∀ c a w, Q (.panic c) (a.put oi.dst undef) w → Q (.panic c) a w := by exact fun _ _ _ h => h)
 (hy : Yields P ops oi undef a := by exact Or.inr ⟨by rfl, rfl⟩) (ha : a.put (some N) undef = a' := by (simp only [Act.put, List.setIfInBounds_toArray, List.set_cons_zero, List.set_cons_succ, i64_w, i32_w]; rfl)) :
 wpAnyLast P md ops Q S ds (fuel + 1) l a w := pure_ (N := some N) l' hi hN hc hQ hy ha h
theorem tT2 (i : Nat) (N : Tmp) (l' : Array Bool) {oi : Oper} {v : Value} {fuel : Nat} {l : Array Bool} {a a' : Act} {w : World} (hS : S w) (h : wpAnyLast P md ops Q S ds fuel l' a' w)
 (hi : ops[i]? = some oi := by rfl) (hN : oi.dst = some N := by rfl) (hc : takeB md ops ds l l' i = true := by exact take_ofW HT_.out HW_.out (by kernel_rfl)) (hQ : ∀ c a w, Q (.panic c) (a.put oi.dst v) w → Q (.panic c) a w := by exact fun _ _ _ h => h)
 (hy : YieldsIf P ops S oi v a := by (refine Or.inl ⟨by rfl, ?_⟩; rintro w' ⟨s0, s1⟩; go_simp; with_reducible rfl)) (ha : a.put (some N) v = a' := by (simp only [Act.put, List.setIfInBounds_toArray, List.set_cons_zero, List.set_cons_succ, i64_w, i32_w]; rfl)) :
 wpAnyLast P md ops Q S ds (fuel + 1) l a w := take_ (N := some N) l' hi hN hc hQ hy hS ha h
theorem tT4 (i : Nat) (N : Tmp) (l' : Array Bool) {oi : Oper} {v : Value} {fuel : Nat} {l : Array Bool} {a a' : Act} {w : World} (hS : S w) (h : wpAnyLast P md ops Q S ds fuel l' a' w)
 (hi : ops[i]? = some oi := by rfl) (hN : oi.dst = some N := by rfl) (hc : takeB md ops ds l l' i = true := by exact take_ofW HT_.out HW_.out (by kernel_rfl)) (hQ : ∀ c a w, Q (.panic c) (a.put oi.dst v) w → Q (.panic c) a w := by exact fun _ _ _ h => h)
 (hy : YieldsIf P ops S oi v a := by (refine Or.inl ⟨by rfl, ?_⟩; rintro w' ⟨s0, s1, s2, s3⟩; go_simp; with_reducible rfl)) (ha : a.put (some N) v = a' := by (simp only [Act.put, List.setIfInBounds_toArray, List.set_cons_zero, List.set_cons_succ, i64_w, i32_w]; rfl)) :
 wpAnyLast P md ops Q S ds (fuel + 1) l a w := take_ (N := some N) l' hi hN hc hQ hy hS ha h
theorem tT8 (i : Nat) (N : Tmp) (l' : Array Bool) {oi : Oper} {v : Value} {fuel : Nat} {l : Array Bool} {a a' : Act} {w : World} (hS : S w) (h : wpAnyLast P md ops Q S ds fuel l' a' w)
 (hi : ops[i]? = some oi := by rfl) (hN : oi.dst = some N := by rfl) (hc : takeB md ops ds l l' i = true := by exact take_ofW HT_.out HW_.out (by kernel_rfl)) (hQ : ∀ c a w, Q (.panic c) (a.put oi.dst v) w → Q (.panic c) a w := by exact fun _ _ _ h => h)
 (hy : YieldsIf P ops S oi v a := by (refine Or.inl ⟨by rfl, ?_⟩; rintro w' ⟨s0, s1, s2, s3, s4, s5, s6, s7⟩; go_simp; with_reducible rfl)) (ha : a.put (some N) v = a' := by (simp only [Act.put, List.setIfInBounds_toArray, List.set_cons_zero, List.set_cons_succ, i64_w, i32_w]; rfl)) :
 wpAnyLast P md ops Q S ds (fuel + 1) l a w := take_ (N := some N) l' hi hN hc hQ hy hS ha h
theorem gT (f : FuncId) (N : Option Tmp) {fn : Func} (hf : P.funcs[f]? = some fn) (args : Array Value) {rest : List Oper} {oi : Oper} {a : Act} {w : World} {as_ : Array Operand} {ts : Array TypeId}
 (h : Calls P f args w fun e w' => ∃ v, e = .returned v ∧ wpList P ops Q rest (a.put N v) w')
 (hop : oi.op = .call { callee := .value (.func f), args := as_, argTypes := ts } := by with_reducible rfl) (hd : oi.dst = N := by rfl) (hg : oi.guard = none := by rfl) (hname : (fn.name == "runtime.NumGoroutine") = false := by kernel_rfl) (hb : fn.body.isSome = true := by rfl)
 (hargs : as_.map a.eval = args := by ((try simp only [List.map_toArray, List.map_cons, List.map_nil]); first | done | rfl | (simp only [List.length_drop, List.length_take]; rfl))) : wpList P ops Q (oi :: rest) a w :=
 goesL_ N hd hg hf hname hb args hop hargs h
end
theorem bT {p : Prop} (h : p := by repeat (first | (with_reducible first | exact HB.out | apply below_alloc | apply pw_below_drewN | apply below_drew1) | exact HB.out)) : p := h
theorem bS {p q : Prop} (x : p) (c : p → q := by (intro hq_; repeat (first | (with_reducible first | exact HB.out | apply below_alloc | apply pw_below_drewN | apply below_drew1 | refine below_set ?_ hq_) | exact HB.out))) : q := c x
theorem aT {p : Prop} (h : p := by first | (with_reducible assumption) | assumption) : p := h
theorem mT {p : Prop} (h : p := by ((try simp only [List.map_toArray, List.map_cons, List.map_nil]); first | done | rfl | (simp only [List.length_drop, List.length_take]; rfl))) : p := h
theorem vT {p q : Prop} (h : p) (c : p → q := by (intro hq_; (with_reducible repeat (first | apply Kd.V_alloc | apply Kd.V_drewN | apply Kd.V_drew)); exact hq_)) : q := c h
theorem rT {p q : Prop} (h : p) (c : p → q := by (intro hq_; (with_reducible repeat (first | apply Kd.R_alloc | apply Kd.R_drewN | apply Kd.R_drew)); exact hq_)) : q := c h
theorem nT {p q : Prop} (h : p) (c : p → q := by (intro hq_; (with_reducible repeat (first | apply Kd.N_alloc | apply Kd.N_drewN | apply Kd.N_drew)); exact hq_)) : q := c h
theorem kT {p q : Prop} (h : p) (c : p → q := by (intro hq_; (with_reducible repeat (first | refine blk_drewN ?_ _ | refine blk_drew ?_ | refine blk_alloc ?_ _)); exact hq_)) : q := c h
theorem cT {p q : Prop} (h : p) (c : p → q := by (intro hq_; repeat (first | exact (Kd.C_below hq_ HB.out) | (with_reducible refine Kd.C_alloc ?_ _) | (with_reducible refine Kd.C_drewN ?_ _) | (with_reducible refine Kd.C_drew ?_)))) : q := c h
theorem cU {p q : Prop} (h : p) (c : p → q := by (intro hq_; repeat (first | (with_reducible exact hq_) | (with_reducible refine Kd.C_alloc ?_ _) | (with_reducible refine Kd.C_drewN ?_ _) | (with_reducible refine Kd.C_drew ?_) | exact hq_))) : q := c h
theorem cV {p q : Prop} (h : p) (c : p → q := by (intro hq_; repeat (first | exact hq_ | (with_reducible refine Kd.C_alloc ?_ _) | (with_reducible refine Kd.C_drewN ?_ _) | (with_reducible refine Kd.C_drew ?_)))) : q := c h
theorem eT {p : Prop} (h : p := by first | rfl | (simp; done) | (simp [*]; done)) : p := h
theorem fT {p : Prop} (h : p := by first | rfl | (simp [errW_none, errW_some] <;> rfl) | (simp [*, errW_none, errW_some] <;> rfl)) : p := h
theorem zT {p : Prop} (h : p := by first | exact Kd.R_nil _ _ _ _ _ | exact Kd.N_nil _ _ _ _ _ | exact Kd.V_nil _ _ _ _ _ | exact Kd.Q_nil _ _ _ _ _ | exact Kd.S_nil _ _ _ _ _) : p := h
theorem jT {p q r : Prop} (hy : p) (h : q) (c : p → q → r := by (intro hy_ H; first | (rw [hy_]; with_reducible exact H) | (have H2_ := (Option.bind_some _ _).symm.trans H; rw [hy_]; with_reducible exact H2_) | (have H2_ := (Option.bind_some _ _).symm.trans H; with_reducible exact H2_) | with_reducible exact H | (rw [hy_]; exact H) | exact H)) : r := c hy h
theorem uT {p : Prop} (h : p := by first | exact Kd.N_base ho | exact Kd.R_base ho | exact Kd.S_base ho | exact Kd.Q_base ho) : p := h
theorem hxT {w W : World} {a : Addr} {v : Value} (hb : Below w.heap.size w W) (h : w.cell? a = some v) : W.cell? a = some v := (hb.cell (World.block_lt_of_cell? w _ h)).trans h
section
variable {α : Type} {d : Kd α} {e base : Nat} {ok ok2 : Nat → Prop} {w0 W w1 : World} {u v v1 : Value} {xs : List α} {q : Prop}
theorem bB {p q : Prop} (x : p) (c : p → q := by (intro h_; first | exact Kd.N_base h_ | exact Kd.R_base h_ | exact Kd.S_base h_ | exact Kd.Q_base h_)) : q := c x
theorem vT' (h : Kd.V d e w0 base ok v xs) (c : Kd.V d e w0 base ok v xs → Kd.V d e W base ok v xs := by (intro hq_; (with_reducible repeat (first | apply Kd.V_alloc | apply Kd.V_drewN | apply Kd.V_drew)); exact hq_)) : Kd.V d e W base ok v xs := c h
theorem nT' (h : Kd.N d e w0 base ok v xs) (c : Kd.N d e w0 base ok v xs → Kd.N d e W base ok v xs := by (intro hq_; (with_reducible repeat (first | apply Kd.N_alloc | apply Kd.N_drewN | apply Kd.N_drew)); exact hq_)) : Kd.N d e W base ok v xs := c h
theorem rT' (h : Kd.R d e w0 base ok v xs) (c : Kd.R d e w0 base ok v xs → Kd.R d e W base ok v xs := by (intro hq_; (with_reducible repeat (first | apply Kd.R_alloc | apply Kd.R_drewN | apply Kd.R_drew)); exact hq_)) : Kd.R d e W base ok v xs := c h
theorem sT' (h : Kd.S d e w0 base ok v xs) (c : Kd.S d e w0 base ok v xs → Kd.S d e W base ok v xs := by (intro hq_; (with_reducible repeat (first | apply Kd.S_alloc | apply Kd.S_drewN | apply Kd.S_drew)); exact hq_)) : Kd.S d e W base ok v xs := c h
theorem nb (h : Aside0 (Kd.N d e w0 base ok v xs)) (hb : Below W.heap.size W w1) (c : Kd.N d e w0 base ok v xs → Kd.N d e W base ok v xs := by (intro hq_; (with_reducible repeat (first | apply Kd.N_alloc | apply Kd.N_drewN | apply Kd.N_drew)); exact hq_)) : Aside0 (Kd.N d e w1 base ok v xs) := ⟨Kd.N_below (c h.out) hb⟩
theorem rb (h : Aside0 (Kd.R d e w0 base ok v xs)) (hb : Below W.heap.size W w1) (c : Kd.R d e w0 base ok v xs → Kd.R d e W base ok v xs := by (intro hq_; (with_reducible repeat (first | apply Kd.R_alloc | apply Kd.R_drewN | apply Kd.R_drew)); exact hq_)) : Aside0 (Kd.R d e w1 base ok v xs) := ⟨Kd.R_below (c h.out) hb⟩
theorem sb (h : Aside0 (Kd.S d e w0 base ok v xs)) (hb : Below W.heap.size W w1) (c : Kd.S d e w0 base ok v xs → Kd.S d e W base ok v xs := by (intro hq_; (with_reducible repeat (first | apply Kd.S_alloc | apply Kd.S_drewN | apply Kd.S_drew)); exact hq_)) : Aside0 (Kd.S d e w1 base ok v xs) := ⟨Kd.S_below (c h.out) hb⟩
theorem ve (h : Aside0 (Kd.V d e w0 base ok v xs)) (o : q) (hb : Below W.heap.size W w1) (c : Kd.V d e w0 base ok v xs → Kd.V d e W base ok v xs := by (intro hq_; (with_reducible repeat (first | apply Kd.V_alloc | apply Kd.V_drewN | apply Kd.V_drew)); exact hq_)) (g : q → ∀ k, u.ownBlock = some k → W.heap.size ≤ k := by (intro h_; first | exact Kd.N_base h_ | exact Kd.R_base h_ | exact Kd.S_base h_ | exact Kd.Q_base h_)) : Aside0 (Kd.V d e w1 base (fun k => ok k ∧ some k ≠ u.ownBlock) v xs) := ⟨Kd.V_elder' (c h.out) (g o) hb⟩
theorem ne (h : Aside0 (Kd.N d e w0 base ok v xs)) (o : q) (hb : Below W.heap.size W w1) (c : Kd.N d e w0 base ok v xs → Kd.N d e W base ok v xs := by (intro hq_; (with_reducible repeat (first | apply Kd.N_alloc | apply Kd.N_drewN | apply Kd.N_drew)); exact hq_)) (g : q → ∀ k, u.ownBlock = some k → W.heap.size ≤ k := by (intro h_; first | exact Kd.N_base h_ | exact Kd.R_base h_ | exact Kd.S_base h_ | exact Kd.Q_base h_)) : Aside0 (Kd.N d e w1 base (fun k => ok k ∧ some k ≠ u.ownBlock) v xs) := ⟨Kd.N_elder' (c h.out) (g o) hb⟩
theorem re (h : Aside0 (Kd.R d e w0 base ok v xs)) (o : q) (hb : Below W.heap.size W w1) (c : Kd.R d e w0 base ok v xs → Kd.R d e W base ok v xs := by (intro hq_; (with_reducible repeat (first | apply Kd.R_alloc | apply Kd.R_drewN | apply Kd.R_drew)); exact hq_)) (g : q → ∀ k, u.ownBlock = some k → W.heap.size ≤ k := by (intro h_; first | exact Kd.N_base h_ | exact Kd.R_base h_ | exact Kd.S_base h_ | exact Kd.Q_base h_)) : Aside0 (Kd.R d e w1 base (fun k => ok k ∧ some k ≠ u.ownBlock) v xs) := ⟨Kd.R_elder' (c h.out) (g o) hb⟩
theorem se (h : Aside0 (Kd.S d e w0 base ok v xs)) (o : q) (hb : Below W.heap.size W w1) (c : Kd.S d e w0 base ok v xs → Kd.S d e W base ok v xs := by (intro hq_; (with_reducible repeat (first | apply Kd.S_alloc | apply Kd.S_drewN | apply Kd.S_drew)); exact hq_)) (g : q → ∀ k, u.ownBlock = some k → W.heap.size ≤ k := by (intro h_; first | exact Kd.N_base h_ | exact Kd.R_base h_ | exact Kd.S_base h_ | exact Kd.Q_base h_)) : Aside0 (Kd.S d e w1 base (fun k => ok k ∧ some k ≠ u.ownBlock) v xs) := ⟨Kd.S_elder' (c h.out) (g o) hb⟩
theorem va (h : Aside0 (Kd.V d e w0 base ok2 u xs)) (hg : W.grownBy w1 v.ownBlock) (hat : v1.ownBlock = v.ownBlock ∨ ∃ b, v1.ownBlock = some b ∧ W.heap.size ≤ b) (c : Kd.V d e w0 base ok2 u xs → Kd.V d e W base (fun k => ok k ∧ some k ≠ v.ownBlock) u xs := by (intro hq_; (with_reducible repeat (first | apply Kd.V_alloc | apply Kd.V_drewN | apply Kd.V_drew)); exact hq_)) : Aside0 (Kd.V d e w1 base (fun k => ok k ∧ some k ≠ v1.ownBlock) u xs) := ⟨Kd.V_afterv (c h.out) hg hat⟩
theorem na (h : Aside0 (Kd.N d e w0 base ok2 u xs)) (hg : W.grownBy w1 v.ownBlock) (hat : v1.ownBlock = v.ownBlock ∨ ∃ b, v1.ownBlock = some b ∧ W.heap.size ≤ b) (c : Kd.N d e w0 base ok2 u xs → Kd.N d e W base (fun k => ok k ∧ some k ≠ v.ownBlock) u xs := by (intro hq_; (with_reducible repeat (first | apply Kd.N_alloc | apply Kd.N_drewN | apply Kd.N_drew)); exact hq_)) : Aside0 (Kd.N d e w1 base (fun k => ok k ∧ some k ≠ v1.ownBlock) u xs) := ⟨Kd.N_afterv (c h.out) hg hat⟩
theorem ra (h : Aside0 (Kd.R d e w0 base ok2 u xs)) (hg : W.grownBy w1 v.ownBlock) (hat : v1.ownBlock = v.ownBlock ∨ ∃ b, v1.ownBlock = some b ∧ W.heap.size ≤ b) (c : Kd.R d e w0 base ok2 u xs → Kd.R d e W base (fun k => ok k ∧ some k ≠ v.ownBlock) u xs := by (intro hq_; (with_reducible repeat (first | apply Kd.R_alloc | apply Kd.R_drewN | apply Kd.R_drew)); exact hq_)) : Aside0 (Kd.R d e w1 base (fun k => ok k ∧ some k ≠ v1.ownBlock) u xs) := ⟨Kd.R_after (c h.out) hg hat⟩
theorem sa (h : Aside0 (Kd.S d e w0 base ok2 u xs)) (hg : W.grownBy w1 v.ownBlock) (hat : v1.ownBlock = v.ownBlock ∨ ∃ b, v1.ownBlock = some b ∧ W.heap.size ≤ b) (c : Kd.S d e w0 base ok2 u xs → Kd.S d e W base (fun k => ok k ∧ some k ≠ v.ownBlock) u xs := by (intro hq_; (with_reducible repeat (first | apply Kd.S_alloc | apply Kd.S_drewN | apply Kd.S_drew)); exact hq_)) : Aside0 (Kd.S d e w1 base (fun k => ok k ∧ some k ≠ v1.ownBlock) u xs) := ⟨Kd.S_after (c h.out) hg hat⟩
theorem cb {A : Option Addr} {n : Nat} (h : Aside0 (d.C w0 A n xs)) (hb : Below W.heap.size W w1) (c : d.C w0 A n xs → d.C W A n xs := by (intro hq_; repeat (first | (with_reducible exact hq_) | (with_reducible refine Kd.C_alloc ?_ _) | (with_reducible refine Kd.C_drewN ?_ _) | (with_reducible refine Kd.C_drew ?_) | exact hq_))) : Aside0 (d.C w1 A n xs) := ⟨Kd.C_below (c h.out) hb⟩
theorem bb {w W2 W : World} (h : Aside0 (Below w.heap.size w W2)) {w2 : World} (hb : Below W.heap.size W w2) (c : Below w.heap.size w W := by repeat (first | (with_reducible first | exact HB.out | apply below_alloc | apply pw_below_drewN | apply below_drew1) | exact HB.out)) : Aside0 (Below w.heap.size w w2) := ⟨below_step c hb⟩
theorem bg {p : Prop} (x : Aside0 p) {w W w2 : World} (hb : Below W.heap.size W w2) (c : p → Below w.heap.size w W := by (intro hq_; repeat (first | (with_reducible first | exact HB.out | apply below_alloc | apply pw_below_drewN | apply below_drew1 | refine below_set ?_ hq_) | exact HB.out))) : Aside0 (Below w.heap.size w w2) := ⟨below_step (c x.out) hb⟩
variable {g : Nat} {o o0 : Obj} {row : Option Nat} {t : TypeId}
theorem kP (h : w0.heap[g]? = some o0) (c : w0.heap[g]? = some o0 → ∃ o1, W.heap[g]? = some o1 ∧ o1 = o := by (intro hq_; exact ⟨_, by ((with_reducible repeat (first | apply blk_drewN | apply blk_drew | apply blk_alloc | apply blk_set)); exact hq_), by simp only [List.setIfInBounds_toArray, List.set_cons_zero, List.set_cons_succ]⟩)) : W.heap[g]? = some o := by
 obtain ⟨o1, h1, rfl⟩ := c h
 exact h1
theorem kb (h : Aside0 (w0.heap[g]? = some o)) (hb : Below W.heap.size W w1) (c : w0.heap[g]? = some o → W.heap[g]? = some o := by (intro hq_; (with_reducible repeat (first | refine blk_drewN ?_ _ | refine blk_drew ?_ | refine blk_alloc ?_ _)); exact hq_)) : Aside0 (w1.heap[g]? = some o) := ⟨blk_below (c h.out) hb⟩
theorem kg (h : Aside0 (w0.heap[g]? = some o)) (hg : W.grownBy w1 row) (hne : some g ≠ row) (c : w0.heap[g]? = some o → W.heap[g]? = some o := by (intro hq_; (with_reducible repeat (first | refine blk_drewN ?_ _ | refine blk_drew ?_ | refine blk_alloc ?_ _)); exact hq_)) : Aside0 (w1.heap[g]? = some o) := ⟨blk_grown (c h.out) hg hne⟩
theorem kq (h : w0.heap[g]? = some o0) (hb : Below W.heap.size W w1) (c : w0.heap[g]? = some o0 → ∃ o1, W.heap[g]? = some o1 ∧ o1 = o := by (intro hq_; exact ⟨_, by ((with_reducible repeat (first | apply blk_drewN | apply blk_drew | apply blk_alloc | apply blk_set)); exact hq_), by simp only [List.setIfInBounds_toArray, List.set_cons_zero, List.set_cons_succ]⟩)) : Aside0 (w1.heap[g]? = some o) := ⟨blk_below (kP h c) hb⟩
theorem gw {p q : Prop} (hg : q) (c : q → p := by (intro hq_; rw [hq_]; exact (below_size bT))) : Aside0 p := ⟨c hg⟩
theorem hK {p : Prop} (h : p := by repeat (first | (with_reducible first | exact HK.out | apply Kept.alloc | apply Kept.drewN | apply Kept.drew) | exact HK.out)) : p := h
theorem hKs {p q : Prop} (x : q) (c : q → p := by (intro hq_; repeat (first | (with_reducible first | exact HK.out | apply Kept.alloc | apply Kept.drewN | apply Kept.drew | refine Kept.setCell ?_ (.inr hq_) _) | exact HK.out))) : p := c x
theorem hk1 {p : Prop} (h : p := by first | exact HK.out.1 | exact (hK (p := Kept w _ (fun k_ => P0_ k_))).1) : p := h
theorem hB {w W2 : World} {S : Nat → Prop} (h : Aside0 (Kept w W2 S)) (hb : Below W.heap.size W w1) (c : Kept w W S := by repeat (first | (with_reducible first | exact HK.out | apply Kept.alloc | apply Kept.drewN | apply Kept.drew) | exact HK.out)) : Aside0 (Kept w w1 S) := ⟨c.below hb⟩
theorem hG {w W2 : World} {S : Nat → Prop} (h : Aside0 (Kept w W2 S)) (hg : W.grownBy w1 row) (hr : ∀ k, row = some k → S k ∨ w.heap.size ≤ k) (c : Kept w W S := by repeat (first | (with_reducible first | exact HK.out | apply Kept.alloc | apply Kept.drewN | apply Kept.drew) | exact HK.out)) : Aside0 (Kept w w1 S) := ⟨Kept.of_grown hg c hr⟩
theorem hT {w W2 : World} {S S2 : Nat → Prop} (h : Aside0 (Kept w W2 S)) (k : Kept W w1 S2) (hs : ∀ k, S2 k → S k ∨ w.heap.size ≤ k) (c : Kept w W S := by repeat (first | (with_reducible first | exact HK.out | apply Kept.alloc | apply Kept.drewN | apply Kept.drew) | exact HK.out)) : Aside0 (Kept w w1 S) := ⟨c.then_ k hs⟩
theorem fz4 {cs : Array Value} (h : Aside0 (W.heap[g]? = some (.cells cs t (0, 0)))) : W.frozen? ⟨g, 0, none⟩ = false ∧ W.frozen? ⟨g, 1, none⟩ = false ∧ W.frozen? ⟨g, 2, none⟩ = false ∧ W.frozen? ⟨g, 3, none⟩ = false := ⟨blk_frozen h.out 0, blk_frozen h.out 1, blk_frozen h.out 2, blk_frozen h.out 3⟩
theorem fz2 {cs : Array Value} (h : Aside0 (W.heap[g]? = some (.cells cs t (0, 0)))) : W.frozen? ⟨g, 0, none⟩ = false ∧ W.frozen? ⟨g, 1, none⟩ = false := ⟨blk_frozen h.out 0, blk_frozen h.out 1⟩
theorem fz8 {cs : Array Value} (h : Aside0 (W.heap[g]? = some (.cells cs t (0, 0)))) : W.frozen? ⟨g, 0, none⟩ = false ∧ W.frozen? ⟨g, 1, none⟩ = false ∧ W.frozen? ⟨g, 2, none⟩ = false ∧ W.frozen? ⟨g, 3, none⟩ = false ∧ W.frozen? ⟨g, 4, none⟩ = false ∧ W.frozen? ⟨g, 5, none⟩ = false ∧ W.frozen? ⟨g, 6, none⟩ = false ∧ W.frozen? ⟨g, 7, none⟩ = false := ⟨blk_frozen h.out 0, blk_frozen h.out 1, blk_frozen h.out 2, blk_frozen h.out 3, blk_frozen h.out 4, blk_frozen h.out 5, blk_frozen h.out 6, blk_frozen h.out 7⟩
theorem cz4 {a b c d : Value} (h : Aside0 (W.heap[g]? = some (.cells #[a, b, c, d] t (0, 0)))) : W.cell? ⟨g, 0, none⟩ = some a ∧ W.cell? ⟨g, 1, none⟩ = some b ∧ W.cell? ⟨g, 2, none⟩ = some c ∧ W.cell? ⟨g, 3, none⟩ = some d := ⟨blk_cell h.out 0, blk_cell h.out 1, blk_cell h.out 2, blk_cell h.out 3⟩
theorem cz8 {a b c d e f i j : Value} (h : Aside0 (W.heap[g]? = some (.cells #[a, b, c, d, e, f, i, j] t (0, 0)))) : W.cell? ⟨g, 0, none⟩ = some a ∧ W.cell? ⟨g, 1, none⟩ = some b ∧ W.cell? ⟨g, 2, none⟩ = some c ∧ W.cell? ⟨g, 3, none⟩ = some d ∧ W.cell? ⟨g, 4, none⟩ = some e ∧ W.cell? ⟨g, 5, none⟩ = some f ∧ W.cell? ⟨g, 6, none⟩ = some i ∧ W.cell? ⟨g, 7, none⟩ = some j := ⟨blk_cell h.out 0, blk_cell h.out 1, blk_cell h.out 2, blk_cell h.out 3, blk_cell h.out 4, blk_cell h.out 5, blk_cell h.out 6, blk_cell h.out 7⟩
end
theorem gA {P : Program} {ops : Array Oper} {rest : List Oper} {o : Oper} {a : Act} {Q : Exit → Act → World → Prop} {W : World} (xs : Array Operand) {ts : Array TypeId} (_h : o.op = .call { callee := .builtin .append, args := xs, argTypes := ts }) (h : wpList P ops Q (o :: rest) a W) : wpList P ops Q (o :: rest) a W := h
theorem bi {α β : Type} {x : Option α} {f : α → Option β} {r : β} (h : x.bind f = some r) : ∃ a, Aside0 (x = some a) ∧ f a = some r := by
 obtain ⟨a, h1, h2⟩ := Option.bind_eq_some_iff.mp h
 exact ⟨a, ⟨h1⟩, h2⟩
def bm (n k : Nat) : Array Bool := ⟨(List.range n).map k.testBit⟩
end Go.Proofs.YtgmolmpfihkolaaGreatW.PrintLast
namespace Go.Proofs.YtgmolmpfihkolaaGreat.Pj
open Go.RowKit Go.Proofs.YtgmolmpfihkolaaGreatW.PrintWords Go.Proofs.YtgmolmpfihkolaaGreatW.PrintLast Go.Proofs.YtgmolmpfihkolaaGreatW.PrintMore
attribute [local go_sem] run_store_flt max2_int min2_int max_two min_two max_three min_three max_four min_four
set_option linter.unusedVariables false
set_option linter.unusedSimpArgs false
def joins_same.l0 : Nat → List (S80) → Int → Option (Int)
 | 0, _, _ => none
 | k + 1, x0, x3 => if x3 < (x0.length : Int) then (if 0 ≤ x3 then (if 0 < (x0.length : Int) then ((row_Cmp.f ((rd_T80 x0 x3).f1) ((rd_T80 x0 0).f1)).bind fun t340 => (if t340 = 0 then (joins_same.l0 k x0 (wrap64 (x3 + 1))) else (some x3))) else (none)) else (none)) else (some x3)
def joins_same.f (k : Nat) (l0 : List (S80)) : Option (Int) := joins_same.l0 k l0 1
def joins_same.T2 : Bool × List (List Nat × List Nat) := (true, [([], []), ([], []), ([1], [1]), ([0, 2], [0, 2]), ([3], [3]), ([4], [4]), ([4], [4]), ([5, 6, 4], [4, 5, 6]), ([7, 4], [4, 7]), ([8, 4], [4, 8]), ([4], [4]), ([10, 4], [4, 10]), ([11, 4], [4, 11]), ([12, 4], [4, 12]), ([9, 13, 4, 4], [4, 9, 13]), ([14, 4], [4, 14]), ([4, 15], [4, 15])])
def joins_same.B2 : List Nat := [0, 0, 2, 7, 15, 31, 31, 127, 255, 511, 31, 1055, 3103, 7199, 16383, 32767, 65535]
theorem joins_same.tab2 : rtab .any (opsOf Tryz.f74 2) = joins_same.T2 := by kernel_rfl
theorem joins_same.bits2 : waitsOk joins_same.T2.2 joins_same.B2 = true := by kernel_rfl
set_option maxHeartbeats 8000000 in
set_option maxRecDepth 100000 in
theorem joins_same.calls (k : Nat) (A0 : Option Addr) (c0 : Nat) (l0 : List (S80)) (r : Int) (w : World) (hr0 : Kd.C k80 w A0 l0.length l0) (hc0 : l0.length ≤ c0) (h : joins_same.f k l0 = some r) :
 Calls Tryz.prog 74 #[.slice A0 l0.length c0] w fun e w' => e = .returned (.int .i64 r) ∧ Below w.heap.size w w' := by
 have HR0 := akk hr0
 have HC0 := akk hc0
 clear hr0 hc0
 have HB := akk (Below.refl w.heap.size w)
 have H : (joins_same.l0 k l0 1) = some r := h
 clear h
 have H' := akk H
 clear H
 go_enter Tryz.func74, Tryz.ntmps74
 go_wp2
 go_loopg [3] k (fun kq v3 w' => ∃ (x3_1 : Int), v3 = .int .i64 x3_1 ∧ Aside0 (joins_same.l0 kq l0 x3_1 = some r) ∧ Aside0 (kq ≤ k) ∧ Aside0 (Below w.heap.size w w'))
 case atStart => exact ⟨(1), eT, H', ⟨Nat.le_refl _⟩, ⟨bT⟩⟩
 case round =>
  clear H'
  obtain ⟨x3_1, rfl, HA, HK1, HB⟩ := hrel
  cases gk with
  | zero => exact absurd HA.out (by simp [joins_same.l0])
  | succ k1 =>
   have H := HA.out
   clear HA
   simp only [joins_same.l0] at H
   by_cases c2 : x3_1 < (l0.length : Int)
   ·rw [if_pos c2] at H
    have c2b0 := decide_eq_true c2
    clear c2
    by_cases c3 : 0 ≤ x3_1
    ·rw [if_pos c3] at H
     have c3b0 := decide_eq_true c3
     clear c3
     by_cases c4 : 0 < (l0.length : Int)
     ·rw [if_pos c4] at H
      have c4b0 := decide_eq_true c4
      have c4b1 : decide (0 < l0.length) = true := decide_eq_true (by omega)
      clear c4
      obtain ⟨t340, A5, H⟩ := bi H
      try dsimp only at H
      by_cases c6 : t340 = 0
      ·rw [if_pos c6] at H
       have c6b0 : (t340 == 0) = true := beq_iff_eq.mpr c6
       have c6b1 : (t340 != 0) = false := bne_eq_false_iff_eq.mpr c6
       clear c6
       have H' := akk H
       clear H
       try go_wp2
       replace HB := akk (below_drew1 HB.out)
       have p338 : 0 ≤ (x3_1 : Int) := of_decide_eq_true aT
       have q338 : x3_1 < (l0.length : Int) := of_decide_eq_true aT
       obtain ⟨ad338, A338_1, c338_1, e338, hx338_0, hx338_1, hl338_1, hi338_1⟩ := at_T80 HR0.out x3_1 p338 q338
       have hw338_1 := hx338_1
       have hw338_0 := hx338_0
       cases e338
       replace hx338_0 := hxT HB.out hx338_0
       replace hx338_1 := hxT HB.out hx338_1
       have HR338_1 := akk hi338_1
       have HC338_1 := akk hl338_1
       clear hi338_1 hl338_1
       replace p338 := eq_true p338
       replace q338 := eq_true q338
       have p339 : 0 ≤ (0 : Int) := (by omega)
       have q339 : 0 < (l0.length : Int) := of_decide_eq_true aT
       obtain ⟨ad339, A339_1, c339_1, e339, hx339_0, hx339_1, hl339_1, hi339_1⟩ := at_T80 HR0.out 0 p339 q339
       have hw339_1 := hx339_1
       (try rw [show ((0 : Int)).toNat = 0 from rfl] at hw339_1)
       (try rw [show 0 * 2 = 0 from rfl] at hw339_1)
       (try rw [Addr.add_zero'] at hw339_1)
       have hw339_0 := hx339_0
       (try rw [show ((0 : Int)).toNat = 0 from rfl] at hw339_0)
       (try rw [show 0 * 2 = 0 from rfl] at hw339_0)
       (try rw [Addr.add_zero'] at hw339_0)
       obtain rfl : ad338 = ad339 := (by injection e339)
       have qi339 : (0 < l0.length) = True := eq_true (by omega)
       (try rw [show ((0 : Int)).toNat = 0 from rfl] at hx339_0)
       (try rw [show 0 * 2 = 0 from rfl] at hx339_0)
       (try rw [Addr.add_zero'] at hx339_0)
       (try rw [show ((0 : Int)).toNat = 0 from rfl] at hx339_1)
       (try rw [show 0 * 2 = 0 from rfl] at hx339_1)
       (try rw [Addr.add_zero'] at hx339_1)
       replace hx339_0 := hxT HB.out hx339_0
       replace hx339_1 := hxT HB.out hx339_1
       have HR339_1 := akk hi339_1
       have HC339_1 := akk hl339_1
       clear hi339_1 hl339_1
       replace p339 := eq_true p339
       replace q339 := eq_true q339
       refine start_ (n := 17) (S := fun w' => w'.cell? (ad338.add ((x3_1).toNat * 2)) = some (.int .i64 ((rd_T80 l0 x3_1).f0)) ∧ w'.cell? ⟨(ad338.add ((x3_1).toNat * 2)).block, (ad338.add ((x3_1).toNat * 2)).off + 1, none⟩ = some (.slice A338_1 ((rd_T80 l0 x3_1).f1).length c338_1) ∧ w'.cell? ad338 = some (.int .i64 ((rd_T80 l0 0).f0)) ∧ w'.cell? ⟨ad338.block, ad338.off + 1, none⟩ = some (.slice A339_1 ((rd_T80 l0 0).f1).length c339_1)) (ds := []) #[false, false, false, false, false, false, false, false, false, false, false, false, false, false, false, false, false] (by kernel_rfl) rfl rfl ⟨((HB.out.cell (World.block_lt_of_cell? w _ hw338_0)).trans hw338_0), ((HB.out.cell (World.block_lt_of_cell? w _ hw338_1)).trans hw338_1), ((HB.out.cell (World.block_lt_of_cell? w _ hw339_0)).trans hw339_0), ((HB.out.cell (World.block_lt_of_cell? w _ hw339_1)).trans hw339_1)⟩ (fun hHeld => ?_); refine with_tabW joins_same.tab2 joins_same.bits2 (fun HT_ HW_ => ?_)
       generalize wr.drew = w7 at HB HR338_1 HR339_1 hx338_0 hx338_1 hx339_0 hx339_1 hHeld ⊢
       refine pT 0 4 (bm 17 1) ?_
       refine pT 1 5 (bm 17 3) ?_
       refine pT 2 6 (bm 17 7) ?_
       refine pT 3 7 (bm 17 15) ?_
       refine pT 4 8 (bm 17 31) ?_
       refine pT 5 9 (bm 17 63) ?_
       refine pT 6 10 (bm 17 127) ?_
       refine pT 7 11 (bm 17 255) ?_
       refine pT 8 12 (bm 17 511) ?_
       refine pT 10 14 (bm 17 1535) ?_
       refine pT 11 15 (bm 17 3583) ?_
       refine pT 12 16 (bm 17 7679) ?_
       refine tT4 9 13 (bm 17 8191) hHeld ?_
       refine tT4 13 17 (bm 17 16383) hHeld ?_
       refine one_ (i := 14) (N := some 18) #[true, true, true, true, true, true, true, true, true, true, true, true, true, true, true, false, false] rfl rfl (one_of HT_.out (by kernel_rfl)) (by decide) (fun K hK => ?_)
       refine goes_ Tryz.func45 (by kernel_rfl) rfl #[.slice A338_1 ((rd_T80 l0 x3_1).f1).length c338_1, .slice A339_1 ((rd_T80 l0 0).f1).length c339_1] (by rfl) rfl rfl mT ?_
       with_reducible refine (row_Cmp.calls _ _ ((rd_T80 l0 x3_1).f1) _ _ ((rd_T80 l0 0).f1) t340 _ ?side1 ?side2 ?side3 ?side4 A5.out).mono ?_
       (case side1 => exact cT HR338_1.out)
       (case side2 => exact HC338_1.out)
       (case side3 => exact cT HR339_1.out)
       (case side4 => exact HC339_1.out)
       rintro e w8 ⟨rfl, hb⟩
       refine ⟨_, rfl, ?_⟩
       replace HB := bb HB hb
       (try clear hb)
       (try clear hb2)
       (try clear hk)
       (try clear hi)
       refine hK.out _ _ ⟨((HB.out.cell (World.block_lt_of_cell? w _ hw338_0)).trans hw338_0), ((HB.out.cell (World.block_lt_of_cell? w _ hw338_1)).trans hw338_1), ((HB.out.cell (World.block_lt_of_cell? w _ hw339_0)).trans hw339_0), ((HB.out.cell (World.block_lt_of_cell? w _ hw339_1)).trans hw339_1)⟩ (fun hHeld => ?_)
       clear hK K
       refine norm_ (a' := ?_) ?_ ?_
       rotate_left
       ·show Act.put _ (some 18) _ = _
        simp only [Act.put, List.setIfInBounds_toArray, List.set_cons_zero, List.set_cons_succ, i64_w, i32_w]
        rfl
       refine pT 15 19 (bm 17 65535) ?_
       refine pT 16 20 (bm 17 131071) ?_
       refine done_ (done_of HT_.out (by kernel_rfl)) ?_
       try go_wp2
       go_roundg k1
       case measure => have := HK1.out; omega
       case rel => exact ⟨(wrap64 (x3_1 + 1)), eT, H', ⟨by have := HK1.out; omega⟩, ⟨bT⟩⟩
      ·rw [if_neg c6] at H
       have c6b0 : (t340 == 0) = false := beq_eq_false_iff_ne.mpr c6
       have c6b1 : (t340 != 0) = true := bne_iff_ne.mpr c6
       obtain rfl := Option.some.inj H
       try go_wp2
       replace HB := akk (below_drew1 HB.out)
       have p338 : 0 ≤ (x3_1 : Int) := of_decide_eq_true aT
       have q338 : x3_1 < (l0.length : Int) := of_decide_eq_true aT
       obtain ⟨ad338, A338_1, c338_1, e338, hx338_0, hx338_1, hl338_1, hi338_1⟩ := at_T80 HR0.out x3_1 p338 q338
       have hw338_1 := hx338_1
       have hw338_0 := hx338_0
       cases e338
       replace hx338_0 := hxT HB.out hx338_0
       replace hx338_1 := hxT HB.out hx338_1
       have HR338_1 := akk hi338_1
       have HC338_1 := akk hl338_1
       clear hi338_1 hl338_1
       replace p338 := eq_true p338
       replace q338 := eq_true q338
       have p339 : 0 ≤ (0 : Int) := (by omega)
       have q339 : 0 < (l0.length : Int) := of_decide_eq_true aT
       obtain ⟨ad339, A339_1, c339_1, e339, hx339_0, hx339_1, hl339_1, hi339_1⟩ := at_T80 HR0.out 0 p339 q339
       have hw339_1 := hx339_1
       (try rw [show ((0 : Int)).toNat = 0 from rfl] at hw339_1)
       (try rw [show 0 * 2 = 0 from rfl] at hw339_1)
       (try rw [Addr.add_zero'] at hw339_1)
       have hw339_0 := hx339_0
       (try rw [show ((0 : Int)).toNat = 0 from rfl] at hw339_0)
       (try rw [show 0 * 2 = 0 from rfl] at hw339_0)
       (try rw [Addr.add_zero'] at hw339_0)
       obtain rfl : ad338 = ad339 := (by injection e339)
       have qi339 : (0 < l0.length) = True := eq_true (by omega)
       (try rw [show ((0 : Int)).toNat = 0 from rfl] at hx339_0)
       (try rw [show 0 * 2 = 0 from rfl] at hx339_0)
       (try rw [Addr.add_zero'] at hx339_0)
       (try rw [show ((0 : Int)).toNat = 0 from rfl] at hx339_1)
       (try rw [show 0 * 2 = 0 from rfl] at hx339_1)
       (try rw [Addr.add_zero'] at hx339_1)
       replace hx339_0 := hxT HB.out hx339_0
       replace hx339_1 := hxT HB.out hx339_1
       have HR339_1 := akk hi339_1
       have HC339_1 := akk hl339_1
       clear hi339_1 hl339_1
       replace p339 := eq_true p339
       replace q339 := eq_true q339
       refine start_ (n := 17) (S := fun w' => w'.cell? (ad338.add ((x3_1).toNat * 2)) = some (.int .i64 ((rd_T80 l0 x3_1).f0)) ∧ w'.cell? ⟨(ad338.add ((x3_1).toNat * 2)).block, (ad338.add ((x3_1).toNat * 2)).off + 1, none⟩ = some (.slice A338_1 ((rd_T80 l0 x3_1).f1).length c338_1) ∧ w'.cell? ad338 = some (.int .i64 ((rd_T80 l0 0).f0)) ∧ w'.cell? ⟨ad338.block, ad338.off + 1, none⟩ = some (.slice A339_1 ((rd_T80 l0 0).f1).length c339_1)) (ds := []) #[false, false, false, false, false, false, false, false, false, false, false, false, false, false, false, false, false] (by kernel_rfl) rfl rfl ⟨((HB.out.cell (World.block_lt_of_cell? w _ hw338_0)).trans hw338_0), ((HB.out.cell (World.block_lt_of_cell? w _ hw338_1)).trans hw338_1), ((HB.out.cell (World.block_lt_of_cell? w _ hw339_0)).trans hw339_0), ((HB.out.cell (World.block_lt_of_cell? w _ hw339_1)).trans hw339_1)⟩ (fun hHeld => ?_); refine with_tabW joins_same.tab2 joins_same.bits2 (fun HT_ HW_ => ?_)
       generalize wr.drew = w9 at HB HR338_1 HR339_1 hx338_0 hx338_1 hx339_0 hx339_1 hHeld ⊢
       refine pT 0 4 (bm 17 1) ?_
       refine pT 1 5 (bm 17 3) ?_
       refine pT 2 6 (bm 17 7) ?_
       refine pT 3 7 (bm 17 15) ?_
       refine pT 4 8 (bm 17 31) ?_
       refine pT 5 9 (bm 17 63) ?_
       refine pT 6 10 (bm 17 127) ?_
       refine pT 7 11 (bm 17 255) ?_
       refine pT 8 12 (bm 17 511) ?_
       refine pT 10 14 (bm 17 1535) ?_
       refine pT 11 15 (bm 17 3583) ?_
       refine pT 12 16 (bm 17 7679) ?_
       refine tT4 9 13 (bm 17 8191) hHeld ?_
       refine tT4 13 17 (bm 17 16383) hHeld ?_
       refine one_ (i := 14) (N := some 18) #[true, true, true, true, true, true, true, true, true, true, true, true, true, true, true, false, false] rfl rfl (one_of HT_.out (by kernel_rfl)) (by decide) (fun K hK => ?_)
       refine goes_ Tryz.func45 (by kernel_rfl) rfl #[.slice A338_1 ((rd_T80 l0 x3_1).f1).length c338_1, .slice A339_1 ((rd_T80 l0 0).f1).length c339_1] (by rfl) rfl rfl mT ?_
       with_reducible refine (row_Cmp.calls _ _ ((rd_T80 l0 x3_1).f1) _ _ ((rd_T80 l0 0).f1) t340 _ ?side1 ?side2 ?side3 ?side4 A5.out).mono ?_
       (case side1 => exact cT HR338_1.out)
       (case side2 => exact HC338_1.out)
       (case side3 => exact cT HR339_1.out)
       (case side4 => exact HC339_1.out)
       rintro e w10 ⟨rfl, hb⟩
       refine ⟨_, rfl, ?_⟩
       replace HB := bb HB hb
       (try clear hb)
       (try clear hb2)
       (try clear hk)
       (try clear hi)
       refine hK.out _ _ ⟨((HB.out.cell (World.block_lt_of_cell? w _ hw338_0)).trans hw338_0), ((HB.out.cell (World.block_lt_of_cell? w _ hw338_1)).trans hw338_1), ((HB.out.cell (World.block_lt_of_cell? w _ hw339_0)).trans hw339_0), ((HB.out.cell (World.block_lt_of_cell? w _ hw339_1)).trans hw339_1)⟩ (fun hHeld => ?_)
       clear hK K
       refine norm_ (a' := ?_) ?_ ?_
       rotate_left
       ·show Act.put _ (some 18) _ = _
        simp only [Act.put, List.setIfInBounds_toArray, List.set_cons_zero, List.set_cons_succ, i64_w, i32_w]
        rfl
       refine pT 15 19 (bm 17 65535) ?_
       refine pT 16 20 (bm 17 131071) ?_
       refine done_ (done_of HT_.out (by kernel_rfl)) ?_
       try go_wp2
       go_ret
       exact ⟨fT, bT⟩
     ·rw [if_neg c4] at H
      exact absurd H (by simp)
    ·rw [if_neg c3] at H
     exact absurd H (by simp)
   ·rw [if_neg c2] at H
    have c2b0 := decide_eq_false c2
    clear c2
    obtain rfl := Option.some.inj H
    try go_wp2
    replace HB := akk (below_drew1 HB.out)
    refine start_ (n := 17) (S := fun w' => True) (ds := []) #[false, false, false, false, false, false, false, false, false, false, false, false, false, false, false, false, false] (by kernel_rfl) rfl rfl trivial (fun hHeld => ?_); refine with_tabW joins_same.tab2 joins_same.bits2 (fun HT_ HW_ => ?_)
    generalize wr.drew = w11 at HB hHeld ⊢
    refine pT 0 4 (bm 17 1) ?_
    refine pT 1 5 (bm 17 3) ?_
    refine pT 2 6 (bm 17 7) ?_
    refine pT 3 7 (bm 17 15) ?_
    refine pT 4 8 (bm 17 31) ?_
    refine pU 5 9 (bm 17 63) ?_
    refine pU 6 10 (bm 17 127) ?_
    refine pU 7 11 (bm 17 255) ?_
    refine pU 8 12 (bm 17 511) ?_
    refine pU 9 13 (bm 17 1023) ?_
    refine pU 10 14 (bm 17 2047) ?_
    refine pU 11 15 (bm 17 4095) ?_
    refine pU 12 16 (bm 17 8191) ?_
    refine pU 13 17 (bm 17 16383) ?_
    refine pU 14 18 (bm 17 32767) ?_
    refine pU 15 19 (bm 17 65535) ?_
    refine pT 16 20 (bm 17 131071) ?_
    refine done_ (done_of HT_.out (by kernel_rfl)) ?_
    try go_wp2
    go_ret
    exact ⟨fT, bT⟩
end Go.Proofs.YtgmolmpfihkolaaGreat.Pj
namespace Go.Proofs.YtgmolmpfihkolaaGreat
open Go.RowKit Go.Proofs.YtgmolmpfihkolaaGreatW.PrintWords Go.Proofs.YtgmolmpfihkolaaGreat.Pj
set_option linter.unusedVariables false
set_option maxRecDepth 100000
abbrev PK := S80
abbrev PP := S71
def kc (p q : PK) : Int := cmpRow (rOf p.f1) (rOf q.f1)
theorem kc_neg (p q : PK) : kc q p = - kc p q := cmpRow_neg _ _
theorem kc_trans (p q r : PK) (h1 : kc p q ≤ 0) (h2 : kc q r ≤ 0) : kc p r ≤ 0 := cmpRow_trans _ _ _ h1 h2
def meetOf (ys : List PK) (p : PK) : List PP := (ys.filter (fun q => kc p q == 0)).map (fun q => ⟨p.f0, q.f0⟩)
def pairsOf (xs ys : List PK) : List PP := xs.flatMap (meetOf ys)
def SortedK (l : List PK) : Prop := l.Pairwise (fun p q => ¬ kc q p < 0)
theorem SortedK.le {x : PK} {l : List PK} (h : SortedK (x :: l)) {y : PK} (hy : y ∈ l) : kc x y ≤ 0 := by
 have := (List.pairwise_cons.1 h).1 y hy
 have e := kc_neg x y
 omega
theorem meet_none {ys : List PK} {p : PK} (h : ∀ q ∈ ys, kc p q ≠ 0) : meetOf ys p = [] := by
 unfold meetOf
 rw [List.filter_eq_nil_iff.2 (fun q hq => by simpa using h q hq)]; rfl
theorem pairs_lt {x y : PK} {xs ys : List PK} (h : kc x y < 0) (hy : SortedK (y :: ys)) : pairsOf (x :: xs) (y :: ys) = pairsOf xs (y :: ys) := by
 unfold pairsOf
 rw [List.flatMap_cons, meet_none (fun q hq => ?_)]
 ·rfl
 ·rcases List.mem_cons.1 hq with e | hq
  ·rw [e]; omega
  ·have h1 := hy.le hq
   intro e
   have h2 := kc_trans y q x h1 (by have := kc_neg x q; omega)
   have := kc_neg x y
   omega
theorem pairs_gt {x y : PK} {xs ys : List PK} (h : 0 < kc x y) (hx : SortedK (x :: xs)) : pairsOf (x :: xs) (y :: ys) = pairsOf (x :: xs) ys := by
 have hp : ∀ p ∈ x :: xs, kc p y ≠ 0 := by
  intro p hp e
  rcases List.mem_cons.1 hp with e' | hp
  ·rw [e'] at e; omega
  ·have h1 := hx.le hp
   have h2 := kc_trans x p y h1 (by omega)
   omega
 unfold pairsOf
 rw [List.flatMap_def, List.flatMap_def]
 congr 1
 refine List.map_congr_left (fun p hpm => ?_)
 unfold meetOf
 rw [List.filter_cons_of_neg (by simpa using hp p hpm)]
theorem meet_append (a b : List PK) (p : PK) : meetOf (a ++ b) p = meetOf a p ++ meetOf b p := by
 unfold meetOf; rw [List.filter_append, List.map_append]
theorem meet_all {ys : List PK} {p : PK} (h : ∀ q ∈ ys, kc p q = 0) : meetOf ys p = ys.map (fun q => ⟨p.f0, q.f0⟩) := by
 unfold meetOf
 rw [List.filter_eq_self.2 (fun q hq => by simpa using h q hq)]
def cross (xs ys : List PK) : List PP := xs.flatMap (fun p => ys.map (fun q => ⟨p.f0, q.f0⟩))
theorem pairs_eq {x y : PK} {X1 X2 Y1 Y2 : List PK} (h : kc x y = 0) (hx : ∀ p ∈ X1, kc p x = 0) (hx2 : ∀ p ∈ X2, 0 < kc p x) (hy : ∀ q ∈ Y1, kc q y = 0) (hy2 : ∀ q ∈ Y2, 0 < kc q y) :
 pairsOf (X1 ++ X2) (Y1 ++ Y2) = cross X1 Y1 ++ pairsOf X2 Y2 := by
 have a1 : ∀ p ∈ X1, meetOf (Y1 ++ Y2) p = Y1.map (fun q => ⟨p.f0, q.f0⟩) := by
  intro p hp
  have hpx := hx p hp
  have hpy : kc p y ≤ 0 ∧ kc y p ≤ 0 := ⟨kc_trans p x y (by omega) (by omega), kc_trans y x p (by have := kc_neg x y; omega) (by have := kc_neg p x; omega)⟩
  rw [meet_append, meet_none (ys := Y2) (fun q hq e => ?_), meet_all (fun q hq => ?_), List.append_nil]
  ·have hq1 := hy q hq
   have t1 := kc_trans p y q hpy.1 (by have := kc_neg q y; omega)
   have t2 := kc_trans q y p (by omega) hpy.2
   have := kc_neg p q
   omega
  ·have hq2 := hy2 q hq
   have t1 := kc_trans q p y (by have := kc_neg p q; omega) hpy.1
   omega
 have a2 : ∀ p ∈ X2, meetOf (Y1 ++ Y2) p = meetOf Y2 p := by
  intro p hp
  have hpx := hx2 p hp
  rw [meet_append, meet_none (ys := Y1) (fun q hq e => ?_), List.nil_append]
  have hq1 := hy q hq
  have t1 := kc_trans p q y (by omega) (by omega)
  have t2 := kc_trans p y x t1 (by have := kc_neg x y; omega)
  omega
 unfold pairsOf cross
 rw [List.flatMap_append]
 congr 1
 ·rw [List.flatMap_def, List.flatMap_def]
  congr 1
  exact List.map_congr_left a1
 ·rw [List.flatMap_def, List.flatMap_def]
  congr 1
  exact List.map_congr_left a2
def SameN (l : List PK) (n : Nat) : Prop := 1 ≤ n ∧ n ≤ l.length ∧ (∀ i, i < n → kc (l.getD i z80) (l.getD 0 z80) = 0) ∧ (n = l.length ∨ kc (l.getD n z80) (l.getD 0 z80) ≠ 0)
def WfK (l : List PK) : Prop := ∀ p ∈ l, wfR p.f1 = true
theorem getD_mem {l : List PK} {i : Nat} (h : i < l.length) (z : PK) : l.getD i z ∈ l := by
 rw [List.getD_eq_getElem?_getD, List.getElem?_eq_getElem h]; exact List.getElem_mem h
theorem same_go (l : List PK) (hw : WfK l) (hl : l.length < 4611686018427387904) : ∀ (k i : Nat), 1 ≤ i → i ≤ l.length → l.length < k + i → (∀ j, j < i → kc (l.getD j z80) (l.getD 0 z80) = 0) → ∃ n : Nat, joins_same.l0 k l (i : Int) = some (n : Int) ∧ SameN l n
 | 0, i, h1, h2, h3, _ => by omega
 | k + 1, i, h1, h2, h3, h4 => by
  rw [joins_same.l0]
  by_cases hi : i < l.length
  ·rw [if_pos (by omega), if_pos (by omega), if_pos (by omega)]
   have e : row_Cmp.f (rd_T80 l (i : Int)).f1 (rd_T80 l 0).f1 = some (kc (l.getD i z80) (l.getD 0 z80)) := by
    unfold row_Cmp.f rowF rd_T80
    rw [hw _ (getD_mem (by simpa using hi) _), hw _ (getD_mem (by simp; omega) _)]
    simp [kc]
   rw [e, Option.bind_some]
   by_cases hz : kc (l.getD i z80) (l.getD 0 z80) = 0
   ·rw [if_pos hz, show wrap64 ((i : Int) + 1) = ((i + 1 : Nat) : Int) by unfold wrap64; omega]
    refine same_go l hw hl k (i + 1) (by omega) (by omega) (by omega) (fun j hj => ?_)
    by_cases e : j = i
    ·rw [e]; exact hz
    ·exact h4 j (by omega)
   ·rw [if_neg hz]
    exact ⟨i, rfl, h1, h2, h4, Or.inr hz⟩
  ·rw [if_neg (by omega)]
   exact ⟨i, rfl, h1, h2, h4, Or.inl (by omega)⟩
theorem same_f (l : List PK) (hw : WfK l) (hl : l.length < 4611686018427387904) (h0 : 0 < l.length) : ∃ n : Nat, joins_same.f (l.length + 1) l = some (n : Int) ∧ SameN l n := by
 obtain ⟨n, h1, h2⟩ := same_go l hw hl (l.length + 1) 1 (Nat.le_refl _) h0 (by omega) (fun j hj => by
  obtain rfl : j = 0 := by omega
  have := kc_neg (l.getD 0 z80) (l.getD 0 z80)
  omega)
 exact ⟨n, h1, h2⟩
theorem SameN.parts {l : List PK} {n : Nat} (h : SameN l n) (hs : SortedK l) : (∀ p ∈ l.take n, kc p (l.getD 0 z80) = 0) ∧ (∀ p ∈ l.drop n, 0 < kc p (l.getD 0 z80)) := by
 obtain ⟨h1, h2, h3, h4⟩ := h
 refine ⟨fun p hp => ?_, fun p hp => ?_⟩
 ·obtain ⟨i, hi, e⟩ := List.mem_iff_getElem.1 hp
  rw [List.length_take] at hi
  have := h3 i (by omega)
  rw [List.getD_eq_getElem?_getD, List.getElem?_eq_getElem (by omega)] at this
  rw [← e, List.getElem_take]
  exact this
 ·obtain ⟨i, hi, e⟩ := List.mem_iff_getElem.1 hp
  rw [List.length_drop] at hi
  rw [List.getElem_drop] at e
  have hz := List.pairwise_iff_getElem.1 hs
  have e0 : l.getD 0 z80 = l[0] := by rw [List.getD_eq_getElem?_getD, List.getElem?_eq_getElem (by omega)]; rfl
  have en : l.getD n z80 = l[n] := by rw [List.getD_eq_getElem?_getD, List.getElem?_eq_getElem (by omega)]; rfl
  rw [e0, en] at h4
  rw [e0]
  have g1 := hz 0 n (by omega) (by omega) (by omega)
  have g0 : 0 < kc l[n] l[0] := by rcases h4 with h4 | h4 <;> omega
  by_cases ei : i = 0
  ·subst ei
   have e' : l[n] = p := by simpa using e
   rw [← e']; exact g0
  ·have g2 := hz n (n + i) (by omega) (by omega) (by omega)
   rw [e] at g2
   have t := kc_neg l[n] p
   have t2 := kc_neg p l[0]
   refine Decidable.byContradiction fun hc => ?_
   have := kc_trans l[n] p l[0] (by omega) (by omega)
   omega
theorem SortedK.drop {l : List PK} (h : SortedK l) (n : Nat) : SortedK (l.drop n) := h.sublist (List.drop_sublist _ _)
theorem WfK.drop {l : List PK} (h : WfK l) (n : Nat) : WfK (l.drop n) := fun p hp => h p (List.mem_of_mem_drop hp)
theorem pairs_step {x y : PK} {xs ys : List PK} {n m : Nat} (h : kc x y = 0) (hx : SortedK (x :: xs)) (hy : SortedK (y :: ys)) (hn : SameN (x :: xs) n) (hm : SameN (y :: ys) m) :
 pairsOf (x :: xs) (y :: ys) = cross ((x :: xs).take n) ((y :: ys).take m) ++ pairsOf ((x :: xs).drop n) ((y :: ys).drop m) := by
 obtain ⟨a1, a2⟩ := hn.parts hx
 obtain ⟨b1, b2⟩ := hm.parts hy
 have := pairs_eq (x := x) (y := y) (X1 := (x :: xs).take n) (X2 := (x :: xs).drop n) (Y1 := (y :: ys).take m) (Y2 := (y :: ys).drop m) h a1 a2 b1 b2
 rw [List.take_append_drop, List.take_append_drop] at this
 exact this
end Go.Proofs.YtgmolmpfihkolaaGreat
namespace Go.Proofs.YtgmolmpfihkolaaGreat
open Go.RowKit
set_option linter.unusedVariables false
set_option maxRecDepth 100000
abbrev E2 := Value × Value
instance : Inhabited E2 := ⟨(undef, undef)⟩
structure RestW (w0 : World) (blk : Nat) (W : World) : Prop where
 os : W.os = w0.os
 tape : W.tape = w0.tape
 output : W.output = w0.output
 size : w0.heap.size ≤ W.heap.size
 block : ∀ b, b < w0.heap.size → b ≠ blk → W.heap[b]? = w0.heap[b]?
theorem RestW.refl (w : World) (blk : Nat) : RestW w blk w := ⟨rfl, rfl, rfl, Nat.le_refl _, fun _ _ _ => rfl⟩
theorem RestW.below {w0 W W' : World} {blk : Nat} (h : RestW w0 blk W) (hb : Below W.heap.size W W') : RestW w0 blk W' :=
 ⟨hb.os.trans h.os, hb.tape.trans h.tape, hb.output.trans h.output, Nat.le_trans h.size hb.size, fun b hl hn => (hb.block b (Nat.lt_of_lt_of_le hl h.size)).trans (h.block b hl hn)⟩
theorem heap_set_other (W : World) (a : Addr) (v : Value) (b : Nat) (h : b ≠ a.block) : (W.setCell a v).heap[b]? = W.heap[b]? := Below.heap_setCell W a v b h
theorem RestW.set {w0 W : World} {blk : Nat} (h : RestW w0 blk W) (o : Nat) (v : Value) : RestW w0 blk (W.setCell ⟨blk, o, none⟩ v) :=
 ⟨h.os, h.tape, h.output, by simpa [World.setCell] using h.size, fun b hl hn => (heap_set_other W _ v b hn).trans (h.block b hl hn)⟩
def HoldsE (W : World) (blk tag sz : Nat) (dk : List E2) : Prop :=
 ∃ cur : Array Value, W.heap[blk]? = some (.cells cur tag (0, 0)) ∧ cur.size = sz ∧ dk.length * 2 ≤ sz ∧ ∀ (i : Nat) (x : E2), dk[i]? = some x → (cur[i * 2]? = some x.1 ∧ cur[i * 2 + 1]? = some x.2) ∧ x.1.oneCell' = true ∧ x.2.oneCell' = true
def SortW (w0 : World) (blk tag sz : Nat) (dk : List E2) (W : World) : Prop := HoldsE W blk tag sz dk ∧ RestW w0 blk W ∧ blk < w0.heap.size
theorem SortW.below {w0 W W' : World} {blk tag sz : Nat} {dk : List E2} (h : SortW w0 blk tag sz dk W) (hb : Below W.heap.size W W') : SortW w0 blk tag sz dk W' := by
 obtain ⟨⟨cur, h1, h2⟩, h3, h4⟩ := h
 exact ⟨⟨cur, (hb.block blk (Nat.lt_of_lt_of_le h4 h3.size)).trans h1, h2⟩, h3.below hb, h4⟩
theorem SortW.drew {w0 W : World} {blk tag sz : Nat} {dk : List E2} (h : SortW w0 blk tag sz dk W) : SortW w0 blk tag sz dk W.drew := h.below (Below.refl _ _).drew
theorem SortW.cells {w0 W : World} {blk tag sz : Nat} {dk : List E2} (h : SortW w0 blk tag sz dk W) {i : Nat} {x : E2} (hi : dk[i]? = some x) :
 W.cell? ⟨blk, i * 2, none⟩ = some x.1 ∧ W.cell? ⟨blk, i * 2 + 1, none⟩ = some x.2 ∧ W.frozen? ⟨blk, i * 2, none⟩ = false ∧ W.frozen? ⟨blk, i * 2 + 1, none⟩ = false := by
 obtain ⟨⟨cur, h1, _, _, h2⟩, _, _⟩ := h
 obtain ⟨⟨a, b⟩, _⟩ := h2 i x hi
 refine ⟨?_, ?_, ?_, ?_⟩
 ·simp only [World.cell?]; rw [h1]; simpa using a
 ·simp only [World.cell?]; rw [h1]; simpa using b
 ·simp only [World.frozen?]; rw [h1]; simp
 ·simp only [World.frozen?]; rw [h1]; simp
theorem SortW.one {w0 W : World} {blk tag sz : Nat} {dk : List E2} (h : SortW w0 blk tag sz dk W) {i : Nat} {x : E2} (hi : dk[i]? = some x) : x.1.oneCell' = true ∧ x.2.oneCell' = true := by
 obtain ⟨⟨cur, h1, _, _, h2⟩, _, _⟩ := h
 exact (h2 i x hi).2
theorem SortW.set {w0 W : World} {blk tag sz : Nat} {dk : List E2} (h : SortW w0 blk tag sz dk W) {i : Nat} (hi : i < dk.length) (x : E2) (hx : x.1.oneCell' = true ∧ x.2.oneCell' = true) :
 SortW w0 blk tag sz (dk.set i x) ((W.setCell ⟨blk, i * 2, none⟩ x.1).setCell ⟨blk, i * 2 + 1, none⟩ x.2) := by
 obtain ⟨⟨cur, h1, h2, h3, h4⟩, h5, h6⟩ := h
 refine ⟨⟨(cur.setIfInBounds (i * 2) x.1).setIfInBounds (i * 2 + 1) x.2, ?_, by simpa using h2, by simpa using h3, fun j y hj => ?_⟩, (h5.set _ _).set _ _, h6⟩
 ·simp only [World.setCell]
  rw [Array.getElem?_modify, if_pos rfl, Array.getElem?_modify, if_pos rfl, h1]
  simp
 ·have hjl : j < dk.length := by have := (List.getElem?_eq_some_iff.1 hj).1; simpa using this
  by_cases e : j = i
  ·subst e
   rw [List.getElem?_set_self hi] at hj
   cases hj
   refine ⟨⟨?_, ?_⟩, hx⟩
   ·rw [Array.getElem?_setIfInBounds_ne (by omega), Array.getElem?_setIfInBounds_self]
    rw [if_pos (by omega)]
   ·rw [Array.getElem?_setIfInBounds_self, if_pos (by simp; omega)]
  ·rw [List.getElem?_set_ne (by omega)] at hj
   obtain ⟨⟨a, b⟩, c⟩ := h4 j y hj
   refine ⟨⟨?_, ?_⟩, c⟩
   ·rw [Array.getElem?_setIfInBounds_ne (by omega), Array.getElem?_setIfInBounds_ne (by omega)]; exact a
   ·rw [Array.getElem?_setIfInBounds_ne (by omega), Array.getElem?_setIfInBounds_ne (by omega)]; exact b
def swpE (dk : List E2) (i j : Nat) : List E2 := (dk.set i dk[j]!).set j dk[i]!
theorem swpE_length (dk : List E2) (i j : Nat) : (swpE dk i j).length = dk.length := by unfold swpE; simp
theorem E2.get! {dk : List E2} {i : Nat} (hi : i < dk.length) : dk[i]? = some dk[i]! := by
 rw [List.getElem?_eq_getElem hi, List.getElem!_eq_getElem?_getD, List.getElem?_eq_getElem hi]; rfl
theorem SortW.swap {w0 W : World} {blk tag sz : Nat} {dk : List E2} (h : SortW w0 blk tag sz dk W) {i j : Nat} (hi : i < dk.length) (hj : j < dk.length) :
 SortW w0 blk tag sz (swpE dk i j) ((((W.setCell ⟨blk, i * 2, none⟩ dk[j]!.1).setCell ⟨blk, i * 2 + 1, none⟩ dk[j]!.2).setCell ⟨blk, j * 2, none⟩ dk[i]!.1).setCell ⟨blk, j * 2 + 1, none⟩ dk[i]!.2) :=
 (h.set hi dk[j]! (h.one (E2.get! hj))).set (by simpa using hj) dk[i]! (h.one (E2.get! hi))
def swapR (d : List E2) (a b : Nat) : Nat → List E2
 | 0 => d
 | n + 1 => swpE (swapR d a b n) (a + n) (b + n)
theorem swapR_length (d : List E2) (a b : Nat) : ∀ n, (swapR d a b n).length = d.length
 | 0 => rfl
 | n + 1 => by rw [swapR, swpE_length, swapR_length d a b n]
set_option maxHeartbeats 2000000 in
theorem swapRange_any (F : Value) (blk tag sz cap a b n : Nat) (d : List E2) (w0 w : World) (hS : SortW w0 blk tag sz d w) (hab : a + n ≤ b) (hb : b + n ≤ d.length) (hl : d.length < 1099511627776) :
 Calls Tryz.prog 140 #[.slice (some ⟨blk, 0, none⟩) d.length cap, .int .i64 a, .int .i64 b, .int .i64 n, F] w fun e w' => e = .returned (.tuple #[]) ∧ SortW w0 blk tag sz (swapR d a b n) w' := by
 have HS := hdq hS
 obtain ⟨len, hlen⟩ : ∃ len, len = d.length := ⟨_, rfl⟩
 have HLEN := hdq hlen
 rw [← hlen] at hb hl ⊢
 clear hS hlen
 go_enter Tryz.func140, Tryz.ntmps140
 go_wp2
 go_loopw [10] (fun i wr => ∃ k : Nat, i = .int .i64 k ∧ k ≤ n ∧ Hid (SortW w0 blk tag sz (swapR d a b k) wr)) (fun i _ => n - (intOf i).toNat)
 case atStart => exact ⟨0, rfl, Nat.zero_le _, HS⟩
 case round =>
  obtain ⟨k, rfl, hk, HW⟩ := hrel
  by_cases hlt : k < n
  ·obtain ⟨dk, hdk⟩ : ∃ dk, dk = swapR d a b k := ⟨_, rfl⟩
   have hdl : dk.length = len := by rw [hdk, swapR_length, HLEN.out]
   have hW := HW.out
   rw [← hdk] at hW
   obtain ⟨x, hx⟩ : ∃ x, x = dk[a + k]! := ⟨_, rfl⟩
   obtain ⟨y, hy⟩ : ∃ y, y = dk[b + k]! := ⟨_, rfl⟩
   obtain ⟨c1, c2, f1, f2⟩ := hW.cells (E2.get! (i := a + k) (by omega))
   obtain ⟨c3, c4, f3, f4⟩ := hW.cells (E2.get! (i := b + k) (by omega))
   have o1 := hW.one (E2.get! (i := a + k) (by omega))
   have o2 := hW.one (E2.get! (i := b + k) (by omega))
   have HSW := hdq (hW.swap (i := a + k) (j := b + k) (by omega) (by omega)).drew
   rw [← hx] at c1 c2 o1 HSW
   rw [← hy] at c3 c4 o2 HSW
   have hnx : swpE dk (a + k) (b + k) = swapR d a b (k + 1) := by rw [swapR, ← hdk]
   rw [hnx] at HSW
   obtain ⟨x0, x1⟩ := x
   obtain ⟨y0, y1⟩ := y
   simp only at c1 c2 c3 c4 o1 o2 HSW
   have sx0 : ∀ (W : World) (p : Addr) (m : Mode), (store p x0 m).run Tryz.prog W = stored Tryz.prog W p x0 m := fun W p m => run_store Tryz.prog W p x0 m o1.1
   have sx1 : ∀ (W : World) (p : Addr) (m : Mode), (store p x1 m).run Tryz.prog W = stored Tryz.prog W p x1 m := fun W p m => run_store Tryz.prog W p x1 m o1.2
   have sy0 : ∀ (W : World) (p : Addr) (m : Mode), (store p y0 m).run Tryz.prog W = stored Tryz.prog W p y0 m := fun W p m => run_store Tryz.prog W p y0 m o2.1
   have sy1 : ∀ (W : World) (p : Addr) (m : Mode), (store p y1 m).run Tryz.prog W = stored Tryz.prog W p y1 m := fun W p m => run_store Tryz.prog W p y1 m o2.2
   clear o1 o2
   have ea : ((a : Int) + (k : Int)).toNat = a + k := by omega
   have pa : (0 : Int) ≤ (a : Int) + (k : Int) := by omega
   have ba : (a : Int) + (k : Int) < (len : Int) := by omega
   have ra : IntKind.i64.wrap ((a : Int) + (k : Int)) = (a : Int) + (k : Int) := by rw [IntKind.wrap_i64]; omega
   have ec : ((b : Int) + (k : Int)).toNat = b + k := by omega
   have pc : (0 : Int) ≤ (b : Int) + (k : Int) := by omega
   have bc : (b : Int) + (k : Int) < (len : Int) := by omega
   have rc : IntKind.i64.wrap ((b : Int) + (k : Int)) = (b : Int) + (k : Int) := by rw [IntKind.wrap_i64]; omega
   have ne1 : ¬ (a + k) * 2 = (b + k) * 2 := by omega
   have ne2 : ¬ (a + k) * 2 + 1 = (b + k) * 2 := by omega
   have ne3 : ¬ (a + k) * 2 = (b + k) * 2 + 1 := by omega
   have ne4 : ¬ (a + k) * 2 + 1 = (b + k) * 2 + 1 := by omega
   clear hx hy hdk hdl hW hnx
   go_wp2_with fail
   go_big_region
   go_wp2
   go_roundw
   case rel => exact ⟨k + 1, by go_num, by omega, HSW⟩
   case measure => simp [intOf]; omega
  ·obtain rfl : k = n := by omega
   go_wp2
   go_end0
   exact ⟨rfl, HW.out⟩
end Go.Proofs.YtgmolmpfihkolaaGreat
