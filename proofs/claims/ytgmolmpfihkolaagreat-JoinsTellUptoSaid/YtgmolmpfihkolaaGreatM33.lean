/- tabularylaw27.JoinsTell returns true and leaves what came in as it was, whatever came in, where what it reads is of bulk at most 1048576. -/
import Derived.Test.YtgmolmpfihkolaaGreatM32
import Derived.ShutString
import Derived.ChangeOld
import Derived.JoinedCond
namespace Go.Proofs.YtgmolmpfihkolaaGreat
open Go.RowKit Go.Proofs.YtgmolmpfihkolaaGreat.Pj Go.Proofs.YtgmolmpfihkolaaGreatW.PrintWords
set_option linter.unusedVariables false
set_option maxRecDepth 100000
theorem C_block {α : Type} {d : Kd α} {W : World} {g : Nat} {cs : Array Value} {e : TypeId} {xs : List α} {inner : List Value} (hb : W.heap[g]? = some (.cells cs e (0, 0))) (hi : cs.toList = inner) (hr : Reps (d.K W) d.sz xs inner) (hm : xs.length ≤ 9223372036854775807) : d.C W (some ⟨g, 0, none⟩) xs.length xs := by
 refine ⟨rfl, hm, fun _ => ⟨⟨g, 0, none⟩, rfl, fun j p hj => ⟨_, d.K_len (hr.2 j p hj), hr.2 j p hj, fun i u hu => ?_⟩⟩⟩
 rw [List.getElem?_take] at hu
 split at hu
 ·rw [List.getElem?_drop] at hu
  rw [add_plain, blk_cell hb, ← Array.getElem?_toList, hi]
  exact hu
 ·cases hu
theorem run_make2 (W : World) : (Instr.makeSlice 22 (.int .i64 2) (.int .i64 2)).run Tryz.prog W = .ok (.slice (some ⟨W.heap.size, 0, none⟩) 2 2) (W.alloc (.cells #[.slice none 0 0, .slice none 0 0] 29)) := by
 have h := print_make_of 22 29 _ 24 Tryz.underlying22 info29 rfl (by decide) 2 (by decide) W
 have e : madeCells #[Value.slice none 0 0] 2 = #[.slice none 0 0, .slice none 0 0] := by kernel_rfl
 rw [e] at h
 exact h
attribute [local go_sem] run_make2 run_f64bits run_f64from run_store_float
theorem blk_newAt (W : World) (o : Obj) {g : Nat} (h : g = W.heap.size) : (W.alloc o).heap[g]? = some o := by rw [h]; exact blk_new W o
theorem Reps.c1 {α : Type} {R : α → List Value → Prop} {ps : List α} {cs : List Value} {p : α} {v : Value} (hp : R p [v]) (h : Reps R 1 ps cs) : Reps R 1 (p :: ps) (v :: cs) := Reps.front hp rfl h rfl
abbrev KT : Kd (List (List PV)) := Kd.slice 29 (Kd.slice 39 k39)
def tupT (rel : Int) (v : PV) : List (List PV) := if rel = 0 then [[v], []] else [[], [v]]
theorem tuple_any (rel : Int) (hr : rel = 0 ∨ rel = 1) (a b : Int) (c : Nat) (d : ByteArray) (w : World) : Calls Tryz.prog 31 #[.int .i64 rel, .agg #[.int .i64 a, .int .i64 b, .float .f64 c, .string d]] w fun e w' => ∃ g, e = .returned (.slice (some ⟨g, 0, none⟩) 2 2) ∧ KT.K w' (tupT rel ⟨a, b, c, d⟩) [.slice (some ⟨g, 0, none⟩) 2 2] ∧ Below w.heap.size w w' := by
 rcases hr with rfl | rfl
 ·go_enter Tryz.func31, Tryz.ntmps31
  go_wp2
  go_ret
  refine ⟨_, rfl, ⟨_, _, rfl, Nat.le_refl _, ?_⟩, ?_⟩
  ·refine C_block (d := Kd.slice 39 k39) (xs := [[(⟨a, b, c, d⟩ : PV)], []]) (blk_alloc (blk_newAt _ _ (by simp)) _) rfl (Reps.c1 ⟨_, _, rfl, Nat.le_refl _, ?_⟩ (Reps.c1 ⟨_, _, rfl, Nat.le_refl _, Kd.C_nil _ _⟩ (Reps.none _ _))) (by simp)
   exact C_block (d := k39) (xs := [(⟨a, b, c, d⟩ : PV)]) (blk_newAt _ _ (by simp)) rfl (Reps.c4 (k39_mk _ (⟨a, b, c, d⟩ : PV)) (Reps.none _ _)) (by simp)
  ·exact below_alloc (below_alloc (below_alloc (Below.refl _ _) _) _) _
 ·go_enter Tryz.func31, Tryz.ntmps31
  go_wp2
  go_ret
  refine ⟨_, rfl, ⟨_, _, rfl, Nat.le_refl _, ?_⟩, ?_⟩
  ·refine C_block (d := Kd.slice 39 k39) (xs := [[], [(⟨a, b, c, d⟩ : PV)]]) (blk_alloc (blk_newAt _ _ (by simp)) _) rfl (Reps.c1 ⟨_, _, rfl, Nat.le_refl _, Kd.C_nil _ _⟩ (Reps.c1 ⟨_, _, rfl, Nat.le_refl _, ?_⟩ (Reps.none _ _))) (by simp)
   exact C_block (d := k39) (xs := [(⟨a, b, c, d⟩ : PV)]) (blk_newAt _ _ (by simp)) rfl (Reps.c4 (k39_mk _ (⟨a, b, c, d⟩ : PV)) (Reps.none _ _)) (by simp)
  ·exact below_alloc (below_alloc (below_alloc (Below.refl _ _) _) _) _
theorem f_exp (c : Nat) (w : World) : Calls Tryz.prog 32 #[.float .f64 c] w fun e w' => e = .returned (.agg #[.int .i64 3, .int .i64 0, .float .f64 c, .string ⟨#[]⟩]) ∧ Below w.heap.size w w' := by
 have HB := hdq ((Boxes.nil w).alloc (by simp) Val.null 39)
 go_enter Tryz.func32, Tryz.ntmps32
 go_wp2
 exact ret_val Tryz.results32 rfl rfl (LiesV.new w (⟨3, 0, c, ⟨#[]⟩⟩ : Val) _) ⟨rfl, (Below.refl _ w).alloc (Nat.le_refl _) _⟩
theorem NaN_any (w : World) : Calls Tryz.prog 34 #[] w fun e w' => e = .returned (.float .f64 9221120237041090561) ∧ w = w' := by
 go_enter Tryz.func34, Tryz.ntmps34
 go_wp2
 go_ret
 exact ⟨rfl, rfl⟩
theorem Copysign_zero (w : World) : Calls Tryz.prog 33 #[.float .f64 0, .float .f64 13830554455654793216] w fun e w' => e = .returned (.float .f64 9223372036854775808) ∧ w = w' := by
 go_enter Tryz.func33, Tryz.ntmps33
 go_wp2
 go_ret
 exact ⟨rfl, rfl⟩
end Go.Proofs.YtgmolmpfihkolaaGreat
namespace Go.Proofs.YtgmolmpfihkolaaGreat
open Go.RowKit Go.Proofs.YtgmolmpfihkolaaGreat.Pj
set_option maxRecDepth 100000
abbrev eV : ByteArray := ⟨#[]⟩
abbrev v1 : PV := ⟨2, 1, 0, eV⟩
abbrev v2 : PV := ⟨2, 2, 0, eV⟩
abbrev v3 : PV := ⟨2, 3, 0, eV⟩
abbrev vN : PV := ⟨0, 0, 0, eV⟩
abbrev vP : PV := ⟨3, 0, 0, eV⟩
abbrev vM : PV := ⟨3, 0, 9223372036854775808, eV⟩
abbrev vX : PV := ⟨3, 0, 9221120237041090561, eV⟩
abbrev TA : List (List (List PV)) := [tupT 0 v1, tupT 0 v2, tupT 0 v2, tupT 0 vN, tupT 0 vM, tupT 0 vX]
abbrev TB : List (List (List PV)) := [tupT 1 v2, tupT 1 v3, tupT 1 vN, tupT 1 vP, tupT 1 vX]
abbrev LA : List PE := [⟨1, 0, 0, vN, []⟩]
abbrev LB : List PE := [⟨1, 1, 0, vN, []⟩]
abbrev TX : List (List (List PV)) := [[[v2], [v2]], [[v2], [v2]], [[vM], [vP]], [[vX], [vX]]]
theorem little : keyedR TA TB LA LB [] = (TX, 0) := by kernel_rfl
end Go.Proofs.YtgmolmpfihkolaaGreat
namespace Go.Proofs.YtgmolmpfihkolaaGreat
open Go.RowKit Go.Proofs.YtgmolmpfihkolaaGreat.Pj Go.Proofs.YtgmolmpfihkolaaGreatW.PrintWords
set_option linter.unusedVariables false
set_option maxRecDepth 100000
def HdT (w0 W : World) (l : List (Value × List (List PV))) : Prop := Below w0.heap.size w0 W ∧ ∀ p ∈ l, KT.K W p.2 [p.1]
theorem HdT.step {w0 W W' : World} {l : List (Value × List (List PV))} (h : HdT w0 W l) (hb : Below W.heap.size W W') : HdT w0 W' l := ⟨h.1.trans (hb.mono h.1.size), fun p hp => KT.K_below hb (h.2 p hp)⟩
theorem HdT.add {w0 W W' : World} {l : List (Value × List (List PV))} {v : Value} {t : List (List PV)} (h : HdT w0 W l) (hk : KT.K W' t [v]) (hb : Below W.heap.size W W') : HdT w0 W' ((v, t) :: l) := by
 obtain ⟨h1, h2⟩ := h.step hb
 refine ⟨h1, fun p hp => ?_⟩
 rcases List.mem_cons.1 hp with rfl | hp
 ·exact hk
 ·exact h2 p hp
theorem HdT.start (w : World) : HdT w w [] := ⟨Below.refl _ _, fun p hp => by cases hp⟩
def HdR (w0 W : World) (a b l r : Nat) : Prop := Below w0.heap.size w0 W ∧ Kd.C KT W (some ⟨a, 0, none⟩) 6 TA ∧ Kd.C KT W (some ⟨b, 0, none⟩) 5 TB ∧ Kd.C k53 W (some ⟨l, 0, none⟩) 1 LA ∧ Kd.C k53 W (some ⟨r, 0, none⟩) 1 LB
theorem HdR.step {w0 W W' : World} {a b l r : Nat} (h : HdR w0 W a b l r) (hb : Below W.heap.size W W') : HdR w0 W' a b l r := ⟨h.1.trans (hb.mono h.1.size), Kd.C_below h.2.1 hb, Kd.C_below h.2.2.1 hb, Kd.C_below h.2.2.2.1 hb, Kd.C_below h.2.2.2.2 hb⟩
def RowA (w0 W : World) (a : Nat) : Prop := Below w0.heap.size w0 W ∧ Kd.C KT W (some ⟨a, 0, none⟩) 6 TA
theorem HdT.rowA {w W : World} {x1 x2 x3 x4 x5 x6 : Value} (h : HdT w W [(x6, tupT 0 vX), (x5, tupT 0 vM), (x4, tupT 0 vN), (x3, tupT 0 v2), (x2, tupT 0 v2), (x1, tupT 0 v1)]) : RowA w (W.alloc (.cells #[x1, x2, x3, x4, x5, x6] 22)) W.heap.size := by
 have h2 := h.step (below_new W (.cells #[x1, x2, x3, x4, x5, x6] 22))
 refine ⟨h2.1, C_block (d := KT) (xs := TA) (blk_new _ _) rfl ?_ (by decide)⟩
 refine Reps.c1 (h2.2 (x1, tupT 0 v1) (by simp)) (Reps.c1 (h2.2 (x2, tupT 0 v2) (by simp)) (Reps.c1 (h2.2 (x3, tupT 0 v2) (by simp)) (Reps.c1 (h2.2 (x4, tupT 0 vN) (by simp)) (Reps.c1 (h2.2 (x5, tupT 0 vM) (by simp)) (Reps.c1 (h2.2 (x6, tupT 0 vX) (by simp)) (Reps.none _ _))))))
theorem HdR.mk {w0 wa W : World} {ga : Nat} {x1 x2 x3 x4 x5 : Value} (hA : RowA w0 wa ga) (h : HdT wa W [(x5, tupT 1 vX), (x4, tupT 1 vP), (x3, tupT 1 vN), (x2, tupT 1 v3), (x1, tupT 1 v2)]) :
 HdR w0 (((W.alloc (.cells #[x1, x2, x3, x4, x5] 22)).alloc (.cells #[.int .i64 1, .int .i64 0, .int .i64 0, .int .i64 0, .int .i64 0, .float .f64 0, .string ⟨#[]⟩, .slice none 0 0] 53)).alloc (.cells #[.int .i64 1, .int .i64 1, .int .i64 0, .int .i64 0, .int .i64 0, .float .f64 0, .string ⟨#[]⟩, .slice none 0 0] 53)) ga W.heap.size (W.heap.size + 1) (W.heap.size + 1 + 1) := by
 obtain ⟨o1, h1⟩ : ∃ o, o = Obj.cells #[x1, x2, x3, x4, x5] 22 := ⟨_, rfl⟩
 obtain ⟨o2, h2⟩ : ∃ o, o = Obj.cells #[.int .i64 1, .int .i64 0, .int .i64 0, .int .i64 0, .int .i64 0, .float .f64 0, .string ⟨#[]⟩, .slice none 0 0] 53 := ⟨_, rfl⟩
 obtain ⟨o3, h3⟩ : ∃ o, o = Obj.cells #[.int .i64 1, .int .i64 1, .int .i64 0, .int .i64 0, .int .i64 0, .float .f64 0, .string ⟨#[]⟩, .slice none 0 0] 53 := ⟨_, rfl⟩
 rw [← h1, ← h2, ← h3]
 have hb : Below W.heap.size W (((W.alloc o1).alloc o2).alloc o3) := below_alloc (below_alloc (below_alloc (Below.refl _ _) _) _) _
 have hs := h.step hb
 have hA2 := hs.1
 refine ⟨hA.1.trans (hA2.mono hA.1.size), Kd.C_below hA.2 hA2, ?_, ?_, ?_⟩
 ·refine C_block (d := KT) (xs := TB) (blk_alloc (blk_alloc ((blk_new _ _).trans (congrArg some h1)) _) _) rfl ?_ (by decide)
  exact Reps.c1 (hs.2 (x1, tupT 1 v2) (by simp)) (Reps.c1 (hs.2 (x2, tupT 1 v3) (by simp)) (Reps.c1 (hs.2 (x3, tupT 1 vN) (by simp)) (Reps.c1 (hs.2 (x4, tupT 1 vP) (by simp)) (Reps.c1 (hs.2 (x5, tupT 1 vX) (by simp)) (Reps.none _ _)))))
 ·exact C_block (d := k53) (xs := LA) (blk_alloc ((blk_newAt _ _ (by simp)).trans (congrArg some h2)) _) rfl (Reps.c8 (k53_mk _ (⟨1, 0, 0, vN, []⟩ : PE) (Nat.le_refl _) (Kd.C_nil _ _)) (Reps.none _ _)) (by decide)
 ·exact C_block (d := k53) (xs := LB) ((blk_newAt _ _ (by simp)).trans (congrArg some h3)) rfl (Reps.c8 (k53_mk _ (⟨1, 1, 0, vN, []⟩ : PE) (Nat.le_refl _) (Kd.C_nil _ _)) (Reps.none _ _)) (by decide)
theorem okT_of {l : List (List (List PV))} (h1 : decide (l.length ≤ 1000) = true) (h2 : l.all (fun t => wfRs t && (decide (t.length ≤ 1000) && t.all (fun r => decide (r.length ≤ 1000)))) = true) : okTups l := by
 refine ⟨of_decide_eq_true h1, fun t ht => ?_⟩
 have h := List.all_eq_true.1 h2 t ht
 simp only [Bool.and_eq_true, decide_eq_true_eq, List.all_eq_true] at h
 exact ⟨h.1, h.2.1, h.2.2⟩
theorem littleA : okTups TA := okT_of (by kernel_rfl) (by kernel_rfl)
theorem littleB : okTups TB := okT_of (by kernel_rfl) (by kernel_rfl)
theorem littleX : okTups TX := okT_of (by kernel_rfl) (by kernel_rfl)
theorem littleL : okLs LA ∧ okLs LB ∧ okLs [] := ⟨⟨by kernel_rfl, by decide⟩, ⟨by kernel_rfl, by decide⟩, ⟨by kernel_rfl, by decide⟩⟩
theorem little_both : keyedF TA TB LA LB [] = some (TX, 0) ∧ hashF TA TB LA LB [] = some (TX, 0) := by
 have h := keyed_both TA TB LA LB [] littleA littleB littleL.1 littleL.2.1 littleL.2.2 (by decide) (by decide)
 rw [little] at h
 exact h
def HdX (w0 W : World) (v : Value) (c : Nat) (g : Nat) : Prop := v = .slice (some ⟨g, 0, none⟩) 4 c ∧ 4 ≤ c ∧ Kd.R KT 22 W w0.heap.size (fun _ => True) v TX
theorem HdX.step {w0 W W' : World} {v : Value} {c g : Nat} (h : HdX w0 W v c g) (hb : Below W.heap.size W W') : HdX w0 W' v c g := ⟨h.1, h.2.1, Kd.R_below h.2.2 hb⟩
theorem HdX.of {w W : World} {v : Value} (h : Kd.R KT 22 W w.heap.size (fun _ => True) v TX) (hb : w.heap.size ≤ W.heap.size) : ∃ g c, v = .slice (some ⟨g, 0, none⟩) 4 c ∧ HdX w W v c g := by
 obtain ⟨g, c, hv, -⟩ := Kd.R_form h (by decide)
 refine ⟨g, c, hv, hv, ?_, h⟩
 subst hv
 exact (Kd.R_reads' h).2.1
theorem Hash_little {w0 W : World} {a b l r : Nat} (h : HdR w0 W a b l r) : Calls Tryz.prog 19 #[.slice (some ⟨a, 0, none⟩) 6 6, .slice (some ⟨b, 0, none⟩) 5 5, .slice (some ⟨l, 0, none⟩) 1 1, .slice (some ⟨r, 0, none⟩) 1 1, .slice none 0 0] W fun e w' => ∃ g c, e = .returned (.tuple #[.slice (some ⟨g, 0, none⟩) 4 c, .int .i64 0]) ∧ HdX W w' (.slice (some ⟨g, 0, none⟩) 4 c) c g ∧ Below W.heap.size W w' := by
 refine (Hash_any (some ⟨a, 0, none⟩) 6 TA (some ⟨b, 0, none⟩) 5 TB (some ⟨l, 0, none⟩) 1 LA (some ⟨r, 0, none⟩) 1 LB none 0 [] TX 0 W h.2.1 (Nat.le_refl _) h.2.2.1 (Nat.le_refl _) h.2.2.2.1 (Nat.le_refl _) h.2.2.2.2 (Nat.le_refl _) (Kd.C_nil _ _) (Nat.le_refl _) little_both.2).mono ?_
 rintro e w' ⟨v, rfl, hR, hb⟩
 obtain ⟨g, c, rfl, hx⟩ := HdX.of hR hb.size
 exact ⟨g, c, rfl, hx, hb⟩
theorem Merge_little {w0 W : World} {a b l r : Nat} (h : HdR w0 W a b l r) : Calls Tryz.prog 21 #[.slice (some ⟨a, 0, none⟩) 6 6, .slice (some ⟨b, 0, none⟩) 5 5, .slice (some ⟨l, 0, none⟩) 1 1, .slice (some ⟨r, 0, none⟩) 1 1, .slice none 0 0] W fun e w' => ∃ g c, e = .returned (.tuple #[.slice (some ⟨g, 0, none⟩) 4 c, .int .i64 0]) ∧ HdX W w' (.slice (some ⟨g, 0, none⟩) 4 c) c g ∧ Below W.heap.size W w' := by
 refine (Merge_any sortsP (some ⟨a, 0, none⟩) 6 TA (some ⟨b, 0, none⟩) 5 TB (some ⟨l, 0, none⟩) 1 LA (some ⟨r, 0, none⟩) 1 LB none 0 [] TX 0 W h.2.1 (Nat.le_refl _) h.2.2.1 (Nat.le_refl _) h.2.2.2.1 (Nat.le_refl _) h.2.2.2.2 (Nat.le_refl _) (Kd.C_nil _ _) (Nat.le_refl _) little_both.1).mono ?_
 rintro e w' ⟨v, rfl, hR, hb⟩
 obtain ⟨g, c, rfl, hx⟩ := HdX.of hR hb.size
 exact ⟨g, c, rfl, hx, hb⟩
theorem Same_little {w1 w2 W : World} {v u : Value} {c d g k : Nat} (h : HdX w1 W (.slice (some ⟨g, 0, none⟩) 4 c) c g) (h2 : HdX w2 W (.slice (some ⟨k, 0, none⟩) 4 d) d k) : Calls Tryz.prog 18 #[.slice (some ⟨g, 0, none⟩) 4 c, .slice (some ⟨k, 0, none⟩) 4 d] W fun e w' => e = .returned (.bool true) ∧ Below W.heap.size W w' :=
 r26_Same.calls 20000 _ _ TX _ _ TX true W (Kd.R_reads' h.2.2).2.2 (Kd.R_reads' h.2.2).2.1 (Kd.R_reads' h2.2.2).2.2 (Kd.R_reads' h2.2.2).2.1 (same_f2 TX littleX.2 (by decide) 20000 (Nat.le_refl _))
theorem R_at {α : Type} {d : Kd α} {e e' : Nat} {w : World} {base : Nat} {ok : Nat → Prop} {g n c : Nat} {xs : List (List α)} {ys : List α} (h : Kd.R (Kd.slice e' d) e w base ok (.slice (some ⟨g, 0, none⟩) n c) xs) (j : Nat) (hj : xs[j]? = some ys) : ∃ v ok', w.cell? ⟨g, j, none⟩ = some v ∧ Kd.R d e' w base ok' v ys := by
 obtain ⟨_, inner, ho, hr⟩ := h
 obtain ⟨v, hv, hR⟩ := hr.2 j ys hj
 have h0 : inner[j]? = some v := by
  have : ((inner.drop (j * 1)).take 1)[0]? = some v := by
   have hv : (inner.drop (j * 1)).take 1 = [v] := hv
   rw [hv]; rfl
  rw [List.getElem?_take] at this
  simpa using this
 have hc := ho.cells (g := g) rfl j v h0
 rw [add_plain] at hc
 exact ⟨v, _, hc, hR⟩
theorem HdX.first {w0 W : World} {v : Value} {c g : Nat} (h : HdX w0 W v c g) : ∃ g1 c1 g2 c2, W.cell? ⟨g, 0, none⟩ = some (.slice (some ⟨g1, 0, none⟩) 2 c1) ∧ W.cell? ⟨g1, 1, none⟩ = some (.slice (some ⟨g2, 0, none⟩) 1 c2) ∧ W.cell? ⟨g2, 1, none⟩ = some (.int .i64 2) := by
 obtain ⟨rfl, _, h⟩ := h
 obtain ⟨x, _, q1, h1⟩ := R_at h 0 (ys := [[v2], [v2]]) rfl
 obtain ⟨g1, c1, rfl, -⟩ := Kd.R_form h1 (by decide)
 obtain ⟨y, _, q2, h2⟩ := R_at h1 1 (ys := [v2]) rfl
 obtain ⟨g2, c2, rfl, -⟩ := Kd.R_form h2 (by decide)
 obtain ⟨ad, ea, -, q3, -⟩ := at_T39 (Kd.R_reads' h2).2.2 0 (by omega) (by simp)
 injection ea with ea
 subst ea
 rw [Int.toNat_zero, Nat.zero_mul, add_plain] at q3
 exact ⟨g1, c1, g2, c2, q1, q2, q3⟩
end Go.Proofs.YtgmolmpfihkolaaGreat
namespace Go.Proofs.YtgmolmpfihkolaaGreat.Pj
open Go.RowKit Go.Proofs.YtgmolmpfihkolaaGreatW.PrintWords Go.Proofs.YtgmolmpfihkolaaGreat
set_option linter.unusedVariables false
set_option maxRecDepth 100000
def a27_works.f : Option Bool := some true
set_option maxHeartbeats 4000000 in
theorem a27_works.calls (r : Bool) (w : World) (h : a27_works.f = some r) :
 Calls Tryz.prog 8 #[] w fun e w' => e = .returned (.bool r) ∧ Below w.heap.size w w' := by
 obtain rfl : true = r := Option.some.inj h
 clear h
 have HD := hdq (HdT.start w)
 go_enter Tryz.func8, Tryz.ntmps8
 go_wp2_with (first
  | (go_at_call 30; refine (Number_exp _ _).mono ?_; rintro e w1 ⟨rfl, hb⟩; replace HD := hdq (HD.out.step hb); clear hb)
  | (go_at_call 31; refine (tuple_any _ (by decide) _ _ _ _ _).mono ?_; rintro e w1 ⟨g, rfl, hk, hb⟩; replace HD := hdq (HD.out.add hk hb); clear hk hb)
  | (go_at_call 32; refine (f_exp _ _).mono ?_; rintro e w1 ⟨rfl, hb⟩; replace HD := hdq (HD.out.step hb); clear hb)
  | (go_at_call 34; refine (NaN_any _).mono ?_; rintro e w1 ⟨rfl, rfl⟩)
  | (go_at_call 33; refine (Copysign_zero _).mono ?_; rintro e w1 ⟨rfl, rfl⟩))
 have HA := hdq HD.out.rowA
 clear HD
 revert HA
 generalize w1.alloc _ = wa
 generalize w1.heap.size = ga
 intro HA
 have HD := hdq (HdT.start wa)
 go_wp2_with (first
  | (go_at_call 30; refine (Number_exp _ _).mono ?_; rintro e w1 ⟨rfl, hb⟩; replace HD := hdq (HD.out.step hb); clear hb)
  | (go_at_call 31; refine (tuple_any _ (by decide) _ _ _ _ _).mono ?_; rintro e w1 ⟨g, rfl, hk, hb⟩; replace HD := hdq (HD.out.add hk hb); clear hk hb)
  | (go_at_call 32; refine (f_exp _ _).mono ?_; rintro e w1 ⟨rfl, hb⟩; replace HD := hdq (HD.out.step hb); clear hb)
  | (go_at_call 34; refine (NaN_any _).mono ?_; rintro e w1 ⟨rfl, rfl⟩))
 have HR := hdq (HdR.mk HA.out HD.out)
 clear HD HA
 revert HR
 generalize World.alloc (World.alloc (World.alloc _ _) _) _ = wb
 generalize w1.heap.size + 1 + 1 = gr
 generalize w1.heap.size + 1 = gl
 generalize w1.heap.size = gb
 intro HR
 go_wp2_with (first
  | (go_at_call 19; refine (Hash_little HR.out).mono ?_; rintro e w2 ⟨gx, cx, rfl, hx, hb⟩; replace HR := hdq (HR.out.step hb); have HX := hdq hx; clear hx hb)
  | (go_at_call 21; refine (Merge_little HR.out).mono ?_; rintro e w3 ⟨gy, cy, rfl, hy, hb⟩; replace HR := hdq (HR.out.step hb); replace HX := hdq (HX.out.step hb); have HY := hdq hy; clear hy hb)
  | (go_at_call 18; refine (Same_little (v := .bool true) (u := .bool true) HX.out HY.out).mono ?_; rintro e w4 ⟨rfl, hb⟩; replace HR := hdq (HR.out.step hb); replace HX := hdq (HX.out.step hb); obtain ⟨g1, c1, g2, c2, q1, q2, q3⟩ := HX.out.first; clear hb))
 go_ret
 exact ⟨rfl, HR.out.1⟩
end Go.Proofs.YtgmolmpfihkolaaGreat.Pj
namespace Go.Proofs.YtgmolmpfihkolaaGreat.Pj
open Go.RowKit Go.Proofs.YtgmolmpfihkolaaGreatW.PrintWords Go.Proofs.YtgmolmpfihkolaaGreatW.PrintLast Go.Proofs.YtgmolmpfihkolaaGreatW.PrintMore
attribute [local go_sem] run_store_flt max2_int min2_int max_two min_two max_three min_three max_four min_four
set_option linter.unusedVariables false
set_option linter.unusedSimpArgs false
mutual
def a27_JoinsTell.j0 : Nat → T3 → T3 → List (S53) → List (S53) → List (S53) → Bool → Option (Bool)
 | 0, _, _, _, _, _, _ => none
 | k + 1, x0, x1, x2, x3, x4, x45 => if x45 = true then (some false) else ((joins_Hash.f x0 x1 x2 x3 x4).bind fun bt284 => ((r27_Keyed.f k x0 x1 x2 x3 x4).bind fun bt288 => ((r26_Same.f k bt284.1 bt288.1).bind fun t292 => (if t292 = true then (a27_JoinsTell.j1 k x0 x1 x2 x3 x4 bt288.1 bt288.2 (bt284.2 != bt288.2)) else (a27_JoinsTell.j1 k x0 x1 x2 x3 x4 bt288.1 bt288.2 true)))))
def a27_JoinsTell.j1 : Nat → T3 → T3 → List (S53) → List (S53) → List (S53) → T3 → Int → Bool → Option (Bool)
 | 0, _, _, _, _, _, _, _, _ => none
 | k + 1, x0, x1, x2, x3, x4, x13, x14, x72 => if x72 = true then (some false) else ((joins_Merge.f x0 x1 x2 x3 x4).bind fun bt293 => ((r26_Same.f k bt293.1 x13).bind fun t297 => (if t297 = true then (if bt293.2 = x14 then ((a27_works.f).bind fun t298 => (some t298)) else (some false)) else (some false))))
end
def a27_JoinsTell.f (k : Nat) (l0 : T3) (l1 : T3) (l2 : List (S53)) (l3 : List (S53)) (l4 : List (S53)) : Option (Bool) := (a27_all.f l2 l3 l4).bind fun t270 => ((a27_Great.f k l0 l1 t270).bind fun t273 => (if t273 = true then ((a27_works.f).bind fun t274 => (some t274)) else ((joins_Loop.f k l0 l1 l4).bind fun bt275 => ((r27_Loop.f k l0 l1 l4).bind fun bt279 => ((r26_Same.f k bt275.1 bt279.1).bind fun t283 => (if t283 = true then (a27_JoinsTell.j0 k l0 l1 l2 l3 l4 (bt275.2 != bt279.2)) else (a27_JoinsTell.j0 k l0 l1 l2 l3 l4 true)))))))
set_option maxHeartbeats 8000000 in
set_option maxRecDepth 100000 in
theorem a27_JoinsTell.calls (k : Nat) (A0 : Option Addr) (c0 : Nat) (l0 : T3) (A1 : Option Addr) (c1 : Nat) (l1 : T3) (A2 : Option Addr) (c2 : Nat) (l2 : List (S53)) (A3 : Option Addr) (c3 : Nat) (l3 : List (S53)) (A4 : Option Addr) (c4 : Nat) (l4 : List (S53)) (r : Bool) (w : World) (hr0 : Kd.C (Kd.slice 29 (Kd.slice 39 k39)) w A0 l0.length l0) (hc0 : l0.length ≤ c0) (hr1 : Kd.C (Kd.slice 29 (Kd.slice 39 k39)) w A1 l1.length l1) (hc1 : l1.length ≤ c1) (hr2 : Kd.C k53 w A2 l2.length l2) (hc2 : l2.length ≤ c2) (hr3 : Kd.C k53 w A3 l3.length l3) (hc3 : l3.length ≤ c3) (hr4 : Kd.C k53 w A4 l4.length l4) (hc4 : l4.length ≤ c4) (h : a27_JoinsTell.f k l0 l1 l2 l3 l4 = some r) :
 Calls Tryz.prog 4 #[.slice A0 l0.length c0, .slice A1 l1.length c1, .slice A2 l2.length c2, .slice A3 l3.length c3, .slice A4 l4.length c4] w fun e w' => e = .returned (.bool r) ∧ Below w.heap.size w w' := by
 have HR0 := akk hr0
 have HC0 := akk hc0
 clear hr0 hc0
 have HR1 := akk hr1
 have HC1 := akk hc1
 clear hr1 hc1
 have HR2 := akk hr2
 have HC2 := akk hc2
 clear hr2 hc2
 have HR3 := akk hr3
 have HC3 := akk hc3
 clear hr3 hc3
 have HR4 := akk hr4
 have HC4 := akk hc4
 clear hr4 hc4
 have HB := akk (Below.refl w.heap.size w)
 have H : ((a27_all.f l2 l3 l4).bind fun t270 => ((a27_Great.f k l0 l1 t270).bind fun t273 => (if t273 = true then ((a27_works.f).bind fun t274 => (some t274)) else ((joins_Loop.f k l0 l1 l4).bind fun bt275 => ((r27_Loop.f k l0 l1 l4).bind fun bt279 => ((r26_Same.f k bt275.1 bt279.1).bind fun t283 => (if t283 = true then (a27_JoinsTell.j0 k l0 l1 l2 l3 l4 (bt275.2 != bt279.2)) else (a27_JoinsTell.j0 k l0 l1 l2 l3 l4 true)))))))) = some r := h
 clear h
 obtain ⟨t270, A6, H⟩ := bi H
 try dsimp only at H
 obtain ⟨t273, A7, H⟩ := bi H
 try dsimp only at H
 by_cases c8 : t273 = true
 ·subst c8
  rw [if_pos rfl] at H
  obtain ⟨t274, A9, H⟩ := bi H
  try dsimp only at H
  obtain rfl := Option.some.inj H
  go_enter Tryz.func4, Tryz.ntmps4
  go_wp2_with (first | (refine gT 15 (some 20) Tryz.func15 #[.slice A2 l2.length c2, .slice A3 l3.length c3, .slice A4 l4.length c4] ?_; (with_reducible refine (a27_all.calls (fun k_ => k_ < w.heap.size) _ _ l2 (fun k_ => k_ < w.heap.size) _ _ l3 (fun k_ => k_ < w.heap.size) _ _ l4 t270 _ ?_ ?_ ?_ A6.out).mono ?_); exact Kd.V_mk HC2.out (Kd.F_below (Kd.C_F k53_heap HR2.out) bT); exact Kd.V_mk HC3.out (Kd.F_below (Kd.C_F k53_heap HR3.out) bT); exact Kd.V_mk HC4.out (Kd.F_below (Kd.C_F k53_heap HR4.out) bT); rintro e w10 ⟨v271, rfl, ho0, hb⟩; refine ⟨_, rfl, ?_⟩; have HO272 := akk (Kd.N_lower (Kd.N_mono (ok' := fun k_ => True) ho0 (fun k_ hk_ => trivial)) (below_size bT)); replace HB := bb HB hb; (try clear hb); (try clear hb2); (try clear hk); (try clear hi); (try clear ho0); obtain ⟨Ao11, co11, eo11⟩ := Kd.N_slice HO272.out; subst eo11) | (refine gT 7 (some 21) Tryz.func7 #[.slice A0 l0.length c0, .slice A1 l1.length c1, .slice Ao11 t270.length co11] ?_; (with_reducible refine (a27_Great.calls k (fun k_ => k_ < w.heap.size) _ _ l0 (fun k_ => k_ < w.heap.size) _ _ l1 _ _ t270 true _ ?_ ?_ ?_ ?_ A7.out).mono ?_); exact Kd.V_mk HC0.out (Kd.F_below (Kd.C_F (Kd.heap_slice 29 (Kd.heap_slice 39 k39_heap)) HR0.out) bT); exact Kd.V_mk HC1.out (Kd.F_below (Kd.C_F (Kd.heap_slice 29 (Kd.heap_slice 39 k39_heap)) HR1.out) bT); exact cV (Kd.N_reads' HO272.out).2.2; exact (Kd.N_reads' HO272.out).2.1; rintro e w12 ⟨rfl, hb⟩; refine ⟨_, rfl, ?_⟩; replace HO272 := nb HO272 hb; replace HB := bb HB hb; clear hb) | (refine gT 8 (some 22) Tryz.func8 #[] ?_; (with_reducible refine (a27_works.calls  t274 _ A9.out).mono ?_); rintro e w13 ⟨rfl, hb⟩; refine ⟨_, rfl, ?_⟩; replace HO272 := nb HO272 hb; replace HB := bb HB hb; clear hb))
  go_ret
  exact ⟨fT, bT⟩
 ·replace c8 := Bool.eq_false_iff.mpr c8
  subst c8
  rw [if_neg (show ¬ (false = true) by decide)] at H
  obtain ⟨⟨t275, t278⟩, A14, H⟩ := bi H
  try dsimp only at H
  obtain ⟨⟨t279, t282⟩, A15, H⟩ := bi H
  try dsimp only at H
  have HC16 := akk H
  clear H
  go_enter Tryz.func4, Tryz.ntmps4
  go_upto_region 5 with (first | (refine gT 15 (some 20) Tryz.func15 #[.slice A2 l2.length c2, .slice A3 l3.length c3, .slice A4 l4.length c4] ?_; (with_reducible refine (a27_all.calls (fun k_ => k_ < w.heap.size) _ _ l2 (fun k_ => k_ < w.heap.size) _ _ l3 (fun k_ => k_ < w.heap.size) _ _ l4 t270 _ ?side1 ?side2 ?side3 A6.out).mono ?_); (case side1 => exact Kd.V_mk HC2.out (Kd.F_below (Kd.C_F k53_heap HR2.out) bT)); (case side2 => exact Kd.V_mk HC3.out (Kd.F_below (Kd.C_F k53_heap HR3.out) bT)); (case side3 => exact Kd.V_mk HC4.out (Kd.F_below (Kd.C_F k53_heap HR4.out) bT)); rintro e w17 ⟨v271, rfl, ho0, hb⟩; refine ⟨_, rfl, ?_⟩; have HO272 := akk (Kd.N_lower (Kd.N_mono (ok' := fun k_ => True) ho0 (fun k_ hk_ => trivial)) (below_size bT)); replace HB := akk (below_step bT hb); (try clear hb); (try clear hb2); (try clear hk); (try clear hi); (try clear ho0); obtain ⟨Ao18, co18, eo18⟩ := Kd.N_slice HO272.out; subst eo18) | (refine gT 7 (some 21) Tryz.func7 #[.slice A0 l0.length c0, .slice A1 l1.length c1, .slice Ao18 t270.length co18] ?_; (with_reducible refine (a27_Great.calls k (fun k_ => k_ < w.heap.size) _ _ l0 (fun k_ => k_ < w.heap.size) _ _ l1 _ _ t270 false _ ?side1 ?side2 ?side3 ?side4 A7.out).mono ?_); (case side1 => exact Kd.V_mk HC0.out (Kd.F_below (Kd.C_F (Kd.heap_slice 29 (Kd.heap_slice 39 k39_heap)) HR0.out) bT)); (case side2 => exact Kd.V_mk HC1.out (Kd.F_below (Kd.C_F (Kd.heap_slice 29 (Kd.heap_slice 39 k39_heap)) HR1.out) bT)); (case side3 => repeat (first | exact (Kd.N_reads' HO272.out).2.2 | (with_reducible refine Kd.C_alloc ?_ _) | (with_reducible refine Kd.C_drewN ?_ _) | (with_reducible refine Kd.C_drew ?_))); (case side4 => exact (Kd.N_reads' HO272.out).2.1); rintro e w19 ⟨rfl, hb⟩; refine ⟨_, rfl, ?_⟩; replace HO272 := akk (Kd.N_below (nT HO272.out) hb); replace HB := akk (below_step bT hb); (try clear hb); (try clear hb2); (try clear hk); (try clear hi)) | (refine gT 16 (some 27) Tryz.func16 #[.slice A0 l0.length c0, .slice A1 l1.length c1, .slice A4 l4.length c4] ?_; (with_reducible refine (joins_Loop.calls k _ _ l0 _ _ l1 _ _ l4 t275 t278 _ ?side1 ?side2 ?side3 ?side4 ?side5 ?side6 A14.out).mono ?_); (case side1 => exact cT HR0.out); (case side2 => exact HC0.out); (case side3 => exact cT HR1.out); (case side4 => exact HC1.out); (case side5 => exact cT HR4.out); (case side6 => exact HC4.out); rintro e w20 ⟨v276, rfl, ho0, hb⟩; refine ⟨_, rfl, ?_⟩; have HO277 := akk (Kd.N_lower (Kd.N_mono (ok' := fun k_ => some k_ ≠ (.slice Ao18 t270.length co18 : Value).ownBlock) ho0 (fun k_ hk_ => (Kd.fresh' (Kd.N_lt (nT HO272.out)) k_ hk_))) (below_size bT)); replace HO272 := akk (Kd.N_elder' (nT HO272.out) (bB ho0) hb); replace HB := akk (below_step bT hb); (try clear hb); (try clear hb2); (try clear hk); (try clear hi); (try clear ho0)) | (refine gT 17 (some 34) Tryz.func17 #[.slice A0 l0.length c0, .slice A1 l1.length c1, .slice A4 l4.length c4] ?_; (with_reducible refine (r27_Loop.calls k (fun k_ => k_ < w.heap.size) _ _ l0 (fun k_ => k_ < w.heap.size) _ _ l1 _ _ l4 t279 t282 _ ?side1 ?side2 ?side3 ?side4 A15.out).mono ?_); (case side1 => exact Kd.V_mk HC0.out (Kd.F_below (Kd.C_F (Kd.heap_slice 29 (Kd.heap_slice 39 k39_heap)) HR0.out) bT)); (case side2 => exact Kd.V_mk HC1.out (Kd.F_below (Kd.C_F (Kd.heap_slice 29 (Kd.heap_slice 39 k39_heap)) HR1.out) bT)); (case side3 => exact cT HR4.out); (case side4 => exact HC4.out); rintro e w21 ⟨v280, rfl, ho0, hb⟩; refine ⟨_, rfl, ?_⟩; have HO281 := akk (Kd.N_lower (Kd.N_mono (ok' := fun k_ => some k_ ≠ (.slice Ao18 t270.length co18 : Value).ownBlock ∧ some k_ ≠ (v276 : Value).ownBlock) ho0 (fun k_ hk_ => ⟨Or.elim hk_ (fun hs_ => Or.elim hs_ (fun hs_ => fun e_ => Nat.not_le.2 hs_ (Kd.N_base HO272.out k_ e_.symm)) (fun hs_ => fun e_ => Nat.not_le.2 hs_ (Kd.N_base HO272.out k_ e_.symm))) (fun hn_ => (Kd.fresh' (Kd.N_lt (nT HO272.out)) k_ hn_)), Or.elim hk_ (fun hs_ => Or.elim hs_ (fun hs_ => fun e_ => Nat.not_le.2 hs_ (Kd.N_base HO277.out k_ e_.symm)) (fun hs_ => fun e_ => Nat.not_le.2 hs_ (Kd.N_base HO277.out k_ e_.symm))) (fun hn_ => (Kd.fresh' (Kd.N_lt (nT HO277.out)) k_ hn_))⟩)) (below_size bT)); replace HO272 := akk (Kd.N_elder' (nT HO272.out) (bB ho0) hb); replace HO277 := akk (Kd.N_elder' (nT HO277.out) (bB ho0) hb); replace HB := akk (below_step bT hb); (try clear hb); (try clear hb2); (try clear hk); (try clear hi); (try clear ho0)))
  (try simp only [Act.put, List.setIfInBounds_toArray, List.set_cons_zero, List.set_cons_succ])
  go_cut [45] (fun v45 wc => ∃ (kq : Nat) (x45_15 : Bool), v45 = .bool x45_15 ∧ Aside0 (a27_JoinsTell.j0 kq l0 l1 l2 l3 l4 x45_15 = some r) ∧ Aside0 (kq ≤ k) ∧ Aside0 (Below w.heap.size w wc))
  case first =>
   have H := HC16.out
   clear HC16
   obtain ⟨t283, A22, H⟩ := bi H
   try dsimp only at H
   by_cases c23 : t283 = true
   ·subst c23
    rw [if_pos rfl] at H
    have H' := akk H
    clear H
    obtain ⟨Ao24, co24, eo24⟩ := Kd.N_slice HO277.out
    subst eo24
    obtain ⟨Ao25, co25, eo25⟩ := Kd.N_slice HO281.out
    subst eo25
    go_wp2_with (refine gT 18 (some 39) Tryz.func18 #[.slice Ao24 t275.length co24, .slice Ao25 t279.length co25] ?_; (with_reducible refine (r26_Same.calls k _ _ t275 _ _ t279 true _ ?_ ?_ ?_ ?_ A22.out).mono ?_); exact cV (Kd.N_reads' HO277.out).2.2; exact (Kd.N_reads' HO277.out).2.1; exact cV (Kd.N_reads' HO281.out).2.2; exact (Kd.N_reads' HO281.out).2.1; rintro e w26 ⟨rfl, hb⟩; refine ⟨_, rfl, ?_⟩; replace HO272 := nb HO272 hb; replace HO277 := nb HO277 hb; replace HO281 := nb HO281 hb; replace HB := bb HB hb; clear hb)
    go_meet
    case rel => exact ⟨_, ((t278 != t282)), eT, H', ⟨by first | omega | exact Nat.le_refl _⟩, ⟨bT⟩⟩
   ·replace c23 := Bool.eq_false_iff.mpr c23
    subst c23
    rw [if_neg (show ¬ (false = true) by decide)] at H
    have H' := akk H
    clear H
    obtain ⟨Ao27, co27, eo27⟩ := Kd.N_slice HO277.out
    subst eo27
    obtain ⟨Ao28, co28, eo28⟩ := Kd.N_slice HO281.out
    subst eo28
    go_wp2_with (refine gT 18 (some 39) Tryz.func18 #[.slice Ao27 t275.length co27, .slice Ao28 t279.length co28] ?_; (with_reducible refine (r26_Same.calls k _ _ t275 _ _ t279 false _ ?_ ?_ ?_ ?_ A22.out).mono ?_); exact cV (Kd.N_reads' HO277.out).2.2; exact (Kd.N_reads' HO277.out).2.1; exact cV (Kd.N_reads' HO281.out).2.2; exact (Kd.N_reads' HO281.out).2.1; rintro e w29 ⟨rfl, hb⟩; refine ⟨_, rfl, ?_⟩; replace HO272 := nb HO272 hb; replace HO277 := nb HO277 hb; replace HO281 := nb HO281 hb; replace HB := bb HB hb; clear hb)
    go_meet
    case rel => exact ⟨_, (true), eT, H', ⟨by first | omega | exact Nat.le_refl _⟩, ⟨bT⟩⟩
  case rest =>
   clear HC16
   try clear c8
   obtain ⟨kq, x45_15, rfl, HA, HJ15, HB⟩ := hcut
   cases kq with
   | zero => exact absurd HA.out (by simp [a27_JoinsTell.j0])
   | succ kj15 =>
    have H := HA.out
    clear HA
    simp only [a27_JoinsTell.j0] at H
    by_cases c30 : x45_15 = true
    ·subst c30
     rw [if_pos rfl] at H
     obtain rfl := Option.some.inj H
     go_wp2
     go_ret
     exact ⟨fT, bT⟩
    ·replace c30 := Bool.eq_false_iff.mpr c30
     subst c30
     rw [if_neg (show ¬ (false = true) by decide)] at H
     obtain ⟨⟨t284, t285⟩, A31, H⟩ := bi H
     try dsimp only at H
     obtain ⟨⟨t288, t291⟩, A32, H⟩ := bi H
     try dsimp only at H
     have HC33 := akk H
     clear H
     go_upto_region 9 with (first | (refine gT 19 (some 52) Tryz.func19 #[.slice A0 l0.length c0, .slice A1 l1.length c1, .slice A2 l2.length c2, .slice A3 l3.length c3, .slice A4 l4.length c4] ?_; (with_reducible refine (joins_Hash.calls _ _ l0 _ _ l1 _ _ l2 _ _ l3 _ _ l4 t284 t285 _ ?side1 ?side2 ?side3 ?side4 ?side5 ?side6 ?side7 ?side8 ?side9 ?side10 A31.out).mono ?_); (case side1 => exact cT HR0.out); (case side2 => exact HC0.out); (case side3 => exact cT HR1.out); (case side4 => exact HC1.out); (case side5 => exact cT HR2.out); (case side6 => exact HC2.out); (case side7 => exact cT HR3.out); (case side8 => exact HC3.out); (case side9 => exact cT HR4.out); (case side10 => exact HC4.out); rintro e w34 ⟨v286, rfl, ho0, hb⟩; refine ⟨_, rfl, ?_⟩; have HO287 := akk (Kd.N_lower (Kd.N_mono (ok' := fun k_ => True) (Kd.R_N (Kd.R_bound ho0)) (fun k_ hk_ => trivial)) (below_size bT)); replace HB := akk (below_step bT hb); (try clear hb); (try clear hb2); (try clear hk); (try clear hi); (try clear ho0)) | (refine gT 20 (some 61) Tryz.func20 #[.slice A0 l0.length c0, .slice A1 l1.length c1, .slice A2 l2.length c2, .slice A3 l3.length c3, .slice A4 l4.length c4] ?_; (with_reducible refine (r27_Keyed.calls kj15 (fun k_ => k_ < w.heap.size) _ _ l0 (fun k_ => k_ < w.heap.size) _ _ l1 _ _ l2 _ _ l3 _ _ l4 t288 t291 _ ?side1 ?side2 ?side3 ?side4 ?side5 ?side6 ?side7 ?side8 A32.out).mono ?_); (case side1 => exact Kd.V_mk HC0.out (Kd.F_below (Kd.C_F (Kd.heap_slice 29 (Kd.heap_slice 39 k39_heap)) HR0.out) bT)); (case side2 => exact Kd.V_mk HC1.out (Kd.F_below (Kd.C_F (Kd.heap_slice 29 (Kd.heap_slice 39 k39_heap)) HR1.out) bT)); (case side3 => exact cT HR2.out); (case side4 => exact HC2.out); (case side5 => exact cT HR3.out); (case side6 => exact HC3.out); (case side7 => exact cT HR4.out); (case side8 => exact HC4.out); rintro e w35 ⟨v289, rfl, ho0, hb⟩; refine ⟨_, rfl, ?_⟩; have HO290 := akk (Kd.N_lower (Kd.N_mono (ok' := fun k_ => some k_ ≠ (v286 : Value).ownBlock) ho0 (fun k_ hk_ => Or.elim hk_ (fun hs_ => Or.elim hs_ (fun hs_ => fun e_ => Nat.not_le.2 hs_ (Kd.N_base HO287.out k_ e_.symm)) (fun hs_ => fun e_ => Nat.not_le.2 hs_ (Kd.N_base HO287.out k_ e_.symm))) (fun hn_ => (Kd.fresh' (Kd.N_lt (nT HO287.out)) k_ hn_)))) (below_size bT)); replace HO287 := akk (Kd.N_elder' (nT HO287.out) (bB ho0) hb); replace HB := akk (below_step bT hb); (try clear hb); (try clear hb2); (try clear hk); (try clear hi); (try clear ho0)))
     (try simp only [Act.put, List.setIfInBounds_toArray, List.set_cons_zero, List.set_cons_succ])
     go_cut [72] (fun v72 wc => ∃ (kq : Nat) (x72_32 : Bool), v72 = .bool x72_32 ∧ Aside0 (a27_JoinsTell.j1 kq l0 l1 l2 l3 l4 t288 t291 x72_32 = some r) ∧ Aside0 (kq ≤ kj15) ∧ Aside0 (Kd.N (Kd.slice 29 (Kd.slice 39 k39)) 22 wc w.heap.size (fun _ => True) v289 t288) ∧ Aside0 (Below w.heap.size w wc))
     case first =>
      have H := HC33.out
      clear HC33
      obtain ⟨t292, A36, H⟩ := bi H
      try dsimp only at H
      by_cases c37 : t292 = true
      ·subst c37
       rw [if_pos rfl] at H
       have H' := akk H
       clear H
       obtain ⟨Ao38, co38, eo38⟩ := Kd.N_slice HO287.out
       subst eo38
       obtain ⟨Ao39, co39, eo39⟩ := Kd.N_slice HO290.out
       subst eo39
       go_wp2_with (refine gT 18 (some 66) Tryz.func18 #[.slice Ao38 t284.length co38, .slice Ao39 t288.length co39] ?_; (with_reducible refine (r26_Same.calls kj15 _ _ t284 _ _ t288 true _ ?_ ?_ ?_ ?_ A36.out).mono ?_); exact cV (Kd.N_reads' HO287.out).2.2; exact (Kd.N_reads' HO287.out).2.1; exact cV (Kd.N_reads' HO290.out).2.2; exact (Kd.N_reads' HO290.out).2.1; rintro e w40 ⟨rfl, hb⟩; refine ⟨_, rfl, ?_⟩; replace HO287 := nb HO287 hb; replace HO290 := nb HO290 hb; replace HB := bb HB hb; clear hb)
       go_meet
       case rel => exact ⟨_, ((t285 != t291)), eT, H', ⟨by have := HJ15.out; first | omega | exact Nat.le_refl _⟩, ⟨nT' (Kd.N_mono HO290.out (fun _ hk => trivial))⟩, ⟨bT⟩⟩
      ·replace c37 := Bool.eq_false_iff.mpr c37
       subst c37
       rw [if_neg (show ¬ (false = true) by decide)] at H
       have H' := akk H
       clear H
       obtain ⟨Ao41, co41, eo41⟩ := Kd.N_slice HO287.out
       subst eo41
       obtain ⟨Ao42, co42, eo42⟩ := Kd.N_slice HO290.out
       subst eo42
       go_wp2_with (refine gT 18 (some 66) Tryz.func18 #[.slice Ao41 t284.length co41, .slice Ao42 t288.length co42] ?_; (with_reducible refine (r26_Same.calls kj15 _ _ t284 _ _ t288 false _ ?_ ?_ ?_ ?_ A36.out).mono ?_); exact cV (Kd.N_reads' HO287.out).2.2; exact (Kd.N_reads' HO287.out).2.1; exact cV (Kd.N_reads' HO290.out).2.2; exact (Kd.N_reads' HO290.out).2.1; rintro e w43 ⟨rfl, hb⟩; refine ⟨_, rfl, ?_⟩; replace HO287 := nb HO287 hb; replace HO290 := nb HO290 hb; replace HB := bb HB hb; clear hb)
       go_meet
       case rel => exact ⟨_, (true), eT, H', ⟨by have := HJ15.out; first | omega | exact Nat.le_refl _⟩, ⟨nT' (Kd.N_mono HO290.out (fun _ hk => trivial))⟩, ⟨bT⟩⟩
     case rest =>
      clear HC33
      try clear c30
      obtain ⟨kq, x72_32, rfl, HA, HJ32, HO_13, HB⟩ := hcut
      cases kq with
      | zero => exact absurd HA.out (by simp [a27_JoinsTell.j1])
      | succ kj32 =>
       have H := HA.out
       clear HA
       simp only [a27_JoinsTell.j1] at H
       by_cases c44 : x72_32 = true
       ·subst c44
        rw [if_pos rfl] at H
        obtain rfl := Option.some.inj H
        go_wp2
        go_ret
        exact ⟨fT, bT⟩
       ·replace c44 := Bool.eq_false_iff.mpr c44
        subst c44
        rw [if_neg (show ¬ (false = true) by decide)] at H
        obtain ⟨⟨t293, t294⟩, A45, H⟩ := bi H
        try dsimp only at H
        obtain ⟨t297, A46, H⟩ := bi H
        try dsimp only at H
        by_cases c47 : t297 = true
        ·subst c47
         rw [if_pos rfl] at H
         by_cases c48 : t294 = t291
         ·rw [if_pos c48] at H
          have c48b0 : (t294 == t291) = true := beq_iff_eq.mpr c48
          have c48b1 : (t294 != t291) = false := bne_eq_false_iff_eq.mpr c48
          clear c48
          obtain ⟨t298, A49, H⟩ := bi H
          try dsimp only at H
          obtain rfl := Option.some.inj H
          go_wp2_with (first | (refine gT 21 (some 79) Tryz.func21 #[.slice A0 l0.length c0, .slice A1 l1.length c1, .slice A2 l2.length c2, .slice A3 l3.length c3, .slice A4 l4.length c4] ?_; (with_reducible refine (joins_Merge.calls _ _ l0 _ _ l1 _ _ l2 _ _ l3 _ _ l4 t293 t294 _ ?_ ?_ ?_ ?_ ?_ ?_ ?_ ?_ ?_ ?_ A45.out).mono ?_); exact cT HR0.out; exact HC0.out; exact cT HR1.out; exact HC1.out; exact cT HR2.out; exact HC2.out; exact cT HR3.out; exact HC3.out; exact cT HR4.out; exact HC4.out; rintro e w50 ⟨v295, rfl, ho0, hb⟩; refine ⟨_, rfl, ?_⟩; have HO296 := akk (Kd.N_lower (Kd.N_mono (ok' := fun k_ => some k_ ≠ (v289 : Value).ownBlock) (Kd.R_N (Kd.R_bound ho0)) (fun k_ hk_ => (Kd.fresh' (Kd.N_lt (nT HO_13.out)) k_ hk_.2.1))) (below_size bT)); replace HO_13 := ne HO_13 ho0 hb; replace HB := bb HB hb; (try clear hb); (try clear hb2); (try clear hk); (try clear hi); (try clear ho0); obtain ⟨Ao51, co51, eo51⟩ := Kd.N_slice HO296.out; subst eo51; obtain ⟨Ao52, co52, eo52⟩ := Kd.N_slice HO_13.out; subst eo52) | (refine gT 18 (some 84) Tryz.func18 #[.slice Ao51 t293.length co51, .slice Ao52 t288.length co52] ?_; (with_reducible refine (r26_Same.calls kj32 _ _ t293 _ _ t288 true _ ?_ ?_ ?_ ?_ A46.out).mono ?_); exact cV (Kd.N_reads' HO296.out).2.2; exact (Kd.N_reads' HO296.out).2.1; exact cV (Kd.N_reads' HO_13.out).2.2; exact (Kd.N_reads' HO_13.out).2.1; rintro e w53 ⟨rfl, hb⟩; refine ⟨_, rfl, ?_⟩; replace HO_13 := nb HO_13 hb; replace HO296 := nb HO296 hb; replace HB := bb HB hb; clear hb) | (go_at_call 8; (with_reducible refine (a27_works.calls  t298 _ A49.out).mono ?_); rintro e w54 ⟨rfl, hb⟩; replace HO_13 := nb HO_13 hb; replace HO296 := nb HO296 hb; replace HB := bb HB hb; clear hb))
          go_ret
          exact ⟨fT, bT⟩
         ·rw [if_neg c48] at H
          have c48b0 : (t294 == t291) = false := beq_eq_false_iff_ne.mpr c48
          have c48b1 : (t294 != t291) = true := bne_iff_ne.mpr c48
          obtain rfl := Option.some.inj H
          go_wp2_with (first | (refine gT 21 (some 79) Tryz.func21 #[.slice A0 l0.length c0, .slice A1 l1.length c1, .slice A2 l2.length c2, .slice A3 l3.length c3, .slice A4 l4.length c4] ?_; (with_reducible refine (joins_Merge.calls _ _ l0 _ _ l1 _ _ l2 _ _ l3 _ _ l4 t293 t294 _ ?_ ?_ ?_ ?_ ?_ ?_ ?_ ?_ ?_ ?_ A45.out).mono ?_); exact cT HR0.out; exact HC0.out; exact cT HR1.out; exact HC1.out; exact cT HR2.out; exact HC2.out; exact cT HR3.out; exact HC3.out; exact cT HR4.out; exact HC4.out; rintro e w55 ⟨v295, rfl, ho0, hb⟩; refine ⟨_, rfl, ?_⟩; have HO296 := akk (Kd.N_lower (Kd.N_mono (ok' := fun k_ => some k_ ≠ (v289 : Value).ownBlock) (Kd.R_N (Kd.R_bound ho0)) (fun k_ hk_ => (Kd.fresh' (Kd.N_lt (nT HO_13.out)) k_ hk_.2.1))) (below_size bT)); replace HO_13 := ne HO_13 ho0 hb; replace HB := bb HB hb; (try clear hb); (try clear hb2); (try clear hk); (try clear hi); (try clear ho0); obtain ⟨Ao56, co56, eo56⟩ := Kd.N_slice HO296.out; subst eo56; obtain ⟨Ao57, co57, eo57⟩ := Kd.N_slice HO_13.out; subst eo57) | (refine gT 18 (some 84) Tryz.func18 #[.slice Ao56 t293.length co56, .slice Ao57 t288.length co57] ?_; (with_reducible refine (r26_Same.calls kj32 _ _ t293 _ _ t288 true _ ?_ ?_ ?_ ?_ A46.out).mono ?_); exact cV (Kd.N_reads' HO296.out).2.2; exact (Kd.N_reads' HO296.out).2.1; exact cV (Kd.N_reads' HO_13.out).2.2; exact (Kd.N_reads' HO_13.out).2.1; rintro e w58 ⟨rfl, hb⟩; refine ⟨_, rfl, ?_⟩; replace HO_13 := nb HO_13 hb; replace HO296 := nb HO296 hb; replace HB := bb HB hb; clear hb))
          go_ret
          exact ⟨fT, bT⟩
        ·replace c47 := Bool.eq_false_iff.mpr c47
         subst c47
         rw [if_neg (show ¬ (false = true) by decide)] at H
         obtain rfl := Option.some.inj H
         go_wp2_with (first | (refine gT 21 (some 79) Tryz.func21 #[.slice A0 l0.length c0, .slice A1 l1.length c1, .slice A2 l2.length c2, .slice A3 l3.length c3, .slice A4 l4.length c4] ?_; (with_reducible refine (joins_Merge.calls _ _ l0 _ _ l1 _ _ l2 _ _ l3 _ _ l4 t293 t294 _ ?_ ?_ ?_ ?_ ?_ ?_ ?_ ?_ ?_ ?_ A45.out).mono ?_); exact cT HR0.out; exact HC0.out; exact cT HR1.out; exact HC1.out; exact cT HR2.out; exact HC2.out; exact cT HR3.out; exact HC3.out; exact cT HR4.out; exact HC4.out; rintro e w59 ⟨v295, rfl, ho0, hb⟩; refine ⟨_, rfl, ?_⟩; have HO296 := akk (Kd.N_lower (Kd.N_mono (ok' := fun k_ => some k_ ≠ (v289 : Value).ownBlock) (Kd.R_N (Kd.R_bound ho0)) (fun k_ hk_ => (Kd.fresh' (Kd.N_lt (nT HO_13.out)) k_ hk_.2.1))) (below_size bT)); replace HO_13 := ne HO_13 ho0 hb; replace HB := bb HB hb; (try clear hb); (try clear hb2); (try clear hk); (try clear hi); (try clear ho0); obtain ⟨Ao60, co60, eo60⟩ := Kd.N_slice HO296.out; subst eo60; obtain ⟨Ao61, co61, eo61⟩ := Kd.N_slice HO_13.out; subst eo61) | (refine gT 18 (some 84) Tryz.func18 #[.slice Ao60 t293.length co60, .slice Ao61 t288.length co61] ?_; (with_reducible refine (r26_Same.calls kj32 _ _ t293 _ _ t288 false _ ?_ ?_ ?_ ?_ A46.out).mono ?_); exact cV (Kd.N_reads' HO296.out).2.2; exact (Kd.N_reads' HO296.out).2.1; exact cV (Kd.N_reads' HO_13.out).2.2; exact (Kd.N_reads' HO_13.out).2.1; rintro e w62 ⟨rfl, hb⟩; refine ⟨_, rfl, ?_⟩; replace HO_13 := nb HO_13 hb; replace HO296 := nb HO296 hb; replace HB := bb HB hb; clear hb))
         go_ret
         exact ⟨fT, bT⟩
end Go.Proofs.YtgmolmpfihkolaaGreat.Pj
namespace Go.Proofs.YtgmolmpfihkolaaGreat
open Go.RowKit Go.Proofs.YtgmolmpfihkolaaGreatW.PrintWords Go.Proofs.YtgmolmpfihkolaaGreatW.PrintMore Go.Proofs.YtgmolmpfihkolaaGreat.Pj
set_option linter.unusedVariables false
set_option maxRecDepth 100000
theorem keyedR_ok (a b : List Tup) (l2 l3 l4 : List PE) (ha : okTups a) (hb : okTups b) (h2 : okLs l2) (h3 : okLs l3) (na : a.length ≤ 30) (nb : b.length ≤ 30) : (∀ t ∈ (keyedR a b l2 l3 l4).1, wfRs t = true ∧ okTup t) ∧ (keyedR a b l2 l3 l4).1.length ≤ 900 := by
 unfold keyedR
 split
 ·exact ⟨fun t ht => (by cases ht), by simp⟩
 ·split
  ·exact ⟨fun t ht => (by cases ht), by simp⟩
  ·rename_i e2
   split
   ·exact ⟨fun t ht => (by cases ht), by simp⟩
   ·rename_i e3
    refine ⟨toldGo_ok a b l4 ha hb _ _ (fun t ht => by cases ht), ?_⟩
    have h := toldGo_length a b l4 (pairsOf (kgo l2 a 0 []).1 (kgo l3 b 0 []).1) []
    have z2 : (kgo l2 a 0 []).2 = 0 := by rw [kgo_err]; simpa using e2
    have z3 : (kgo l3 b 0 []).2 = 0 := by rw [kgo_err]; simpa using e3
    have := Nat.le_trans (pairs_length (kgo l2 a 0 []).1 (kgo l3 b 0 []).1) (Nat.mul_le_mul (Nat.le_trans (kgo_length l2 a z2) na) (Nat.le_trans (kgo_length l3 b z3) nb))
    simp only [List.length_nil] at h
    omega
theorem all_f (l2 l3 l4 : List PE) (h : l2.length + l3.length + l4.length ≤ 1000000000) : a27_all.f l2 l3 l4 = some (l2 ++ l3 ++ l4) := by
 unfold a27_all.f
 rw [Option.bind_some, if_pos (by rw [List.length_nil]; omega), Option.bind_some, if_pos (by rw [List.nil_append]; omega), Option.bind_some, if_pos (by rw [List.nil_append, List.length_append]; omega), List.nil_append]
theorem gB200 : gB 200 ≤ 42000 := by decide
theorem tell_plain (l0 l1 : List Tup) (l2 l3 l4 : List PE) (h0 : ∀ t ∈ l0, wfRs t = true) (h1 : ∀ t ∈ l1, wfRs t = true) (h2 : wfEs l2 = true) (h3 : wfEs l3 = true) (h4 : wfEs l4 = true) (hn : l2.length + l3.length + l4.length ≤ 1000000000) :
 a27_JoinsTell.f 200000 l0 l1 l2 l3 l4 = some true := by
 unfold a27_JoinsTell.f
 have g200 := gB200
 rw [all_f l2 l3 l4 hn, Option.bind_some]
 obtain ⟨g, hg, hg2⟩ := great_f l0 l1 (l2 ++ l3 ++ l4) 200000 (by omega)
 rw [hg, Option.bind_some]
 cases g with
 | true => rw [if_pos rfl]; rfl
 | false =>
  obtain ⟨na, nb, nl, ta, tb⟩ := hg2 rfl
  rw [List.length_append, List.length_append] at nl
  have ha : okTups l0 := ⟨by omega, fun t ht => ⟨h0 t ht, ta t ht⟩⟩
  have hb : okTups l1 := ⟨by omega, fun t ht => ⟨h1 t ht, tb t ht⟩⟩
  have o2 : okLs l2 := ⟨h2, by omega⟩
  have o3 : okLs l3 := ⟨h3, by omega⟩
  have o4 : okLs l4 := ⟨h4, by omega⟩
  have hk := keyedR_ok l0 l1 l2 l3 l4 ha hb o2 o3 na nb
  have ht1 := toldGo_ok l0 l1 l4 ha hb (prows 0 l0.length l1.length) [] (fun t ht => by cases ht)
  have ht2 := toldGo_length l0 l1 l4 (prows 0 l0.length l1.length) []
  rw [prows_length l0.length 0 _ _ (by omega)] at ht2
  have ht3 := Nat.mul_le_mul na nb
  simp only [List.length_nil] at ht2
  obtain ⟨q1, q2⟩ := keyed_both l0 l1 l2 l3 l4 ha hb o2 o3 o4 na nb
  rw [if_neg (by simp), loop_f l0 l1 l4 ha hb o4 na _ (by omega) (by omega), Option.bind_some, rloop_f l0 l1 l4 ha hb o4 na _ (by omega), Option.bind_some, same_f2 _ ht1 (by omega) _ (by omega), Option.bind_some, if_pos rfl, bne_self_eq_false]
  rw [show (200000 : Nat) = 199999 + 1 from rfl, a27_JoinsTell.j0, if_neg (by simp), joins_Hash.f, q2, Option.bind_some, rkeyed_f l0 l1 l2 l3 l4 ha hb o2 o3 o4 na nb _ (by omega), Option.bind_some, same_f2 _ hk.1 (by omega) _ (by omega), Option.bind_some, if_pos rfl, bne_self_eq_false]
  rw [show (199999 : Nat) = 199998 + 1 from rfl, a27_JoinsTell.j1, if_neg (by simp), joins_Merge.f, q1, Option.bind_some, same_f2 _ hk.1 (by omega) _ (by omega), Option.bind_some, if_pos rfl, if_pos rfl]
  rfl
end Go.Proofs.YtgmolmpfihkolaaGreat
namespace Go.Proofs.YtgmolmpfihkolaaGreat.joinsTell
open Go.ChangeShapes Go.WideShapes Go.ChangeAt Go.RowKit Go.Proofs.YtgmolmpfihkolaaGreat.Pj
set_option linter.unusedVariables false
theorem own : ownKnob Tryz.prog.godebug = none := by kernel_rfl
theorem laidOut : laidOutB Tryz.prog = true := by kernel_rfl
set_option maxRecDepth 100000 in
theorem lifted (os : Os) (started : os.Started) (H : Type) (enc : TypeId × Value → H) (F : Stop.Interp) :
 ReturnsInHanded {} Tryz.checked os 4 .any ((Rows.OpenSpec.upto Rows.joinsTellSpec).pre6 enc Tryz.prog Tryz.f4 Rows.joinsTellUptoRow.domain false) (((Rows.OpenSpec.upto Rows.joinsTellSpec).at F).post enc Tryz.prog Tryz.f4 false true false false) := by
 refine returnsInHanded_of_cond (C := Tryz.checked) (s := Rows.OpenSpec.upto Rows.joinsTellSpec) (k := Rows.uptoSmall) rfl own started (by kernel_rfl) Tryz.func4
  (OpenSpec.witness (enc := enc) (C := Tryz.checked) (s := Rows.OpenSpec.upto Rows.joinsTellSpec) (k := Rows.uptoSmall) rfl false ⟨#[], #[.slice none 0 0, .slice none 0 0, .slice none 0 0, .slice none 0 0, .slice none 0 0], []⟩ 8 (by kernel_rfl) (by kernel_rfl) (by kernel_rfl)
   (x := ([.nil, .nil, .nil, .nil, .nil], [], [])) (by kernel_rfl) rfl (by kernel_rfl)) ?_
 intro W base args ds gs before hval0 hW hcnd hk _
 have hval : ∀ (j : Nat) t v, Tryz.f4.params[j]? = some t → args[j]? = some v → Value.okWide Tryz.prog W .any base t v := hval0
 have hW' := hW
 obtain ⟨p, q, hA0, hV, rfl, hfz, hnd⟩ := hW
 have hA : DataW.TrodAll enc Tryz.prog W 0 (fun _ => true) true Tryz.f4.params.toList args.toList ds p := hA0
 rw [Tryz.params4] at hA hval
 obtain ⟨v0, vs0, d0, ds0, p0, q0, hargs, rfl, rfl, h0, r0⟩ := trodAll_cons hA
 obtain ⟨v1, vs1, d1, ds1, p1, q1, rfl, rfl, rfl, h1, r1⟩ := trodAll_cons r0
 obtain ⟨v2, vs2, d2, ds2, p2, q2, rfl, rfl, rfl, h2, r2⟩ := trodAll_cons r1
 obtain ⟨v3, vs3, d3, ds3, p3, q3, rfl, rfl, rfl, h3, r3⟩ := trodAll_cons r2
 obtain ⟨v4, vs4, d4, ds4, p4, q4, rfl, rfl, rfl, h4, r4⟩ := trodAll_cons r3
 obtain ⟨rfl, rfl, rfl⟩ := trodAll_nil r4
 obtain rfl : args = #[v0, v1, v2, v3, v4] := by cases args; simp_all
 obtain ⟨rfl, rfl⟩ := trodVars_none hV
 obtain ⟨a0, len0, cap0, rfl⟩ := okWide_slice Tryz.underlying25 (hval 0 25 v0 rfl rfl)
 obtain ⟨a1, len1, cap1, rfl⟩ := okWide_slice Tryz.underlying25 (hval 1 25 v1 rfl rfl)
 obtain ⟨a2, len2, cap2, rfl⟩ := okWide_slice Tryz.underlying23 (hval 2 23 v2 rfl rfl)
 obtain ⟨a3, len3, cap3, rfl⟩ := okWide_slice Tryz.underlying23 (hval 3 23 v3 rfl rfl)
 obtain ⟨a4, len4, cap4, rfl⟩ := okWide_slice Tryz.underlying23 (hval 4 23 v4 rfl rfl)
 have k0 := h0
 have k1 := h1
 have k2 := h2
 have k3 := h3
 have k4 := h4
 have lt0 : ∀ x ∈ p0, x.block < W.heap.size := by obtain ⟨m, hm⟩ := k0; exact DataW.trod_lt m _ _ _ hm
 have lt1 : ∀ x ∈ p1, x.block < W.heap.size := by obtain ⟨m, hm⟩ := k1; exact DataW.trod_lt m _ _ _ hm
 have lt2 : ∀ x ∈ p2, x.block < W.heap.size := by obtain ⟨m, hm⟩ := k2; exact DataW.trod_lt m _ _ _ hm
 have lt3 : ∀ x ∈ p3, x.block < W.heap.size := by obtain ⟨m, hm⟩ := k3; exact DataW.trod_lt m _ _ _ hm
 have lt4 : ∀ x ∈ p4, x.block < W.heap.size := by obtain ⟨m, hm⟩ := k4; exact DataW.trod_lt m _ _ _ hm
 have hbound : Rows.uptoBulkAll [d0, d1, d2, d3, d4] ≤ 1048576 := of_decide_eq_true hk
 obtain ⟨f0, e0⟩ := h0
 obtain ⟨f1, e1⟩ := h1
 obtain ⟨f2, e2⟩ := h2
 obtain ⟨f3, e3⟩ := h3
 obtain ⟨f4, e4⟩ := h4
 obtain ⟨l0, ⟨A0, c0, g0, hc0, C0⟩, w0, -⟩ := open_tuples e0
 obtain ⟨l1, ⟨A1, c1, g1, hc1, C1⟩, w1, -⟩ := open_tuples e1
 obtain ⟨l2, ⟨A2, c2, g2, hc2, C2⟩, w2, n2⟩ := open_exprs e2
 obtain ⟨l3, ⟨A3, c3, g3, hc3, C3⟩, w3, n3⟩ := open_exprs e3
 obtain ⟨l4, ⟨A4, c4, g4, hc4, C4⟩, w4, n4⟩ := open_exprs e4
 simp [Value.cells] at g0 g1 g2 g3 g4
 obtain ⟨rfl, rfl, rfl⟩ := g0
 obtain ⟨rfl, rfl, rfl⟩ := g1
 obtain ⟨rfl, rfl, rfl⟩ := g2
 obtain ⟨rfl, rfl, rfl⟩ := g3
 obtain ⟨rfl, rfl, rfl⟩ := g4
 have hn : l2.length + l3.length + l4.length ≤ 1000000000 := by
  simp only [Rows.uptoBulkAll] at hbound
  have m2 : l2.length ≤ Rows.uptoBulk d2 := n2
  have m3 : l3.length ≤ Rows.uptoBulk d3 := n3
  have m4 : l4.length ≤ Rows.uptoBulk d4 := n4
  omega
 clear hA0 hval0
 refine (a27_JoinsTell.calls 200000 a0 cap0 l0 a1 cap1 l1 a2 cap2 l2 a3 cap3 l3 a4 cap4 l4 true W C0 hc0 C1 hc1 C2 hc2 C3 hc3 C4 hc4 (tell_plain l0 l1 l2 l3 l4 w0 w1 w2 w3 w4 hn)).mono fun e W' ⟨he, bel⟩ => ?_
 subst he
 exact ⟨_, rfl, _, _, _, [], _, [], hW', trodAll_mk1 (shut_bool Tryz.underlying4 _), (trodAll_cons_mk (Below.trod laidOut (by kernel_rfl) (of_decide_eq_true (by kernel_rfl)) k0 bel lt0) (trodAll_cons_mk (Below.trod laidOut (by kernel_rfl) (of_decide_eq_true (by kernel_rfl)) k1 bel lt1) (trodAll_cons_mk (Below.trod laidOut (by kernel_rfl) (of_decide_eq_true (by kernel_rfl)) k2 bel lt2) (trodAll_cons_mk (Below.trod laidOut (by kernel_rfl) (of_decide_eq_true (by kernel_rfl)) k3 bel lt3) (trodAll_cons_mk (Below.trod laidOut (by kernel_rfl) (of_decide_eq_true (by kernel_rfl)) k4 bel lt4) trodAll_mk0))))), rfl, bel.frame _, fun h => by cases h⟩
theorem over : Rows.joinsTellUptoRow.holds Tryz.pinned (Rows.OpenSpec.upto Rows.joinsTellSpec) :=
 OpenClaim.holds_of_cond 4 Tryz.f4 rfl rfl rfl rfl rfl rfl rfl ⟨rfl, rfl, rfl, rfl, rfl⟩ rfl rfl rfl rfl rfl (by kernel_rfl) Tryz.func4 (by kernel_rfl)
  (of_decide_eq_true (by kernel_rfl)) (by unfold Func.isWrapper; first | (rw [if_pos (by decide +kernel)]; kernel_rfl) | (rw [if_neg (by decide +kernel)]; exact ⟨rfl, rfl⟩))
  (fun os started H enc _ F => lifted os started H enc F)
theorem proved : Rows.JoinsTellUptoSaid := over
#print axioms proved
end Go.Proofs.YtgmolmpfihkolaaGreat.joinsTell
