/- Part of the proof. -/
import Derived.Test.YtgmolmpfihkolaaGreatR27
namespace Go.Proofs.YtgmolmpfihkolaaGreat
open Go.RowKit Go.Proofs.YtgmolmpfihkolaaGreat.Pj Go.Proofs.YtgmolmpfihkolaaGreatW.PrintWords
set_option linter.unusedVariables false
set_option maxRecDepth 100000
def HdT (w0 W : World) (l : List (Value × List (List PV))) : Prop := Below w0.heap.size w0 W ∧ ∀ p ∈ l, KT.K W p.2 [p.1]
theorem HdT.step {w0 W W' : World} {l : List (Value × List (List PV))} (h : HdT w0 W l) (hb : Below W.heap.size W W') : HdT w0 W' l := ⟨h.1.trans (hb.mono h.1.size), fun p hp => KT.K_below hb (h.2 p hp)⟩
theorem HdT.add {w0 W W' : World} {l : List (Value × List (List PV))} {v : Value} {t : List (List PV)} (h : HdT w0 W l) (hk : KT.K W' t [v]) (hb : Below W.heap.size W W') : HdT w0 W' ((v, t) :: l) := by
 obtain ⟨h1, h2⟩ := h.step hb
 refine ⟨h1, fun p hp => ?_⟩
 rcases List.mem_cons.1 hp with rfl | hp
 ·exact hk
 ·exact h2 p hp
theorem HdT.start (w : World) : HdT w w [] := ⟨Below.refl _ _, fun p hp => by cases hp⟩
def HdR (w0 W : World) (a b l r : Nat) : Prop := Below w0.heap.size w0 W ∧ Kd.C KT W (some ⟨a, 0, none⟩) 6 TA ∧ Kd.C KT W (some ⟨b, 0, none⟩) 5 TB ∧ Kd.C k53 W (some ⟨l, 0, none⟩) 1 LA ∧ Kd.C k53 W (some ⟨r, 0, none⟩) 1 LB
theorem HdR.step {w0 W W' : World} {a b l r : Nat} (h : HdR w0 W a b l r) (hb : Below W.heap.size W W') : HdR w0 W' a b l r := ⟨h.1.trans (hb.mono h.1.size), Kd.C_below h.2.1 hb, Kd.C_below h.2.2.1 hb, Kd.C_below h.2.2.2.1 hb, Kd.C_below h.2.2.2.2 hb⟩
def RowA (w0 W : World) (a : Nat) : Prop := Below w0.heap.size w0 W ∧ Kd.C KT W (some ⟨a, 0, none⟩) 6 TA
theorem HdT.rowA {w W : World} {x1 x2 x3 x4 x5 x6 : Value} (h : HdT w W [(x6, tupT 0 vX), (x5, tupT 0 vM), (x4, tupT 0 vN), (x3, tupT 0 v2), (x2, tupT 0 v2), (x1, tupT 0 v1)]) : RowA w (W.alloc (.cells #[x1, x2, x3, x4, x5, x6] 22)) W.heap.size := by
 have h2 := h.step (below_new W (.cells #[x1, x2, x3, x4, x5, x6] 22))
 refine ⟨h2.1, C_block (d := KT) (xs := TA) (blk_new _ _) rfl ?_ (by decide)⟩
 refine Reps.c1 (h2.2 (x1, tupT 0 v1) (by simp)) (Reps.c1 (h2.2 (x2, tupT 0 v2) (by simp)) (Reps.c1 (h2.2 (x3, tupT 0 v2) (by simp)) (Reps.c1 (h2.2 (x4, tupT 0 vN) (by simp)) (Reps.c1 (h2.2 (x5, tupT 0 vM) (by simp)) (Reps.c1 (h2.2 (x6, tupT 0 vX) (by simp)) (Reps.none _ _))))))
theorem HdR.mk {w0 wa W : World} {ga : Nat} {x1 x2 x3 x4 x5 : Value} (hA : RowA w0 wa ga) (h : HdT wa W [(x5, tupT 1 vX), (x4, tupT 1 vP), (x3, tupT 1 vN), (x2, tupT 1 v3), (x1, tupT 1 v2)]) :
 HdR w0 (((W.alloc (.cells #[x1, x2, x3, x4, x5] 22)).alloc (.cells #[.int .i64 1, .int .i64 0, .int .i64 0, .int .i64 0, .int .i64 0, .float .f64 0, .string ⟨#[]⟩, .slice none 0 0] 53)).alloc (.cells #[.int .i64 1, .int .i64 1, .int .i64 0, .int .i64 0, .int .i64 0, .float .f64 0, .string ⟨#[]⟩, .slice none 0 0] 53)) ga W.heap.size (W.heap.size + 1) (W.heap.size + 1 + 1) := by
 obtain ⟨o1, h1⟩ : ∃ o, o = Obj.cells #[x1, x2, x3, x4, x5] 22 := ⟨_, rfl⟩
 obtain ⟨o2, h2⟩ : ∃ o, o = Obj.cells #[.int .i64 1, .int .i64 0, .int .i64 0, .int .i64 0, .int .i64 0, .float .f64 0, .string ⟨#[]⟩, .slice none 0 0] 53 := ⟨_, rfl⟩
 obtain ⟨o3, h3⟩ : ∃ o, o = Obj.cells #[.int .i64 1, .int .i64 1, .int .i64 0, .int .i64 0, .int .i64 0, .float .f64 0, .string ⟨#[]⟩, .slice none 0 0] 53 := ⟨_, rfl⟩
 rw [← h1, ← h2, ← h3]
 have hb : Below W.heap.size W (((W.alloc o1).alloc o2).alloc o3) := below_alloc (below_alloc (below_alloc (Below.refl _ _) _) _) _
 have hs := h.step hb
 have hA2 := hs.1
 refine ⟨hA.1.trans (hA2.mono hA.1.size), Kd.C_below hA.2 hA2, ?_, ?_, ?_⟩
 ·refine C_block (d := KT) (xs := TB) (blk_alloc (blk_alloc ((blk_new _ _).trans (congrArg some h1)) _) _) rfl ?_ (by decide)
  exact Reps.c1 (hs.2 (x1, tupT 1 v2) (by simp)) (Reps.c1 (hs.2 (x2, tupT 1 v3) (by simp)) (Reps.c1 (hs.2 (x3, tupT 1 vN) (by simp)) (Reps.c1 (hs.2 (x4, tupT 1 vP) (by simp)) (Reps.c1 (hs.2 (x5, tupT 1 vX) (by simp)) (Reps.none _ _)))))
 ·exact C_block (d := k53) (xs := LA) (blk_alloc ((blk_newAt _ _ (by simp)).trans (congrArg some h2)) _) rfl (Reps.c8 (k53_mk _ (⟨1, 0, 0, vN, []⟩ : PE) (Nat.le_refl _) (Kd.C_nil _ _)) (Reps.none _ _)) (by decide)
 ·exact C_block (d := k53) (xs := LB) ((blk_newAt _ _ (by simp)).trans (congrArg some h3)) rfl (Reps.c8 (k53_mk _ (⟨1, 1, 0, vN, []⟩ : PE) (Nat.le_refl _) (Kd.C_nil _ _)) (Reps.none _ _)) (by decide)
theorem okT_of {l : List (List (List PV))} (h1 : decide (l.length ≤ 1000) = true) (h2 : l.all (fun t => wfRs t && (decide (t.length ≤ 1000) && t.all (fun r => decide (r.length ≤ 1000)))) = true) : okTups l := by
 refine ⟨of_decide_eq_true h1, fun t ht => ?_⟩
 have h := List.all_eq_true.1 h2 t ht
 simp only [Bool.and_eq_true, decide_eq_true_eq, List.all_eq_true] at h
 exact ⟨h.1, h.2.1, h.2.2⟩
theorem littleA : okTups TA := okT_of (by kernel_rfl) (by kernel_rfl)
theorem littleB : okTups TB := okT_of (by kernel_rfl) (by kernel_rfl)
theorem littleX : okTups TX := okT_of (by kernel_rfl) (by kernel_rfl)
theorem littleL : okLs LA ∧ okLs LB ∧ okLs [] := ⟨⟨by kernel_rfl, by decide⟩, ⟨by kernel_rfl, by decide⟩, ⟨by kernel_rfl, by decide⟩⟩
theorem little_both : keyedF TA TB LA LB [] = some (TX, 0) ∧ hashF TA TB LA LB [] = some (TX, 0) := by
 have h := keyed_both TA TB LA LB [] littleA littleB littleL.1 littleL.2.1 littleL.2.2 (by decide) (by decide)
 rw [little] at h
 exact h
def HdX (w0 W : World) (v : Value) (c : Nat) (g : Nat) : Prop := v = .slice (some ⟨g, 0, none⟩) 4 c ∧ 4 ≤ c ∧ Kd.R KT 22 W w0.heap.size (fun _ => True) v TX
theorem HdX.step {w0 W W' : World} {v : Value} {c g : Nat} (h : HdX w0 W v c g) (hb : Below W.heap.size W W') : HdX w0 W' v c g := ⟨h.1, h.2.1, Kd.R_below h.2.2 hb⟩
theorem HdX.of {w W : World} {v : Value} (h : Kd.R KT 22 W w.heap.size (fun _ => True) v TX) (hb : w.heap.size ≤ W.heap.size) : ∃ g c, v = .slice (some ⟨g, 0, none⟩) 4 c ∧ HdX w W v c g := by
 obtain ⟨g, c, hv, -⟩ := Kd.R_form h (by decide)
 refine ⟨g, c, hv, hv, ?_, h⟩
 subst hv
 exact (Kd.R_reads' h).2.1
theorem Hash_little {w0 W : World} {a b l r : Nat} (h : HdR w0 W a b l r) : Calls Tryz.prog 19 #[.slice (some ⟨a, 0, none⟩) 6 6, .slice (some ⟨b, 0, none⟩) 5 5, .slice (some ⟨l, 0, none⟩) 1 1, .slice (some ⟨r, 0, none⟩) 1 1, .slice none 0 0] W fun e w' => ∃ g c, e = .returned (.tuple #[.slice (some ⟨g, 0, none⟩) 4 c, .int .i64 0]) ∧ HdX W w' (.slice (some ⟨g, 0, none⟩) 4 c) c g ∧ Below W.heap.size W w' := by
 refine (Hash_any (some ⟨a, 0, none⟩) 6 TA (some ⟨b, 0, none⟩) 5 TB (some ⟨l, 0, none⟩) 1 LA (some ⟨r, 0, none⟩) 1 LB none 0 [] TX 0 W h.2.1 (Nat.le_refl _) h.2.2.1 (Nat.le_refl _) h.2.2.2.1 (Nat.le_refl _) h.2.2.2.2 (Nat.le_refl _) (Kd.C_nil _ _) (Nat.le_refl _) little_both.2).mono ?_
 rintro e w' ⟨v, rfl, hR, hb⟩
 obtain ⟨g, c, rfl, hx⟩ := HdX.of hR hb.size
 exact ⟨g, c, rfl, hx, hb⟩
theorem Merge_little {w0 W : World} {a b l r : Nat} (h : HdR w0 W a b l r) : Calls Tryz.prog 21 #[.slice (some ⟨a, 0, none⟩) 6 6, .slice (some ⟨b, 0, none⟩) 5 5, .slice (some ⟨l, 0, none⟩) 1 1, .slice (some ⟨r, 0, none⟩) 1 1, .slice none 0 0] W fun e w' => ∃ g c, e = .returned (.tuple #[.slice (some ⟨g, 0, none⟩) 4 c, .int .i64 0]) ∧ HdX W w' (.slice (some ⟨g, 0, none⟩) 4 c) c g ∧ Below W.heap.size W w' := by
 refine (Merge_any sortsP (some ⟨a, 0, none⟩) 6 TA (some ⟨b, 0, none⟩) 5 TB (some ⟨l, 0, none⟩) 1 LA (some ⟨r, 0, none⟩) 1 LB none 0 [] TX 0 W h.2.1 (Nat.le_refl _) h.2.2.1 (Nat.le_refl _) h.2.2.2.1 (Nat.le_refl _) h.2.2.2.2 (Nat.le_refl _) (Kd.C_nil _ _) (Nat.le_refl _) little_both.1).mono ?_
 rintro e w' ⟨v, rfl, hR, hb⟩
 obtain ⟨g, c, rfl, hx⟩ := HdX.of hR hb.size
 exact ⟨g, c, rfl, hx, hb⟩
theorem Same_little {w1 w2 W : World} {v u : Value} {c d g k : Nat} (h : HdX w1 W (.slice (some ⟨g, 0, none⟩) 4 c) c g) (h2 : HdX w2 W (.slice (some ⟨k, 0, none⟩) 4 d) d k) : Calls Tryz.prog 18 #[.slice (some ⟨g, 0, none⟩) 4 c, .slice (some ⟨k, 0, none⟩) 4 d] W fun e w' => e = .returned (.bool true) ∧ Below W.heap.size W w' :=
 r26_Same.calls 20000 _ _ TX _ _ TX true W (Kd.R_reads' h.2.2).2.2 (Kd.R_reads' h.2.2).2.1 (Kd.R_reads' h2.2.2).2.2 (Kd.R_reads' h2.2.2).2.1 (same_f2 TX littleX.2 (by decide) 20000 (Nat.le_refl _))
theorem R_at {α : Type} {d : Kd α} {e e' : Nat} {w : World} {base : Nat} {ok : Nat → Prop} {g n c : Nat} {xs : List (List α)} {ys : List α} (h : Kd.R (Kd.slice e' d) e w base ok (.slice (some ⟨g, 0, none⟩) n c) xs) (j : Nat) (hj : xs[j]? = some ys) : ∃ v ok', w.cell? ⟨g, j, none⟩ = some v ∧ Kd.R d e' w base ok' v ys := by
 obtain ⟨_, inner, ho, hr⟩ := h
 obtain ⟨v, hv, hR⟩ := hr.2 j ys hj
 have h0 : inner[j]? = some v := by
  have : ((inner.drop (j * 1)).take 1)[0]? = some v := by
   have hv : (inner.drop (j * 1)).take 1 = [v] := hv
   rw [hv]; rfl
  rw [List.getElem?_take] at this
  simpa using this
 have hc := ho.cells (g := g) rfl j v h0
 rw [add_plain] at hc
 exact ⟨v, _, hc, hR⟩
theorem HdX.first {w0 W : World} {v : Value} {c g : Nat} (h : HdX w0 W v c g) : ∃ g1 c1 g2 c2, W.cell? ⟨g, 0, none⟩ = some (.slice (some ⟨g1, 0, none⟩) 2 c1) ∧ W.cell? ⟨g1, 1, none⟩ = some (.slice (some ⟨g2, 0, none⟩) 1 c2) ∧ W.cell? ⟨g2, 1, none⟩ = some (.int .i64 2) := by
 obtain ⟨rfl, _, h⟩ := h
 obtain ⟨x, _, q1, h1⟩ := R_at h 0 (ys := [[v2], [v2]]) rfl
 obtain ⟨g1, c1, rfl, -⟩ := Kd.R_form h1 (by decide)
 obtain ⟨y, _, q2, h2⟩ := R_at h1 1 (ys := [v2]) rfl
 obtain ⟨g2, c2, rfl, -⟩ := Kd.R_form h2 (by decide)
 obtain ⟨ad, ea, -, q3, -⟩ := at_T39 (Kd.R_reads' h2).2.2 0 (by omega) (by simp)
 injection ea with ea
 subst ea
 rw [Int.toNat_zero, Nat.zero_mul, add_plain] at q3
 exact ⟨g1, c1, g2, c2, q1, q2, q3⟩
end Go.Proofs.YtgmolmpfihkolaaGreat
namespace Go.Proofs.YtgmolmpfihkolaaGreat.Pj
open Go.RowKit Go.Proofs.YtgmolmpfihkolaaGreatW.PrintWords Go.Proofs.YtgmolmpfihkolaaGreat
set_option linter.unusedVariables false
set_option maxRecDepth 100000
def a27_works.f : Option Bool := some true
set_option maxHeartbeats 4000000 in
theorem a27_works.calls (r : Bool) (w : World) (h : a27_works.f = some r) :
 Calls Tryz.prog 8 #[] w fun e w' => e = .returned (.bool r) ∧ Below w.heap.size w w' := by
 obtain rfl : true = r := Option.some.inj h
 clear h
 have HD := hdq (HdT.start w)
 go_enter Tryz.func8, Tryz.ntmps8
 go_wp2_with (first
  | (go_at_call 30; refine (Number_exp _ _).mono ?_; rintro e w1 ⟨rfl, hb⟩; replace HD := hdq (HD.out.step hb); clear hb)
  | (go_at_call 31; refine (tuple_any _ (by decide) _ _ _ _ _).mono ?_; rintro e w1 ⟨g, rfl, hk, hb⟩; replace HD := hdq (HD.out.add hk hb); clear hk hb)
  | (go_at_call 32; refine (f_exp _ _).mono ?_; rintro e w1 ⟨rfl, hb⟩; replace HD := hdq (HD.out.step hb); clear hb)
  | (go_at_call 34; refine (NaN_any _).mono ?_; rintro e w1 ⟨rfl, rfl⟩)
  | (go_at_call 33; refine (Copysign_zero _).mono ?_; rintro e w1 ⟨rfl, rfl⟩))
 have HA := hdq HD.out.rowA
 clear HD
 revert HA
 generalize w1.alloc _ = wa
 generalize w1.heap.size = ga
 intro HA
 have HD := hdq (HdT.start wa)
 go_wp2_with (first
  | (go_at_call 30; refine (Number_exp _ _).mono ?_; rintro e w1 ⟨rfl, hb⟩; replace HD := hdq (HD.out.step hb); clear hb)
  | (go_at_call 31; refine (tuple_any _ (by decide) _ _ _ _ _).mono ?_; rintro e w1 ⟨g, rfl, hk, hb⟩; replace HD := hdq (HD.out.add hk hb); clear hk hb)
  | (go_at_call 32; refine (f_exp _ _).mono ?_; rintro e w1 ⟨rfl, hb⟩; replace HD := hdq (HD.out.step hb); clear hb)
  | (go_at_call 34; refine (NaN_any _).mono ?_; rintro e w1 ⟨rfl, rfl⟩))
 have HR := hdq (HdR.mk HA.out HD.out)
 clear HD HA
 revert HR
 generalize World.alloc (World.alloc (World.alloc _ _) _) _ = wb
 generalize w1.heap.size + 1 + 1 = gr
 generalize w1.heap.size + 1 = gl
 generalize w1.heap.size = gb
 intro HR
 go_wp2_with (first
  | (go_at_call 19; refine (Hash_little HR.out).mono ?_; rintro e w2 ⟨gx, cx, rfl, hx, hb⟩; replace HR := hdq (HR.out.step hb); have HX := hdq hx; clear hx hb)
  | (go_at_call 21; refine (Merge_little HR.out).mono ?_; rintro e w3 ⟨gy, cy, rfl, hy, hb⟩; replace HR := hdq (HR.out.step hb); replace HX := hdq (HX.out.step hb); have HY := hdq hy; clear hy hb)
  | (go_at_call 18; refine (Same_little (v := .bool true) (u := .bool true) HX.out HY.out).mono ?_; rintro e w4 ⟨rfl, hb⟩; replace HR := hdq (HR.out.step hb); replace HX := hdq (HX.out.step hb); obtain ⟨g1, c1, g2, c2, q1, q2, q3⟩ := HX.out.first; clear hb))
 go_ret
 exact ⟨rfl, HR.out.1⟩
end Go.Proofs.YtgmolmpfihkolaaGreat.Pj
namespace Go.Proofs.YtgmolmpfihkolaaGreat.Dw
open Go.RowKit
set_option linter.unusedVariables false
set_option maxRecDepth 100000
attribute [local go_sem] run_f64bits run_f64from run_store_float
structure Below (B : Nat) (w w' : World) : Prop where
 b : Go.RowKit.Below B w w'
 drawn : w.drawn ≤ w'.drawn
theorem Below.refl (B : Nat) (w : World) : Below B w w := ⟨.refl B w, Nat.le_refl _⟩
theorem Below.size {B : Nat} {w w' : World} (h : Below B w w') : w.heap.size ≤ w'.heap.size := h.b.size
theorem Below.trans {B : Nat} {x y z : World} (h : Below B x y) (k : Below B y z) : Below B x z := ⟨h.b.trans k.b, Nat.le_trans h.drawn k.drawn⟩
theorem Below.mono {B B' : Nat} {w w' : World} (h : Below B w w') (hB : B' ≤ B) : Below B' w w' := ⟨h.b.mono hB, h.drawn⟩
theorem Below.drew {B : Nat} {a w : World} (h : Below B a w) : Below B a w.drew := ⟨h.b.drew, Nat.le_succ_of_le h.drawn⟩
theorem Below.alloc {B : Nat} {a w : World} (h : Below B a w) (hB : B ≤ w.heap.size) (o : Obj) : Below B a (w.alloc o) := ⟨h.b.alloc hB o, h.drawn⟩
theorem Below.setCell {B : Nat} {a w : World} (h : Below B a w) {p : Addr} (hp : B ≤ p.block) (u : Value) : Below B a (w.setCell p u) := ⟨h.b.setCell hp u, h.drawn⟩
theorem Below.cell {B : Nat} {w w' : World} (h : Below B w w') {p : Addr} (hp : p.block < B) : w'.cell? p = w.cell? p := h.b.cell hp
theorem Below.frozen {B : Nat} {w w' : World} (h : Below B w w') {p : Addr} (hp : p.block < B) : w'.frozen? p = w.frozen? p := h.b.frozen hp
set_option maxHeartbeats 1000000 in
theorem Right_any (v : Val) (hv : v.wf) (w : World) : Calls Tryz.prog 60 #[v.agg] w fun e w' => e = .returned (.bool (rightV v)) ∧ Below w.heap.size w w' := by
 obtain ⟨k, n, f, s⟩ := v
 have hz := order_zero f
 have hf : f < 2 ^ 64 := hv.2.2.1
 unfold Val.agg rightV
 simp only
 have hS := hdq (fun W => signbit_any f hf W)
 obtain ⟨q, hq⟩ : ∃ q, q = decide (f % 9223372036854775808 = 0) := ⟨_, rfl⟩
 obtain ⟨g, hg⟩ : ∃ g, g = decide (9223372036854775808 ≤ f) := ⟨_, rfl⟩
 have hfz : (f == 0) = (q && !g) := by
  rw [hq, hg, Bool.eq_iff_iff]
  simp only [beq_iff_eq, Bool.and_eq_true, decide_eq_true_eq, Bool.not_eq_true', decide_eq_false_iff_not]
  omega
 rw [← hg] at hS
 rw [← hq] at hz
 have HF := hdq hfz
 rw [hfz]
 clear hq hg hfz hf hv
 cases q
 ·go_enter Tryz.func60, Tryz.ntmps60
  go_wp2_with (go_at_call 90; refine (hS.out _).mono ?_; rintro e w' ⟨rfl, rfl⟩)
  all_goals go_ret
  all_goals refine ⟨?_, (Below.refl _ w).alloc (Nat.le_refl _) _⟩
  all_goals (simp_all <;> omega)
 ·cases g
  ·go_enter Tryz.func60, Tryz.ntmps60
   go_wp2_with (go_at_call 90; refine (hS.out _).mono ?_; rintro e w' ⟨rfl, rfl⟩)
   all_goals go_ret
   all_goals refine ⟨?_, (Below.refl _ w).alloc (Nat.le_refl _) _⟩
   all_goals (simp_all <;> omega)
  ·go_enter Tryz.func60, Tryz.ntmps60
   go_wp2_with (go_at_call 90; refine (hS.out _).mono ?_; rintro e w' ⟨rfl, rfl⟩)
   all_goals go_ret
   all_goals refine ⟨?_, (Below.refl _ w).alloc (Nat.le_refl _) _⟩
   all_goals (simp_all <;> omega)
def LiesV (W : World) (b off : Nat) (v : Val) : Prop :=
 (W.cell? ⟨b, off, none⟩ = some (.int .i64 v.kind) ∧ W.cell? ⟨b, off + 1, none⟩ = some (.int .i64 v.int) ∧ W.cell? ⟨b, off + 2, none⟩ = some (.float .f64 v.flt) ∧ W.cell? ⟨b, off + 3, none⟩ = some (.string v.text)) ∧
 (W.frozen? ⟨b, off, none⟩ = false ∧ W.frozen? ⟨b, off + 1, none⟩ = false ∧ W.frozen? ⟨b, off + 2, none⟩ = false ∧ W.frozen? ⟨b, off + 3, none⟩ = false)
theorem LiesV.below {B : Nat} {W W' : World} {b off : Nat} {v : Val} (h : LiesV W b off v) (hb : Below B W W') (hB : b < B) : LiesV W' b off v := by
 obtain ⟨⟨h1, h2, h3, h4⟩, f1, f2, f3, f4⟩ := h
 exact ⟨⟨(hb.cell hB).trans h1, (hb.cell hB).trans h2, (hb.cell hB).trans h3, (hb.cell hB).trans h4⟩, (hb.frozen hB).trans f1, (hb.frozen hB).trans f2, (hb.frozen hB).trans f3, (hb.frozen hB).trans f4⟩
theorem LiesV.new (W : World) (v : Val) (t : TypeId) : LiesV (W.alloc (.cells #[.int .i64 v.kind, .int .i64 v.int, .float .f64 v.flt, .string v.text] t)) W.heap.size 0 v := by
 have hb := World.alloc_heap_new W (.cells #[.int .i64 v.kind, .int .i64 v.int, .float .f64 v.flt, .string v.text] t)
 refine ⟨⟨?_, ?_, ?_, ?_⟩, ?_, ?_, ?_, ?_⟩
 all_goals (first | (simp only [World.cell?]; rw [hb]; rfl) | (simp only [World.frozen?]; rw [hb]; rfl))
theorem setCell_keep {W : World} {a b : Addr} {u v : Value} (h : W.cell? b = some v) (hne : a ≠ b) : (W.setCell a u).cell? b = some v := by
 rw [World.cell?_setCell_other W _ _ _ hne]; exact h
theorem off_ne {b x y : Nat} (h : x ≠ y) : (⟨b, x, none⟩ : Addr) ≠ ⟨b, y, none⟩ := fun e => h (by cases e; rfl)
theorem LiesV.stored {W : World} {b off : Nat} {u : Val} (h : LiesV W b off u) (v : Val) :
 LiesV ((((W.setCell ⟨b, off, none⟩ (.int .i64 v.kind)).setCell ⟨b, off + 1, none⟩ (.int .i64 v.int)).setCell ⟨b, off + 2, none⟩ (.float .f64 v.flt)).setCell ⟨b, off + 3, none⟩ (.string v.text)) b off v := by
 obtain ⟨⟨h1, h2, h3, h4⟩, f1, f2, f3, f4⟩ := h
 have e1 := World.cell?_setCell_same W _ (.int .i64 v.kind) h1
 have e2 := World.cell?_setCell_same (W.setCell ⟨b, off, none⟩ (.int .i64 v.kind)) _ (.int .i64 v.int) (setCell_keep h2 (off_ne (by omega)))
 have e3 := World.cell?_setCell_same ((W.setCell ⟨b, off, none⟩ (.int .i64 v.kind)).setCell ⟨b, off + 1, none⟩ (.int .i64 v.int)) _ (.float .f64 v.flt) (setCell_keep (setCell_keep h3 (off_ne (by omega))) (off_ne (by omega)))
 have e4 := World.cell?_setCell_same (((W.setCell ⟨b, off, none⟩ (.int .i64 v.kind)).setCell ⟨b, off + 1, none⟩ (.int .i64 v.int)).setCell ⟨b, off + 2, none⟩ (.float .f64 v.flt)) _ (.string v.text) (setCell_keep (setCell_keep (setCell_keep h4 (off_ne (by omega))) (off_ne (by omega))) (off_ne (by omega)))
 refine ⟨⟨?_, ?_, ?_, e4⟩, by simpa using f1, by simpa using f2, by simpa using f3, by simpa using f4⟩
 ·exact setCell_keep (setCell_keep (setCell_keep e1 (off_ne (by omega))) (off_ne (by omega))) (off_ne (by omega))
 ·exact setCell_keep (setCell_keep e2 (off_ne (by omega))) (off_ne (by omega))
 ·exact setCell_keep e3 (off_ne (by omega))
theorem LiesV.other {W : World} {b off : Nat} {v : Val} (h : LiesV W b off v) {a : Addr} {u : Value} (hne : a.block ≠ b) : LiesV (W.setCell a u) b off v := by
 obtain ⟨⟨h1, h2, h3, h4⟩, f1, f2, f3, f4⟩ := h
 have hn : ∀ x, a ≠ ⟨b, x, none⟩ := fun x e => hne (by rw [e])
 exact ⟨⟨setCell_keep h1 (hn _), setCell_keep h2 (hn _), setCell_keep h3 (hn _), setCell_keep h4 (hn _)⟩, by simpa using f1, by simpa using f2, by simpa using f3, by simpa using f4⟩
theorem below_val {B : Nat} {a W : World} {b off : Nat} (h : Below B a W) (hb : B ≤ b) (x0 x1 x2 x3 : Value) : Below B a ((((W.setCell ⟨b, off, none⟩ x0).setCell ⟨b, off + 1, none⟩ x1).setCell ⟨b, off + 2, none⟩ x2).setCell ⟨b, off + 3, none⟩ x3) :=
 (((h.setCell (p := ⟨b, off, none⟩) hb x0).setCell (p := ⟨b, off + 1, none⟩) hb x1).setCell (p := ⟨b, off + 2, none⟩) hb x2).setCell (p := ⟨b, off + 3, none⟩) hb x3
theorem load_val {W : World} {b off : Nat} {v : Val} (h : LiesV W b off v) : (loadVar 39 ⟨b, off, none⟩).run Tryz.prog W = .ok v.agg W := by
 obtain ⟨⟨h1, h2, h3, h4⟩, _⟩ := h
 have u := Tryz.underlying39
 have a := Tryz.isAgg39
 have z := Tryz.sizeOf39
 unfold Val.agg
 go_simp
theorem ret_val {fn : Func} {p : Tmp} (hr : fn.results = #[.cell p 39]) {R : Ending → World → Prop} {a : Act} {W : World} {b : Nat} {v : Val} (hp : a.tmps.getD p undef = .pointer (some ⟨b, 0, none⟩)) (hd : a.defers = [])
 (hL : LiesV W b 0 v) (h : R (.returned v.agg) W) : bodyPost Tryz.prog fn R .ret a W := by
 refine bodyPost_ret ?_ hd h
 have hp' : a.tmps[p]?.getD undef = .pointer (some ⟨b, 0, none⟩) := by simpa using hp
 simp [results, hr, hp', asAddr, load_val hL]
set_option maxHeartbeats 1000000 in
theorem Plain_any (v : Val) (hv : v.wf) (w : World) : Calls Tryz.prog 35 #[v.agg] w fun e w' => e = .returned (plainV v).agg ∧ Below w.heap.size w w' := by
 have HRI := hdq (fun W => Right_any v hv W)
 obtain ⟨p, hp⟩ : ∃ p, p = plainV v := ⟨_, rfl⟩
 obtain ⟨r, hr⟩ : ∃ r, r = rightV v := ⟨_, rfl⟩
 rw [← hr] at HRI
 rw [← hp]
 unfold plainV at hp
 rw [← hr] at hp
 clear hr hv
 have HL := hdq (((LiesV.new w v 39).below (B := w.heap.size + 1) ((Below.refl _ _).alloc (by simp) (.cells #[.int .i64 0, .int .i64 0, .float .f64 0, .string ⟨#[]⟩] 39)) (Nat.lt_succ_self _)))
 have HN := hdq (LiesV.new (w.alloc (.cells #[.int .i64 v.kind, .int .i64 v.int, .float .f64 v.flt, .string v.text] 39)) Val.null 39)
 have HB0 := hdq (((Below.refl _ w).alloc (Nat.le_refl _) (.cells #[.int .i64 v.kind, .int .i64 v.int, .float .f64 v.flt, .string v.text] 39)).alloc (by simp) (.cells #[.int .i64 0, .int .i64 0, .float .f64 0, .string ⟨#[]⟩] 39))
 obtain ⟨k, n, f, s⟩ := v
 unfold Val.agg Val.null at *
 simp only at *
 have HNN := hdq (isNaN_any f)
 have hoz := order_zero f
 cases r with
 | false =>
  rw [if_neg (by simp)] at hp
  subst hp
  go_enter Tryz.func35, Tryz.ntmps35
  go_wp2_with (first | (go_at_call 60; refine (HRI.out _).mono ?_; rintro e w1 ⟨rfl, hb⟩; have HB1 := hdq (HB0.out.trans (hb.mono HB0.out.size)); obtain ⟨⟨r1, r2, r3, r4⟩, g1, g2, g3, g4⟩ := HN.out.below hb (by simp); obtain ⟨⟨l1, l2, l3, l4⟩, m1, m2, m3, m4⟩ := HL.out.below hb (by simp; omega); simp only [World.size_alloc, Nat.zero_add] at r1 r2 r3 r4 g1 g2 g3 g4 l1 l2 l3 l4 m1 m2 m3 m4; clear hb) | (go_at_call 61; refine (HNN.out _).mono ?_; rintro e w' ⟨rfl, rfl⟩))
  refine ret_val Tryz.results35 rfl rfl ((show LiesV w1 (w.heap.size + 1) 0 Val.null from ⟨⟨r1, r2, r3, r4⟩, g1, g2, g3, g4⟩).stored Val.null) ⟨rfl, ?_⟩
  exact below_val HB1.out (by omega) _ _ _ _
 | true =>
  rw [if_pos rfl] at hp
  by_cases hk : k = 3
  ·subst hk
   rw [if_pos rfl] at hp
   cases hn : nanB f with
   | true =>
    rw [hn] at HNN
    rw [hn, if_pos rfl] at hp
    subst hp
    clear hoz hn
    go_enter Tryz.func35, Tryz.ntmps35
    go_wp2_with (first | (go_at_call 60; refine (HRI.out _).mono ?_; rintro e w1 ⟨rfl, hb⟩; have HB1 := hdq (HB0.out.trans (hb.mono HB0.out.size)); obtain ⟨⟨r1, r2, r3, r4⟩, g1, g2, g3, g4⟩ := HN.out.below hb (by simp); obtain ⟨⟨l1, l2, l3, l4⟩, m1, m2, m3, m4⟩ := HL.out.below hb (by simp; omega); simp only [World.size_alloc, Nat.zero_add] at r1 r2 r3 r4 g1 g2 g3 g4 l1 l2 l3 l4 m1 m2 m3 m4; clear hb) | (go_at_call 61; refine (HNN.out _).mono ?_; rintro e w' ⟨rfl, rfl⟩))
    refine ret_val Tryz.results35 rfl rfl (((show LiesV w1 (w.heap.size + 1) 0 Val.null from ⟨⟨r1, r2, r3, r4⟩, g1, g2, g3, g4⟩).other (a := ⟨w.heap.size, 2, none⟩) (u := .float .f64 9221120237041090561) (by simp)).stored ⟨3, n, 9221120237041090561, s⟩) ⟨rfl, ?_⟩
    exact below_val (HB1.out.setCell (p := ⟨w.heap.size, 2, none⟩) (Nat.le_refl _) _) (by omega) _ _ _ _
   | false =>
    rw [hn] at HNN
    rw [hn, if_neg (by simp)] at hp
    by_cases hz : f % 9223372036854775808 = 0
    ·rw [if_pos hz] at hp
     rw [decide_eq_true hz] at hoz
     subst hp
     clear hn hz
     go_enter Tryz.func35, Tryz.ntmps35
     go_wp2_with (first | (go_at_call 60; refine (HRI.out _).mono ?_; rintro e w1 ⟨rfl, hb⟩; have HB1 := hdq (HB0.out.trans (hb.mono HB0.out.size)); obtain ⟨⟨r1, r2, r3, r4⟩, g1, g2, g3, g4⟩ := HN.out.below hb (by simp); obtain ⟨⟨l1, l2, l3, l4⟩, m1, m2, m3, m4⟩ := HL.out.below hb (by simp; omega); simp only [World.size_alloc, Nat.zero_add] at r1 r2 r3 r4 g1 g2 g3 g4 l1 l2 l3 l4 m1 m2 m3 m4; clear hb) | (go_at_call 61; refine (HNN.out _).mono ?_; rintro e w' ⟨rfl, rfl⟩))
     refine ret_val Tryz.results35 rfl rfl (((show LiesV w1 (w.heap.size + 1) 0 Val.null from ⟨⟨r1, r2, r3, r4⟩, g1, g2, g3, g4⟩).other (a := ⟨w.heap.size, 2, none⟩) (u := .float .f64 0) (by simp)).stored ⟨3, n, 0, s⟩) ⟨rfl, ?_⟩
     exact below_val (HB1.out.setCell (p := ⟨w.heap.size, 2, none⟩) (Nat.le_refl _) _) (by omega) _ _ _ _
    ·rw [if_neg hz] at hp
     rw [decide_eq_false hz] at hoz
     subst hp
     clear hn hz
     go_enter Tryz.func35, Tryz.ntmps35
     go_wp2_with (first | (go_at_call 60; refine (HRI.out _).mono ?_; rintro e w1 ⟨rfl, hb⟩; have HB1 := hdq (HB0.out.trans (hb.mono HB0.out.size)); obtain ⟨⟨r1, r2, r3, r4⟩, g1, g2, g3, g4⟩ := HN.out.below hb (by simp); obtain ⟨⟨l1, l2, l3, l4⟩, m1, m2, m3, m4⟩ := HL.out.below hb (by simp; omega); simp only [World.size_alloc, Nat.zero_add] at r1 r2 r3 r4 g1 g2 g3 g4 l1 l2 l3 l4 m1 m2 m3 m4; clear hb) | (go_at_call 61; refine (HNN.out _).mono ?_; rintro e w' ⟨rfl, rfl⟩))
     refine ret_val Tryz.results35 rfl rfl ((show LiesV w1 (w.heap.size + 1) 0 Val.null from ⟨⟨r1, r2, r3, r4⟩, g1, g2, g3, g4⟩).stored ⟨3, n, f, s⟩) ⟨rfl, ?_⟩
     exact below_val HB1.out (by omega) _ _ _ _
  ·rw [if_neg hk] at hp
   have hk3 : ((k : Int) == 3) = false := by simp; exact hk
   subst hp
   clear hoz hk
   go_enter Tryz.func35, Tryz.ntmps35
   go_wp2_with (first | (go_at_call 60; refine (HRI.out _).mono ?_; rintro e w1 ⟨rfl, hb⟩; have HB1 := hdq (HB0.out.trans (hb.mono HB0.out.size)); obtain ⟨⟨r1, r2, r3, r4⟩, g1, g2, g3, g4⟩ := HN.out.below hb (by simp); obtain ⟨⟨l1, l2, l3, l4⟩, m1, m2, m3, m4⟩ := HL.out.below hb (by simp; omega); simp only [World.size_alloc, Nat.zero_add] at r1 r2 r3 r4 g1 g2 g3 g4 l1 l2 l3 l4 m1 m2 m3 m4; clear hb) | (go_at_call 61; refine (HNN.out _).mono ?_; rintro e w' ⟨rfl, rfl⟩))
   refine ret_val Tryz.results35 rfl rfl ((show LiesV w1 (w.heap.size + 1) 0 Val.null from ⟨⟨r1, r2, r3, r4⟩, g1, g2, g3, g4⟩).stored ⟨k, n, f, s⟩) ⟨rfl, ?_⟩
   exact below_val HB1.out (by omega) _ _ _ _
theorem Plain_exp (k n : Int) (f : Nat) (s : ByteArray) (hv : Val.wf ⟨k, n, f, s⟩) (w : World) : Calls Tryz.prog 35 #[.agg #[.int .i64 k, .int .i64 n, .float .f64 f, .string s]] w
 fun e w' => e = .returned (.agg #[.int .i64 (plainV ⟨k, n, f, s⟩).kind, .int .i64 (plainV ⟨k, n, f, s⟩).int, .float .f64 (plainV ⟨k, n, f, s⟩).flt, .string (plainV ⟨k, n, f, s⟩).text]) ∧ Below w.heap.size w w' := Plain_any _ hv w
def Two (w : World) (a b : Val) (W : World) : Prop := LiesV W w.heap.size 0 a ∧ LiesV W (w.heap.size + 1) 0 b ∧ Below w.heap.size w W ∧ w.heap.size + 1 < W.heap.size
theorem Two.start (w : World) (a b : Val) (t u : TypeId) : Two w a b ((w.alloc (.cells #[.int .i64 a.kind, .int .i64 a.int, .float .f64 a.flt, .string a.text] t)).alloc (.cells #[.int .i64 b.kind, .int .i64 b.int, .float .f64 b.flt, .string b.text] u)) := by
 refine ⟨((LiesV.new w a t).below (B := w.heap.size + 1) ((Below.refl _ _).alloc (by simp) _) (Nat.lt_succ_self _)), ?_, ((Below.refl _ w).alloc (Nat.le_refl _) _).alloc (by simp) _, by simp⟩
 have := LiesV.new (w.alloc (.cells #[.int .i64 a.kind, .int .i64 a.int, .float .f64 a.flt, .string a.text] t)) b u
 rw [World.size_alloc] at this
 exact this
theorem Two.later {w W W' : World} {a b : Val} (h : Two w a b W) (hb : Below W.heap.size W W') : Two w a b W' :=
 ⟨h.1.below hb (by have := h.2.2.2; omega), h.2.1.below hb h.2.2.2, h.2.2.1.trans (hb.mono h.2.2.1.size), Nat.lt_of_lt_of_le h.2.2.2 hb.size⟩
theorem Two.drew {w W : World} {a b : Val} (h : Two w a b W) : Two w a b W.drew := h.later (Below.refl _ W).drew
theorem Two.set1 {w W : World} {a b : Val} (h : Two w a b W) (a' : Val) : Two w a' b ((((W.setCell ⟨w.heap.size, 0, none⟩ (.int .i64 a'.kind)).setCell ⟨w.heap.size, 1, none⟩ (.int .i64 a'.int)).setCell ⟨w.heap.size, 2, none⟩ (.float .f64 a'.flt)).setCell ⟨w.heap.size, 3, none⟩ (.string a'.text)) :=
 ⟨h.1.stored a', (((h.2.1.other (by simp)).other (by simp)).other (by simp)).other (by simp), below_val h.2.2.1 (Nat.le_refl _) _ _ _ _, by simpa using h.2.2.2⟩
theorem Two.set2 {w W : World} {a b : Val} (h : Two w a b W) (b' : Val) : Two w a b' ((((W.setCell ⟨w.heap.size + 1, 0, none⟩ (.int .i64 b'.kind)).setCell ⟨w.heap.size + 1, 1, none⟩ (.int .i64 b'.int)).setCell ⟨w.heap.size + 1, 2, none⟩ (.float .f64 b'.flt)).setCell ⟨w.heap.size + 1, 3, none⟩ (.string b'.text)) :=
 ⟨(((h.1.other (by simp)).other (by simp)).other (by simp)).other (by simp), h.2.1.stored b', below_val h.2.2.1 (by omega) _ _ _ _, by simpa using h.2.2.2⟩
set_option maxHeartbeats 2000000 in
theorem Cmp_any (a b : Val) (ha : a.wf) (hb : b.wf) (w : World) : Calls Tryz.prog 55 #[a.agg, b.agg] w fun e w' => e = .returned (.int .i64 (cmpV a b)) ∧ Below w.heap.size w w' := by
 have HT := hdq (Two.start w a b 39 39)
 obtain ⟨r, hr⟩ : ∃ r, r = cmpV a b := ⟨_, rfl⟩
 rw [← hr]
 unfold cmpV at hr
 obtain ⟨k, n, f, s⟩ := a
 obtain ⟨k', n', f', s'⟩ := b
 obtain ⟨p, hp⟩ : ∃ p, p = plainV ⟨k, n, f, s⟩ := ⟨_, rfl⟩
 obtain ⟨q, hq⟩ : ∃ q, q = plainV ⟨k', n', f', s'⟩ := ⟨_, rfl⟩
 rw [← hp, ← hq] at hr
 obtain ⟨pk, pn, pf, ps⟩ := p
 obtain ⟨qk, qn, qf, qs⟩ := q
 have HP := hdq hp.symm
 have HQ := hdq hq.symm
 have HR := hdq hr
 clear hp hq hr
 unfold Val.agg
 simp only
 go_enter Tryz.func55, Tryz.ntmps55
 go_upto_region 1 with fail
 go_cut [4] from 5 to 8 (fun v W => v = .int .i64 0 ∧ Two w ⟨pk, pn, pf, ps⟩ ⟨qk, qn, qf, qs⟩ W)
 case first =>
  go_region_with (go_at_call 35; refine (Plain_exp _ _ _ _ (by assumption) _).mono ?_; (try rw [HP.out]); (try rw [HQ.out]); rintro e wx ⟨rfl, hbx⟩; (first | (have HT1 := hdq (HT.out.drew.later hbx); obtain ⟨⟨⟨l1, l2, l3, l4⟩, g1, g2, g3, g4⟩, ⟨⟨m1, m2, m3, m4⟩, q1, q2, q3, q4⟩, _, hsx⟩ := HT1.out) | (have HT2 := hdq (HT1.out.later hbx); obtain ⟨⟨⟨l1, l2, l3, l4⟩, g1, g2, g3, g4⟩, ⟨⟨m1, m2, m3, m4⟩, q1, q2, q3, q4⟩, _, hsx⟩ := HT2.out)); simp only [Nat.zero_add] at l1 l2 l3 l4 g1 g2 g3 g4 m1 m2 m3 m4 q1 q2 q3 q4; clear hbx)
  all_goals go_wp2_with fail
  all_goals go_meet
  all_goals exact ⟨rfl, (HT2.out.set1 ⟨pk, pn, pf, ps⟩).set2 ⟨qk, qn, qf, qs⟩⟩
 case rest =>
  clear HT HP HQ ha hb
  obtain ⟨rfl, hcut⟩ := hcut
  obtain ⟨⟨⟨l1, l2, l3, l4⟩, _⟩, ⟨⟨m1, m2, m3, m4⟩, _⟩, hbl, _⟩ := hcut
  simp only [Nat.zero_add] at l1 l2 l3 l4 m1 m2 m3 m4
  have HBL := hdq hbl
  have HC1 := hdq cmpInt_any
  have HC2 := hdq cmpInt64_any
  have HC3 := hdq cmpStr_any
  have HC4 := hdq floats_any
  clear hbl
  go_wp2_with (first | (go_at_call 50; refine (HC1.out _ _ _).mono ?_; rintro e w' ⟨rfl, rfl⟩) | (go_at_call 87; refine (HC2.out _ _ _).mono ?_; rintro e w' ⟨rfl, rfl⟩) | (go_at_call 86; refine (HC3.out _ _ _).mono ?_; rintro e w' ⟨rfl, rfl⟩) | (go_at_call 85; refine (HC4.out _ _ _).mono ?_; rintro e w' ⟨rfl, rfl⟩))
  all_goals go_ret
  all_goals refine ⟨?_, HBL.out⟩
  all_goals rw [HR.out]
  all_goals unfold cmpP
  all_goals simp_all
theorem Cmp_exp (k n : Int) (f : Nat) (s : ByteArray) (k' n' : Int) (f' : Nat) (s' : ByteArray) (ha : Val.wf ⟨k, n, f, s⟩) (hb : Val.wf ⟨k', n', f', s'⟩) (w : World) : Calls Tryz.prog 55 #[.agg #[.int .i64 k, .int .i64 n, .float .f64 f, .string s], .agg #[.int .i64 k', .int .i64 n', .float .f64 f', .string s']] w
 fun e w' => e = .returned (.int .i64 (cmpV ⟨k, n, f, s⟩ ⟨k', n', f', s'⟩)) ∧ Below w.heap.size w w' := Cmp_any _ _ ha hb w
def EightS (b1 o1 : Nat) (v1 : Val) (b2 o2 : Nat) (v2 : Val) (w W : World) : Prop := HasV W b1 o1 v1 ∧ HasV W b2 o2 v2 ∧ Below w.heap.size w W
theorem eight_next {b1 o1 b2 o2 : Nat} {v1 v2 : Val} {w W W' : World} (h1 : b1 < w.heap.size) (h2 : b2 < w.heap.size) (h : EightS b1 o1 v1 b2 o2 v2 w W) (hb : Below W.heap.size W W') : EightS b1 o1 v1 b2 o2 v2 w W' := by
 have := h.2.2.size
 exact ⟨h.1.below hb.b (by omega), h.2.1.below hb.b (by omega), h.2.2.trans (hb.mono this)⟩
set_option maxHeartbeats 4000000 in
theorem lists_any (a1 : Option Addr) (l1 c1 : Nat) (x : List Val) (a2 : Option Addr) (l2 c2 : Nat) (y : List Val) (w : World) (hx : RowV w a1 l1 c1 x) (hy : RowV w a2 l2 c2 y) :
 Calls Tryz.prog 72 #[.slice a1 l1 c1, .slice a2 l2 c2, .func (.func 55) #[] #[]] w fun e w' => e = .returned (.int .i64 (cmpRow x y)) ∧ Below w.heap.size w w' := by
 have h63 : l1 < 2 ^ 63 := by have := hx.2.1; have := hx.2.2.1; unfold maxLen at this; omega
 have h64 : l2 < 2 ^ 63 := by have := hy.2.1; have := hy.2.2.1; unfold maxLen at this; omega
 have HLX := hdq hx.1
 have HLY := hdq hy.1
 have HX := hdq hx
 have HY := hdq hy
 obtain ⟨r, hr⟩ : ∃ r, r = cmpRow x y := ⟨_, rfl⟩
 have HRES := hdq hr
 rw [← hr]
 clear hx hy hr
 go_enter Tryz.func72, Tryz.ntmps72
 go_wp2
 go_loopw [7] (fun i wr => ∃ k : Nat, i = .int .i64 k ∧ k ≤ l1 ∧ k ≤ l2 ∧ Hid (r = cmpRow (x.drop k) (y.drop k)) ∧ Hid (Below w.heap.size w wr)) (fun i _ => l1 - (intOf i).toNat)
 case atStart => exact ⟨0, rfl, Nat.zero_le _, Nat.zero_le _, HRES, hdq (Below.refl _ _)⟩
 case round =>
  obtain ⟨k, rfl, hk1, hk2, HK, HB⟩ := hrel
  by_cases hlt1 : k < l1
  ·by_cases hlt2 : k < l2
   ·obtain ⟨b1, o1, rfl, v1, hv1, hw1, hc1, hd1⟩ := fold_row HX.out HB.out.b hlt1
    obtain ⟨b2, o2, rfl, v2, hv2, hw2, hc2, hd2⟩ := fold_row HY.out HB.out.b hlt2
    obtain ⟨_, _, e1, hb1, _⟩ := HX.out.get hlt1
    cases e1
    obtain ⟨_, _, e2, hb2, _⟩ := HY.out.get hlt2
    cases e2
    obtain ⟨ks, ns, fs, ss⟩ := v1
    obtain ⟨kt, nt, ft, st⟩ := v2
    have hK := HK.out
    rw [hd1, hd2] at hK
    simp only [cmpRow] at hK
    have HE := hdq (show EightS b1 (o1 + k * 4) ⟨ks, ns, fs, ss⟩ b2 (o2 + k * 4) ⟨kt, nt, ft, st⟩ w wr from ⟨hc1, hc2, HB.out⟩)
    obtain ⟨p, hp⟩ : ∃ p, p = cmpV ⟨ks, ns, fs, ss⟩ ⟨kt, nt, ft, st⟩ := ⟨_, rfl⟩
    have HC := hdq (fun (W : World) (hS : W.cell? ⟨b1, o1 + k * 4, none⟩ = some (.int .i64 ks) ∧ W.cell? ⟨b1, o1 + k * 4 + 1, none⟩ = some (.int .i64 ns) ∧ W.cell? ⟨b1, o1 + k * 4 + 2, none⟩ = some (.float .f64 fs) ∧ W.cell? ⟨b1, o1 + k * 4 + 3, none⟩ = some (.string ss) ∧ W.cell? ⟨b2, o2 + k * 4, none⟩ = some (.int .i64 kt) ∧ W.cell? ⟨b2, o2 + k * 4 + 1, none⟩ = some (.int .i64 nt) ∧ W.cell? ⟨b2, o2 + k * 4 + 2, none⟩ = some (.float .f64 ft) ∧ W.cell? ⟨b2, o2 + k * 4 + 3, none⟩ = some (.string st) ∧ Hid (EightS b1 (o1 + k * 4) ⟨ks, ns, fs, ss⟩ b2 (o2 + k * 4) ⟨kt, nt, ft, st⟩ w W)) =>
     (Cmp_exp ks ns fs ss kt nt ft st hw1 hw2 W).mono (R' := fun e w' => e = .returned (.int .i64 p) ∧ (w'.cell? ⟨b1, o1 + k * 4, none⟩ = some (.int .i64 ks) ∧ w'.cell? ⟨b1, o1 + k * 4 + 1, none⟩ = some (.int .i64 ns) ∧ w'.cell? ⟨b1, o1 + k * 4 + 2, none⟩ = some (.float .f64 fs) ∧ w'.cell? ⟨b1, o1 + k * 4 + 3, none⟩ = some (.string ss) ∧ w'.cell? ⟨b2, o2 + k * 4, none⟩ = some (.int .i64 kt) ∧ w'.cell? ⟨b2, o2 + k * 4 + 1, none⟩ = some (.int .i64 nt) ∧ w'.cell? ⟨b2, o2 + k * 4 + 2, none⟩ = some (.float .f64 ft) ∧ w'.cell? ⟨b2, o2 + k * 4 + 3, none⟩ = some (.string st) ∧ Hid (EightS b1 (o1 + k * 4) ⟨ks, ns, fs, ss⟩ b2 (o2 + k * 4) ⟨kt, nt, ft, st⟩ w w')))
     (fun e w' h => by
      have hn := eight_next hb1 hb2 hS.2.2.2.2.2.2.2.2.out h.2
      have hn2 := hdq hn
      obtain ⟨⟨n1, n2, n3, n4⟩, ⟨m1, m2, m3, m4⟩, _⟩ := hn
      exact ⟨by rw [h.1, hp], n1, n2, n3, n4, m1, m2, m3, m4, hn2⟩))
    rw [← hp] at hK
    obtain ⟨n1, n2, n3, n4⟩ := hc1
    obtain ⟨m1, m2, m3, m4⟩ := hc2
    simp only at n1 n2 n3 n4 m1 m2 m3 m4
    clear hp hw1 hw2 hd1 hd2 hv1 hv2
    by_cases hp0 : p = 0
    ·subst hp0
     rw [if_neg (by simp)] at hK
     have HK2 := hdq hK
     clear hK
     go_wp2
     go_region_held3 (fun W : World => W.cell? ⟨b1, o1 + k * 4, none⟩ = some (.int .i64 ks) ∧ W.cell? ⟨b1, o1 + k * 4 + 1, none⟩ = some (.int .i64 ns) ∧ W.cell? ⟨b1, o1 + k * 4 + 2, none⟩ = some (.float .f64 fs) ∧ W.cell? ⟨b1, o1 + k * 4 + 3, none⟩ = some (.string ss) ∧ W.cell? ⟨b2, o2 + k * 4, none⟩ = some (.int .i64 kt) ∧ W.cell? ⟨b2, o2 + k * 4 + 1, none⟩ = some (.int .i64 nt) ∧ W.cell? ⟨b2, o2 + k * 4 + 2, none⟩ = some (.float .f64 ft) ∧ W.cell? ⟨b2, o2 + k * 4 + 3, none⟩ = some (.string st) ∧ Hid (EightS b1 (o1 + k * 4) ⟨ks, ns, fs, ss⟩ b2 (o2 + k * 4) ⟨kt, nt, ft, st⟩ w W)) (first | (exact ⟨by simpa using n1, by simpa using n2, by simpa using n3, by simpa using n4, by simpa using m1, by simpa using m2, by simpa using m3, by simpa using m4, hdq (eight_next hb1 hb2 HE.out (Below.refl _ _).drew)⟩) | assumption) (first | (go_at_call 55; refine (HC.out _ (by assumption)).mono ?_; rintro e wx ⟨rfl, hSx⟩))
     have HN := hdq hSx.2.2.2.2.2.2.2.2.out.2.2
     clear hSx HE HC n1 n2 n3 n4 m1 m2 m3 m4
     go_wp2
     go_roundw
     case rel => exact ⟨k + 1, by go_num, by omega, by omega, HK2, HN⟩
     case measure => simp [intOf]; omega
    ·rw [if_pos hp0] at hK
     subst hK
     have hp1 : ((r : Int) != 0) = true := by simp; exact hp0
     clear hp0
     go_wp2
     go_region_held3 (fun W : World => W.cell? ⟨b1, o1 + k * 4, none⟩ = some (.int .i64 ks) ∧ W.cell? ⟨b1, o1 + k * 4 + 1, none⟩ = some (.int .i64 ns) ∧ W.cell? ⟨b1, o1 + k * 4 + 2, none⟩ = some (.float .f64 fs) ∧ W.cell? ⟨b1, o1 + k * 4 + 3, none⟩ = some (.string ss) ∧ W.cell? ⟨b2, o2 + k * 4, none⟩ = some (.int .i64 kt) ∧ W.cell? ⟨b2, o2 + k * 4 + 1, none⟩ = some (.int .i64 nt) ∧ W.cell? ⟨b2, o2 + k * 4 + 2, none⟩ = some (.float .f64 ft) ∧ W.cell? ⟨b2, o2 + k * 4 + 3, none⟩ = some (.string st) ∧ Hid (EightS b1 (o1 + k * 4) ⟨ks, ns, fs, ss⟩ b2 (o2 + k * 4) ⟨kt, nt, ft, st⟩ w W)) (first | (exact ⟨by simpa using n1, by simpa using n2, by simpa using n3, by simpa using n4, by simpa using m1, by simpa using m2, by simpa using m3, by simpa using m4, hdq (eight_next hb1 hb2 HE.out (Below.refl _ _).drew)⟩) | assumption) (first | (go_at_call 55; refine (HC.out _ (by assumption)).mono ?_; rintro e wx ⟨rfl, hSx⟩))
     have HN := hdq hSx.2.2.2.2.2.2.2.2.out.2.2
     clear hSx HE HC n1 n2 n3 n4 m1 m2 m3 m4
     go_wp2
     go_ret
     exact ⟨rfl, HN.out⟩
   ·obtain rfl : k = l2 := by omega
    have hK := HK.out
    rw [List.drop_of_length_le (l := y) (by rw [HLY.out]; exact Nat.le_refl _)] at hK
    obtain ⟨v, hv⟩ : ∃ v, x.drop k = v :: x.drop (k + 1) := ⟨_, List.drop_eq_getElem_cons (by rw [HLX.out]; exact hlt1)⟩
    rw [hv] at hK
    simp only [cmpRow] at hK
    subst hK
    clear hv
    go_wp2_with (go_at_call 50; refine (cmpInt_any _ _ _).mono ?_; rw [show cmpI (l1 : Int) (k : Int) = 1 by unfold cmpI; rw [if_neg (by omega), if_pos (by omega)]]; rintro e w2 ⟨rfl, rfl⟩)
    go_ret
    exact ⟨rfl, HB.out⟩
  ·obtain rfl : k = l1 := by omega
   have hK := HK.out
   rw [List.drop_of_length_le (l := x) (by rw [HLX.out]; exact Nat.le_refl _)] at hK
   by_cases hlt2 : k < l2
   ·obtain ⟨v, hv⟩ : ∃ v, y.drop k = v :: y.drop (k + 1) := ⟨_, List.drop_eq_getElem_cons (by rw [HLY.out]; exact hlt2)⟩
    rw [hv] at hK
    simp only [cmpRow] at hK
    subst hK
    clear hv
    go_wp2_with (go_at_call 50; refine (cmpInt_any _ _ _).mono ?_; rw [show cmpI (k : Int) (l2 : Int) = -1 by unfold cmpI; rw [if_pos (by omega)]]; rintro e w2 ⟨rfl, rfl⟩)
    go_ret
    exact ⟨rfl, HB.out⟩
   ·obtain rfl : l2 = k := by omega
    rw [List.drop_of_length_le (l := y) (by rw [HLY.out]; exact Nat.le_refl _)] at hK
    simp only [cmpRow] at hK
    subst hK
    go_wp2_with (go_at_call 50; refine (cmpInt_any _ _ _).mono ?_; rw [show cmpI (l2 : Int) (l2 : Int) = 0 by unfold cmpI; rw [if_neg (by omega), if_neg (by omega)]]; rintro e w2 ⟨rfl, rfl⟩)
    go_ret
    exact ⟨rfl, HB.out⟩
theorem rowCmp_any (a1 : Option Addr) (l1 c1 : Nat) (x : List Val) (a2 : Option Addr) (l2 c2 : Nat) (y : List Val) (w : World) (hx : RowV w a1 l1 c1 x) (hy : RowV w a2 l2 c2 y) :
 Calls Tryz.prog 45 #[.slice a1 l1 c1, .slice a2 l2 c2] w fun e w' => e = .returned (.int .i64 (cmpRow x y)) ∧ Below w.heap.size w w' := by
 have HL := hdq (lists_any a1 l1 c1 x a2 l2 c2 y w hx hy)
 clear hx hy
 go_enter Tryz.func45, Tryz.ntmps45
 go_wp2_with (go_at_call 72; refine HL.out.mono ?_; rintro e w2 ⟨rfl, hb⟩)
 go_ret
 exact ⟨rfl, hb⟩
end Go.Proofs.YtgmolmpfihkolaaGreat.Dw
namespace Go.Proofs
open Go.Shelf
def Tryz.sortRows_ren : Go.Shelf.Ren := ⟨fun | 6 => 89 | 15 => 76 | 14 => 120 | 28 => 109 | 29 => 110 | 20 => 132 | 21 => 133 | 22 => 134 | 23 => 135 | 24 => 136 | 25 => 137 | 26 => 138 | 27 => 139 | 46 => 142 | 47 => 127 | 48 => 128 | 49 => 143 | 50 => 144 | 57 => 145 | n => n, fun | 22 => 22 | 24 => 29 | 25 => 83 | 3 => 3 | 39 => 110 | 0 => 0 | 53 => 137 | 55 => 97 | 4 => 4 | 46 => 130 | 45 => 129 | 50 => 134 | 5 => 5 | 9 => 9 | 66 => 146 | 70 => 150 | 76 => 158 | 77 => 159 | n => n, fun | n => n⟩
theorem Tryz.sortRows : Go.Proofs.SlLaysF.n6 Tryz.prog Tryz.sortRows_ren := {
 mixed := by kernel_rfl
 f6 := ⟨Tryz.f89.name, by decide, Tryz.func89.trans (congrArg some (by kernel_rfl))⟩
 f14 := ⟨Tryz.f120.name, by decide, Tryz.func120.trans (congrArg some (by kernel_rfl))⟩
 f15 := Tryz.func76.trans (congrArg some (by kernel_rfl))
 f20 := ⟨Tryz.f132.name, by decide, Tryz.func132.trans (congrArg some (by kernel_rfl))⟩
 f21 := ⟨Tryz.f133.name, by decide, Tryz.func133.trans (congrArg some (by kernel_rfl))⟩
 f22 := ⟨Tryz.f134.name, by decide, Tryz.func134.trans (congrArg some (by kernel_rfl))⟩
 f23 := ⟨Tryz.f135.name, by decide, Tryz.func135.trans (congrArg some (by kernel_rfl))⟩
 f24 := ⟨Tryz.f136.name, by decide, Tryz.func136.trans (congrArg some (by kernel_rfl))⟩
 f25 := ⟨Tryz.f137.name, by decide, Tryz.func137.trans (congrArg some (by kernel_rfl))⟩
 f26 := ⟨Tryz.f138.name, by decide, Tryz.func138.trans (congrArg some (by kernel_rfl))⟩
 f27 := ⟨Tryz.f139.name, by decide, Tryz.func139.trans (congrArg some (by kernel_rfl))⟩
 f28 := Tryz.func109.trans (congrArg some (by kernel_rfl))
 f29 := Tryz.func110.trans (congrArg some (by kernel_rfl))
 f46 := ⟨Tryz.f142.name, by decide, Tryz.func142.trans (congrArg some (by kernel_rfl))⟩
 f47 := Tryz.func127.trans (congrArg some (by kernel_rfl))
 f48 := Tryz.func128.trans (congrArg some (by kernel_rfl))
 f49 := ⟨Tryz.f143.name, by decide, Tryz.func143.trans (congrArg some (by kernel_rfl))⟩
 f50 := ⟨Tryz.f144.name, by decide, Tryz.func144.trans (congrArg some (by kernel_rfl))⟩
 f57 := ⟨Tryz.f145.name, by decide, Tryz.func145.trans (congrArg some (by kernel_rfl))⟩
 t0 := Tryz.underlying0
 a0 := Tryz.isAgg0
 z0 := Tryz.sizeOf0
 v0 := Tryz.zeroValue0
 t3 := Tryz.underlying3
 a3 := Tryz.isAgg3
 z3 := Tryz.sizeOf3
 v3 := Tryz.zeroValue3
 t4 := Tryz.underlying4
 a4 := Tryz.isAgg4
 z4 := Tryz.sizeOf4
 v4 := Tryz.zeroValue4
 t5 := Tryz.underlying5
 a5 := Tryz.isAgg5
 z5 := Tryz.sizeOf5
 v5 := Tryz.zeroValue5
 t9 := Tryz.underlying9
 a9 := Tryz.isAgg9
 z9 := Tryz.sizeOf9
 v9 := Tryz.zeroValue9
 t22 := Tryz.underlying22
 a22 := Tryz.isAgg22
 z22 := Tryz.sizeOf22
 v22 := Tryz.zeroValue22
 a24 := Tryz.isAgg29
 z24 := Tryz.sizeOf29
 t25 := Tryz.underlying83
 a25 := Tryz.isAgg83
 z25 := Tryz.sizeOf83
 v25 := Tryz.zeroValue83
 t39 := Tryz.underlying110
 a39 := Tryz.isAgg110
 z39 := Tryz.sizeOf110
 v39 := Tryz.zeroValue110
 t45 := Tryz.underlying129
 a45 := Tryz.isAgg129
 z45 := Tryz.sizeOf129
 v45 := Tryz.zeroValue129
 t46 := Tryz.underlying130
 a46 := Tryz.isAgg130
 z46 := Tryz.sizeOf130
 v46 := Tryz.zeroValue130
 t50 := Tryz.underlying134
 a50 := Tryz.isAgg134
 z50 := Tryz.sizeOf134
 v50 := Tryz.zeroValue134
 t53 := Tryz.underlying137
 a53 := Tryz.isAgg137
 z53 := Tryz.sizeOf137
 v53 := Tryz.zeroValue137
 t55 := Tryz.underlying97
 a55 := Tryz.isAgg97
 z55 := Tryz.sizeOf97
 v55 := Tryz.zeroValue97
 t66 := Tryz.underlying146
 a66 := Tryz.isAgg146
 z66 := Tryz.sizeOf146
 v66 := Tryz.zeroValue146
 t70 := Tryz.underlying150
 a70 := Tryz.isAgg150
 z70 := Tryz.sizeOf150
 v70 := Tryz.zeroValue150
 t76 := Tryz.underlying158
 a76 := Tryz.isAgg158
 z76 := Tryz.sizeOf158
 v76 := Tryz.zeroValue158
 t77 := Tryz.underlying159
 a77 := Tryz.isAgg159
 z77 := Tryz.sizeOf159
 v77 := Tryz.zeroValue159 }
end Go.Proofs
namespace Go.Proofs.YtgmolmpfihkolaaGreat
open Go.RowKit Go.Lib Go.Sort Go.Proofs.YtgmolmpfihkolaaGreatW.PrintWords Go.Proofs.YtgmolmpfihkolaaGreatW.PrintMore Go.Proofs.YtgmolmpfihkolaaGreat.Pj
set_option linter.unusedVariables false
set_option maxRecDepth 100000
theorem gd_at {α : Type} (t : List α) (d : α) (i : Nat) (h : i < t.length) : t.getD i d = t[i] := by
 rw [List.getD_eq_getElem?_getD, List.getElem?_eq_getElem h]; rfl
theorem gd_no {α : Type} (t : List α) (d : α) (i : Nat) (h : t.length ≤ i) : t.getD i d = d := by
 rw [List.getD_eq_getElem?_getD, List.getElem?_eq_none h]; rfl
theorem addr0 (g j : Nat) : Addr.add ⟨g, 0, none⟩ j = ⟨g, j, none⟩ := by
 unfold Addr.add
 split <;> simp_all
theorem Dw.lays {w w' : World} (h : Dw.Below w.heap.size w w') : ∃ q os, w' = grow (w.drewN q) os := by
 refine ⟨w'.drawn - w.drawn, w'.heap.extract w.heap.size w'.heap.size, ?_⟩
 obtain ⟨⟨h1, h2, h3, h4, h5⟩, h6⟩ := h
 obtain ⟨heap, tape, drawn, os, output⟩ := w
 obtain ⟨heap', tape', drawn', os', output'⟩ := w'
 simp only at h1 h2 h3 h4 h5 h6
 subst h1 h2 h3
 have e1 : drawn' = drawn + (drawn' - drawn) := by omega
 have e2 : heap' = heap ++ heap'.extract heap.size heap'.size := by
  apply Array.ext_getElem?
  intro i
  by_cases hi : i < heap.size
  ·rw [h5 i hi, Array.getElem?_append_left hi]
  ·rw [Array.getElem?_append_right (by omega), Array.getElem?_extract]
   split
   ·congr 1; omega
   ·rw [Array.getElem?_eq_none (by omega)]
 show World.mk heap' tape' drawn' os' output' = World.mk (heap ++ heap'.extract heap.size heap'.size) tape' (drawn + (drawn' - drawn)) os' output'
 rw [← e1, ← e2]
abbrev KR : Kd (List PV) := Kd.slice 39 k39
abbrev byR : Value := .func (.func 45) #[] #[]
def cfR (xs : List (List PV)) (i j : Nat) : Int := cmpRow (rOf (xs.getD i [])) (rOf (xs.getD j []))
theorem cfR_swo (xs : List (List PV)) : SWO (ltOf (cfR xs)) where
 irrefl x := by
  unfold ltOf cfR; rw [decide_eq_false_iff_not]
  have := cmpRow_neg (rOf (xs.getD x [])) (rOf (xs.getD x [])); omega
 trans x y z h1 h2 := by
  unfold ltOf cfR at *; rw [decide_eq_true_iff] at *
  have t := cmpRow_trans (rOf (xs.getD z [])) (rOf (xs.getD x [])) (rOf (xs.getD y []))
  have n1 := cmpRow_neg (rOf (xs.getD x [])) (rOf (xs.getD z []))
  have n2 := cmpRow_neg (rOf (xs.getD x [])) (rOf (xs.getD y []))
  have n3 := cmpRow_neg (rOf (xs.getD z [])) (rOf (xs.getD y []))
  by_cases hc : cmpRow (rOf (xs.getD x [])) (rOf (xs.getD z [])) < 0
  ·exact hc
  ·have := t (by omega) (by omega); omega
 ntrans x y z h1 h2 := by
  unfold ltOf cfR at *; rw [decide_eq_false_iff_not] at *
  have t := cmpRow_trans (rOf (xs.getD z [])) (rOf (xs.getD y [])) (rOf (xs.getD x []))
  have n1 := cmpRow_neg (rOf (xs.getD x [])) (rOf (xs.getD z []))
  have n2 := cmpRow_neg (rOf (xs.getD x [])) (rOf (xs.getD y []))
  have n3 := cmpRow_neg (rOf (xs.getD z [])) (rOf (xs.getD y []))
  have n4 := cmpRow_neg (rOf (xs.getD y [])) (rOf (xs.getD z []))
  have := t (by omega) (by omega); omega
def SortedR (l : List (List PV)) : Prop := l.Pairwise (fun p q => ¬ cmpRow (rOf q) (rOf p) < 0)
theorem sortW_grown (enc : Nat → Value) (w : World) (g n : Nat) (d : Array Nat) (os : Array Obj) : w.grownBy (sortWorld enc w g 0 n d os) (some g) where
 os := rfl
 tape := rfl
 output := rfl
 size := by unfold sortWorld grow putRow mapBlock Go.Sort.ahead; simp
 block := fun k hk hn => by
  unfold sortWorld grow putRow mapBlock Go.Sort.ahead
  simp only
  rw [Array.getElem?_append_left (by simpa using hk), Array.getElem?_modify, if_neg (fun e => hn (by rw [e]))]
theorem at_places (xs : List (List PV)) (d : Array Nat) (hp : d.toList.Perm (List.range xs.length)) : (d.toList.map (fun i => xs.getD i [])).Perm xs := by
 have h := hp.map (fun i => xs.getD i [])
 have e : (List.range xs.length).map (fun i => xs.getD i []) = xs := by
  refine List.ext_getElem (by simp) (fun i h1 h2 => ?_)
  rw [List.getElem_map, List.getElem_range, gd_at _ _ _ h2]
 rwa [e] at h
set_option maxHeartbeats 1000000 in
theorem rowsort_any {w : World} {base : Nat} {ok : Nat → Prop} {v : Value} {xs : List (List PV)} (h : Kd.N KR 29 w base ok v xs) (hw : wfRs xs = true) (hn : xs.length ≤ 1000000000) :
 Calls Tryz.prog 89 #[v, byR] w fun e w' => e = .returned (.tuple #[]) ∧ (∃ xs', xs'.Perm xs ∧ SortedR xs' ∧ ∃ A c, v = .slice A xs'.length c ∧ xs'.length ≤ c ∧ Kd.C KR w' A xs'.length xs') ∧ Below base w w' := by
 by_cases h0 : xs.length = 0
 ·obtain ⟨A, c, rfl⟩ := Kd.N_slice h
  obtain rfl : xs = [] := List.eq_nil_of_length_eq_zero h0
  have hcon := AnyF.slices_SortFunc_none (ρ := Tryz.sortRows_ren) { Tryz.sortRows with } A c byR w
  change Calls Tryz.prog 89 _ _ _ at hcon
  refine hcon.mono ?_
  rintro e w' ⟨rfl, rfl⟩
  obtain ⟨_, hc, hC⟩ := Kd.N_reads' h
  exact ⟨rfl, ⟨[], List.Perm.refl _, List.Pairwise.nil, A, c, rfl, hc, hC⟩, Below.refl _ _⟩
 ·obtain ⟨hk, rows, hl, hR, hf⟩ := h
  obtain ⟨_, inner, ⟨hil, ho⟩, hr⟩ := hR
  rcases ho with ⟨_, e⟩ | ⟨g, cap, cur, rfl, hb, hh, hnc, hmax, hcs, hin⟩
  ·omega
  ·have hilen : inner.length = xs.length := by rw [hil, hl]; exact Nat.mul_one _
   have hown : (Value.slice (some ⟨g, 0, none⟩) rows.length cap).ownBlock = some g := rfl
   have hg : g < w.heap.size := blk_lt hh
   obtain ⟨enc, henc⟩ : ∃ enc : Nat → Value, enc = fun i => inner.getD i (.slice none 0 0) := ⟨_, rfl⟩
   have lead : ∀ (i : Nat) (W : World), (∀ k, k < w.heap.size → k ≠ g → W.heap[k]? = w.heap[k]?) → i < xs.length → KR.K W (xs.getD i []) [enc i] := by
    intro i W hW hi
    have e1 := (hr.2 i rows[i] (List.getElem?_eq_getElem (by omega))).1
    have e2 : (inner.drop (i * 1)).take 1 = [enc i] := by
     have hi2 : i < inner.length := by omega
     rw [Nat.mul_one, henc]
     simp only
     rw [gd_at _ _ _ hi2, List.drop_eq_getElem_cons hi2]
     rfl
    have e3 : (inner.drop (i * 1)).take 1 = rows[i] := e1
    have hfk := hf i xs[i] rows[i] (List.getElem?_eq_getElem hi) (List.getElem?_eq_getElem (by omega))
    rw [← e3, e2] at hfk
    rw [gd_at _ _ _ hi]
    exact hfk W (fun k hk2 hlt => hW k hlt (fun e => hk2.2 (by rw [hown, e])))
   have one : ∀ x, (enc x).oneCell' = true := by
    intro x
    by_cases hx : x < xs.length
    ·obtain ⟨A, c, e, _⟩ := lead x w (fun _ _ _ => rfl) hx
     rw [List.singleton_inj.1 e]; rfl
    ·rw [henc]
     simp only
     rw [gd_no _ _ _ (by omega)]; rfl
   have hcell : ∀ j, j < xs.length → w.cell? ⟨g, j, none⟩ = some (enc j) ∧ w.frozen? ⟨g, j, none⟩ = false := by
    intro j hj
    have hc : w.cell? ⟨g, j, none⟩ = cur[j]? := by simp [World.cell?, hh]
    have hfz : w.frozen? ⟨g, j, none⟩ = false := by simp only [World.frozen?]; rw [hh]; simp
    refine ⟨?_, hfz⟩
    rw [hc, henc]
    have q : inner[j]? = cur.toList[j]? := by rw [← hin, List.getElem?_take, if_pos (by show j < rows.length * 1; omega)]
    have q2 : inner[j]? = some (inner[j]'(by omega)) := List.getElem?_eq_getElem (by omega)
    rw [q2, Array.getElem?_toList] at q
    rw [← q]
    simp only
    rw [gd_at _ _ _ (by omega)]
   obtain ⟨d, hd⟩ : ∃ d : Array Nat, d = (List.range xs.length).toArray := ⟨_, rfl⟩
   have hds : d.size = xs.length := by rw [hd]; simp
   have hdat : ∀ j, j < xs.length → d[j]! = j := by
    intro j hj
    rw [getElem!_pos d j (by omega)]
    simp [hd]
   have hH : Holds enc w g 0 d := by
    intro j hj
    rw [Nat.zero_add, hdat j (by omega)]
    exact hcell j (by omega)
   have hsame : ∀ (m : Nat) (os : Array Obj) (dk : Array Nat) (k : Nat), k < w.heap.size → k ≠ g → (sortWorld enc w g 0 m dk os).heap[k]? = w.heap[k]? := fun m os dk k hk hne => (sortW_grown enc w g m dk os).block k hk (fun e => hne (Option.some.inj e))
   have hrow : ∀ (W : World), (∀ k, k < w.heap.size → k ≠ g → W.heap[k]? = w.heap[k]?) → ∀ x, ∃ A l c, enc x = .slice A l c ∧ RowV W A l c (rOf (xs.getD x [])) := by
    intro W hW x
    by_cases hx : x < xs.length
    ·obtain ⟨A, c, e, hc, hC⟩ := lead x W hW hx
     refine ⟨A, _, c, List.singleton_inj.1 e, row_of hC hc ?_⟩
     rw [gd_at _ _ _ hx]
     exact List.all_eq_true.1 hw _ (List.getElem_mem hx)
    ·refine ⟨none, 0, 0, ?_, ?_⟩
     ·rw [henc]; simp only; rw [gd_no _ _ _ (by omega)]
     ·rw [gd_no _ _ _ (by omega)]
      exact ⟨rfl, Nat.le_refl _, Nat.zero_le _, fun v hv => (by cases hv), .inl rfl⟩
   have hcmp : CmpLays1 Tryz.prog 45 #[] enc (cfR xs) g 0 d.size w := by
    intro m os dk hs x y
    obtain ⟨A1, l1, c1, e1, r1⟩ := hrow _ (hsame m os dk) x
    obtain ⟨A2, l2, c2, e2, r2⟩ := hrow _ (hsame m os dk) y
    rw [e1, e2]
    refine (Dw.rowCmp_any A1 l1 c1 _ A2 l2 c2 _ _ r1 r2).mono ?_
    rintro e w' ⟨rfl, hb⟩
    exact ⟨rfl, Dw.lays hb⟩
   have eg : ∀ args w, (callFunc 45 args).run Tryz.prog w = .ok (.enter 45 args) w := enters_of Tryz.func45 (by kernel_rfl) rfl
   have hcon := Any.slices_SortFunc Tryz.sortRows enc one (cfR xs) (cfR_swo xs) 45 #[] g 0 cap d w eg hcmp hH hg (by omega)
   change Calls Tryz.prog 89 _ _ _ at hcon
   rw [hds, ← hl] at hcon
   refine hcon.mono ?_
   rintro e w' ⟨rfl, d', m, os, hp, hs, rfl⟩
   obtain ⟨hsz, _, hperm⟩ := hp
   have e1 : d'.extract 0 d.size = d' := by rw [← hsz]; exact Array.extract_size
   have hdd : d.size = rows.length := by omega
   rw [← hdd, e1, Array.extract_size] at hperm
   have hperm2 : d'.toList.Perm (List.range xs.length) := by rw [hd] at hperm; exact hperm
   have hlt : ∀ j, j < d'.size → d'[j]! < xs.length := by
    intro j hj
    rw [getElem!_pos d' j hj]
    have hm : d'[j] ∈ d'.toList := by simp
    exact List.mem_range.1 (hperm2.mem_iff.1 hm)
   have hd'n : d'.size = xs.length := by omega
   refine ⟨rfl, ⟨d'.toList.map (fun i => xs.getD i []), at_places xs d' hperm2, ?_, some ⟨g, 0, none⟩, cap, ?_, ?_, ?_⟩, ?_⟩
   ·unfold SortedR
    rw [List.pairwise_map, List.pairwise_iff_getElem]
    intro i j hi hj hij
    have hi' : i < d'.size := by simpa using hi
    have hj' : j < d'.size := by simpa using hj
    have := hs i j (Nat.zero_le _) hij (by omega)
    rw [getElem!_pos d' i hi', getElem!_pos d' j hj'] at this
    unfold ltOf cfR at this
    rw [decide_eq_false_iff_not] at this
    simpa using this
   ·have e9 : (d'.toList.map (fun i => xs.getD i [])).length = rows.length := by rw [List.length_map, Array.length_toList]; omega
    rw [e9]
   ·rw [List.length_map, Array.length_toList, hd'n, ← hl]; exact hnc
   ·refine ⟨rfl, by rw [List.length_map, Array.length_toList]; omega, fun _ => ⟨_, rfl, fun j p hj => ?_⟩⟩
    have hjl : j < d'.size := by
     have := (List.getElem?_eq_some_iff.1 hj).1
     simpa using this
    obtain rfl : xs.getD d'[j]! [] = p := by
     have := (List.getElem?_eq_some_iff.1 hj).2
     rw [getElem!_pos d' j hjl]
     simpa using this
    refine ⟨[enc d'[j]!], rfl, lead _ _ (hsame m os d') (hlt j hjl), fun i u hu => ?_⟩
    have hH' := holds_sortWorld enc w g 0 m d d' os hg hH (by omega)
    rcases i with _ | i
    ·obtain rfl : enc d'[j]! = u := by simpa using hu
     have := (hH' j hjl).1
     rw [Nat.zero_add] at this
     show World.cell? _ (Addr.add ⟨g, 0, none⟩ (j * 1 + 0)) = _
     rw [Nat.mul_one, Nat.add_zero, addr0 g j]
     exact this
    ·simp at hu
   ·exact ⟨rfl, rfl, rfl, (sortW_grown enc w g m d' os).size, fun k hk => (sortW_grown enc w g m d' os).block k (by omega) (fun e => by have := Option.some.inj e; omega)⟩
end Go.Proofs.YtgmolmpfihkolaaGreat
