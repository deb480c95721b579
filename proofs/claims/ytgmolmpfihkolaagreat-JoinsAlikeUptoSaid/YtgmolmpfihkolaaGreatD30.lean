/- Part of the proof. -/
import Derived.Test.YtgmolmpfihkolaaGreatD29
import Derived.Deep.DrawnRows
namespace Go.Proofs.YtgmolmpfihkolaaGreat
open Go.RowKit Go.Proofs.YtgmolmpfihkolaaGreat.Pj Go.Proofs.YtgmolmpfihkolaaGreatW.PrintWords
set_option linter.unusedVariables false
set_option maxRecDepth 100000
def HdT (w0 W : World) (l : List (Value × List (List PV))) : Prop := Below w0.heap.size w0 W ∧ ∀ p ∈ l, KT.K W p.2 [p.1]
theorem HdT.step {w0 W W' : World} {l : List (Value × List (List PV))} (h : HdT w0 W l) (hb : Below W.heap.size W W') : HdT w0 W' l := ⟨h.1.trans (hb.mono h.1.size), fun p hp => KT.K_below hb (h.2 p hp)⟩
theorem HdT.add {w0 W W' : World} {l : List (Value × List (List PV))} {v : Value} {t : List (List PV)} (h : HdT w0 W l) (hk : KT.K W' t [v]) (hb : Below W.heap.size W W') : HdT w0 W' ((v, t) :: l) := by
 obtain ⟨h1, h2⟩ := h.step hb
 refine ⟨h1, fun p hp => ?_⟩
 rcases List.mem_cons.1 hp with rfl | hp
 ·exact hk
 ·exact h2 p hp
theorem HdT.start (w : World) : HdT w w [] := ⟨Below.refl _ _, fun p hp => by cases hp⟩
def HdR (w0 W : World) (a b l r : Nat) : Prop := Below w0.heap.size w0 W ∧ Kd.C KT W (some ⟨a, 0, none⟩) 6 TA ∧ Kd.C KT W (some ⟨b, 0, none⟩) 5 TB ∧ Kd.C k53 W (some ⟨l, 0, none⟩) 1 LA ∧ Kd.C k53 W (some ⟨r, 0, none⟩) 1 LB
theorem HdR.step {w0 W W' : World} {a b l r : Nat} (h : HdR w0 W a b l r) (hb : Below W.heap.size W W') : HdR w0 W' a b l r := ⟨h.1.trans (hb.mono h.1.size), Kd.C_below h.2.1 hb, Kd.C_below h.2.2.1 hb, Kd.C_below h.2.2.2.1 hb, Kd.C_below h.2.2.2.2 hb⟩
def RowA (w0 W : World) (a : Nat) : Prop := Below w0.heap.size w0 W ∧ Kd.C KT W (some ⟨a, 0, none⟩) 6 TA
theorem HdT.rowA {w W : World} {x1 x2 x3 x4 x5 x6 : Value} (h : HdT w W [(x6, tupT 0 vX), (x5, tupT 0 vM), (x4, tupT 0 vN), (x3, tupT 0 v2), (x2, tupT 0 v2), (x1, tupT 0 v1)]) : RowA w (W.alloc (.cells #[x1, x2, x3, x4, x5, x6] 22)) W.heap.size := by
 have h2 := h.step (below_new W (.cells #[x1, x2, x3, x4, x5, x6] 22))
 refine ⟨h2.1, C_block (d := KT) (xs := TA) (blk_new _ _) rfl ?_ (by decide)⟩
 refine Reps.c1 (h2.2 (x1, tupT 0 v1) (by simp)) (Reps.c1 (h2.2 (x2, tupT 0 v2) (by simp)) (Reps.c1 (h2.2 (x3, tupT 0 v2) (by simp)) (Reps.c1 (h2.2 (x4, tupT 0 vN) (by simp)) (Reps.c1 (h2.2 (x5, tupT 0 vM) (by simp)) (Reps.c1 (h2.2 (x6, tupT 0 vX) (by simp)) (Reps.none _ _))))))
theorem HdR.mk {w0 wa W : World} {ga : Nat} {x1 x2 x3 x4 x5 : Value} (hA : RowA w0 wa ga) (h : HdT wa W [(x5, tupT 1 vX), (x4, tupT 1 vP), (x3, tupT 1 vN), (x2, tupT 1 v3), (x1, tupT 1 v2)]) :
 HdR w0 (((W.alloc (.cells #[x1, x2, x3, x4, x5] 22)).alloc (.cells #[.int .i64 1, .int .i64 0, .int .i64 0, .int .i64 0, .int .i64 0, .float .f64 0, .string ⟨#[]⟩, .slice none 0 0] 53)).alloc (.cells #[.int .i64 1, .int .i64 1, .int .i64 0, .int .i64 0, .int .i64 0, .float .f64 0, .string ⟨#[]⟩, .slice none 0 0] 53)) ga W.heap.size (W.heap.size + 1) (W.heap.size + 1 + 1) := by
 obtain ⟨o1, h1⟩ : ∃ o, o = Obj.cells #[x1, x2, x3, x4, x5] 22 := ⟨_, rfl⟩
 obtain ⟨o2, h2⟩ : ∃ o, o = Obj.cells #[.int .i64 1, .int .i64 0, .int .i64 0, .int .i64 0, .int .i64 0, .float .f64 0, .string ⟨#[]⟩, .slice none 0 0] 53 := ⟨_, rfl⟩
 obtain ⟨o3, h3⟩ : ∃ o, o = Obj.cells #[.int .i64 1, .int .i64 1, .int .i64 0, .int .i64 0, .int .i64 0, .float .f64 0, .string ⟨#[]⟩, .slice none 0 0] 53 := ⟨_, rfl⟩
 rw [← h1, ← h2, ← h3]
 have hb : Below W.heap.size W (((W.alloc o1).alloc o2).alloc o3) := below_alloc (below_alloc (below_alloc (Below.refl _ _) _) _) _
 have hs := h.step hb
 have hA2 := hs.1
 refine ⟨hA.1.trans (hA2.mono hA.1.size), Kd.C_below hA.2 hA2, ?_, ?_, ?_⟩
 ·refine C_block (d := KT) (xs := TB) (blk_alloc (blk_alloc ((blk_new _ _).trans (congrArg some h1)) _) _) rfl ?_ (by decide)
  exact Reps.c1 (hs.2 (x1, tupT 1 v2) (by simp)) (Reps.c1 (hs.2 (x2, tupT 1 v3) (by simp)) (Reps.c1 (hs.2 (x3, tupT 1 vN) (by simp)) (Reps.c1 (hs.2 (x4, tupT 1 vP) (by simp)) (Reps.c1 (hs.2 (x5, tupT 1 vX) (by simp)) (Reps.none _ _)))))
 ·exact C_block (d := k53) (xs := LA) (blk_alloc ((blk_newAt _ _ (by simp)).trans (congrArg some h2)) _) rfl (Reps.c8 (k53_mk _ (⟨1, 0, 0, vN, []⟩ : PE) (Nat.le_refl _) (Kd.C_nil _ _)) (Reps.none _ _)) (by decide)
 ·exact C_block (d := k53) (xs := LB) ((blk_newAt _ _ (by simp)).trans (congrArg some h3)) rfl (Reps.c8 (k53_mk _ (⟨1, 1, 0, vN, []⟩ : PE) (Nat.le_refl _) (Kd.C_nil _ _)) (Reps.none _ _)) (by decide)
theorem okT_of {l : List (List (List PV))} (h1 : decide (l.length ≤ 1000) = true) (h2 : l.all (fun t => wfRs t && (decide (t.length ≤ 1000) && t.all (fun r => decide (r.length ≤ 1000)))) = true) : okTups l := by
 refine ⟨of_decide_eq_true h1, fun t ht => ?_⟩
 have h := List.all_eq_true.1 h2 t ht
 simp only [Bool.and_eq_true, decide_eq_true_eq, List.all_eq_true] at h
 exact ⟨h.1, h.2.1, h.2.2⟩
theorem littleA : okTups TA := okT_of (by kernel_rfl) (by kernel_rfl)
theorem littleB : okTups TB := okT_of (by kernel_rfl) (by kernel_rfl)
theorem littleX : okTups TX := okT_of (by kernel_rfl) (by kernel_rfl)
theorem littleL : okLs LA ∧ okLs LB ∧ okLs [] := ⟨⟨by kernel_rfl, by decide⟩, ⟨by kernel_rfl, by decide⟩, ⟨by kernel_rfl, by decide⟩⟩
theorem little_both : keyedF TA TB LA LB [] = some (TX, 0) ∧ hashF TA TB LA LB [] = some (TX, 0) := by
 have h := keyed_both TA TB LA LB [] littleA littleB littleL.1 littleL.2.1 littleL.2.2 (by decide) (by decide)
 rw [little] at h
 exact h
def HdX (w0 W : World) (v : Value) (c : Nat) (g : Nat) : Prop := v = .slice (some ⟨g, 0, none⟩) 4 c ∧ 4 ≤ c ∧ Kd.R KT 22 W w0.heap.size (fun _ => True) v TX
theorem HdX.step {w0 W W' : World} {v : Value} {c g : Nat} (h : HdX w0 W v c g) (hb : Below W.heap.size W W') : HdX w0 W' v c g := ⟨h.1, h.2.1, Kd.R_below h.2.2 hb⟩
theorem HdX.of {w W : World} {v : Value} (h : Kd.R KT 22 W w.heap.size (fun _ => True) v TX) (hb : w.heap.size ≤ W.heap.size) : ∃ g c, v = .slice (some ⟨g, 0, none⟩) 4 c ∧ HdX w W v c g := by
 obtain ⟨g, c, hv, -⟩ := Kd.R_form h (by decide)
 refine ⟨g, c, hv, hv, ?_, h⟩
 subst hv
 exact (Kd.R_reads' h).2.1
theorem Hash_little {w0 W : World} {a b l r : Nat} (h : HdR w0 W a b l r) : Calls Tryz.prog 19 #[.slice (some ⟨a, 0, none⟩) 6 6, .slice (some ⟨b, 0, none⟩) 5 5, .slice (some ⟨l, 0, none⟩) 1 1, .slice (some ⟨r, 0, none⟩) 1 1, .slice none 0 0] W fun e w' => ∃ g c, e = .returned (.tuple #[.slice (some ⟨g, 0, none⟩) 4 c, .int .i64 0]) ∧ HdX W w' (.slice (some ⟨g, 0, none⟩) 4 c) c g ∧ Below W.heap.size W w' := by
 refine (Hash_any (some ⟨a, 0, none⟩) 6 TA (some ⟨b, 0, none⟩) 5 TB (some ⟨l, 0, none⟩) 1 LA (some ⟨r, 0, none⟩) 1 LB none 0 [] TX 0 W h.2.1 (Nat.le_refl _) h.2.2.1 (Nat.le_refl _) h.2.2.2.1 (Nat.le_refl _) h.2.2.2.2 (Nat.le_refl _) (Kd.C_nil _ _) (Nat.le_refl _) little_both.2).mono ?_
 rintro e w' ⟨v, rfl, hR, hb⟩
 obtain ⟨g, c, rfl, hx⟩ := HdX.of hR hb.size
 exact ⟨g, c, rfl, hx, hb⟩
theorem Merge_little {w0 W : World} {a b l r : Nat} (h : HdR w0 W a b l r) : Calls Tryz.prog 21 #[.slice (some ⟨a, 0, none⟩) 6 6, .slice (some ⟨b, 0, none⟩) 5 5, .slice (some ⟨l, 0, none⟩) 1 1, .slice (some ⟨r, 0, none⟩) 1 1, .slice none 0 0] W fun e w' => ∃ g c, e = .returned (.tuple #[.slice (some ⟨g, 0, none⟩) 4 c, .int .i64 0]) ∧ HdX W w' (.slice (some ⟨g, 0, none⟩) 4 c) c g ∧ Below W.heap.size W w' := by
 refine (Merge_any sortsP (some ⟨a, 0, none⟩) 6 TA (some ⟨b, 0, none⟩) 5 TB (some ⟨l, 0, none⟩) 1 LA (some ⟨r, 0, none⟩) 1 LB none 0 [] TX 0 W h.2.1 (Nat.le_refl _) h.2.2.1 (Nat.le_refl _) h.2.2.2.1 (Nat.le_refl _) h.2.2.2.2 (Nat.le_refl _) (Kd.C_nil _ _) (Nat.le_refl _) little_both.1).mono ?_
 rintro e w' ⟨v, rfl, hR, hb⟩
 obtain ⟨g, c, rfl, hx⟩ := HdX.of hR hb.size
 exact ⟨g, c, rfl, hx, hb⟩
theorem Same_little {w1 w2 W : World} {v u : Value} {c d g k : Nat} (h : HdX w1 W (.slice (some ⟨g, 0, none⟩) 4 c) c g) (h2 : HdX w2 W (.slice (some ⟨k, 0, none⟩) 4 d) d k) : Calls Tryz.prog 18 #[.slice (some ⟨g, 0, none⟩) 4 c, .slice (some ⟨k, 0, none⟩) 4 d] W fun e w' => e = .returned (.bool true) ∧ Below W.heap.size W w' :=
 r26_Same.calls 20000 _ _ TX _ _ TX true W (Kd.R_reads' h.2.2).2.2 (Kd.R_reads' h.2.2).2.1 (Kd.R_reads' h2.2.2).2.2 (Kd.R_reads' h2.2.2).2.1 (same_f2 TX littleX.2 (by decide) 20000 (Nat.le_refl _))
theorem R_at {α : Type} {d : Kd α} {e e' : Nat} {w : World} {base : Nat} {ok : Nat → Prop} {g n c : Nat} {xs : List (List α)} {ys : List α} (h : Kd.R (Kd.slice e' d) e w base ok (.slice (some ⟨g, 0, none⟩) n c) xs) (j : Nat) (hj : xs[j]? = some ys) : ∃ v ok', w.cell? ⟨g, j, none⟩ = some v ∧ Kd.R d e' w base ok' v ys := by
 obtain ⟨_, inner, ho, hr⟩ := h
 obtain ⟨v, hv, hR⟩ := hr.2 j ys hj
 have h0 : inner[j]? = some v := by
  have : ((inner.drop (j * 1)).take 1)[0]? = some v := by
   have hv : (inner.drop (j * 1)).take 1 = [v] := hv
   rw [hv]; rfl
  rw [List.getElem?_take] at this
  simpa using this
 have hc := ho.cells (g := g) rfl j v h0
 rw [add_plain] at hc
 exact ⟨v, _, hc, hR⟩
theorem HdX.first {w0 W : World} {v : Value} {c g : Nat} (h : HdX w0 W v c g) : ∃ g1 c1 g2 c2, W.cell? ⟨g, 0, none⟩ = some (.slice (some ⟨g1, 0, none⟩) 2 c1) ∧ W.cell? ⟨g1, 1, none⟩ = some (.slice (some ⟨g2, 0, none⟩) 1 c2) ∧ W.cell? ⟨g2, 1, none⟩ = some (.int .i64 2) := by
 obtain ⟨rfl, _, h⟩ := h
 obtain ⟨x, _, q1, h1⟩ := R_at h 0 (ys := [[v2], [v2]]) rfl
 obtain ⟨g1, c1, rfl, -⟩ := Kd.R_form h1 (by decide)
 obtain ⟨y, _, q2, h2⟩ := R_at h1 1 (ys := [v2]) rfl
 obtain ⟨g2, c2, rfl, -⟩ := Kd.R_form h2 (by decide)
 obtain ⟨ad, ea, -, q3, -⟩ := at_T39 (Kd.R_reads' h2).2.2 0 (by omega) (by simp)
 injection ea with ea
 subst ea
 rw [Int.toNat_zero, Nat.zero_mul, add_plain] at q3
 exact ⟨g1, c1, g2, c2, q1, q2, q3⟩
end Go.Proofs.YtgmolmpfihkolaaGreat
namespace Go.Proofs.YtgmolmpfihkolaaGreat.Pj
open Go.RowKit Go.Proofs.YtgmolmpfihkolaaGreatW.PrintWords Go.Proofs.YtgmolmpfihkolaaGreat
set_option linter.unusedVariables false
set_option maxRecDepth 100000
def a27_works.f : Option Bool := some true
set_option maxHeartbeats 4000000 in
theorem a27_works.calls (r : Bool) (w : World) (h : a27_works.f = some r) :
 Calls Tryz.prog 8 #[] w fun e w' => e = .returned (.bool r) ∧ Below w.heap.size w w' := by
 obtain rfl : true = r := Option.some.inj h
 clear h
 have HD := hdq (HdT.start w)
 go_enter Tryz.func8, Tryz.ntmps8
 go_wp2_with (first
  | (go_at_call 30; refine (Number_exp _ _).mono ?_; rintro e w1 ⟨rfl, hb⟩; replace HD := hdq (HD.out.step hb); clear hb)
  | (go_at_call 31; refine (tuple_any _ (by decide) _ _ _ _ _).mono ?_; rintro e w1 ⟨g, rfl, hk, hb⟩; replace HD := hdq (HD.out.add hk hb); clear hk hb)
  | (go_at_call 32; refine (f_exp _ _).mono ?_; rintro e w1 ⟨rfl, hb⟩; replace HD := hdq (HD.out.step hb); clear hb)
  | (go_at_call 34; refine (NaN_any _).mono ?_; rintro e w1 ⟨rfl, rfl⟩)
  | (go_at_call 33; refine (Copysign_zero _).mono ?_; rintro e w1 ⟨rfl, rfl⟩))
 have HA := hdq HD.out.rowA
 clear HD
 revert HA
 generalize w1.alloc _ = wa
 generalize w1.heap.size = ga
 intro HA
 have HD := hdq (HdT.start wa)
 go_wp2_with (first
  | (go_at_call 30; refine (Number_exp _ _).mono ?_; rintro e w1 ⟨rfl, hb⟩; replace HD := hdq (HD.out.step hb); clear hb)
  | (go_at_call 31; refine (tuple_any _ (by decide) _ _ _ _ _).mono ?_; rintro e w1 ⟨g, rfl, hk, hb⟩; replace HD := hdq (HD.out.add hk hb); clear hk hb)
  | (go_at_call 32; refine (f_exp _ _).mono ?_; rintro e w1 ⟨rfl, hb⟩; replace HD := hdq (HD.out.step hb); clear hb)
  | (go_at_call 34; refine (NaN_any _).mono ?_; rintro e w1 ⟨rfl, rfl⟩))
 have HR := hdq (HdR.mk HA.out HD.out)
 clear HD HA
 revert HR
 generalize World.alloc (World.alloc (World.alloc _ _) _) _ = wb
 generalize w1.heap.size + 1 + 1 = gr
 generalize w1.heap.size + 1 = gl
 generalize w1.heap.size = gb
 intro HR
 go_wp2_with (first
  | (go_at_call 19; refine (Hash_little HR.out).mono ?_; rintro e w2 ⟨gx, cx, rfl, hx, hb⟩; replace HR := hdq (HR.out.step hb); have HX := hdq hx; clear hx hb)
  | (go_at_call 21; refine (Merge_little HR.out).mono ?_; rintro e w3 ⟨gy, cy, rfl, hy, hb⟩; replace HR := hdq (HR.out.step hb); replace HX := hdq (HX.out.step hb); have HY := hdq hy; clear hy hb)
  | (go_at_call 18; refine (Same_little (v := .bool true) (u := .bool true) HX.out HY.out).mono ?_; rintro e w4 ⟨rfl, hb⟩; replace HR := hdq (HR.out.step hb); replace HX := hdq (HX.out.step hb); obtain ⟨g1, c1, g2, c2, q1, q2, q3⟩ := HX.out.first; clear hb))
 go_ret
 exact ⟨rfl, HR.out.1⟩
end Go.Proofs.YtgmolmpfihkolaaGreat.Pj
namespace Go.Proofs.YtgmolmpfihkolaaGreat
open Go.RowKit Go.Proofs.YtgmolmpfihkolaaGreatW.PrintWords Go.Proofs.YtgmolmpfihkolaaGreatW.PrintMore Go.Proofs.YtgmolmpfihkolaaGreat.Pj
set_option linter.unusedVariables false
set_option linter.unusedSimpArgs false
set_option maxRecDepth 100000
theorem fields53 (x : PE) : (⟨x.f0, x.f1, x.f2, ⟨x.f3.f0, x.f3.f1, x.f3.f2, x.f3.f3⟩, x.f4⟩ : PE) = x := by
 cases x; rfl
theorem eqs_go (l2 l3 : List PE) (hl : l2.length = l3.length) (hb : l2.length ≤ 1000000000) : ∀ (m i : Nat) (acc : List PE) (K : Nat), i + m = l2.length → m < K → acc.length = i → a27_eqs.l0 K l2 l3 acc (l2.length : Int) (i : Int) = some (acc ++ eqsP (l2.drop i) (l3.drop i))
 | 0, i, acc, 0, _, hK, _ => by omega
 | 0, i, acc, K + 1, h, hK, ha => by
  rw [a27_eqs.l0, if_neg (by omega), List.drop_of_length_le (by omega), eqsP]
  simp
 | m + 1, i, acc, 0, _, hK, _ => by omega
 | m + 1, i, acc, K + 1, h, hK, ha => by
  have e : wrap64 ((i : Int) + 1) = ((i + 1 : Nat) : Int) := by
   rw [show wrap64 ((i : Int) + 1) = (i : Int) + 1 by unfold wrap64; omega]; rfl
  have h2 : i < l2.length := by omega
  have h3 : i < l3.length := by omega
  rw [a27_eqs.l0, if_pos (by omega), if_pos (by omega), if_pos (by omega), if_pos (by omega), if_pos (by omega), e, fields53, fields53, rd53 l2 i h2, rd53 l3 i h3, eqs_go l2 l3 hl hb m (i + 1) _ K (by omega) (by omega) (by simp [ha]), List.append_assoc, List.drop_eq_getElem_cons h2, List.drop_eq_getElem_cons h3, eqsP, eqsP, List.zipWith_cons_cons]
  rfl
theorem eqs_f (l2 l3 : List PE) (hl : l2.length = l3.length) (hb : l2.length ≤ 1000000000) (K : Nat) (hK : l2.length < K) : a27_eqs.f K l2 l3 = some (eqsP l2 l3) := by
 unfold a27_eqs.f
 have h := eqs_go l2 l3 hl hb l2.length 0 [] K (by omega) hK rfl
 simpa using h
theorem cut_one {W : World} {A : Option Addr} {l : List PE} {c n : Nat} (h : Kd.C k53 W A l.length l) (hc : l.length ≤ c) (hn : n < l.length) : ∃ (B : Option Addr) (c' : Nat), 1 ≤ c' ∧ Kd.C k53 W B 1 [rd_T53 l (n : Int)] ∧
 ∀ W' : World, (Instr.slice 23 (.slice A l.length c) (some (.int .i64 (n : Int))) (some (.int .i64 ((n : Int) + 1))) none).run Tryz.prog W' = .ok (.slice B 1 c') W' := by
 have h1 := Kd.C_mid (lo := n) (hi := n + 1) h (by omega) (by omega) hc
 have e : (l.take (n + 1)).drop n = [rd_T53 l (n : Int)] := by
  rw [rd53 l n hn, List.take_succ_eq_append_getElem hn, List.drop_append_of_le_length (by rw [List.length_take]; omega), List.drop_of_length_le (by rw [List.length_take]; omega), List.nil_append]
 rw [e] at h1
 refine ⟨_, c - n, by omega, h1, fun W' => ?_⟩
 obtain ⟨ti, hti, hsz⟩ : ∃ ti, Tryz.prog.info? 53 = some ti ∧ ti.size = 8 := by
  have h := info53
  cases hq : Tryz.prog.info? 53 with
  | none => rw [hq] at h; cases h
  | some ti => rw [hq, Option.map_some] at h; injection h with h; exact ⟨ti, rfl, congrArg (fun p => p.2.1) h⟩
 have h2 := cut_mid 23 53 .i64 .i64 Tryz.underlying23 hti 8 hsz A l.length c (n : Int) ((n : Int) + 1) (by omega) (by omega) (by omega) hc W'
 rw [Int.toNat_natCast, show ((n : Int) + 1).toNat - n = 1 by omega] at h2
 exact h2
theorem eqs_one {W : World} {B C : Option Addr} {cb cc : Nat} {p q : PE} (hb : Kd.C k53 W B 1 [p]) (hcb : 1 ≤ cb) (hc : Kd.C k53 W C 1 [q]) (hcc : 1 ≤ cc) :
 Calls Tryz.prog 23 #[.slice B 1 cb, .slice C 1 cc] W fun e w' => ∃ (g : Nat) (A7 : Option Addr) (c c7 : Nat), e = .returned (.slice (some ⟨g, 0, none⟩) 1 c) ∧
  (w'.cell? ⟨g, 0, none⟩ = some (.int .i64 7) ∧ w'.cell? ⟨g, 1, none⟩ = some (.int .i64 0) ∧ w'.cell? ⟨g, 2, none⟩ = some (.int .i64 0) ∧ w'.cell? ⟨g, 3, none⟩ = some (.int .i64 0) ∧ w'.cell? ⟨g, 4, none⟩ = some (.int .i64 0) ∧ w'.cell? ⟨g, 5, none⟩ = some (.float .f64 0) ∧ w'.cell? ⟨g, 6, none⟩ = some (.string ⟨#[]⟩) ∧ w'.cell? ⟨g, 7, none⟩ = some (.slice A7 2 c7)) ∧
  2 ≤ c7 ∧ Kd.C k53 w' A7 2 [p, q] ∧ 1 ≤ c ∧ Below W.heap.size W w' := by
 refine (a27_eqs.calls 2 _ _ _ [p] _ _ _ [q] [eqE p q] W (Kd.V_mk hcb (Kd.C_F k53_heap hb)) (Kd.V_mk hcc (Kd.C_F k53_heap hc)) (eqs_f [p] [q] rfl (by simp) 2 (by simp))).mono ?_
 rintro e w' ⟨v, rfl, hN, hB⟩
 obtain ⟨g, c, rfl, _, _, _⟩ := Kd.N_form hN (by simp)
 obtain ⟨_, hc1, hC⟩ := Kd.N_reads' hN
 obtain ⟨ad', A7, c7, e, g0, g1, g2, g3, g4, g5, g6, g7, h7c, h7⟩ := at_T53 hC 0 (by omega) (by simp)
 cases e
 exact ⟨g, A7, c, c7, rfl, ⟨g0, g1, g2, g3, g4, g5, g6, g7⟩, h7c, h7, by simpa using hc1, hB⟩
end Go.Proofs.YtgmolmpfihkolaaGreat
namespace Go.Proofs.YtgmolmpfihkolaaGreat
open Go.RowKit Go.Proofs.YtgmolmpfihkolaaGreatW.PrintWords
set_option linter.unusedVariables false
set_option linter.unusedSimpArgs false
set_option maxRecDepth 1000000
attribute [local go_sem] run_store_float
attribute [local go_sem ↓] Go.wp_at_zero Go.wp_at_succ
theorem newV (W : World) : ((W.alloc (.cells #[.int .i64 0, .int .i64 0, .float .f64 0, .string ⟨#[]⟩] 39)).cell? ⟨W.heap.size, 0, none⟩ = some (.int .i64 0) ∧ (W.alloc (.cells #[.int .i64 0, .int .i64 0, .float .f64 0, .string ⟨#[]⟩] 39)).cell? ⟨W.heap.size, 1, none⟩ = some (.int .i64 0) ∧ (W.alloc (.cells #[.int .i64 0, .int .i64 0, .float .f64 0, .string ⟨#[]⟩] 39)).cell? ⟨W.heap.size, 2, none⟩ = some (.float .f64 0) ∧ (W.alloc (.cells #[.int .i64 0, .int .i64 0, .float .f64 0, .string ⟨#[]⟩] 39)).cell? ⟨W.heap.size, 3, none⟩ = some (.string ⟨#[]⟩)) ∧
 ((W.alloc (.cells #[.int .i64 0, .int .i64 0, .float .f64 0, .string ⟨#[]⟩] 39)).frozen? ⟨W.heap.size, 0, none⟩ = false ∧ (W.alloc (.cells #[.int .i64 0, .int .i64 0, .float .f64 0, .string ⟨#[]⟩] 39)).frozen? ⟨W.heap.size, 1, none⟩ = false ∧ (W.alloc (.cells #[.int .i64 0, .int .i64 0, .float .f64 0, .string ⟨#[]⟩] 39)).frozen? ⟨W.heap.size, 2, none⟩ = false ∧ (W.alloc (.cells #[.int .i64 0, .int .i64 0, .float .f64 0, .string ⟨#[]⟩] 39)).frozen? ⟨W.heap.size, 3, none⟩ = false) := by
 have h := blk_new W (.cells #[.int .i64 0, .int .i64 0, .float .f64 0, .string ⟨#[]⟩] 39)
 exact ⟨⟨blk_cell h 0, blk_cell h 1, blk_cell h 2, blk_cell h 3⟩, blk_frozen h 0, blk_frozen h 1, blk_frozen h 2, blk_frozen h 3⟩
theorem boxed {W : World} {b : Nat} (h : W.heap[b]? = some (.cells #[.int .i64 0, .int .i64 0, .float .f64 0, .string ⟨#[]⟩] 39 (0, 0))) : (W.cell? ⟨b, 0, none⟩ = some (.int .i64 0) ∧ W.cell? ⟨b, 1, none⟩ = some (.int .i64 0) ∧ W.cell? ⟨b, 2, none⟩ = some (.float .f64 0) ∧ W.cell? ⟨b, 3, none⟩ = some (.string ⟨#[]⟩)) ∧ (W.frozen? ⟨b, 0, none⟩ = false ∧ W.frozen? ⟨b, 1, none⟩ = false ∧ W.frozen? ⟨b, 2, none⟩ = false ∧ W.frozen? ⟨b, 3, none⟩ = false) :=
 ⟨⟨blk_cell h 0, blk_cell h 1, blk_cell h 2, blk_cell h 3⟩, blk_frozen h 0, blk_frozen h 1, blk_frozen h 2, blk_frozen h 3⟩
theorem wp_then {P : Program} {c : Code} {K : Act → World → Prop} {Q' : Exit → Act → World → Prop} {a : Act} {w : World} (h : Code.wp P c (Exit.then K (fun _ _ _ => False)) a w) : Code.wp P c (Exit.then K Q') a w := wp_mono h (fun e a w h => by cases e <;> first | exact h | exact h.elim)
set_option maxHeartbeats 80000000 in
theorem reg23 (P : World → Option Addr → Prop) (hP : ∀ W W' A, P W A → Below W.heap.size W W' → P W' A) (s0 s1 s4 s5 s6 s7 s8 s9 s10 s11 s12 s13 s14 s15 s16 s19 s20 s21 s22 s23 s24 s25 s26 s27 s28 s29 s30 s31 s32 s33 s34 s35 s36 s37 s38 s39 s40 s41 s42 s43 s44 s45 s46 s47 s48 s49 s50 s51 s52 s53 s54 s55 s56 s57 s58 s59 s60 s61 s62 s63 s64 s65 s66 s67 s68 s69 s70 s71 s72 s73 s74 s75 s76 s77 s78 s79 s80 s81 s82 s83 s84 s85 s86 s87 s88 s89 s90 s91 s92 s93 s94 s95 s96 s97 s98 s99 s100 s101 s102 s103 s104 s105 s106 s107 s108 s109 s110 s111 s112 s113 s114 s115 s116 s117 s118 s119 s120 s121 s122 s123 s124 s125 s126 s127 s128 s129 s130 s131 s132 s133 s134 s135 s136 s137 s138 s139 s140 s141 s142 s143 s144 s145 s146 s147 s148 s149 s150 s151 s152 s153 s154 s155 s156 s157 s158 s159 s160 s161 s162 s163 s164 s165 s166 s167 s168 s169 s170 s171 s172 s173 s174 s175 s176 s177 s178 s179 s180 s181 s182 s183 s184 s185 s186 s187 s188 s189 s190 s191 s192 s193 s194 s195 s196 s197 s198 s199 s200 s201 s202 s203 s204 s205 s206 s207 s208 s209 s210 s211 s212 s213 s214 s215 s216 s217 s218 s219 s220 s221 s222 s223 s224 s225 s226 s227 s228 s229 s230 s231 s232 s233 s234 s235 s236 s237 s238 s239 s240 s241 s242 s243 s244 s245 s246 s247 s248 s249 s250 : Value) (a2 a3 AT B5 B6 : Option Addr) (L2 c2 L3 c3 LU cT cb5 cb6 n : Nat) (v5 : Val) (e5 : Int) (wS : World)
 (hw1 : IntKind.i64.wrap ((n : Int) + 1) = (n : Int) + 1) (hn0 : (0 : Int) ≤ (n : Int))
 (hs5 : ∀ W' : World, (Instr.slice 23 (.slice a2 L2 c2) (some (.int .i64 (n : Int))) (some (.int .i64 ((n : Int) + 1))) none).run Tryz.prog W' = .ok (.slice B5 1 cb5) W')
 (hs6 : ∀ W' : World, (Instr.slice 23 (.slice a3 L3 c3) (some (.int .i64 (n : Int))) (some (.int .i64 ((n : Int) + 1))) none).run Tryz.prog W' = .ok (.slice B6 1 cb6) W')
 (HEQ : Hid (∀ W : World, Hid (Below wS.heap.size wS W) → Calls Tryz.prog 23 #[.slice B5 1 cb5, .slice B6 1 cb6] W fun e w' => ∃ (g : Nat) (A7 : Option Addr) (c c7 : Nat), e = .returned (.slice (some ⟨g, 0, none⟩) 1 c) ∧ (w'.cell? ⟨g, 0, none⟩ = some (.int .i64 7) ∧ w'.cell? ⟨g, 1, none⟩ = some (.int .i64 0) ∧ w'.cell? ⟨g, 2, none⟩ = some (.int .i64 0) ∧ w'.cell? ⟨g, 3, none⟩ = some (.int .i64 0) ∧ w'.cell? ⟨g, 4, none⟩ = some (.int .i64 0) ∧ w'.cell? ⟨g, 5, none⟩ = some (.float .f64 0) ∧ w'.cell? ⟨g, 6, none⟩ = some (.string ⟨#[]⟩) ∧ w'.cell? ⟨g, 7, none⟩ = some (.slice A7 2 c7)) ∧ Hid (2 ≤ c7 ∧ P w' A7) ∧ 1 ≤ c ∧ Hid (Below wS.heap.size wS w') ∧ Below W.heap.size W w'))
 (HEV : Hid (∀ (W : World) (A7 : Option Addr) (c7 : Nat), P W A7 → 2 ≤ c7 → Hid (Below wS.heap.size wS W) → Calls Tryz.prog 22 #[.agg #[.int .i64 7, .int .i64 0, .int .i64 0, .int .i64 0, .int .i64 0, .float .f64 0, .string ⟨#[]⟩, .slice A7 2 c7], .slice AT LU cT] W fun e w' => e = .returned (.tuple #[.agg #[.int .i64 v5.kind, .int .i64 v5.int, .float .f64 v5.flt, .string v5.text], .int .i64 e5]) ∧ Hid (Below wS.heap.size wS w') ∧ Below W.heap.size W w'))
 (K' : Act → World → Prop) (hK' : ∀ (t27 t150 t151 t152 t153 t154 t155 t156 t157 t158 t159 t160 t161 t162 t163 t164 t165 t166 t167 : Value) (w' : World), Hid (Below wS.heap.size wS w') → K' ⟨#[s0, s1, .slice a2 L2 c2, .slice a3 L3 c3, s4, s5, s6, s7, s8, s9, s10, s11, s12, s13, s14, s15, s16, .slice AT LU cT, .int .i64 (n : Int), s19, s20, s21, s22, s23, s24, s25, s26, t27, .int .i64 e5, s29, s30, s31, s32, s33, s34, s35, s36, s37, s38, s39, s40, s41, s42, s43, s44, s45, s46, s47, s48, s49, s50, s51, s52, s53, s54, s55, s56, s57, s58, s59, s60, s61, s62, s63, s64, s65, s66, s67, s68, s69, s70, s71, s72, s73, s74, s75, s76, s77, s78, s79, s80, s81, s82, s83, s84, s85, s86, s87, s88, s89, s90, s91, s92, s93, s94, s95, s96, s97, s98, s99, s100, s101, s102, s103, s104, s105, s106, s107, s108, s109, s110, s111, s112, s113, s114, s115, s116, s117, s118, s119, s120, s121, s122, s123, s124, s125, s126, s127, s128, s129, s130, s131, s132, s133, s134, s135, s136, s137, s138, s139, s140, s141, s142, s143, s144, s145, s146, s147, s148, s149, t150, t151, t152, t153, t154, t155, t156, t157, t158, t159, t160, t161, t162, t163, t164, t165, t166, t167, s168, s169, s170, s171, s172, s173, s174, s175, s176, s177, s178, s179, s180, s181, s182, s183, s184, s185, s186, s187, s188, s189, s190, s191, s192, s193, s194, s195, s196, s197, s198, s199, s200, s201, s202, s203, s204, s205, s206, s207, s208, s209, s210, s211, s212, s213, s214, s215, s216, s217, s218, s219, s220, s221, s222, s223, s224, s225, s226, s227, s228, s229, s230, s231, s232, s233, s234, s235, s236, s237, s238, s239, s240, s241, s242, s243, s244, s245, s246, s247, s248, s249, s250], []⟩ w') :
 Code.wp Tryz.prog (Code.region 23 #[{ dst := some 151, op := .move (.tmp 2), type := 23, pos := "outright.go:79", after := #[], guard := none }, { dst := some 152, op := .move (.tmp 18), type := 3, pos := "outright.go:79", after := #[], guard := none }, { dst := some 153, op := .move (.tmp 18), type := 3, pos := "outright.go:79", after := #[], guard := none }, { dst := some 154, op := .binOp .add 3 (.tmp 153) (.const (.int .i64 1)) 3, type := 3, pos := "outright.go:79", after := #[{ on := 2, ground := .data }], guard := none }, { dst := some 155, op := .slice 23 (.tmp 151) (some (.tmp 152)) (some (.tmp 154)) none, type := 23, pos := "outright.go:79", after := #[{ on := 0, ground := .data }, { on := 1, ground := .data }, { on := 3, ground := .data }], guard := none }, { dst := some 156, op := .move (.tmp 3), type := 23, pos := "outright.go:79", after := #[], guard := none }, { dst := some 157, op := .move (.tmp 18), type := 3, pos := "outright.go:79", after := #[], guard := none }, { dst := some 158, op := .move (.tmp 18), type := 3, pos := "outright.go:79", after := #[], guard := none }, { dst := some 159, op := .binOp .add 3 (.tmp 158) (.const (.int .i64 1)) 3, type := 3, pos := "outright.go:79", after := #[{ on := 7, ground := .data }], guard := none }, { dst := some 160, op := .slice 23 (.tmp 156) (some (.tmp 157)) (some (.tmp 159)) none, type := 23, pos := "outright.go:79", after := #[{ on := 5, ground := .data }, { on := 6, ground := .data }, { on := 8, ground := .data }], guard := none }, { dst := some 161, op := .call { callee := .value (.func 23), args := #[.tmp 155, .tmp 160], argTypes := #[23, 23] }, type := 23, pos := "outright.go:79", after := #[{ on := 4, ground := .data }, { on := 9, ground := .data }], guard := none }, { dst := some 162, op := .indexAddr 23 (.tmp 161) (.const (.int .i64 0)), type := 0, pos := "outright.go:79", after := #[{ on := 10, ground := .data }], guard := none }, { dst := some 163, op := .load 53 (.tmp 162), type := 53, pos := "outright.go:79", after := #[{ on := 11, ground := .data }], guard := none }, { dst := some 164, op := .move (.tmp 17), type := 22, pos := "outright.go:79", after := #[], guard := none }, { dst := some 165, op := .call { callee := .value (.func 22), args := #[.tmp 163, .tmp 164], argTypes := #[53, 22] }, type := 50, pos := "outright.go:79", after := #[{ on := 12, ground := .data }, { on := 13, ground := .data }, { on := 10, ground := .chain }], guard := none }, { dst := some 150, op := .move (.tmp 165), type := 50, pos := "outright.go:79", after := #[{ on := 14, ground := .data }], guard := none }, { dst := some 166, op := .extract (.tmp 150) 0, type := 39, pos := "outright.go:79", after := #[{ on := 15, ground := .data }], guard := none }, { dst := some 167, op := .extract (.tmp 150) 1, type := 30, pos := "outright.go:79", after := #[{ on := 15, ground := .data }, { on := 19, ground := .gcOnly .lateStores }], guard := none }, { dst := some 27, op := .alloc 39, type := 0, pos := "outright.go:79", after := #[], guard := none }, { dst := none, op := .store 39 (.tmp 27) (.tmp 166), type := 0, pos := "outright.go:79", after := #[{ on := 18, ground := .data }, { on := 16, ground := .data }, { on := 14, ground := .chain }, { on := 0, ground := .phase }, { on := 1, ground := .phase }, { on := 2, ground := .phase }, { on := 3, ground := .phase }, { on := 4, ground := .phase }, { on := 5, ground := .phase }, { on := 6, ground := .phase }, { on := 7, ground := .phase }, { on := 8, ground := .phase }, { on := 9, ground := .phase }, { on := 10, ground := .phase }, { on := 11, ground := .phase }, { on := 12, ground := .phase }, { on := 13, ground := .phase }, { on := 14, ground := .phase }, { on := 15, ground := .phase }, { on := 16, ground := .phase }, { on := 17, ground := .textOnly .lateStores }, { on := 18, ground := .phase }], guard := none }, { dst := some 28, op := .assign (.tmp 167), type := 30, pos := "outright.go:79", after := #[{ on := 17, ground := .data }, { on := 19, ground := .chain }, { on := 0, ground := .phase }, { on := 1, ground := .phase }, { on := 2, ground := .phase }, { on := 3, ground := .phase }, { on := 4, ground := .phase }, { on := 5, ground := .phase }, { on := 6, ground := .phase }, { on := 7, ground := .phase }, { on := 8, ground := .phase }, { on := 9, ground := .phase }, { on := 10, ground := .phase }, { on := 11, ground := .phase }, { on := 12, ground := .phase }, { on := 13, ground := .phase }, { on := 14, ground := .phase }, { on := 15, ground := .phase }, { on := 16, ground := .phase }, { on := 17, ground := .phase }, { on := 18, ground := .phase }, { on := 19, ground := .phase }], guard := none }] true) (Exit.then K' (fun _ _ _ => False)) ⟨#[s0, s1, .slice a2 L2 c2, .slice a3 L3 c3, s4, s5, s6, s7, s8, s9, s10, s11, s12, s13, s14, s15, s16, .slice AT LU cT, .int .i64 (n : Int), s19, s20, s21, s22, s23, s24, s25, s26, s27, s28, s29, s30, s31, s32, s33, s34, s35, s36, s37, s38, s39, s40, s41, s42, s43, s44, s45, s46, s47, s48, s49, s50, s51, s52, s53, s54, s55, s56, s57, s58, s59, s60, s61, s62, s63, s64, s65, s66, s67, s68, s69, s70, s71, s72, s73, s74, s75, s76, s77, s78, s79, s80, s81, s82, s83, s84, s85, s86, s87, s88, s89, s90, s91, s92, s93, s94, s95, s96, s97, s98, s99, s100, s101, s102, s103, s104, s105, s106, s107, s108, s109, s110, s111, s112, s113, s114, s115, s116, s117, s118, s119, s120, s121, s122, s123, s124, s125, s126, s127, s128, s129, s130, s131, s132, s133, s134, s135, s136, s137, s138, s139, s140, s141, s142, s143, s144, s145, s146, s147, s148, s149, s150, s151, s152, s153, s154, s155, s156, s157, s158, s159, s160, s161, s162, s163, s164, s165, s166, s167, s168, s169, s170, s171, s172, s173, s174, s175, s176, s177, s178, s179, s180, s181, s182, s183, s184, s185, s186, s187, s188, s189, s190, s191, s192, s193, s194, s195, s196, s197, s198, s199, s200, s201, s202, s203, s204, s205, s206, s207, s208, s209, s210, s211, s212, s213, s214, s215, s216, s217, s218, s219, s220, s221, s222, s223, s224, s225, s226, s227, s228, s229, s230, s231, s232, s233, s234, s235, s236, s237, s238, s239, s240, s241, s242, s243, s244, s245, s246, s247, s248, s249, s250], []⟩ wS := by
 have HK' := hdq hK'
 clear hK'
 go_region_with (first | (go_at_call 23; refine (HEQ.out _ (hdq (by repeat (first | exact Below.refl _ _ | refine below_alloc ?_ _ | refine below_drew ?_)))).mono ?_; rintro e wx ⟨g, A7, c, c7, rfl, ⟨z0, z1, z2, z3, z4, z5, z6, z7⟩, HK, hgc, HBx, hb1⟩; have hszx := HBx.out.size; have y0 := (World.cell?_alloc_some wx ⟨g, 0, none⟩ (.cells #[.int .i64 0, .int .i64 0, .float .f64 0, .string ⟨#[]⟩] 39) (by rw [z0]; rfl)).trans z0; have y1 := (World.cell?_alloc_some wx ⟨g, 1, none⟩ (.cells #[.int .i64 0, .int .i64 0, .float .f64 0, .string ⟨#[]⟩] 39) (by rw [z1]; rfl)).trans z1; have y2 := (World.cell?_alloc_some wx ⟨g, 2, none⟩ (.cells #[.int .i64 0, .int .i64 0, .float .f64 0, .string ⟨#[]⟩] 39) (by rw [z2]; rfl)).trans z2; have y3 := (World.cell?_alloc_some wx ⟨g, 3, none⟩ (.cells #[.int .i64 0, .int .i64 0, .float .f64 0, .string ⟨#[]⟩] 39) (by rw [z3]; rfl)).trans z3; have y4 := (World.cell?_alloc_some wx ⟨g, 4, none⟩ (.cells #[.int .i64 0, .int .i64 0, .float .f64 0, .string ⟨#[]⟩] 39) (by rw [z4]; rfl)).trans z4; have y5 := (World.cell?_alloc_some wx ⟨g, 5, none⟩ (.cells #[.int .i64 0, .int .i64 0, .float .f64 0, .string ⟨#[]⟩] 39) (by rw [z5]; rfl)).trans z5; have y6 := (World.cell?_alloc_some wx ⟨g, 6, none⟩ (.cells #[.int .i64 0, .int .i64 0, .float .f64 0, .string ⟨#[]⟩] 39) (by rw [z6]; rfl)).trans z6; have y7 := (World.cell?_alloc_some wx ⟨g, 7, none⟩ (.cells #[.int .i64 0, .int .i64 0, .float .f64 0, .string ⟨#[]⟩] 39) (by rw [z7]; rfl)).trans z7) | (go_at_call 22; refine (HEV.out _ _ _ (by first | exact HK.out.2 | exact hP _ _ _ HK.out.2 (below_alloc (Below.refl _ _) _)) HK.out.1 (hdq (by repeat (first | exact HBx.out | refine below_alloc ?_ _ | refine below_drew ?_)))).mono ?_; rintro e wy ⟨rfl, HBy, hb2⟩; have hszy := HBy.out.size; have hz := (by first | exact boxed (blk_below (blk_below (blk_drew (blk_new wS (.cells #[.int .i64 0, .int .i64 0, .float .f64 0, .string ⟨#[]⟩] 39))) hb1) hb2) | exact boxed (blk_below (blk_new wx (.cells #[.int .i64 0, .int .i64 0, .float .f64 0, .string ⟨#[]⟩] 39)) hb2) | exact newV wy : (_ ∧ _ ∧ _ ∧ _) ∧ (_ ∧ _ ∧ _ ∧ _)); obtain ⟨⟨x0, x1, x2, x3⟩, f0, f1, f2, f3⟩ := hz; clear hb1 hb2))
 all_goals exact HK'.out _ _ _ _ _ _ _ _ _ _ _ _ _ _ _ _ _ _ _ _ (hdq (by repeat (first | exact HBy.out | exact HBx.out | exact Below.refl _ _ | refine below_alloc ?_ _ | refine below_drew ?_ | refine below_set ?_ hszy | refine below_set ?_ hszx | refine below_set ?_ (Nat.le_refl _))))
end Go.Proofs.YtgmolmpfihkolaaGreat
namespace Go.Proofs.YtgmolmpfihkolaaGreat
open Go.RowKit Go.Proofs.YtgmolmpfihkolaaGreatW.PrintWords Go.Proofs.YtgmolmpfihkolaaGreatW.PrintMore Go.Proofs.YtgmolmpfihkolaaGreat.Pj
set_option linter.unusedVariables false
set_option linter.unusedSimpArgs false
set_option maxRecDepth 100000
attribute [local go_sem] run_store_float
theorem all_f2 (l2 l3 l4 : List PE) (h : l2.length + l3.length + l4.length ≤ 1000000000) : a27_all.f l2 l3 l4 = some (l2 ++ l3 ++ l4) := by
 unfold a27_all.f
 rw [Option.bind_some, if_pos (by rw [List.length_nil]; omega), Option.bind_some, if_pos (by rw [List.nil_append]; omega), Option.bind_some, if_pos (by rw [List.nil_append, List.length_append]; omega), List.nil_append]
def AIn (w W : World) (a0 : Option Addr) (la : List Tup) (a1 : Option Addr) (lb : List Tup) (a2 : Option Addr) (l2 : List PE) (a3 : Option Addr) (l3 : List PE) (a4 : Option Addr) (l4 : List PE) : Prop :=
 Below w.heap.size w W ∧ Kd.C KT W a0 la.length la ∧ Kd.C KT W a1 lb.length lb ∧ Kd.C k53 W a2 l2.length l2 ∧ Kd.C k53 W a3 l3.length l3 ∧ Kd.C k53 W a4 l4.length l4
theorem AIn.step {w W W' : World} {a0 a1 a2 a3 a4 : Option Addr} {la lb : List Tup} {l2 l3 l4 : List PE} (h : AIn w W a0 la a1 lb a2 l2 a3 l3 a4 l4) (hb : Below W.heap.size W W') : AIn w W' a0 la a1 lb a2 l2 a3 l3 a4 l4 :=
 ⟨h.1.trans (hb.mono h.1.size), Kd.C_below h.2.1 hb, Kd.C_below h.2.2.1 hb, Kd.C_below h.2.2.2.1 hb, Kd.C_below h.2.2.2.2.1 hb, Kd.C_below h.2.2.2.2.2 hb⟩
theorem v53 {W : World} {A : Option Addr} {l : List PE} {c : Nat} (h : Kd.C k53 W A l.length l) (hc : l.length ≤ c) : Kd.V k53 53 W W.heap.size (fun k => k < W.heap.size) (.slice A l.length c) l := Kd.V_mk hc (Kd.C_F k53_heap h)
def ASt (w W : World) (a0 : Option Addr) (la : List Tup) (a1 : Option Addr) (lb : List Tup) (a2 : Option Addr) (l2 : List PE) (a3 : Option Addr) (l3 : List PE) (a4 : Option Addr) (l4 : List PE) (AX : Option Addr) (cX : Nat) (x : List Tup) : Prop :=
 AIn w W a0 la a1 lb a2 l2 a3 l3 a4 l4 ∧ Kd.R KT 22 W w.heap.size (fun _ => True) (.slice AX x.length cX) x
theorem ASt.step {w W W' : World} {a0 a1 a2 a3 a4 : Option Addr} {la lb : List Tup} {l2 l3 l4 : List PE} {AX : Option Addr} {cX : Nat} {x : List Tup} (h : ASt w W a0 la a1 lb a2 l2 a3 l3 a4 l4 AX cX x) (hb : Below W.heap.size W W') : ASt w W' a0 la a1 lb a2 l2 a3 l3 a4 l4 AX cX x := ⟨h.1.step hb, Kd.R_below h.2 hb⟩
def AS2 (w W : World) (a0 : Option Addr) (la : List Tup) (a1 : Option Addr) (lb : List Tup) (a2 : Option Addr) (l2 : List PE) (a3 : Option Addr) (l3 : List PE) (a4 : Option Addr) (l4 : List PE) (AX : Option Addr) (cX : Nat) (x : List Tup) (A0 : Option Addr) (s : Tup) (A1 : Option Addr) (t : Tup) : Prop :=
 ASt w W a0 la a1 lb a2 l2 a3 l3 a4 l4 AX cX x ∧ Kd.C (Kd.slice 39 k39) W A0 s.length s ∧ Kd.C (Kd.slice 39 k39) W A1 t.length t
theorem AS2.step {w W W' : World} {a0 a1 a2 a3 a4 : Option Addr} {la lb : List Tup} {l2 l3 l4 : List PE} {AX A0 A1 : Option Addr} {cX : Nat} {x : List Tup} {s t : Tup} (h : AS2 w W a0 la a1 lb a2 l2 a3 l3 a4 l4 AX cX x A0 s A1 t) (hb : Below W.heap.size W W') : AS2 w W' a0 la a1 lb a2 l2 a3 l3 a4 l4 AX cX x A0 s A1 t := ⟨h.1.step hb, Kd.C_below h.2.1 hb, Kd.C_below h.2.2 hb⟩
def AS3 (w W : World) (a0 : Option Addr) (la : List Tup) (a1 : Option Addr) (lb : List Tup) (a2 : Option Addr) (l2 : List PE) (a3 : Option Addr) (l3 : List PE) (a4 : Option Addr) (l4 : List PE) (AX : Option Addr) (cX : Nat) (x : List Tup) (A0 : Option Addr) (s : Tup) (A1 : Option Addr) (t : Tup) (AT : Option Addr) (cT : Nat) (u : Tup) : Prop :=
 AS2 w W a0 la a1 lb a2 l2 a3 l3 a4 l4 AX cX x A0 s A1 t ∧ Kd.R (Kd.slice 39 k39) 29 W w.heap.size (fun _ => True) (.slice AT u.length cT) u
theorem AS3.step {w W W' : World} {a0 a1 a2 a3 a4 : Option Addr} {la lb : List Tup} {l2 l3 l4 : List PE} {AX A0 A1 AT : Option Addr} {cX cT : Nat} {x : List Tup} {s t u : Tup} (h : AS3 w W a0 la a1 lb a2 l2 a3 l3 a4 l4 AX cX x A0 s A1 t AT cT u) (hb : Below W.heap.size W W') : AS3 w W' a0 la a1 lb a2 l2 a3 l3 a4 l4 AX cX x A0 s A1 t AT cT u := ⟨h.1.step hb, Kd.R_below h.2 hb⟩
theorem Eval_at {W : World} {p : PE} {A7 A : Option Addr} {c7 c : Nat} {s : Tup} {v : Val} {er : Int} (h7 : Kd.C k53 W A7 p.f4.length p.f4) (hc7 : p.f4.length ≤ c7) (hs : Kd.C (Kd.slice 39 k39) W A s.length s) (hc : s.length ≤ c) (he : wfE p = true) (hw : wfRs s = true) (hv : (v, er) = tellV (rsOf s) (tOf p)) :
 Calls Tryz.prog 22 #[.agg #[.int .i64 p.f0, .int .i64 p.f1, .int .i64 p.f2, .int .i64 p.f3.f0, .int .i64 p.f3.f1, .float .f64 p.f3.f2, .string p.f3.f3, .slice A7 p.f4.length c7], .slice A s.length c] W fun e w' => e = .returned (.tuple #[.agg #[.int .i64 v.kind, .int .i64 v.int, .float .f64 v.flt, .string v.text], .int .i64 er]) ∧ Below W.heap.size W w' := by
 have h := eval_f he hw
 rw [← hv] at h
 exact expr_Eval.calls _ _ _ _ _ _ _ _ _ _ _ _ _ _ _ _ _ _ _ h7 hc7 hs hc h
theorem boxV4 {W : World} {b : Nat} {v : Val} (h : W.heap[b]? = some (.cells #[.int .i64 v.kind, .int .i64 v.int, .float .f64 v.flt, .string v.text] 39 (0, 0))) : W.cell? ⟨b, 0, none⟩ = some (.int .i64 v.kind) ∧ W.cell? ⟨b, 1, none⟩ = some (.int .i64 v.int) ∧ W.cell? ⟨b, 2, none⟩ = some (.float .f64 v.flt) ∧ W.cell? ⟨b, 3, none⟩ = some (.string v.text) :=
 ⟨blk_cell h 0, blk_cell h 1, blk_cell h 2, blk_cell h 3⟩
theorem newV2 {W wx : World} (hb : Below ((W.alloc (.cells #[.int .i64 0, .int .i64 0, .float .f64 0, .string ⟨#[]⟩] 39)).drew).heap.size ((W.alloc (.cells #[.int .i64 0, .int .i64 0, .float .f64 0, .string ⟨#[]⟩] 39)).drew) wx) :
 (wx.cell? ⟨W.heap.size, 0, none⟩ = some (.int .i64 0) ∧ wx.cell? ⟨W.heap.size, 1, none⟩ = some (.int .i64 0) ∧ wx.cell? ⟨W.heap.size, 2, none⟩ = some (.float .f64 0) ∧ wx.cell? ⟨W.heap.size, 3, none⟩ = some (.string ⟨#[]⟩)) ∧ (wx.frozen? ⟨W.heap.size, 0, none⟩ = false ∧ wx.frozen? ⟨W.heap.size, 1, none⟩ = false ∧ wx.frozen? ⟨W.heap.size, 2, none⟩ = false ∧ wx.frozen? ⟨W.heap.size, 3, none⟩ = false) := by
 have h := blk_below (blk_drew (blk_new W (.cells #[.int .i64 0, .int .i64 0, .float .f64 0, .string ⟨#[]⟩] 39))) hb
 exact ⟨⟨blk_cell h 0, blk_cell h 1, blk_cell h 2, blk_cell h 3⟩, blk_frozen h 0, blk_frozen h 1, blk_frozen h 2, blk_frozen h 3⟩
def BoxV (W : World) (b : Nat) (v : Val) : Prop := W.heap[b]? = some (.cells #[.int .i64 v.kind, .int .i64 v.int, .float .f64 v.flt, .string v.text] 39 (0, 0))
theorem BoxV.below {W W' : World} {b : Nat} {v : Val} (h : BoxV W b v) (hb : Below W.heap.size W W') : BoxV W' b v := blk_below h hb
theorem box4 {W : World} {b : Nat} {v : Val} (h : W.heap[b]? = some (.cells #[.int .i64 0, .int .i64 0, .float .f64 0, .string ⟨#[]⟩] 39 (0, 0))) : BoxV ((((W.setCell ⟨b, 0, none⟩ (.int .i64 v.kind)).setCell ⟨b, 1, none⟩ (.int .i64 v.int)).setCell ⟨b, 2, none⟩ (.float .f64 v.flt)).setCell ⟨b, 3, none⟩ (.string v.text)) b v := by
 have := blk_set (blk_set (blk_set (blk_set h 0 (.int .i64 v.kind)) 1 (.int .i64 v.int)) 2 (.float .f64 v.flt)) 3 (.string v.text)
 simp only [List.setIfInBounds_toArray, List.set_cons_zero, List.set_cons_succ] at this
 exact this
theorem nine {w W : World} {p0 p1 p2 p3 p4 p5 p6 p7 p8 : Addr} {v0 v1 v2 v3 v4 v5 v6 v7 v8 : Value} (h : w.cell? p0 = some v0 ∧ w.cell? p1 = some v1 ∧ w.cell? p2 = some v2 ∧ w.cell? p3 = some v3 ∧ w.cell? p4 = some v4 ∧ w.cell? p5 = some v5 ∧ w.cell? p6 = some v6 ∧ w.cell? p7 = some v7 ∧ w.cell? p8 = some v8) (hb : Below w.heap.size w W) :
 W.cell? p0 = some v0 ∧ W.cell? p1 = some v1 ∧ W.cell? p2 = some v2 ∧ W.cell? p3 = some v3 ∧ W.cell? p4 = some v4 ∧ W.cell? p5 = some v5 ∧ W.cell? p6 = some v6 ∧ W.cell? p7 = some v7 ∧ W.cell? p8 = some v8 ∧ Hid (Below w.heap.size w W) := by
 have m : ∀ {p : Addr} {v : Value}, w.cell? p = some v → W.cell? p = some v := fun {p v} q => (hb.cell (World.block_lt_of_cell? w _ q)).trans q
 obtain ⟨q0, q1, q2, q3, q4, q5, q6, q7, q8⟩ := h
 exact ⟨m q0, m q1, m q2, m q3, m q4, m q5, m q6, m q7, m q8, hdq hb⟩
set_option maxHeartbeats 80000000 in
theorem JA_great (a0 : Option Addr) (c0 : Nat) (la : List Tup) (a1 : Option Addr) (c1 : Nat) (lb : List Tup) (a2 : Option Addr) (c2 : Nat) (l2 : List PE) (a3 : Option Addr) (c3 : Nat) (l3 : List PE) (a4 : Option Addr) (c4 : Nat) (l4 : List PE) (w : World)
 (hr0 : Kd.C KT w a0 la.length la) (hc0 : la.length ≤ c0) (hr1 : Kd.C KT w a1 lb.length lb) (hc1 : lb.length ≤ c1) (hr2 : Kd.C k53 w a2 l2.length l2) (hc2 : l2.length ≤ c2) (hr3 : Kd.C k53 w a3 l3.length l3) (hc3 : l3.length ≤ c3) (hr4 : Kd.C k53 w a4 l4.length l4) (hc4 : l4.length ≤ c4)
 (hwa : ∀ t ∈ la, wfRs t = true) (hwb : ∀ t ∈ lb, wfRs t = true) (hw2 : wfEs l2 = true) (hw3 : wfEs l3 = true) (hw4 : wfEs l4 = true) (hn : l2.length + l3.length + l4.length ≤ 100000000) (hg : a27_Great.f 200000 la lb (l2 ++ l3 ++ l4 ++ l2 ++ l3) = some true) :
 Calls Tryz.prog 5 #[.slice a0 la.length c0, .slice a1 lb.length c1, .slice a2 l2.length c2, .slice a3 l3.length c3, .slice a4 l4.length c4] w fun e w' => e = .returned (.bool true) ∧ Below w.heap.size w w' := by
 have HI : Hid (AIn w w a0 la a1 lb a2 l2 a3 l3 a4 l4) := hdq ⟨Below.refl _ _, hr0, hr1, hr2, hr3, hr4⟩
 have HC := hdq (And.intro hc0 (And.intro hc1 (And.intro hc2 (And.intro hc3 hc4))))
 have ha1 := all_f2 l2 l3 l4 (by omega)
 have ha2 := all_f2 (l2 ++ l3 ++ l4) l2 l3 (by rw [List.length_append, List.length_append]; omega)
 obtain ⟨lx, hlx⟩ : ∃ lx, lx = l2 ++ l3 ++ l4 := ⟨_, rfl⟩
 rw [← hlx] at ha1 ha2 hg
 obtain ⟨ly, hly⟩ : ∃ ly, ly = lx ++ l2 ++ l3 := ⟨_, rfl⟩
 rw [← hly] at ha2 hg
 have HA1 := hdq ha1
 have HA2 := hdq ha2
 have HG := hdq hg
 clear hlx hly ha1 ha2
 clear hr0 hr1 hr2 hr3 hr4 hc0 hc1 hc2 hc3 hc4 hg
 have B2 : (l2.length : Int) = (l3.length : Int) ∨ ¬ (l2.length : Int) = (l3.length : Int) := Classical.em _
 go_enter Tryz.func5, Tryz.ntmps5
 go_wp2_with (first
  | (go_at_call 8; refine (a27_works.calls true _ rfl).mono ?_; rintro e w1 ⟨rfl, hb⟩; have HI1 := hdq (HI.out.step hb); clear hb)
  | (go_at_call 15; have q1 := v53 HI1.out.2.2.2.1 HC.out.2.2.1; have q2 := v53 HI1.out.2.2.2.2.1 HC.out.2.2.2.1; have q3 := v53 HI1.out.2.2.2.2.2 HC.out.2.2.2.2; (with_reducible refine (a27_all.calls _ _ _ _ _ _ _ _ _ _ _ _ _ _ q1 q2 q3 HA1.out).mono ?_); clear q1 q2 q3; rintro e w2 ⟨v2, rfl, hN, hb⟩; obtain ⟨A5, c5, rfl⟩ := Kd.N_slice hN; have HV : Hid (Kd.V k53 53 w2 w2.heap.size _ (.slice A5 lx.length c5) lx) := hdq (Kd.V_mk (Kd.N_reads' hN).2.1 (Kd.N_F hN)); have HI2 := hdq (HI1.out.step hb); clear hb hN)
  | (go_at_call 15; have q1 := v53 HI2.out.2.2.2.1 HC.out.2.2.1; have q2 := v53 HI2.out.2.2.2.2.1 HC.out.2.2.2.1; (with_reducible refine (a27_all.calls _ _ _ _ _ _ _ _ _ _ _ _ _ _ HV.out q1 q2 HA2.out).mono ?_); clear q1 q2; rintro e w3 ⟨v3, rfl, hN, hb⟩; obtain ⟨A6, c6, rfl⟩ := Kd.N_slice hN; have HL6 := hdq (Kd.N_reads' hN).2.1; have HV6 := hdq (Kd.N_reads' hN).2.2; have HI3 := hdq (HI2.out.step hb); have HV3 : Hid (Kd.V KT 22 w3 w3.heap.size (fun k => k < w3.heap.size) (.slice a0 la.length c0) la ∧ Kd.V KT 22 w3 w3.heap.size (fun k => k < w3.heap.size) (.slice a1 lb.length c1) lb) := hdq ⟨Kd.V_mk HC.out.1 (Kd.C_F (Kd.heap_slice _ (Kd.heap_slice _ k39_heap)) HI3.out.2.1), Kd.V_mk HC.out.2.1 (Kd.C_F (Kd.heap_slice _ (Kd.heap_slice _ k39_heap)) HI3.out.2.2.1)⟩; clear hb hN)
  | (go_at_call 7; refine (a27_Great.calls 200000 _ _ _ _ _ _ _ _ _ _ _ _ _ HV3.out.1 HV3.out.2 HV6.out HL6.out HG.out).mono ?_; rintro e w4 ⟨rfl, hb⟩; have HI4 := hdq (HI3.out.step hb); clear hb))
 go_ret
 exact ⟨rfl, HI4.out.1⟩
set_option maxHeartbeats 80000000 in
theorem JA_nokeys (a0 : Option Addr) (c0 : Nat) (la : List Tup) (a1 : Option Addr) (c1 : Nat) (lb : List Tup) (a2 : Option Addr) (c2 : Nat) (l2 : List PE) (a3 : Option Addr) (c3 : Nat) (l3 : List PE) (a4 : Option Addr) (c4 : Nat) (l4 : List PE) (w : World)
 (hr0 : Kd.C KT w a0 la.length la) (hc0 : la.length ≤ c0) (hr1 : Kd.C KT w a1 lb.length lb) (hc1 : lb.length ≤ c1) (hr2 : Kd.C k53 w a2 l2.length l2) (hc2 : l2.length ≤ c2) (hr3 : Kd.C k53 w a3 l3.length l3) (hc3 : l3.length ≤ c3) (hr4 : Kd.C k53 w a4 l4.length l4) (hc4 : l4.length ≤ c4)
 (hwa : ∀ t ∈ la, wfRs t = true) (hwb : ∀ t ∈ lb, wfRs t = true) (hw2 : wfEs l2 = true) (hw3 : wfEs l3 = true) (hw4 : wfEs l4 = true) (hn : l2.length + l3.length + l4.length ≤ 100000000) (hg : a27_Great.f 200000 la lb (l2 ++ l3 ++ l4 ++ l2 ++ l3) = some false) (hg3 : la.length ≤ 30 ∧ lb.length ≤ 30 ∧ l2.length ≤ 200 ∧ l3.length ≤ 200 ∧ l4.length ≤ 200 ∧ (∀ t ∈ la, okTup t) ∧ ∀ t ∈ lb, okTup t) (hl : l2.length = l3.length) (h0 : l2.length = 0) :
 Calls Tryz.prog 5 #[.slice a0 la.length c0, .slice a1 lb.length c1, .slice a2 l2.length c2, .slice a3 l3.length c3, .slice a4 l4.length c4] w fun e w' => e = .returned (.bool true) ∧ Below w.heap.size w w' := by
 have HI : Hid (AIn w w a0 la a1 lb a2 l2 a3 l3 a4 l4) := hdq ⟨Below.refl _ _, hr0, hr1, hr2, hr3, hr4⟩
 have HC := hdq (And.intro hc0 (And.intro hc1 (And.intro hc2 (And.intro hc3 hc4))))
 have ha1 := all_f2 l2 l3 l4 (by omega)
 have ha2 := all_f2 (l2 ++ l3 ++ l4) l2 l3 (by rw [List.length_append, List.length_append]; omega)
 obtain ⟨lx, hlx⟩ : ∃ lx, lx = l2 ++ l3 ++ l4 := ⟨_, rfl⟩
 rw [← hlx] at ha1 ha2 hg
 obtain ⟨ly, hly⟩ : ∃ ly, ly = lx ++ l2 ++ l3 := ⟨_, rfl⟩
 rw [← hly] at ha2 hg
 have HA1 := hdq ha1
 have HA2 := hdq ha2
 have HG := hdq hg
 clear hlx hly ha1 ha2
 clear hr0 hr1 hr2 hr3 hr4 hc0 hc1 hc2 hc3 hc4 hg
 have B2 : (l2.length : Int) = (l3.length : Int) ∨ ¬ (l2.length : Int) = (l3.length : Int) := Classical.em _
 obtain ⟨na, nb, n2, n3, n4, oa, ob⟩ := hg3
 have ha : okTups la := ⟨by omega, fun t ht => ⟨hwa t ht, oa t ht⟩⟩
 have hb : okTups lb := ⟨by omega, fun t ht => ⟨hwb t ht, ob t ht⟩⟩
 have o2 : okLs l2 := ⟨hw2, by omega⟩
 have o3 : okLs l3 := ⟨hw3, by omega⟩
 have o4 : okLs l4 := ⟨hw4, by omega⟩
 have HO := hdq (And.intro ha (And.intro hb (And.intro o2 (And.intro o3 o4))))
 have HN := hdq (And.intro na (And.intro nb (And.intro n2 (And.intro n3 n4))))
 have hkb := keyed_both la lb l2 l3 l4 ha hb o2 o3 o4 na nb
 have hko := keyedR_ok2 la lb l2 l3 l4 ha hb o2 o3 na nb
 obtain ⟨kr, hkr⟩ : ∃ kr, kr = keyedR la lb l2 l3 l4 := ⟨_, rfl⟩
 rw [← hkr] at hkb hko
 obtain ⟨x, xe⟩ := kr
 have HK := hdq hkb
 have HKO := hdq (same_f2 x hko.1 (by have := hko.2; simp only at this; omega) 200000 (by omega))
 have HKR := hdq hkr
 clear na nb n2 n3 n4 oa ob ha hb o2 o3 o4 hkb hko hkr hwa hwb hw2 hw3 hw4 hn
 as_aux_lemma =>
  have b1 : ((l2.length : Int) != (l3.length : Int)) = false := by rw [bne_eq_false_iff_eq]; omega
  have b2 : ((l2.length : Int) == 0) = true := by rw [beq_iff_eq]; omega
  clear hl h0
  go_enter Tryz.func5, Tryz.ntmps5
  go_wp2_with (first
   | (go_at_call 8; refine (a27_works.calls true _ rfl).mono ?_; rintro e w1 ⟨rfl, hb⟩; have HI1 := hdq (HI.out.step hb); clear hb)
   | (go_at_call 15; have q1 := v53 HI1.out.2.2.2.1 HC.out.2.2.1; have q2 := v53 HI1.out.2.2.2.2.1 HC.out.2.2.2.1; have q3 := v53 HI1.out.2.2.2.2.2 HC.out.2.2.2.2; (with_reducible refine (a27_all.calls _ _ _ _ _ _ _ _ _ _ _ _ _ _ q1 q2 q3 HA1.out).mono ?_); clear q1 q2 q3; rintro e w2 ⟨v2, rfl, hN, hb⟩; obtain ⟨A5, c5, rfl⟩ := Kd.N_slice hN; have HV : Hid (Kd.V k53 53 w2 w2.heap.size _ (.slice A5 lx.length c5) lx) := hdq (Kd.V_mk (Kd.N_reads' hN).2.1 (Kd.N_F hN)); have HI2 := hdq (HI1.out.step hb); clear hb hN)
   | (go_at_call 15; have q1 := v53 HI2.out.2.2.2.1 HC.out.2.2.1; have q2 := v53 HI2.out.2.2.2.2.1 HC.out.2.2.2.1; (with_reducible refine (a27_all.calls _ _ _ _ _ _ _ _ _ _ _ _ _ _ HV.out q1 q2 HA2.out).mono ?_); clear q1 q2; rintro e w3 ⟨v3, rfl, hN, hb⟩; obtain ⟨A6, c6, rfl⟩ := Kd.N_slice hN; have HL6 := hdq (Kd.N_reads' hN).2.1; have HV6 := hdq (Kd.N_reads' hN).2.2; have HI3 := hdq (HI2.out.step hb); have HV3 : Hid (Kd.V KT 22 w3 w3.heap.size (fun k => k < w3.heap.size) (.slice a0 la.length c0) la ∧ Kd.V KT 22 w3 w3.heap.size (fun k => k < w3.heap.size) (.slice a1 lb.length c1) lb) := hdq ⟨Kd.V_mk HC.out.1 (Kd.C_F (Kd.heap_slice _ (Kd.heap_slice _ k39_heap)) HI3.out.2.1), Kd.V_mk HC.out.2.1 (Kd.C_F (Kd.heap_slice _ (Kd.heap_slice _ k39_heap)) HI3.out.2.2.1)⟩; clear hb hN)
   | (go_at_call 7; refine (a27_Great.calls 200000 _ _ _ _ _ _ _ _ _ _ _ _ _ HV3.out.1 HV3.out.2 HV6.out HL6.out HG.out).mono ?_; rintro e w4 ⟨rfl, hb⟩; have HI4 := hdq (HI3.out.step hb); clear hb))
  go_ret
  exact ⟨rfl, HI4.out.1⟩
set_option maxHeartbeats 80000000 in
theorem JA_unlike (a0 : Option Addr) (c0 : Nat) (la : List Tup) (a1 : Option Addr) (c1 : Nat) (lb : List Tup) (a2 : Option Addr) (c2 : Nat) (l2 : List PE) (a3 : Option Addr) (c3 : Nat) (l3 : List PE) (a4 : Option Addr) (c4 : Nat) (l4 : List PE) (w : World)
 (hr0 : Kd.C KT w a0 la.length la) (hc0 : la.length ≤ c0) (hr1 : Kd.C KT w a1 lb.length lb) (hc1 : lb.length ≤ c1) (hr2 : Kd.C k53 w a2 l2.length l2) (hc2 : l2.length ≤ c2) (hr3 : Kd.C k53 w a3 l3.length l3) (hc3 : l3.length ≤ c3) (hr4 : Kd.C k53 w a4 l4.length l4) (hc4 : l4.length ≤ c4)
 (hwa : ∀ t ∈ la, wfRs t = true) (hwb : ∀ t ∈ lb, wfRs t = true) (hw2 : wfEs l2 = true) (hw3 : wfEs l3 = true) (hw4 : wfEs l4 = true) (hn : l2.length + l3.length + l4.length ≤ 100000000) (hg : a27_Great.f 200000 la lb (l2 ++ l3 ++ l4 ++ l2 ++ l3) = some false) (hg3 : la.length ≤ 30 ∧ lb.length ≤ 30 ∧ l2.length ≤ 200 ∧ l3.length ≤ 200 ∧ l4.length ≤ 200 ∧ (∀ t ∈ la, okTup t) ∧ ∀ t ∈ lb, okTup t) (hl : ¬ l2.length = l3.length) :
 Calls Tryz.prog 5 #[.slice a0 la.length c0, .slice a1 lb.length c1, .slice a2 l2.length c2, .slice a3 l3.length c3, .slice a4 l4.length c4] w fun e w' => e = .returned (.bool true) ∧ Below w.heap.size w w' := by
 have HI : Hid (AIn w w a0 la a1 lb a2 l2 a3 l3 a4 l4) := hdq ⟨Below.refl _ _, hr0, hr1, hr2, hr3, hr4⟩
 have HC := hdq (And.intro hc0 (And.intro hc1 (And.intro hc2 (And.intro hc3 hc4))))
 have ha1 := all_f2 l2 l3 l4 (by omega)
 have ha2 := all_f2 (l2 ++ l3 ++ l4) l2 l3 (by rw [List.length_append, List.length_append]; omega)
 obtain ⟨lx, hlx⟩ : ∃ lx, lx = l2 ++ l3 ++ l4 := ⟨_, rfl⟩
 rw [← hlx] at ha1 ha2 hg
 obtain ⟨ly, hly⟩ : ∃ ly, ly = lx ++ l2 ++ l3 := ⟨_, rfl⟩
 rw [← hly] at ha2 hg
 have HA1 := hdq ha1
 have HA2 := hdq ha2
 have HG := hdq hg
 clear hlx hly ha1 ha2
 clear hr0 hr1 hr2 hr3 hr4 hc0 hc1 hc2 hc3 hc4 hg
 have B2 : (l2.length : Int) = (l3.length : Int) ∨ ¬ (l2.length : Int) = (l3.length : Int) := Classical.em _
 obtain ⟨na, nb, n2, n3, n4, oa, ob⟩ := hg3
 have ha : okTups la := ⟨by omega, fun t ht => ⟨hwa t ht, oa t ht⟩⟩
 have hb : okTups lb := ⟨by omega, fun t ht => ⟨hwb t ht, ob t ht⟩⟩
 have o2 : okLs l2 := ⟨hw2, by omega⟩
 have o3 : okLs l3 := ⟨hw3, by omega⟩
 have o4 : okLs l4 := ⟨hw4, by omega⟩
 have HO := hdq (And.intro ha (And.intro hb (And.intro o2 (And.intro o3 o4))))
 have HN := hdq (And.intro na (And.intro nb (And.intro n2 (And.intro n3 n4))))
 have hkb := keyed_both la lb l2 l3 l4 ha hb o2 o3 o4 na nb
 have hko := keyedR_ok2 la lb l2 l3 l4 ha hb o2 o3 na nb
 obtain ⟨kr, hkr⟩ : ∃ kr, kr = keyedR la lb l2 l3 l4 := ⟨_, rfl⟩
 rw [← hkr] at hkb hko
 obtain ⟨x, xe⟩ := kr
 have HK := hdq hkb
 have HKO := hdq (same_f2 x hko.1 (by have := hko.2; simp only at this; omega) 200000 (by omega))
 have HKR := hdq hkr
 clear na nb n2 n3 n4 oa ob ha hb o2 o3 o4 hkb hko hkr hwa hwb hw2 hw3 hw4 hn
 as_aux_lemma =>
  have b1 : ((l2.length : Int) != (l3.length : Int)) = true := by rw [bne_iff_ne]; omega
  clear hl
  go_enter Tryz.func5, Tryz.ntmps5
  go_wp2_with (first
   | (go_at_call 8; refine (a27_works.calls true _ rfl).mono ?_; rintro e w1 ⟨rfl, hb⟩; have HI1 := hdq (HI.out.step hb); clear hb)
   | (go_at_call 15; have q1 := v53 HI1.out.2.2.2.1 HC.out.2.2.1; have q2 := v53 HI1.out.2.2.2.2.1 HC.out.2.2.2.1; have q3 := v53 HI1.out.2.2.2.2.2 HC.out.2.2.2.2; (with_reducible refine (a27_all.calls _ _ _ _ _ _ _ _ _ _ _ _ _ _ q1 q2 q3 HA1.out).mono ?_); clear q1 q2 q3; rintro e w2 ⟨v2, rfl, hN, hb⟩; obtain ⟨A5, c5, rfl⟩ := Kd.N_slice hN; have HV : Hid (Kd.V k53 53 w2 w2.heap.size _ (.slice A5 lx.length c5) lx) := hdq (Kd.V_mk (Kd.N_reads' hN).2.1 (Kd.N_F hN)); have HI2 := hdq (HI1.out.step hb); clear hb hN)
   | (go_at_call 15; have q1 := v53 HI2.out.2.2.2.1 HC.out.2.2.1; have q2 := v53 HI2.out.2.2.2.2.1 HC.out.2.2.2.1; (with_reducible refine (a27_all.calls _ _ _ _ _ _ _ _ _ _ _ _ _ _ HV.out q1 q2 HA2.out).mono ?_); clear q1 q2; rintro e w3 ⟨v3, rfl, hN, hb⟩; obtain ⟨A6, c6, rfl⟩ := Kd.N_slice hN; have HL6 := hdq (Kd.N_reads' hN).2.1; have HV6 := hdq (Kd.N_reads' hN).2.2; have HI3 := hdq (HI2.out.step hb); have HV3 : Hid (Kd.V KT 22 w3 w3.heap.size (fun k => k < w3.heap.size) (.slice a0 la.length c0) la ∧ Kd.V KT 22 w3 w3.heap.size (fun k => k < w3.heap.size) (.slice a1 lb.length c1) lb) := hdq ⟨Kd.V_mk HC.out.1 (Kd.C_F (Kd.heap_slice _ (Kd.heap_slice _ k39_heap)) HI3.out.2.1), Kd.V_mk HC.out.2.1 (Kd.C_F (Kd.heap_slice _ (Kd.heap_slice _ k39_heap)) HI3.out.2.2.1)⟩; clear hb hN)
   | (go_at_call 7; refine (a27_Great.calls 200000 _ _ _ _ _ _ _ _ _ _ _ _ _ HV3.out.1 HV3.out.2 HV6.out HL6.out HG.out).mono ?_; rintro e w4 ⟨rfl, hb⟩; have HI4 := hdq (HI3.out.step hb); clear hb))
  go_ret
  exact ⟨rfl, HI4.out.1⟩
end Go.Proofs.YtgmolmpfihkolaaGreat
