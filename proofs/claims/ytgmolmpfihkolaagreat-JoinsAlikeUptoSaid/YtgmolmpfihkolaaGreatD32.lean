/- tabularylaw27.JoinsAlike returns true and leaves what came in as it was, whatever came in, where what it reads is of bulk at most 1048576. -/
import Derived.Test.YtgmolmpfihkolaaGreatD31
import Derived.ShutString
import Derived.ChangeOld
import Derived.JoinedCond
namespace Go.Proofs.YtgmolmpfihkolaaGreat
open Go.RowKit Go.Proofs.YtgmolmpfihkolaaGreatW.PrintWords Go.Proofs.YtgmolmpfihkolaaGreatW.PrintMore Go.Proofs.YtgmolmpfihkolaaGreat.Pj
set_option linter.unusedVariables false
set_option linter.unusedSimpArgs false
set_option maxRecDepth 100000
attribute [local go_sem] run_store_float
set_option maxHeartbeats 80000000 in
theorem JoinsAlike_any (a0 : Option Addr) (c0 : Nat) (la : List Tup) (a1 : Option Addr) (c1 : Nat) (lb : List Tup) (a2 : Option Addr) (c2 : Nat) (l2 : List PE) (a3 : Option Addr) (c3 : Nat) (l3 : List PE) (a4 : Option Addr) (c4 : Nat) (l4 : List PE) (w : World)
 (hr0 : Kd.C KT w a0 la.length la) (hc0 : la.length ≤ c0) (hr1 : Kd.C KT w a1 lb.length lb) (hc1 : lb.length ≤ c1) (hr2 : Kd.C k53 w a2 l2.length l2) (hc2 : l2.length ≤ c2) (hr3 : Kd.C k53 w a3 l3.length l3) (hc3 : l3.length ≤ c3) (hr4 : Kd.C k53 w a4 l4.length l4) (hc4 : l4.length ≤ c4)
 (hwa : ∀ t ∈ la, wfRs t = true) (hwb : ∀ t ∈ lb, wfRs t = true) (hw2 : wfEs l2 = true) (hw3 : wfEs l3 = true) (hw4 : wfEs l4 = true) (hn : l2.length + l3.length + l4.length ≤ 100000000) :
 Calls Tryz.prog 5 #[.slice a0 la.length c0, .slice a1 lb.length c1, .slice a2 l2.length c2, .slice a3 l3.length c3, .slice a4 l4.length c4] w fun e w' => e = .returned (.bool true) ∧ Below w.heap.size w w' := by
 obtain ⟨g, hg, hg2⟩ := great_f la lb (l2 ++ l3 ++ l4 ++ l2 ++ l3) 200000 (by have := (show gB 200 ≤ 42000 by decide); omega)
 have hg3 : g = false → la.length ≤ 30 ∧ lb.length ≤ 30 ∧ l2.length ≤ 200 ∧ l3.length ≤ 200 ∧ l4.length ≤ 200 ∧ (∀ t ∈ la, okTup t) ∧ ∀ t ∈ lb, okTup t := fun h => by
  obtain ⟨h1, h2, h3, h4, h5⟩ := hg2 h
  simp only [List.length_append] at h3
  exact ⟨h1, h2, by omega, by omega, by omega, h4, h5⟩
 cases g with
 | true => exact JA_great a0 c0 la a1 c1 lb a2 c2 l2 a3 c3 l3 a4 c4 l4 w hr0 hc0 hr1 hc1 hr2 hc2 hr3 hc3 hr4 hc4 hwa hwb hw2 hw3 hw4 hn hg
 | false =>
  by_cases hl : l2.length = l3.length
  ·by_cases h0 : l2.length = 0
   ·exact JA_nokeys a0 c0 la a1 c1 lb a2 c2 l2 a3 c3 l3 a4 c4 l4 w hr0 hc0 hr1 hc1 hr2 hc2 hr3 hc3 hr4 hc4 hwa hwb hw2 hw3 hw4 hn hg (hg3 rfl) hl h0
   ·exact JA_main a0 c0 la a1 c1 lb a2 c2 l2 a3 c3 l3 a4 c4 l4 w hr0 hc0 hr1 hc1 hr2 hc2 hr3 hc3 hr4 hc4 hwa hwb hw2 hw3 hw4 hn hg (hg3 rfl) hl h0
  ·exact JA_unlike a0 c0 la a1 c1 lb a2 c2 l2 a3 c3 l3 a4 c4 l4 w hr0 hc0 hr1 hc1 hr2 hc2 hr3 hc3 hr4 hc4 hwa hwb hw2 hw3 hw4 hn hg (hg3 rfl) hl
end Go.Proofs.YtgmolmpfihkolaaGreat
namespace Go.Proofs.YtgmolmpfihkolaaGreat.joinsAlike
open Go.ChangeShapes Go.WideShapes Go.ChangeAt Go.RowKit Go.Proofs.YtgmolmpfihkolaaGreat.Pj
set_option linter.unusedVariables false
theorem own : ownKnob Tryz.prog.godebug = none := by kernel_rfl
theorem laidOut : laidOutB Tryz.prog = true := by kernel_rfl
set_option maxRecDepth 100000 in
theorem lifted (os : Os) (started : os.Started) (H : Type) (enc : TypeId × Value → H) (F : Stop.Interp) :
 ReturnsInHanded {} Tryz.checked os 5 .any ((Rows.OpenSpec.upto Rows.joinsAlikeSpec).pre6 enc Tryz.prog Tryz.f5 Rows.joinsAlikeUptoRow.domain false) (((Rows.OpenSpec.upto Rows.joinsAlikeSpec).at F).post enc Tryz.prog Tryz.f5 false true false false) := by
 refine returnsInHanded_of_cond (C := Tryz.checked) (s := Rows.OpenSpec.upto Rows.joinsAlikeSpec) (k := Rows.uptoSmall) rfl own started (by kernel_rfl) Tryz.func5
  (OpenSpec.witness (enc := enc) (C := Tryz.checked) (s := Rows.OpenSpec.upto Rows.joinsAlikeSpec) (k := Rows.uptoSmall) rfl false ⟨#[], #[.slice none 0 0, .slice none 0 0, .slice none 0 0, .slice none 0 0, .slice none 0 0], []⟩ 8 (by kernel_rfl) (by kernel_rfl) (by kernel_rfl)
   (x := ([.nil, .nil, .nil, .nil, .nil], [], [])) (by kernel_rfl) rfl (by kernel_rfl)) ?_
 intro W base args ds gs before hval0 hW hcnd hk _
 have hval : ∀ (j : Nat) t v, Tryz.f5.params[j]? = some t → args[j]? = some v → Value.okWide Tryz.prog W .any base t v := hval0
 have hW' := hW
 obtain ⟨p, q, hA0, hV, rfl, hfz, hnd⟩ := hW
 have hA : DataW.TrodAll enc Tryz.prog W 0 (fun _ => true) true Tryz.f5.params.toList args.toList ds p := hA0
 rw [Tryz.params5] at hA hval
 obtain ⟨v0, vs0, d0, ds0, p0, q0, hargs, rfl, rfl, h0, r0⟩ := trodAll_cons hA
 obtain ⟨v1, vs1, d1, ds1, p1, q1, rfl, rfl, rfl, h1, r1⟩ := trodAll_cons r0
 obtain ⟨v2, vs2, d2, ds2, p2, q2, rfl, rfl, rfl, h2, r2⟩ := trodAll_cons r1
 obtain ⟨v3, vs3, d3, ds3, p3, q3, rfl, rfl, rfl, h3, r3⟩ := trodAll_cons r2
 obtain ⟨v4, vs4, d4, ds4, p4, q4, rfl, rfl, rfl, h4, r4⟩ := trodAll_cons r3
 obtain ⟨rfl, rfl, rfl⟩ := trodAll_nil r4
 obtain rfl : args = #[v0, v1, v2, v3, v4] := by cases args; simp_all
 obtain ⟨rfl, rfl⟩ := trodVars_none hV
 obtain ⟨a0, len0, cap0, rfl⟩ := okWide_slice Tryz.underlying25 (hval 0 25 v0 rfl rfl)
 obtain ⟨a1, len1, cap1, rfl⟩ := okWide_slice Tryz.underlying25 (hval 1 25 v1 rfl rfl)
 obtain ⟨a2, len2, cap2, rfl⟩ := okWide_slice Tryz.underlying23 (hval 2 23 v2 rfl rfl)
 obtain ⟨a3, len3, cap3, rfl⟩ := okWide_slice Tryz.underlying23 (hval 3 23 v3 rfl rfl)
 obtain ⟨a4, len4, cap4, rfl⟩ := okWide_slice Tryz.underlying23 (hval 4 23 v4 rfl rfl)
 have k0 := h0
 have k1 := h1
 have k2 := h2
 have k3 := h3
 have k4 := h4
 have lt0 : ∀ x ∈ p0, x.block < W.heap.size := by obtain ⟨m, hm⟩ := k0; exact DataW.trod_lt m _ _ _ hm
 have lt1 : ∀ x ∈ p1, x.block < W.heap.size := by obtain ⟨m, hm⟩ := k1; exact DataW.trod_lt m _ _ _ hm
 have lt2 : ∀ x ∈ p2, x.block < W.heap.size := by obtain ⟨m, hm⟩ := k2; exact DataW.trod_lt m _ _ _ hm
 have lt3 : ∀ x ∈ p3, x.block < W.heap.size := by obtain ⟨m, hm⟩ := k3; exact DataW.trod_lt m _ _ _ hm
 have lt4 : ∀ x ∈ p4, x.block < W.heap.size := by obtain ⟨m, hm⟩ := k4; exact DataW.trod_lt m _ _ _ hm
 have hbound : Rows.uptoBulkAll [d0, d1, d2, d3, d4] ≤ 1048576 := of_decide_eq_true hk
 obtain ⟨f0, e0⟩ := h0
 obtain ⟨f1, e1⟩ := h1
 obtain ⟨f2, e2⟩ := h2
 obtain ⟨f3, e3⟩ := h3
 obtain ⟨f4, e4⟩ := h4
 obtain ⟨l0, ⟨A0, c0, g0, hc0, C0⟩, w0, -⟩ := open_tuples e0
 obtain ⟨l1, ⟨A1, c1, g1, hc1, C1⟩, w1, -⟩ := open_tuples e1
 obtain ⟨l2, ⟨A2, c2, g2, hc2, C2⟩, w2, n2⟩ := open_exprs e2
 obtain ⟨l3, ⟨A3, c3, g3, hc3, C3⟩, w3, n3⟩ := open_exprs e3
 obtain ⟨l4, ⟨A4, c4, g4, hc4, C4⟩, w4, n4⟩ := open_exprs e4
 simp [Value.cells] at g0 g1 g2 g3 g4
 obtain ⟨rfl, rfl, rfl⟩ := g0
 obtain ⟨rfl, rfl, rfl⟩ := g1
 obtain ⟨rfl, rfl, rfl⟩ := g2
 obtain ⟨rfl, rfl, rfl⟩ := g3
 obtain ⟨rfl, rfl, rfl⟩ := g4
 have hn : l2.length + l3.length + l4.length ≤ 100000000 := by
  simp only [Rows.uptoBulkAll] at hbound
  have m2 : l2.length ≤ Rows.uptoBulk d2 := n2
  have m3 : l3.length ≤ Rows.uptoBulk d3 := n3
  have m4 : l4.length ≤ Rows.uptoBulk d4 := n4
  omega
 clear hA0 hval0
 refine (JoinsAlike_any a0 cap0 l0 a1 cap1 l1 a2 cap2 l2 a3 cap3 l3 a4 cap4 l4 W C0 hc0 C1 hc1 C2 hc2 C3 hc3 C4 hc4 w0 w1 w2 w3 w4 hn).mono fun e W' ⟨he, bel⟩ => ?_
 subst he
 exact ⟨_, rfl, _, _, _, [], _, [], hW', trodAll_mk1 (shut_bool Tryz.underlying4 _), (trodAll_cons_mk (Below.trod laidOut (by kernel_rfl) (of_decide_eq_true (by kernel_rfl)) k0 bel lt0) (trodAll_cons_mk (Below.trod laidOut (by kernel_rfl) (of_decide_eq_true (by kernel_rfl)) k1 bel lt1) (trodAll_cons_mk (Below.trod laidOut (by kernel_rfl) (of_decide_eq_true (by kernel_rfl)) k2 bel lt2) (trodAll_cons_mk (Below.trod laidOut (by kernel_rfl) (of_decide_eq_true (by kernel_rfl)) k3 bel lt3) (trodAll_cons_mk (Below.trod laidOut (by kernel_rfl) (of_decide_eq_true (by kernel_rfl)) k4 bel lt4) trodAll_mk0))))), rfl, bel.frame _, fun h => by cases h⟩
theorem over : Rows.joinsAlikeUptoRow.holds Tryz.pinned (Rows.OpenSpec.upto Rows.joinsAlikeSpec) :=
 OpenClaim.holds_of_cond 5 Tryz.f5 rfl rfl rfl rfl rfl rfl rfl ⟨rfl, rfl, rfl, rfl, rfl⟩ rfl rfl rfl rfl rfl (by kernel_rfl) Tryz.func5 (by kernel_rfl)
  (of_decide_eq_true (by kernel_rfl)) (by unfold Func.isWrapper; first | (rw [if_pos (by decide +kernel)]; kernel_rfl) | (rw [if_neg (by decide +kernel)]; exact ⟨rfl, rfl⟩))
  (fun os started H enc _ F => lifted os started H enc F)
theorem proved : Rows.JoinsAlikeUptoSaid := over
#print axioms proved
end Go.Proofs.YtgmolmpfihkolaaGreat.joinsAlike
