/- tabularylaw27.JoinsParts returns true and leaves what came in as it was, whatever came in. -/
import Derived.Test.YtgmolmpfihkolaaGreatK28
import Derived.ShutString
import Derived.ChangeOld
namespace Go.Proofs.YtgmolmpfihkolaaGreat
open Go.RowKit Go.Proofs.YtgmolmpfihkolaaGreatW.PrintWords Go.Proofs.YtgmolmpfihkolaaGreatW.PrintMore Go.Proofs.YtgmolmpfihkolaaGreat.Pj
set_option linter.unusedVariables false
set_option maxRecDepth 100000
theorem lists_f (t : Tup) (hw : wfRs t = true) (ht : okTup t) (K : Nat) (hK : 3000 ≤ K) : r05_Lists.f K t t = some true := by
 unfold r05_Lists.f
 rw [if_pos rfl]
 exact lists_go t hw ht t.length 0 (by omega) (Nat.zero_le _) K (by have := ht.1; omega)
theorem exactL_go (r s : List PV) (hr : wfR r = true) (hs : wfR s = true) (hl : s.length = r.length) (hn : r.length ≤ 1000) (ha : ∀ (j : Nat) (x y : PV), r[j]? = some x → s[j]? = some y → Alike (vOf x) (vOf y)) : ∀ (m i : Nat), r.length - i = m → i ≤ r.length → ∀ K, m + 1 ≤ K → r05_Exact.l0 K r s (i : Int) = some true := by
 intro m
 induction m with
 | zero =>
  intro i hm hi K hK
  obtain ⟨K, rfl⟩ : ∃ K', K = K' + 1 := ⟨K - 1, by omega⟩
  rw [r05_Exact.l0, if_neg (by omega)]
 | succ m ih =>
  intro i hm hi K hK
  obtain ⟨K, rfl⟩ : ∃ K', K = K' + 1 := ⟨K - 1, by omega⟩
  have hil : i < r.length := by omega
  have his : i < s.length := by omega
  have hv : wfV r[i] = true := List.all_eq_true.1 hr _ (List.getElem_mem hil)
  have hu : wfV s[i] = true := List.all_eq_true.1 hs _ (List.getElem_mem his)
  have he : r04_Exact.f r[i].f0 r[i].f1 r[i].f2 r[i].f3 s[i].f0 s[i].f1 s[i].f2 s[i].f3 = some true := by
   unfold r04_Exact.f
   show exactF r[i] s[i] = _
   unfold exactF
   rw [hv, hu, decide_eq_true (ha i _ _ (List.getElem?_eq_getElem hil) (List.getElem?_eq_getElem his))]; rfl
  rw [r05_Exact.l0, if_pos (by omega), if_pos (by omega), if_pos (by omega), rd39 r i hil, rd39 s i his, he, Option.bind_some, if_pos rfl, w64 (by omega)]
  exact ih (i + 1) (by omega) (by omega) K (by omega)
theorem exactL_f (r s : List PV) (hr : wfR r = true) (hs : wfR s = true) (hl : s.length = r.length) (hn : r.length ≤ 1000) (ha : ∀ (j : Nat) (x y : PV), r[j]? = some x → s[j]? = some y → Alike (vOf x) (vOf y)) (K : Nat) (hK : 2000 ≤ K) : r05_Exact.f K r s = some true := by
 unfold r05_Exact.f
 rw [if_pos (by omega)]
 exact exactL_go r s hr hs hl hn ha r.length 0 (by omega) (Nat.zero_le _) K (by omega)
theorem al_split {W : World} {A : Option Addr} {n : Nat} {xs : List PV} (h : kAl.C W A n xs) : ∃ ys : List PV, k39.C W A n ys ∧ ys.length = xs.length ∧ wfR ys = true ∧ ∀ (j : Nat) (x y : PV), xs[j]? = some x → ys[j]? = some y → Alike (vOf x) (vOf y) := by
 obtain ⟨h1, h2, h3⟩ := h
 by_cases h0 : 0 < n
 ·obtain ⟨ad, ea, hq⟩ := h3 h0
  clear h3
  subst ea
  have hy : ∀ j : Fin xs.length, ∃ y : PV, (vOf y).wf ∧ Alike (vOf xs[j]) (vOf y) ∧ ∀ (i : Nat) (u : Value), (pvCells y)[i]? = some u → W.cell? (ad.add (j.val * 4 + i)) = some u := by
   intro j
   obtain ⟨c, _, ⟨y, hw, ha, rfl⟩, hc⟩ := hq j.val _ (List.getElem?_eq_getElem j.isLt)
   exact ⟨y, hw, ha, hc⟩
  obtain ⟨f, hf⟩ := Classical.axiomOfChoice hy
  refine ⟨List.ofFn f, ⟨by rw [List.length_ofFn]; exact h1, h2, fun _ => ⟨ad, rfl, fun j p hj => ?_⟩⟩, by rw [List.length_ofFn], List.all_eq_true.2 (fun p hp => ?_), fun j x y hx hy => ?_⟩
  ·obtain ⟨hlt, rfl⟩ := List.getElem?_eq_some_iff.1 hj
   rw [List.length_ofFn] at hlt
   rw [List.getElem_ofFn]
   exact ⟨_, rfl, k39_mk _ _, (hf ⟨j, hlt⟩).2.2⟩
  ·obtain ⟨i, rfl⟩ := List.mem_ofFn.1 hp
   exact decide_eq_true (hf i).1
  ·obtain ⟨hlt, rfl⟩ := List.getElem?_eq_some_iff.1 hx
   obtain ⟨hlt2, rfl⟩ := List.getElem?_eq_some_iff.1 hy
   rw [List.getElem_ofFn]
   exact (hf ⟨j, hlt⟩).2.1
 ·have h4 : xs.length = 0 := by omega
  refine ⟨[], ⟨by rw [← h1, h4]; rfl, h2, fun h => absurd h h0⟩, by rw [h4]; rfl, rfl, fun j x y hx hy => by simp at hy⟩
def kF (t : Tup) : List Int := t.flatMap (fun r => r.map (·.f0))
theorem kF_take (t : Tup) (i : Nat) (h : i < t.length) : kF (t.take (i + 1)) = kF (t.take i) ++ (t.getD i []).map (·.f0) := by
 unfold kF
 rw [List.take_add_one, List.getElem?_eq_getElem h, List.flatMap_append, getD_at _ _ _ h]
 simp
theorem kF_length (t : Tup) (h : ∀ r ∈ t, r.length ≤ 1000) (i : Nat) : (kF (t.take i)).length ≤ i * 1000 := by
 induction i with
 | zero => simp [kF]
 | succ i ih =>
  by_cases hi : i < t.length
  ·rw [kF_take t i hi, List.length_append, List.length_map, getD_at _ _ _ hi]
   have := h _ (List.getElem_mem hi)
   omega
  ·rw [List.take_of_length_le (by omega)]
   rw [List.take_of_length_le (by omega)] at ih
   omega
theorem kF_at (t : Tup) (i k : Nat) (hi : i < t.length) (hk : k < (t.getD i []).length) : (kF t)[(kF (t.take i)).length + k]? = some ((t.getD i []).getD k z39).f0 := by
 have e : kF t = kF (t.take (i + 1)) ++ kF (t.drop (i + 1)) := by
  unfold kF
  rw [← List.flatMap_append, List.take_append_drop]
 rw [e, kF_take t i hi, List.append_assoc, List.getElem?_append_right (by omega), Nat.add_sub_cancel_left, List.getElem?_append_left (by rw [List.length_map]; exact hk), List.getElem?_map, List.getElem?_eq_getElem hk, getD_at _ _ _ hk]; rfl
def UOK (AU : Option Addr) (g lo hi : Nat) (ocs : Array Value) (u : Tup) (W : World) : Prop :=
 (0 < u.length → AU = some ⟨g, 0, none⟩ ∧ W.heap[g]? = some (.cells ocs 29 (0, 0))) ∧ ∀ j, j < u.length → ∃ A c, ocs[j]? = some (.slice A (u.getD j []).length c) ∧ (u.getD j []).length ≤ c ∧ (0 < (u.getD j []).length → ∃ b, A = some ⟨b, 0, none⟩ ∧ lo ≤ b ∧ b < hi ∧ b ≠ g ∧ ∃ cs, W.heap[b]? = some (.cells cs 39 (0, 0)) ∧ 4 * (u.getD j []).length ≤ cs.size)
theorem UOK.of {AU : Option Addr} {n c lo : Nat} {ok : Nat → Prop} {u : Tup} {W : World} (h : Kd.R (Kd.slice 39 k39) 29 W lo ok (.slice AU n c) u) : ∃ g ocs, UOK AU g lo W.heap.size ocs u W := by
 by_cases h0 : 0 < u.length
 ·obtain ⟨g, c', e, _, _, ocs, ho⟩ := Kd.R_form h h0
  injection e with e1 e2 e3
  subst e1 e2 e3
  refine ⟨g, ocs, fun _ => ⟨rfl, ho⟩, fun j hj => ?_⟩
  obtain ⟨h1, inner, hin, hr⟩ := h
  obtain ⟨v, hv, hR⟩ := hr.2 j _ (List.getElem?_eq_getElem hj)
  have hi : inner[j]? = some v := by
   have : ((inner.drop (j * 1)).take 1)[0]? = some v := by
    have hv : (inner.drop (j * 1)).take 1 = [v] := hv
    rw [hv]; rfl
   rw [List.getElem?_take] at this
   simpa using this
  have hc := hin.cells (g := g) rfl j v hi
  rw [add_plain, blk_cell ho] at hc
  rw [getD_at _ _ _ hj]
  obtain ⟨A, cp, rfl⟩ := Kd.R_slice hR
  refine ⟨A, cp, hc, (Kd.R_reads' hR).2.1, fun hp => ?_⟩
  obtain ⟨b, cp', e, hb1, hb2, cs, hcs⟩ := Kd.R_form hR hp
  injection e with e1 e2 e3
  subst e1 e3
  refine ⟨b, rfl, hb1, hb2, fun hbg => ?_, cs, hcs, ?_⟩
  ·subst hbg
   exact (hR.1 _ rfl).2 rfl
  ·obtain ⟨ad, ea, _, _, _, q4⟩ := at_T39 (Kd.R_reads' hR).2.2 ((u[j].length - 1 : Nat) : Int) (by omega) (by omega)
   injection ea with ea
   subst ea
   rw [Int.toNat_natCast, add_plain, blk_cell hcs] at q4
   obtain ⟨hlt, _⟩ := Array.getElem?_eq_some_iff.1 q4
   simp only at hlt
   omega
 ·exact ⟨0, #[], fun h => absurd h h0, fun j hj => absurd hj (by omega)⟩
theorem UOK.keep {AU : Option Addr} {g lo hi : Nat} {ocs : Array Value} {u : Tup} {W W' : World} (h : UOK AU g lo hi ocs u W) (hk : ∀ k, k < W.heap.size → W'.heap[k]? = W.heap[k]?) : UOK AU g lo hi ocs u W' := by
 refine ⟨fun hp => ⟨(h.1 hp).1, (hk g (blk_lt (h.1 hp).2)).trans (h.1 hp).2⟩, fun j hj => ?_⟩
 obtain ⟨A, c, h1, h2, h3⟩ := h.2 j hj
 refine ⟨A, c, h1, h2, fun hp => ?_⟩
 obtain ⟨b, e, h4, h5, h6, cs, h7, h8⟩ := h3 hp
 exact ⟨b, e, h4, h5, h6, cs, (hk b (blk_lt h7)).trans h7, h8⟩
theorem UOK.below {AU : Option Addr} {g lo hi : Nat} {ocs : Array Value} {u : Tup} {W W' : World} (h : UOK AU g lo hi ocs u W) (hb : Below W.heap.size W W') : UOK AU g lo hi ocs u W' := h.keep (fun k hk => hb.block k hk)
theorem UOK.set {AU : Option Addr} {g lo hi b i : Nat} {ocs : Array Value} {u : Tup} {W : World} {v : Value} (h : UOK AU g lo hi ocs u W) (hb : b ≠ g) : UOK AU g lo hi ocs u (W.setCell ⟨b, i, none⟩ v) := by
 refine ⟨fun hp => ⟨(h.1 hp).1, (Below.heap_setCell W ⟨b, i, none⟩ v g (fun e => hb e.symm)).trans (h.1 hp).2⟩, fun j hj => ?_⟩
 obtain ⟨A, c, h1, h2, h3⟩ := h.2 j hj
 refine ⟨A, c, h1, h2, fun hp => ?_⟩
 obtain ⟨b', e, h4, h5, h6, cs, h7, h8⟩ := h3 hp
 by_cases hbb : b' = b
 ·subst hbb
  exact ⟨b', e, h4, h5, h6, _, blk_set h7 i v, by rw [Array.size_setIfInBounds]; exact h8⟩
 ·exact ⟨b', e, h4, h5, h6, cs, (Below.heap_setCell W ⟨b, i, none⟩ v b' hbb).trans h7, h8⟩
def Fr (lo hi : Nat) (W W' : World) : Prop := W.heap.size ≤ W'.heap.size ∧ ∀ k, k < W.heap.size → (k < lo ∨ hi ≤ k) → W'.heap[k]? = W.heap[k]?
theorem Fr.refl (lo hi : Nat) (W : World) : Fr lo hi W W := ⟨Nat.le_refl _, fun _ _ _ => rfl⟩
theorem Fr.set {lo hi b i : Nat} {W W' : World} {v : Value} (h : Fr lo hi W W') (h1 : lo ≤ b) (h2 : b < hi) : Fr lo hi W (W'.setCell ⟨b, i, none⟩ v) := by
 refine ⟨?_, fun k hk hr => ?_⟩
 ·have : (W'.setCell ⟨b, i, none⟩ v).heap.size = W'.heap.size := by simp [World.setCell]
  rw [this]; exact h.1
 ·rw [Below.heap_setCell W' ⟨b, i, none⟩ v k (fun e => by have e : k = b := e; omega)]
  exact h.2 k hk hr
theorem infoI : (Tryz.prog.info? 3).map (fun i => (i.zero, i.size, i.bytes)) = some (some (.int .i64 0), 1, 8) := by kernel_rfl
theorem oneT {W : World} {A : Option Addr} {c g : Nat} {t : Tup} (h : Kd.C (Kd.slice 39 k39) W A t.length t) (hc : t.length ≤ c) (hg : W.heap[g]? = some (.cells #[.slice A t.length c] 22 (0, 0))) : Kd.V KT 22 W W.heap.size (fun k => k < W.heap.size) (.slice (some ⟨g, 0, none⟩) [t].length 1) [t] :=
 Kd.V_mk (Nat.le_refl _) (Kd.C_F (Kd.heap_slice _ (Kd.heap_slice _ k39_heap)) (C_block (d := KT) (xs := [t]) hg rfl (Reps.c1 ⟨_, _, rfl, hc, h⟩ (Reps.none _ _)) (by simp)))
end Go.Proofs.YtgmolmpfihkolaaGreat
namespace Go.Proofs.YtgmolmpfihkolaaGreat
open Go.RowKit Go.Proofs.YtgmolmpfihkolaaGreatW.PrintWords Go.Proofs.YtgmolmpfihkolaaGreatW.PrintMore Go.Proofs.YtgmolmpfihkolaaGreat.Pj
set_option linter.unusedVariables false
set_option linter.unusedSimpArgs false
set_option maxRecDepth 100000
def PIn (w W : World) (a0 : Option Addr) (l0 : Tup) (a1 : Option Addr) (l1 : Tup) (a2 : Option Addr) (l2 : List PE) : Prop := Below w.heap.size w W ∧ Kd.C (Kd.slice 39 k39) W a0 l0.length l0 ∧ Kd.C (Kd.slice 39 k39) W a1 l1.length l1 ∧ Kd.C k53 W a2 l2.length l2
theorem PIn.step {w W W' : World} {a0 a1 a2 : Option Addr} {l0 l1 : Tup} {l2 : List PE} (h : PIn w W a0 l0 a1 l1 a2 l2) (hb : Below W.heap.size W W') : PIn w W' a0 l0 a1 l1 a2 l2 := ⟨h.1.trans (hb.mono h.1.size), Kd.C_below h.2.1 hb, Kd.C_below h.2.2.1 hb, Kd.C_below h.2.2.2 hb⟩
theorem Great_one {w W : World} {a0 a1 a2 : Option Addr} {l0 l1 : Tup} {l2 : List PE} {c0 c1 c2 : Nat} {g : Bool} (h : PIn w W a0 l0 a1 l1 a2 l2) (hc0 : l0.length ≤ c0) (hc1 : l1.length ≤ c1) (hc2 : l2.length ≤ c2) (hg : a27_Great.f 200000 [l0] [l1] l2 = some g) :
 Calls Tryz.prog 7 #[.slice (some ⟨W.heap.size, 0, none⟩) 1 1, .slice (some ⟨W.heap.size + 1, 0, none⟩) 1 1, .slice a2 l2.length c2] ((W.alloc (.cells #[.slice a0 l0.length c0] 22)).alloc (.cells #[.slice a1 l1.length c1] 22)) fun e w' => e = .returned (.bool g) ∧ PIn w w' a0 l0 a1 l1 a2 l2 := by
 have hb : Below W.heap.size W ((W.alloc (.cells #[.slice a0 l0.length c0] 22)).alloc (.cells #[.slice a1 l1.length c1] 22)) := below_alloc (below_alloc (Below.refl _ _) _) _
 have h2 := h.step hb
 refine (a27_Great.calls 200000 _ _ 1 [l0] _ _ 1 [l1] a2 c2 l2 g _ (oneT h2.2.1 hc0 (blk_alloc (blk_new _ _) _)) (oneT h2.2.2.1 hc1 (blk_newAt _ _ (by simp))) h2.2.2.2 hc2 hg).mono ?_
 rintro e w' ⟨he, hb2⟩
 exact ⟨he, h2.step hb2⟩
theorem Exact_like {W : World} {AK AM : Option Addr} {ks : List PV} {cK cM b1 b2 : Nat} {ok1 ok2 : Nat → Prop} (hK : Kd.R k39 39 W b1 ok1 (.slice AK ks.length cK) ks) (hM : Kd.R kAl 39 W b2 ok2 (.slice AM ks.length cM) ks) (hw : wfR ks = true) (hn : ks.length ≤ 1000) :
 Calls Tryz.prog 14 #[.slice AK ks.length cK, .slice AM ks.length cM] W fun e w' => e = .returned (.bool true) ∧ Below W.heap.size W w' := by
 obtain ⟨ys, h1, h2, h3, h4⟩ := al_split (Kd.R_reads' hM).2.2
 have := r05_Exact.calls 200000 AK cK ks AM cM ys true W (Kd.R_reads' hK).2.2 (Kd.R_reads' hK).2.1 (by rw [h2]; exact h1) (by rw [h2]; exact (Kd.R_reads' hM).2.1) (exactL_f ks ys hw h3 h2 hn h4 200000 (by omega))
 rw [h2] at this
 exact this
set_option maxHeartbeats 4000000 in
theorem JoinsParts_any (a0 : Option Addr) (c0 : Nat) (l0 : Tup) (a1 : Option Addr) (c1 : Nat) (l1 : Tup) (a2 : Option Addr) (c2 : Nat) (l2 : List PE) (w : World) (hr0 : Kd.C (Kd.slice 39 k39) w a0 l0.length l0) (hc0 : l0.length ≤ c0) (hr1 : Kd.C (Kd.slice 39 k39) w a1 l1.length l1) (hc1 : l1.length ≤ c1) (hr2 : Kd.C k53 w a2 l2.length l2) (hc2 : l2.length ≤ c2) (hw0 : wfRs l0 = true) (hw1 : wfRs l1 = true) (hw2 : wfEs l2 = true) :
 Calls Tryz.prog 3 #[.slice a0 l0.length c0, .slice a1 l1.length c1, .slice a2 l2.length c2] w fun e w' => e = .returned (.bool true) ∧ Below w.heap.size w w' := by
 have HI : Hid (PIn w w a0 l0 a1 l1 a2 l2) := hdq ⟨Below.refl _ _, hr0, hr1, hr2⟩
 have HC := hdq (And.intro hc0 (And.intro hc1 hc2))
 obtain ⟨g, hg, hg2⟩ := great_f [l0] [l1] l2 200000 (by have := (show gB 200 ≤ 42000 by decide); omega)
 have HG := hdq hg
 clear hr0 hr1 hr2 hc0 hc1 hc2 hg
 cases g with
 | true =>
  clear hg2
  go_enter Tryz.func3, Tryz.ntmps3
  go_wp2_with (first
   | (go_at_call 7; refine (Great_one HI.out HC.out.1 HC.out.2.1 HC.out.2.2 HG.out).mono ?_; rintro e w1 ⟨rfl, hi⟩; replace HI := hdq hi; clear hi)
   | (go_at_call 8; refine (a27_works.calls true _ rfl).mono ?_; rintro e w1 ⟨rfl, hb⟩; replace HI := hdq (HI.out.step hb); clear hb))
  go_ret
  exact ⟨rfl, HI.out.1⟩
 | false =>
  obtain ⟨-, -, hl2, hk0, hk1⟩ := hg2 rfl
  have o0 : okTup l0 := hk0 l0 List.mem_cons_self
  have o1 : okTup l1 := hk1 l1 List.mem_cons_self
  have o2 : okLs l2 := ⟨hw2, by omega⟩
  have hu := union_f 200000 (by omega) l0 l1 o0 o1
  have hru := runion_f 200000 (by omega) l0 l1 o0 o1
  have hlf := lists_f (unionP l0 l1) (unionP_wf hw0 hw1) (unionP_ok o0 o1) 200000 (by omega)
  have hkf := keys_f 200000 l2 l0 o2 hw0 (by omega)
  have hrk := rkeys_f l2 l0 o2 hw0
  have hkw := keysP_wf hw0 o2
  obtain ⟨kk, hkk⟩ : ∃ kk, kk = keysP l2 l0 := ⟨_, rfl⟩
  rw [← hkk] at hkf hrk hkw
  obtain ⟨ks, some_, kerr⟩ := kk
  obtain ⟨u, hue⟩ : ∃ u, u = unionP l0 l1 := ⟨_, rfl⟩
  have ou := unionP_ok o0 o1
  rw [← hue] at hu hru hlf ou
  have HU := hdq (And.intro hu (And.intro hru (And.intro hlf (And.intro hkf (And.intro hrk hkw)))))
  have OU := hdq ou
  clear hu hru hlf hkf hrk hkw hkk hue hk0 hk1 hl2 hg2 ou o0 o1 o2 hw0 hw1 hw2
  go_enter Tryz.func3, Tryz.ntmps3
  have HI0 := HI
  have hbs : (some_ != some_) = false := bne_self_eq_false some_
  have hbe : (kerr != kerr) = false := bne_self_eq_false kerr
  go_wp2_with (first
   | (go_at_call 7; refine (Great_one HI.out HC.out.1 HC.out.2.1 HC.out.2.2 HG.out).mono ?_; rintro e w1 ⟨rfl, hi⟩; replace HI := hdq hi; clear hi)
   | (go_at_call 9; refine (joins_Union.calls 200000 _ _ _ _ _ _ _ _ HI.out.2.1 HC.out.1 HI.out.2.2.1 HC.out.2.1 HU.out.1).mono ?_; rintro e w2 ⟨vU, rfl, hS, hb⟩; have HI2 := hdq (HI.out.step hb); have hS2 := Kd.R_lower (Kd.S_R hS) HI.out.1.size; obtain ⟨AU, cU, rfl⟩ := Kd.R_slice hS2; have HS := hdq hS2; have HIU := hdq (HI2.out.1); clear hS hS2 hb)
   | (go_at_call 11; refine (r27_Union.calls 200000 (fun k => k < w.heap.size) a0 c0 l0 (fun k => k < w.heap.size) a1 c1 l1 u _ (Kd.V_mk HC.out.1 (Kd.F_below (Kd.C_F (Kd.heap_slice _ k39_heap) HI0.out.2.1) HI2.out.1)) (Kd.V_mk HC.out.2.1 (Kd.F_below (Kd.C_F (Kd.heap_slice _ k39_heap) HI0.out.2.2.1) HI2.out.1)) HU.out.2.1).mono ?_; rintro e w3 ⟨vR, rfl, hN, hb⟩; obtain ⟨AR, cR, rfl⟩ := Kd.N_slice hN; have HN := hdq hN; have HNB := hdq hb; have HI3 := hdq (HI2.out.step hb); have HS3 := hdq (Kd.R_below HS.out hb); clear hN hb)
   | (go_at_call 10; refine (r05_Lists.calls 200000 _ _ u _ _ u true _ (Kd.R_reads' HS3.out).2.2 (Kd.R_reads' HS3.out).2.1 (Kd.N_reads' HN.out).2.2 (Kd.N_reads' HN.out).2.1 HU.out.2.2.1).mono ?_; rintro e w4 ⟨rfl, hb⟩; have HI4 := hdq (HI3.out.step hb); have HS4 := hdq (Kd.R_below HS3.out hb); clear hb)
   | (go_at_call 12; refine (joins_Keys.calls 200000 _ _ _ _ _ _ _ _ _ _ HI4.out.2.2.2 HC.out.2.2 HI4.out.2.1 HC.out.1 HU.out.2.2.2.1).mono ?_; rintro e w5 ⟨vK, rfl, hK, hb⟩; obtain ⟨AK, cK, rfl⟩ := Kd.R_slice hK; have HK := hdq hK; have HI5 := hdq (HI4.out.step hb); have HS5 := hdq (Kd.R_below HS4.out hb); clear hK hb)
   | (go_at_call 13; refine (r27_Keys.calls _ _ _ _ _ _ _ _ _ _ HI5.out.2.2.2 HC.out.2.2 HI5.out.2.1 HC.out.1 HU.out.2.2.2.2.1).mono ?_; rintro e w6 ⟨vM, rfl, hM, hb⟩; obtain ⟨AM, cM, rfl⟩ := Kd.R_slice hM; have HM := hdq hM; have HK6 := hdq (Kd.R_below HK.out hb); have HI6 := hdq (HI5.out.step hb); have HS6 := hdq (Kd.R_below HS5.out hb); clear hM hb))
  go_wp2_with (first
   | (go_at_call 14; refine (Exact_like HK6.out HM.out HU.out.2.2.2.2.2.1 HU.out.2.2.2.2.2.2).mono ?_; rintro e w7 ⟨rfl, hb⟩; have HI7 := hdq (HI6.out.step hb); have HS7 := hdq (Kd.R_below HS6.out hb); clear hb)
   | (go_at_call 11; refine (r27_Union.calls 200000 (fun k => k < w.heap.size) a0 c0 l0 (fun k => k < w.heap.size) a1 c1 l1 u _ (Kd.V_mk HC.out.1 (Kd.F_below (Kd.C_F (Kd.heap_slice _ k39_heap) HI0.out.2.1) HI7.out.1)) (Kd.V_mk HC.out.2.1 (Kd.F_below (Kd.C_F (Kd.heap_slice _ k39_heap) HI0.out.2.2.1) HI7.out.1)) HU.out.2.1).mono ?_; rintro e w8 ⟨vW, rfl, hN, hb⟩; obtain ⟨AW, cW, rfl⟩ := Kd.N_slice hN; have HF := hdq (Kd.N_F hN); have HB8 := hdq hb; have HI8 := hdq (HI7.out.step hb); clear hN hb))
  obtain ⟨gu, ocs, huo⟩ := UOK.of HS7.out
  have HUO := hdq (huo.below HB8.out)
  have HS8 := hdq HI7.out.1.size
  have HS9 := hdq HB8.out.size
  clear huo HS HIU HN HNB HI3 HS3 HI4 HS4 HK HI5 HS5 HM HK6 HI6 HS6 HI7 HS7 HI HI2 hbs hbe HU HB8 HG
  go_loopw [15, 73] (fun v15 v73 wr => ∃ (i : Nat), v73 = .int .i64 (i : Int) ∧ i ≤ u.length ∧ Hid (Below w8.heap.size w8 wr) ∧ Hid (Kd.R (Kd.int .i64) 3 wr w8.heap.size (fun _ => True) v15 (kF (u.take i)))) (fun _ v73 _ => u.length - (intOf v73).toNat)
  case atStart => exact ⟨0, rfl, Nat.zero_le _, hdq (Below.refl _ _), hdq (Kd.R_nil _ _ _ _ _)⟩
  case round =>
   obtain ⟨i, rfl, hi, HB, HO⟩ := hrel
   have hu1000 : Hid (u.length ≤ 1000) := hdq OU.out.1
   by_cases hlt : i < u.length
   ·obtain ⟨ad, A0, c0', e, hx, hl, hC⟩ := at_L5 (Kd.F_now (Kd.F_below HF.out HB.out)) (i : Int) (by omega) (by omega)
    cases e
    rw [rd5] at hx hl hC
    rw [Int.toNat_natCast] at hx
    obtain ⟨r, hr⟩ : ∃ r, r = u.getD i [] := ⟨_, rfl⟩
    rw [← hr] at hx hl hC
    have HR := hdq hr
    have hrl : Hid (r.length ≤ 1000) := hdq (by rw [hr]; exact OU.out.row i)
    clear hl hC hr
    go_wp2
    go_loopw [15, 81] (fun v15 v81 wq => ∃ (k : Nat), v81 = .int .i64 (k : Int) ∧ k ≤ r.length ∧ Hid (Below w8.heap.size w8 wq) ∧ Hid (Kd.R (Kd.int .i64) 3 wq w8.heap.size (fun _ => True) v15 (kF (u.take i) ++ (r.take k).map (·.f0)))) (fun _ v81 _ => r.length - (intOf v81).toNat)
    case atStart => exact ⟨0, rfl, Nat.zero_le _, HB, hdq (by rw [List.take_zero, List.map_nil, List.append_nil]; exact HO.out)⟩
    case round =>
     clear hx
     obtain ⟨k, rfl, hk, HB2, HO2⟩ := hrel
     by_cases hkt : k < r.length
     ·obtain ⟨ad', A1, c1', e, hx1, hl1, hC1⟩ := at_L5 (Kd.F_now (Kd.F_below HF.out HB2.out)) (i : Int) (by omega) (by omega)
      cases e
      rw [rd5, ← HR.out] at hx1 hl1 hC1
      rw [Int.toNat_natCast] at hx1
      obtain ⟨ad2, e, q0, q1, q2, q3⟩ := at_T39 hC1 (k : Int) (by omega) (by omega)
      cases e
      rw [rd39 r k hkt] at q0 q1 q2 q3
      rw [Int.toNat_natCast] at q0
      obtain ⟨x, hx⟩ : ∃ x, x = r[k] := ⟨_, rfl⟩
      rw [← hx] at q0 q1 q2 q3
      have HX := hdq hx
      have HN := hdq (kF_length u OU.out.2 i)
      clear hC1 hl1 hx q1 q2 q3
      have hr2 := hrl.out
      go_wp2_with (at_builtin; refine Kd.R_append (Kd.int .i64) (w0 := w8) w8.heap.size rfl (.tmp 84) (.tmp 93) 36 3 (.int .i64 0) 8 rfl Tryz.underlying36 infoI rfl (by decide) (by omega) u15 (kF (u.take i) ++ (r.take k).map (·.f0)) x.f0 [.int .i64 x.f0] (fun _ => True) (fun _ => False) rfl rfl rfl (fun _ hk => hk.elim) (fun _ _ => trivial) HO2.out HB2.out HB2.out.size (by have := HN.out; have := hrl.out; have := hu1000.out; rw [List.length_append, List.length_map, List.length_take]; omega) ?_; intro v4 w4 ho4 hb4 hg4 hat4; have HO4 := hdq ho4; have HB4 := hdq hb4; clear ho4 hb4 hg4 hat4)
      go_roundw
      case rel => exact ⟨k + 1, by go_num, by omega, HB4, hdq (by rw [List.take_add_one, List.getElem?_eq_getElem hkt, List.map_append, ← List.append_assoc, ← HX.out]; exact HO4.out)⟩
      case measure => simp [intOf]; omega
     ·obtain rfl : k = r.length := by omega
      have HO5 : Hid (Kd.R (Kd.int .i64) 3 wr w8.heap.size (fun _ => True) u15 (kF (u.take (i + 1)))) := hdq (by rw [kF_take u i hlt, ← HR.out]; have := HO2.out; rwa [List.take_length] at this)
      clear HO2 HO hkt hk
      have hu2 := hu1000.out
      go_wp2
      go_roundw
      case rel => exact ⟨i + 1, by go_num, by omega, HB2, HO5⟩
      case measure => simp [intOf]; omega
   ·obtain rfl : i = u.length := by omega
    rw [List.take_length] at HO
    clear hlt hi
    obtain ⟨wA, rfl⟩ : ∃ x, x = wr := ⟨wr, rfl⟩
    have HBL := hdq (HI8.out.1.trans (HB.out.mono HI8.out.1.size))
    have HU0 := hdq (HUO.out.below HB.out)
    have HF0 := hdq (Kd.F_below HF.out HB.out)
    clear HUO HF HI8
    go_wp2
    go_loopw [99] (fun v99 wq => ∃ (i : Nat), v99 = .int .i64 (i : Int) ∧ i ≤ u.length ∧ Hid (UOK AU gu w.heap.size w7.heap.size ocs u wq) ∧ Hid (Fr w.heap.size w7.heap.size wA wq) ∧ Hid (Below w.heap.size w wq)) (fun v99 _ => u.length - (intOf v99).toNat)
    case atStart => exact ⟨0, rfl, Nat.zero_le _, HU0, hdq (Fr.refl _ _ _), HBL⟩
    case round =>
     obtain ⟨i, rfl, hi, HU, HFr, HB2⟩ := hrel
     by_cases hlt : i < u.length
     ·obtain ⟨A, cc, ho, hle, -⟩ := HU.out.2 i hlt
      obtain ⟨eA, hblk⟩ := HU.out.1 (by omega)
      obtain ⟨r, hr⟩ : ∃ r, r = u.getD i [] := ⟨_, rfl⟩
      rw [← hr] at ho hle
      have hx : wr.cell? ⟨gu, i, none⟩ = some (.slice A r.length cc) := (blk_cell hblk i).trans ho
      have HR := hdq hr
      have HO2 := hdq ho
      have hrl : Hid (r.length ≤ 1000) := hdq (by rw [hr]; exact OU.out.row i)
      have HLT := hdq hlt
      cases eA
      clear hblk hr ho
      go_wp2
      go_loopw [105] (fun v105 wp => ∃ (k : Nat), v105 = .int .i64 (k : Int) ∧ k ≤ r.length ∧ Hid (UOK (some ⟨gu, 0, none⟩) gu w.heap.size w7.heap.size ocs u wp) ∧ Hid (Fr w.heap.size w7.heap.size wA wp) ∧ Hid (Below w.heap.size w wp)) (fun v105 _ => r.length - (intOf v105).toNat)
      case atStart => exact ⟨0, rfl, Nat.zero_le _, HU, HFr, HB2⟩
      case round =>
       clear hx HU HFr HB2
       obtain ⟨k, rfl, hk, HU, HFr, HB2⟩ := hrel
       by_cases hkt : k < r.length
       ·obtain ⟨A', c', ho', -, hz⟩ := HU.out.2 i HLT.out
        rw [HO2.out, ← HR.out] at ho'
        injection ho' with ho'
        injection ho' with e1 e2 e3
        subst e1
        rw [← HR.out] at hz
        obtain ⟨b, eb, hb1, hb2, hb3, cs, hcs, hsz⟩ := hz (by omega)
        cases eb
        obtain ⟨old, hcell⟩ : ∃ old, wr.cell? ⟨b, k * 4, none⟩ = some old := ⟨_, (blk_cell hcs (k * 4)).trans (Array.getElem?_eq_getElem (by omega))⟩
        have hfrz := blk_frozen hcs (k * 4)
        have HZ := hdq (And.intro hb1 (And.intro hb2 hb3))
        have hr2 := hrl.out
        clear hcs hsz e2 e3 hz hb1 hb2 hb3
        go_wp2
        go_roundw
        case rel => exact ⟨k + 1, by go_num, by omega, hdq (HU.out.set HZ.out.2.2), hdq (HFr.out.set HZ.out.1 HZ.out.2.1), hdq (below_set HB2.out HZ.out.1)⟩
        case measure => simp [intOf]; omega
       ·obtain rfl : k = r.length := by omega
        have hu2 := OU.out.1
        clear hkt hk
        go_wp2
        go_roundw
        case rel => exact ⟨i + 1, by go_num, by omega, HU, HFr, HB2⟩
        case measure => simp [intOf]; omega
     ·obtain rfl : i = u.length := by omega
      clear hlt hi HU0 HBL HU
      have HF2 := hdq (Kd.F_step HF0.out (fun k hk hlt => HFr.out.2 k hlt (by have := HS8.out; omega)))
      have HO2 := hdq (Kd.R_step (Kd.R_bound HO.out) (fun k hk hlt => HFr.out.2 k hlt (by have := HS8.out; have := HS9.out; have := hk.2.1; omega)))
      obtain ⟨Ak, ck, rfl⟩ := Kd.R_slice HO2.out
      have HK := hdq (Kd.R_reads' HO2.out).2
      have HF := hdq (Kd.F_now HF2.out)
      clear HF2 HO2 HO HFr HF0 HB
      obtain ⟨wB, rfl⟩ : ∃ x, x = wr := ⟨wr, rfl⟩
      have hu2 := OU.out.1
      go_wp2
      go_loopw [21, 116] (fun v21 v116 wq => ∃ (i : Nat), v116 = .int .i64 (i : Int) ∧ i ≤ u.length ∧ v21 = .int .i64 ((kF (u.take i)).length : Int) ∧ Hid (Below wB.heap.size wB wq)) (fun _ v116 _ => u.length - (intOf v116).toNat)
      case atStart => exact ⟨0, rfl, Nat.zero_le _, rfl, hdq (Below.refl _ _)⟩
      case round =>
       obtain ⟨i, rfl, hi, rfl, HB⟩ := hrel
       by_cases hlt : i < u.length
       ·obtain ⟨ad, A0, c0', e, hx, hl, hC⟩ := at_L5 (Kd.C_below HF.out HB.out) (i : Int) (by omega) (by omega)
        cases e
        rw [rd5] at hx hl hC
        rw [Int.toNat_natCast] at hx
        obtain ⟨r, hr⟩ : ∃ r, r = u.getD i [] := ⟨_, rfl⟩
        rw [← hr] at hx hl hC
        have HR := hdq hr
        have hrl : Hid (r.length ≤ 1000) := hdq (by rw [hr]; exact OU.out.row i)
        obtain ⟨n0, hn0⟩ : ∃ n0, n0 = (kF (u.take i)).length := ⟨_, rfl⟩
        have hn1 := kF_length u OU.out.2 i
        rw [← hn0] at hn1 ⊢
        have HN0 := hdq hn0
        have HLT := hdq hlt
        clear hl hC hr hn0
        go_wp2
        go_loopw [21, 124] (fun v21 v124 wp => ∃ (k m : Nat), v124 = .int .i64 (k : Int) ∧ k ≤ r.length ∧ v21 = .int .i64 (m : Int) ∧ Hid (m = n0 + k) ∧ Hid (Below wB.heap.size wB wp)) (fun _ v124 _ => r.length - (intOf v124).toNat)
        case atStart => exact ⟨0, n0, rfl, Nat.zero_le _, rfl, hdq rfl, HB⟩
        case round =>
         clear hx HB
         obtain ⟨k, m, rfl, hk, rfl, HM, HB⟩ := hrel
         by_cases hkt : k < r.length
         ·obtain ⟨ad', A1, c1', e, hx1, hl1, hC1⟩ := at_L5 (Kd.C_below HF.out HB.out) (i : Int) (by omega) (by omega)
          cases e
          rw [rd5, ← HR.out] at hx1 hl1 hC1
          rw [Int.toNat_natCast] at hx1
          obtain ⟨ad2, e, q0, q1, q2, q3⟩ := at_T39 hC1 (k : Int) (by omega) (by omega)
          cases e
          rw [rd39 r k hkt] at q0 q1 q2 q3
          rw [Int.toNat_natCast] at q0
          obtain ⟨x, hx⟩ : ∃ x, x = r[k] := ⟨_, rfl⟩
          rw [← hx] at q0 q1 q2 q3
          have hat := kF_at u i k HLT.out (by rw [← HR.out]; exact hkt)
          rw [← HN0.out, ← HR.out, getD_at _ _ _ hkt, ← hx, ← HM.out] at hat
          obtain ⟨hnl, hat2⟩ := List.getElem?_eq_some_iff.1 hat
          obtain ⟨adk, ek, qk⟩ := Kd.at_int (Kd.C_below HK.out.2 HB.out) (m : Int) (by omega) (by omega)
          cases ek
          have hrd : rd (kF u) (m : Int) = x.f0 := by unfold rd; rw [Int.toNat_natCast, List.getD_eq_getElem?_getD, hat]; rfl
          rw [hrd, Int.toNat_natCast] at qk
          have hr2 := hrl.out
          have hb0 : (x.f0 != x.f0) = false := bne_self_eq_false _
          have hkl : (kF u).length ≤ 1000000 := by have := kF_length u OU.out.2 u.length; rw [List.take_length] at this; omega
          clear hC1 hl1 hx q1 q2 q3 hat hat2 hrd
          go_wp2
          go_region_held3 (fun W : World => W.cell? (ad.add i) = some (.slice (some ad2) r.length c1') ∧ W.cell? (ad2.add (k * 4)) = some (.int .i64 x.f0) ∧ W.cell? (adk.add m) = some (.int .i64 x.f0) ∧ Hid (Below wB.heap.size wB W)) (first | (exact ⟨by simpa using hx1, by simpa using q0, by simpa using qk, hdq HB.out.drew⟩) | assumption) (fail)
          have HB3 := hdq HB.out.drew
          clear HB
          go_wp2
          go_roundw
          case rel => exact ⟨k + 1, m + 1, by go_num, by omega, by go_num, hdq (by rw [HM.out]; omega), HB3⟩
          case measure => simp [intOf]; omega
         ·obtain rfl : k = r.length := by omega
          have e2 : m = (kF (u.take (i + 1))).length := by rw [kF_take u i HLT.out, List.length_append, List.length_map, ← HR.out, ← HN0.out, HM.out]
          have E2 := hdq e2
          have hu3 := OU.out.1
          clear hkt hk e2
          go_wp2
          go_roundw
          case rel => exact ⟨i + 1, by go_num, by omega, by rw [← E2.out], HB⟩
          case measure => simp [intOf]; omega
       ·obtain rfl : i = u.length := by omega
        clear hlt hi
        go_wp2_with (go_at_call 8; refine (a27_works.calls true _ rfl).mono ?_; rintro e w1 ⟨rfl, hb⟩; replace HB := hdq (HB.out.trans (hb.mono HB.out.size)); clear hb)
        go_ret
        exact ⟨rfl, HB2.out.trans (HB.out.mono HB2.out.size)⟩
end Go.Proofs.YtgmolmpfihkolaaGreat
namespace Go.Proofs.YtgmolmpfihkolaaGreat.joinsParts
open Go.ChangeShapes Go.WideShapes Go.ChangeAt Go.RowKit Go.Proofs.YtgmolmpfihkolaaGreat.Pj
set_option linter.unusedVariables false
theorem own : ownKnob Tryz.prog.godebug = none := by kernel_rfl
theorem laidOut : laidOutB Tryz.prog = true := by kernel_rfl
set_option maxRecDepth 100000 in
theorem lifted (os : Os) (started : os.Started) (H : Type) (enc : TypeId × Value → H) :
 ReturnsInHanded {} Tryz.checked os 3 .any (Rows.joinsPartsSpec.pre6 enc Tryz.prog Tryz.f3 Rows.joinsPartsRow.domain false) (Rows.joinsPartsSpec.post enc Tryz.prog Tryz.f3 false true false false) := by
 refine returnsInHanded_of_change (C := Tryz.checked) own started (by kernel_rfl) Tryz.func3
  (ChangeSpec.witness6 (enc := enc) (C := Tryz.checked) false ⟨#[], #[.slice none 0 0, .slice none 0 0, .slice none 0 0], []⟩ 8 (by kernel_rfl) (by kernel_rfl) (by kernel_rfl) (by kernel_rfl)) ?_
 intro W base args ds gs before hval0 hW hcnd _
 have hval : ∀ (j : Nat) t v, Tryz.f3.params[j]? = some t → args[j]? = some v → Value.okWide Tryz.prog W .any base t v := hval0
 have hW' := hW
 obtain ⟨p, q, hA0, hV, rfl, hfz, hnd⟩ := hW
 have hA : DataW.TrodAll enc Tryz.prog W 0 (fun _ => true) true Tryz.f3.params.toList args.toList ds p := hA0
 rw [Tryz.params3] at hA hval
 obtain ⟨v0, vs0, d0, ds0, p0, q0, hargs, rfl, rfl, h0, r0⟩ := trodAll_cons hA
 obtain ⟨v1, vs1, d1, ds1, p1, q1, rfl, rfl, rfl, h1, r1⟩ := trodAll_cons r0
 obtain ⟨v2, vs2, d2, ds2, p2, q2, rfl, rfl, rfl, h2, r2⟩ := trodAll_cons r1
 obtain ⟨rfl, rfl, rfl⟩ := trodAll_nil r2
 obtain rfl : args = #[v0, v1, v2] := by cases args; simp_all
 obtain ⟨rfl, rfl⟩ := trodVars_none hV
 obtain ⟨a0, len0, cap0, rfl⟩ := okWide_slice Tryz.underlying22 (hval 0 22 v0 rfl rfl)
 obtain ⟨a1, len1, cap1, rfl⟩ := okWide_slice Tryz.underlying22 (hval 1 22 v1 rfl rfl)
 obtain ⟨a2, len2, cap2, rfl⟩ := okWide_slice Tryz.underlying23 (hval 2 23 v2 rfl rfl)
 have k0 := h0
 have k1 := h1
 have k2 := h2
 have lt0 : ∀ x ∈ p0, x.block < W.heap.size := by obtain ⟨m, hm⟩ := k0; exact DataW.trod_lt m _ _ _ hm
 have lt1 : ∀ x ∈ p1, x.block < W.heap.size := by obtain ⟨m, hm⟩ := k1; exact DataW.trod_lt m _ _ _ hm
 have lt2 : ∀ x ∈ p2, x.block < W.heap.size := by obtain ⟨m, hm⟩ := k2; exact DataW.trod_lt m _ _ _ hm
 obtain ⟨f0, e0⟩ := h0
 obtain ⟨f1, e1⟩ := h1
 obtain ⟨f2, e2⟩ := h2
 obtain ⟨l0, ⟨A0, c0, g0, hc0, C0⟩, w0⟩ := open_tuple e0
 obtain ⟨l1, ⟨A1, c1, g1, hc1, C1⟩, w1⟩ := open_tuple e1
 obtain ⟨l2, ⟨A2, c2, g2, hc2, C2⟩, w2, -⟩ := open_exprs e2
 simp [Value.cells] at g0 g1 g2
 obtain ⟨rfl, rfl, rfl⟩ := g0
 obtain ⟨rfl, rfl, rfl⟩ := g1
 obtain ⟨rfl, rfl, rfl⟩ := g2
 clear hA0 hval0
 refine (JoinsParts_any a0 cap0 l0 a1 cap1 l1 a2 cap2 l2 W C0 hc0 C1 hc1 C2 hc2 w0 w1 w2).mono fun e W' ⟨he, bel⟩ => ?_
 subst he
 exact ⟨_, rfl, _, _, _, [], _, [], hW', trodAll_mk1 (shut_bool Tryz.underlying4 _), (trodAll_cons_mk (Below.trod laidOut (by kernel_rfl) (of_decide_eq_true (by kernel_rfl)) k0 bel lt0) (trodAll_cons_mk (Below.trod laidOut (by kernel_rfl) (of_decide_eq_true (by kernel_rfl)) k1 bel lt1) (trodAll_cons_mk (Below.trod laidOut (by kernel_rfl) (of_decide_eq_true (by kernel_rfl)) k2 bel lt2) trodAll_mk0))), rfl, bel.frame _, fun h => by cases h⟩
theorem over : Rows.joinsPartsRow.holds Tryz.pinned (OpenSpec.ofChange Rows.joinsPartsSpec) :=
 OpenClaim.holds_of_wide 3 Tryz.f3 rfl rfl rfl rfl rfl rfl rfl ⟨rfl, rfl, rfl, rfl, rfl⟩ rfl rfl rfl rfl rfl (by kernel_rfl) Tryz.func3 (by kernel_rfl)
  (of_decide_eq_true (by kernel_rfl)) (by unfold Func.isWrapper; first | (rw [if_pos (by decide +kernel)]; kernel_rfl) | (rw [if_neg (by decide +kernel)]; exact ⟨rfl, rfl⟩))
  (fun os started H enc _ => lifted os started H enc)
theorem proved : Rows.JoinsPartsSaid := over
#print axioms proved
end Go.Proofs.YtgmolmpfihkolaaGreat.joinsParts
