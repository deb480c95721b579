/- Part of the proof. -/
import Derived.Test.YtgmolmpfihkolaaGreatR28
import Derived.Lib.LazyBuf
namespace Go.Proofs.YtgmolmpfihkolaaGreat
open Go.RowKit Go.Proofs.YtgmolmpfihkolaaGreatW.PrintWords Go.Proofs.YtgmolmpfihkolaaGreatW.PrintMore Go.Proofs.YtgmolmpfihkolaaGreat.Pj
set_option linter.unusedVariables false
set_option maxRecDepth 100000
def cmpRs : List (List Val) → List (List Val) → Int
 | [], [] => 0
 | [], _ :: _ => -1
 | _ :: _, [] => 1
 | a :: s, b :: t => if cmpRow a b ≠ 0 then cmpRow a b else cmpRs s t
theorem RowsV.row {w W : World} {a : Option Addr} {len cap k : Nat} {l : List Slc} (h : RowsV w a len cap l) (hb : Below w.heap.size w W) (hk : k < len) :
 ∃ b off, a = some ⟨b, off, none⟩ ∧ b < w.heap.size ∧ ∃ s, l[k]? = some s ∧ W.cell? ⟨b, off + k, none⟩ = some (.slice s.a s.len s.cap) ∧ RowV W s.a s.len s.cap s.l ∧ l.drop k = s :: l.drop (k + 1) := by
 obtain ⟨h1, _, _, h5⟩ := h
 obtain ⟨b, off, rfl, hl, hc⟩ := h5.resolve_left (by omega)
 have hk' : k < l.length := by omega
 have hck := hc k _ (List.getElem?_eq_getElem hk')
 exact ⟨b, off, rfl, hl, l[k], List.getElem?_eq_getElem hk', (hb.cell hl).trans hck.1, hck.2.later hb, List.drop_eq_getElem_cons hk'⟩
set_option maxHeartbeats 4000000 in
theorem listsR_any (a1 : Option Addr) (l1 c1 : Nat) (x : List Slc) (a2 : Option Addr) (l2 c2 : Nat) (y : List Slc) (w : World) (hx : RowsV w a1 l1 c1 x) (hy : RowsV w a2 l2 c2 y) :
 Calls Tryz.prog 56 #[.slice a1 l1 c1, .slice a2 l2 c2, .func (.func 45) #[] #[]] w fun e w' => e = .returned (.int .i64 (cmpRs (x.map (·.l)) (y.map (·.l)))) ∧ Below w.heap.size w w' := by
 have h63 : l1 < 2 ^ 63 := by have := hx.2.1; have := hx.2.2.1; unfold maxLen at this; omega
 have h64 : l2 < 2 ^ 63 := by have := hy.2.1; have := hy.2.2.1; unfold maxLen at this; omega
 have HLX := hdq hx.1
 have HLY := hdq hy.1
 have HX := hdq hx
 have HY := hdq hy
 obtain ⟨r, hr⟩ : ∃ r, r = cmpRs (x.map (·.l)) (y.map (·.l)) := ⟨_, rfl⟩
 have HRES := hdq hr
 rw [← hr]
 clear hx hy hr
 go_enter Tryz.func56, Tryz.ntmps56
 go_wp2
 go_loopw [7] (fun i wr => ∃ k : Nat, i = .int .i64 k ∧ k ≤ l1 ∧ k ≤ l2 ∧ Hid (r = cmpRs ((x.drop k).map (·.l)) ((y.drop k).map (·.l))) ∧ Hid (Below w.heap.size w wr)) (fun i _ => l1 - (intOf i).toNat)
 case atStart => exact ⟨0, rfl, Nat.zero_le _, Nat.zero_le _, HRES, hdq (Below.refl _ _)⟩
 case round =>
  obtain ⟨k, rfl, hk1, hk2, HK, HB⟩ := hrel
  by_cases hlt1 : k < l1
  ·by_cases hlt2 : k < l2
   ·obtain ⟨b1, o1, rfl, hb1, s1, hv1, hc1, hr1, hd1⟩ := HX.out.row HB.out hlt1
    obtain ⟨b2, o2, rfl, hb2, s2, hv2, hc2, hr2, hd2⟩ := HY.out.row HB.out hlt2
    obtain ⟨A1, n1, d1, m1⟩ := s1
    obtain ⟨A2, n2, d2, m2⟩ := s2
    simp only at hc1 hr1 hc2 hr2
    have hK := HK.out
    rw [hd1, hd2] at hK
    simp only [List.map_cons, cmpRs] at hK
    obtain ⟨p, hp⟩ : ∃ p, p = cmpRow m1 m2 := ⟨_, rfl⟩
    have HR12 := hdq (And.intro hr1 hr2)
    have hbs1 : b1 < wr.heap.size := Nat.lt_of_lt_of_le hb1 HB.out.size
    have hbs2 : b2 < wr.heap.size := Nat.lt_of_lt_of_le hb2 HB.out.size
    have HC := hdq (fun (W : World) (hS : W.cell? ⟨b1, o1 + k, none⟩ = some (.slice A1 n1 d1) ∧ W.cell? ⟨b2, o2 + k, none⟩ = some (.slice A2 n2 d2) ∧ Hid (Below wr.heap.size wr W)) =>
     (rowCmp_any A1 n1 d1 m1 A2 n2 d2 m2 W (HR12.out.1.later hS.2.2.out) (HR12.out.2.later hS.2.2.out)).mono (R' := fun e w' => e = .returned (.int .i64 p) ∧ (w'.cell? ⟨b1, o1 + k, none⟩ = some (.slice A1 n1 d1) ∧ w'.cell? ⟨b2, o2 + k, none⟩ = some (.slice A2 n2 d2) ∧ Hid (Below wr.heap.size wr w')))
     (fun e w' h => by
      have hsz := hS.2.2.out.size
      exact ⟨by rw [h.1, hp], (h.2.cell (by show b1 < W.heap.size; omega)).trans hS.1, (h.2.cell (by show b2 < W.heap.size; omega)).trans hS.2.1, hdq (hS.2.2.out.trans (h.2.mono hsz))⟩))
    rw [← hp] at hK
    clear hp hr1 hr2 hd1 hd2 hv1 hv2 hb1 hb2 hbs1 hbs2
    by_cases hp0 : p = 0
    ·subst hp0
     rw [if_neg (by simp)] at hK
     have HK2 := hdq hK
     clear hK
     go_wp2
     go_region_held3 (fun W : World => W.cell? ⟨b1, o1 + k, none⟩ = some (.slice A1 n1 d1) ∧ W.cell? ⟨b2, o2 + k, none⟩ = some (.slice A2 n2 d2) ∧ Hid (Below wr.heap.size wr W)) (first | (exact ⟨by simpa using hc1, by simpa using hc2, hdq (Below.refl _ _).drew⟩) | assumption) (first | (go_at_call 45; refine (HC.out _ (by assumption)).mono ?_; rintro e wx ⟨rfl, hSx⟩))
     have HN := hdq (HB.out.trans (hSx.2.2.out.mono HB.out.size))
     clear hSx HC hc1 hc2
     go_wp2
     go_roundw
     case rel => exact ⟨k + 1, by go_num, by omega, by omega, HK2, HN⟩
     case measure => simp [intOf]; omega
    ·rw [if_pos hp0] at hK
     subst hK
     have hp1 : ((r : Int) != 0) = true := by simp; exact hp0
     clear hp0
     go_wp2
     go_region_held3 (fun W : World => W.cell? ⟨b1, o1 + k, none⟩ = some (.slice A1 n1 d1) ∧ W.cell? ⟨b2, o2 + k, none⟩ = some (.slice A2 n2 d2) ∧ Hid (Below wr.heap.size wr W)) (first | (exact ⟨by simpa using hc1, by simpa using hc2, hdq (Below.refl _ _).drew⟩) | assumption) (first | (go_at_call 45; refine (HC.out _ (by assumption)).mono ?_; rintro e wx ⟨rfl, hSx⟩))
     have HN := hdq (HB.out.trans (hSx.2.2.out.mono HB.out.size))
     clear hSx HC hc1 hc2
     go_wp2
     go_ret
     exact ⟨rfl, HN.out⟩
   ·obtain rfl : k = l2 := by omega
    have hK := HK.out
    rw [List.drop_of_length_le (l := y) (by rw [HLY.out]; exact Nat.le_refl _)] at hK
    obtain ⟨v, hv⟩ : ∃ v, x.drop k = v :: x.drop (k + 1) := ⟨_, List.drop_eq_getElem_cons (by rw [HLX.out]; exact hlt1)⟩
    rw [hv] at hK
    simp only [List.map_cons, List.map_nil, cmpRs] at hK
    subst hK
    clear hv
    go_wp2_with (go_at_call 50; refine (cmpInt_any _ _ _).mono ?_; rw [show cmpI (l1 : Int) (k : Int) = 1 by unfold cmpI; rw [if_neg (by omega), if_pos (by omega)]]; rintro e w2 ⟨rfl, rfl⟩)
    go_ret
    exact ⟨rfl, HB.out⟩
  ·obtain rfl : k = l1 := by omega
   have hK := HK.out
   rw [List.drop_of_length_le (l := x) (by rw [HLX.out]; exact Nat.le_refl _)] at hK
   by_cases hlt2 : k < l2
   ·obtain ⟨v, hv⟩ : ∃ v, y.drop k = v :: y.drop (k + 1) := ⟨_, List.drop_eq_getElem_cons (by rw [HLY.out]; exact hlt2)⟩
    rw [hv] at hK
    simp only [List.map_cons, List.map_nil, cmpRs] at hK
    subst hK
    clear hv
    go_wp2_with (go_at_call 50; refine (cmpInt_any _ _ _).mono ?_; rw [show cmpI (k : Int) (l2 : Int) = -1 by unfold cmpI; rw [if_pos (by omega)]]; rintro e w2 ⟨rfl, rfl⟩)
    go_ret
    exact ⟨rfl, HB.out⟩
   ·obtain rfl : l2 = k := by omega
    rw [List.drop_of_length_le (l := y) (by rw [HLY.out]; exact Nat.le_refl _)] at hK
    simp only [List.map_nil, cmpRs] at hK
    subst hK
    go_wp2_with (go_at_call 50; refine (cmpInt_any _ _ _).mono ?_; rw [show cmpI (l2 : Int) (l2 : Int) = 0 by unfold cmpI; rw [if_neg (by omega), if_neg (by omega)]]; rintro e w2 ⟨rfl, rfl⟩)
    go_ret
    exact ⟨rfl, HB.out⟩
theorem cloneR_any (A : Option Addr) (c : Nat) (xs : List (List PV)) (w : World) (h : Kd.C KR w A xs.length xs) (hc : xs.length ≤ c) (hn : xs.length ≤ 1000000000) :
 Calls Tryz.prog 88 #[.slice A xs.length c] w fun e w' => ∃ v, e = .returned v ∧ Kd.N KR 29 w' w.heap.size (fun _ => True) v xs ∧ Below w.heap.size w w' := by
 have HC := hdq h
 have HF := hdq (Kd.C_F (Kd.heap_slice 39 k39_heap) h)
 have HLN := hdq hn
 clear h
 by_cases h0 : A = none
 ·subst h0
  have hx : xs.length = 0 := by
   by_cases hz : xs.length = 0
   ·exact hz
   ·obtain ⟨ad, e, _⟩ := HC.out.2.2 (by omega); cases e
  have hxs : xs = [] := List.eq_nil_of_length_eq_zero hx
  subst hxs
  clear hx HC HF HLN hn
  go_enter Tryz.func88, Tryz.ntmps88
  have hnil : ∀ W : World, (binOp .eql 22 (.slice none 0 c) (.slice none 0 0)).run Tryz.prog W = .ok (.bool true) W := fun W => Go.run_eql_slice_nil W _ _ _ _ _ Tryz.underlying22
  have e0 : ([] : List (List PV)).length = 0 := rfl
  go_wp2
  go_ret
  exact ⟨_, rfl, Kd.R_N (Kd.R_nil _ _ _ _ _), Below.refl _ _⟩
 ·obtain ⟨ad, rfl⟩ : ∃ ad, A = some ad := by
   cases A with
   | none => exact absurd rfl h0
   | some ad => exact ⟨ad, rfl⟩
  have hnil : ∀ W : World, (binOp .eql 22 (.slice (some ad) xs.length c) (.slice none 0 0)).run Tryz.prog W = .ok (.bool false) W := fun W => Go.run_eql_slice_nil W _ _ _ _ _ Tryz.underlying22
  clear h0
  go_enter Tryz.func88, Tryz.ntmps88
  go_wp2_with (first
   | ((with_reducible refine gate_dst (N := 5) rfl ?_); refine Kd.N_lit KR w.heap.size 29 ?hg (N' := 5) ?hd (xs := ([] : List (List PV))) (inner := []) (ok := fun _ => True) (okp := fun _ => False) ?hr ?hp (fun _ hk => hk.elim) trivial (Below.refl _ _) (Nat.le_refl _) (by simp) ?_; (case hd => rfl); (case hg => rfl); (case hr => first | (go_simp; done) | (go_simp; rfl)); (case hp => exact (Reps.none _ _)); intro v1 w1 hN hb hg_ hnew_; have HN1 := hdq hN; have HB1 := hdq hb; have HF1 := hdq (Kd.F_below HF.out hb); have HNEW := hdq hnew_; clear hg_ hnew_ hN hb)
   | ((with_reducible refine gate_builtin (b := .append) (xs := #[.tmp 5, .tmp 6]) rfl ?_); at_builtin; refine Kd.N_append_rows KR (w0 := w) w.heap.size rfl (.tmp 5) (.tmp 6) 22 29 (.slice none 0 0) 24 rfl Tryz.underlying22 info29 rfl (by decide) (by omega) v1 [] xs _ _ _ (fun _ => True) (fun k => k < w.heap.size) rfl rfl ?aO ?aR (fun k hk => ⟨trivial, fun e => by obtain ⟨b, hb, hge⟩ := HNEW.out; rw [hb] at e; have := Option.some.inj e; omega⟩) (fun _ _ => trivial) ?aB ?aS ?aL ?_; (case aO => exact HN1.out); (case aR => exact HF1.out); (case aB => exact HB1.out); (case aS => exact HB1.out.size); (case aL => have := HLN.out; simp only [List.length_nil]; omega); intro v2 w2 hN hb hg hat; rw [List.nil_append] at hN; have HN2 := hdq hN; have HB2 := hdq hb; clear hN hb hg hat))
  go_ret
  exact ⟨_, rfl, HN2.out, HB2.out⟩
theorem ranked_any (A : Option Addr) (c : Nat) (xs : List (List PV)) (w : World) (h : Kd.C KR w A xs.length xs) (hc : xs.length ≤ c) (hw : wfRs xs = true) (hn : xs.length ≤ 1000000000) :
 Calls Tryz.prog 57 #[.slice A xs.length c] w fun e w' => ∃ (A' : Option Addr) (c' : Nat), e = .returned (.slice A' xs.length c') ∧ (∃ xs', xs'.Perm xs ∧ SortedR xs' ∧ ∃ R : List Slc, RowsV w' A' xs.length c' R ∧ R.map (·.l) = rsOf xs') ∧ Below w.heap.size w w' := by
 have HCL := hdq (cloneR_any A c xs w h hc hn)
 have HSO : Hid (∀ (W : World) (v : Value), Kd.N KR 29 W w.heap.size (fun _ => True) v xs → Calls Tryz.prog 89 #[v, .func (.func 45) #[] #[]] W fun e w' => e = .returned (.tuple #[]) ∧ Hid (∃ xs', xs'.Perm xs ∧ SortedR xs' ∧ ∃ A c, v = .slice A xs'.length c ∧ xs'.length ≤ c ∧ Kd.C KR w' A xs'.length xs') ∧ Hid (Below w.heap.size W w')) := hdq (fun W v hN => by
  refine (rowsort_any hN hw hn).mono ?_
  rintro e w' ⟨rfl, q1, q2⟩
  exact ⟨rfl, hdq q1, hdq q2⟩)
 obtain ⟨n, hnn⟩ : ∃ n, n = xs.length := ⟨_, rfl⟩
 have HNN := hdq hnn
 have HW := hdq hw
 rw [← hnn] at HCL ⊢
 clear h hc hn hnn hw
 go_enter Tryz.func57, Tryz.ntmps57
 go_wp2_with (first | (go_at_call 88; refine HCL.out.mono ?_; rintro e w1 ⟨v, rfl, hN, hb⟩; obtain ⟨A1, c1, rfl⟩ := Kd.N_slice hN; have HN := hdq hN; have HB := hdq hb; clear hN hb) | (go_at_call 89; refine (HSO.out _ _ HN.out).mono ?_; rintro e w2 ⟨rfl, HX, HB2⟩))
 go_ret
 obtain ⟨xs', hp, hs, A', c', e, hc', hC⟩ := HX.out
 injection e with e1 e2 e3
 subst e1
 subst e3
 have hl := hp.length_eq
 obtain ⟨R, hR, hRl⟩ := rows_of hC hc' (List.all_eq_true.2 (fun r hr => List.all_eq_true.1 HW.out r (hp.mem_iff.1 hr)))
 rw [hl] at hR
 rw [HNN.out]
 exact ⟨_, _, rfl, ⟨xs', hp, hs, R, hR, hRl⟩, HB.out.trans HB2.out⟩
theorem cmpRs_count : ∀ {a b : List (List Val)}, (∀ z, a.countP (fun r => decide (cmpRow r z ≤ 0)) = b.countP (fun r => decide (cmpRow r z ≤ 0))) → a.Pairwise (fun p q => ¬ cmpRow q p < 0) → b.Pairwise (fun p q => ¬ cmpRow q p < 0) → cmpRs a b = 0
 | [], [], _, _, _ => rfl
 | [], y :: b, h, _, _ => by
  have := h y
  have n := cmpRow_neg y y
  rw [List.countP_nil, List.countP_cons_of_pos (by simp only [decide_eq_true_eq]; omega)] at this
  omega
 | x :: a, [], h, _, _ => by
  have := h x
  have n := cmpRow_neg x x
  rw [List.countP_nil, List.countP_cons_of_pos (by simp only [decide_eq_true_eq]; omega)] at this
  omega
 | x :: a, y :: b, h, ha, hb => by
  have none_le : ∀ {x y : List Val} {b : List (List Val)}, (y :: b).Pairwise (fun p q => ¬ cmpRow q p < 0) → cmpRow x y < 0 → (y :: b).countP (fun r => decide (cmpRow r x ≤ 0)) = 0 := by
   intro x y b hb c
   rw [List.countP_eq_zero]
   intro r hr hle
   rw [decide_eq_true_eq] at hle
   have n1 := cmpRow_neg x y
   rcases List.mem_cons.1 hr with rfl | hr
   ·omega
   ·have h2 := (List.pairwise_cons.1 hb).1 r hr
    have n2 := cmpRow_neg r y
    have := cmpRow_trans y r x (by omega) hle
    omega
  have nxx := cmpRow_neg x x
  have nyy := cmpRow_neg y y
  have nxy := cmpRow_neg x y
  have h0 : cmpRow x y = 0 := by
   by_cases c : cmpRow x y < 0
   ·have e := h x
    rw [none_le hb c, List.countP_cons_of_pos (by simp only [decide_eq_true_eq]; omega)] at e
    omega
   ·by_cases c2 : cmpRow y x < 0
    ·have e := h y
     rw [none_le ha c2, List.countP_cons_of_pos (by simp only [decide_eq_true_eq]; omega)] at e
     omega
    ·omega
  rw [cmpRs, if_neg (by simp [h0])]
  refine cmpRs_count (fun z => ?_) (List.pairwise_cons.1 ha).2 (List.pairwise_cons.1 hb).2
  have e := h z
  have t1 := cmpRow_trans x y z
  have t2 := cmpRow_trans y x z
  by_cases c : cmpRow x z ≤ 0
  ·have c2 : cmpRow y z ≤ 0 := t2 (by omega) c
   rw [List.countP_cons_of_pos (by simpa using c), List.countP_cons_of_pos (by simpa using c2)] at e
   omega
  ·have c2 : ¬ cmpRow y z ≤ 0 := fun h => c (t1 (by omega) h)
   rw [List.countP_cons_of_neg (by simpa using c), List.countP_cons_of_neg (by simpa using c2)] at e
   exact e
theorem cmpRs_same {a b : List (List PV)} (hp : a.Perm b) (ha : SortedR a) (hb : SortedR b) : cmpRs (rsOf a) (rsOf b) = 0 := by
 refine cmpRs_count (fun z => (hp.map rOf).countP_eq _) ?_ ?_
 ·unfold rsOf; rw [List.pairwise_map]; exact ha
 ·unfold rsOf; rw [List.pairwise_map]; exact hb
noncomputable def bagF (a b : List (List PV)) : Option Bool := open Classical in if (wfRs a = true ∧ wfRs b = true ∧ a.length ≤ 1000000000) ∧ a.Perm b then some true else none
theorem Bag_any (A : Option Addr) (c : Nat) (xs : List (List PV)) (A' : Option Addr) (c' : Nat) (ys : List (List PV)) (w : World) (h : Kd.C KR w A xs.length xs) (hc : xs.length ≤ c) (h' : Kd.C KR w A' ys.length ys) (hc' : ys.length ≤ c') (r : Bool) (hf : bagF xs ys = some r) :
 Calls Tryz.prog 26 #[.slice A xs.length c, .slice A' ys.length c'] w fun e w' => e = .returned (.bool r) ∧ Below w.heap.size w w' := by
 unfold bagF at hf
 split at hf
 case isFalse => cases hf
 case isTrue hq =>
 obtain ⟨⟨hw, hw', hn⟩, hp⟩ := hq
 obtain rfl := Option.some.inj hf
 have hl := hp.length_eq
 have HR1 := hdq (fun W (hb : Below w.heap.size w W) => ranked_any A c xs W (Kd.C_below h hb) hc hw hn)
 have HR2 := hdq (fun W (hb : Below w.heap.size w W) => ranked_any A' c' ys W (Kd.C_below h' hb) hc' hw' (by omega))
 have HLI : Hid (∀ (W : World) (A1 : Option Addr) (c1 : Nat) (A2 : Option Addr) (c2 : Nat), (∃ xs', xs'.Perm xs ∧ SortedR xs' ∧ ∃ R : List Slc, RowsV W A1 xs.length c1 R ∧ R.map (·.l) = rsOf xs') → (∃ xs', xs'.Perm ys ∧ SortedR xs' ∧ ∃ R : List Slc, RowsV W A2 ys.length c2 R ∧ R.map (·.l) = rsOf xs') →
  Calls Tryz.prog 56 #[.slice A1 xs.length c1, .slice A2 ys.length c2, .func (.func 45) #[] #[]] W fun e w' => e = .returned (.int .i64 0) ∧ Below W.heap.size W w') := hdq (fun W A1 c1 A2 c2 q1 q2 => by
  obtain ⟨x1, p1, s1, R1, r1, e1⟩ := q1
  obtain ⟨x2, p2, s2, R2, r2, e2⟩ := q2
  refine (listsR_any A1 _ c1 R1 A2 _ c2 R2 W r1 r2).mono ?_
  rw [e1, e2, cmpRs_same (p1.trans (hp.trans p2.symm)) s1 s2]
  exact fun _ _ h => h)
 obtain ⟨n, hnn⟩ : ∃ n, n = xs.length := ⟨_, rfl⟩
 rw [← hl, ← hnn] at HR2 HLI
 rw [← hnn] at HR1
 rw [← hl, ← hnn]
 clear hf hw hw' hn hp hl h hc h' hc' hnn
 go_enter Tryz.func26, Tryz.ntmps26
 go_wp2_with (first
  | (go_at_call 57; refine (HR2.out _ HB1.out).mono ?_; rintro e w2 ⟨A2, d2, rfl, q, hb⟩; have HQ2 := hdq q; have HQ3 := hdq (show ∃ xs', xs'.Perm xs ∧ SortedR xs' ∧ ∃ R : List Slc, RowsV w2 A1 n d1 R ∧ R.map (·.l) = rsOf xs' from (by obtain ⟨x1, p1, s1, R1, r1, e1⟩ := HQ1.out; exact ⟨x1, p1, s1, R1, r1.later hb, e1⟩)); have HB2 := hdq (HB1.out.trans (hb.mono HB1.out.size)); clear q hb)
  | (go_at_call 57; refine (HR1.out _ (Below.refl _ _)).mono ?_; rintro e w1 ⟨A1, d1, rfl, q, hb⟩; have HQ1 := hdq q; have HB1 := hdq hb; clear q hb)
  | (go_at_call 56; refine (HLI.out _ _ _ _ _ HQ3.out HQ2.out).mono ?_; rintro e w3 ⟨rfl, hb⟩; have HB3 := hdq (HB2.out.trans (hb.mono HB2.out.size)); clear hb))
 go_ret
 exact ⟨rfl, HB3.out⟩
end Go.Proofs.YtgmolmpfihkolaaGreat
namespace Go.Proofs.YtgmolmpfihkolaaGreat.Pj
open Go.RowKit Go.Proofs.YtgmolmpfihkolaaGreatW.PrintWords Go.Proofs.YtgmolmpfihkolaaGreatW.PrintLast Go.Proofs.YtgmolmpfihkolaaGreatW.PrintMore
attribute [local go_sem] run_store_flt max2_int min2_int max_two min_two max_three min_three max_four min_four
set_option linter.unusedVariables false
set_option linter.unusedSimpArgs false
noncomputable def row_Bag.f (l0 : T2) (l1 : T2) : Option (Bool) := bagF l0 l1
theorem row_Bag.calls (A0 : Option Addr) (c0 : Nat) (l0 : T2) (A1 : Option Addr) (c1 : Nat) (l1 : T2) (r : Bool) (w : World) (hr0 : Kd.C (Kd.slice 39 k39) w A0 l0.length l0) (hc0 : l0.length ≤ c0) (hr1 : Kd.C (Kd.slice 39 k39) w A1 l1.length l1) (hc1 : l1.length ≤ c1) (h : row_Bag.f l0 l1 = some r) :
 Calls Tryz.prog 26 #[.slice A0 l0.length c0, .slice A1 l1.length c1] w fun e w' => e = .returned (.bool r) ∧ Below w.heap.size w w' := by
 exact Bag_any A0 c0 l0 A1 c1 l1 w hr0 hc0 hr1 hc1 r h
def value_Number.f (a0 : Int) : Option (Int × Int × Nat × ByteArray) := some (2, a0, 0, (⟨#[]⟩ : ByteArray))
set_option maxHeartbeats 8000000 in
set_option maxRecDepth 100000 in
theorem value_Number.calls (a0 : Int) (r1 : Int) (r2 : Int) (r3 : Nat) (r4 : ByteArray) (w : World) (h : value_Number.f a0 = some (r1, r2, r3, r4)) :
 Calls Tryz.prog 30 #[.int .i64 a0] w fun e w' => e = .returned (.agg #[.int .i64 r1, .int .i64 r2, .float .f64 r3, .string r4]) ∧ Below w.heap.size w w' := by
 have hu39 := Tryz.underlying39
 have HB := akk (Below.refl w.heap.size w)
 have H : (some (2, a0, 0, (⟨#[]⟩ : ByteArray))) = some (r1, r2, r3, r4) := h
 clear h
 simp only [Option.some.injEq, Prod.mk.injEq] at H
 obtain ⟨rfl, rfl, rfl, rfl⟩ := H
 go_enter Tryz.func30, Tryz.ntmps30
 go_wp2_with ((with_reducible refine gate_dst (N := 2) rfl ?_); refine box_event ?hg (N := 2) ?hd (cs := #[.int .i64 0, .int .i64 0, .float .f64 0, .string (⟨#[]⟩ : ByteArray)]) (t := 39) ?hr ?_; (case hd => rfl); (case hg => rfl); (case hr => first | (go_simp; done) | (go_simp; rfl)); intro gb135 hg w2 hbox hb; have BK135 := akk (hbox); have GW135 := gw (p := w.heap.size ≤ gb135) hg; have GE135 := gw (p := w.heap.size ≤ gb135) hg; replace HB := bb HB hb; clear hb hbox hg; obtain ⟨hcz3_0, hcz3_1, hcz3_2, hcz3_3⟩ := cz4 BK135; obtain ⟨hfz3_0, hfz3_1, hfz3_2, hfz3_3⟩ := fz4 BK135)
 refine bodyPost_ret (results_cell_row rfl _ _ gb135 39 #[.int .i64 2, .int .i64 a0, .float .f64 0, .string (⟨#[]⟩ : ByteArray)] (0, 0) _ rfl (kP BK135.out) Tryz.underlying39 rfl (by kernel_rfl)) rfl ?_
 exact ⟨fT, by repeat (first | (with_reducible first | exact HB.out | apply below_alloc | apply pw_below_drewN | apply below_drew1 | refine below_set ?_ GE135.out) | exact HB.out)⟩
mutual
def a27_flat.l0 : Nat → T2 → T3 → Int → Int → Option (T2)
 | 0, _, _, _, _ => none
 | k + 1, x3, x9, x10, x11 => if x11 < x10 then (if 0 ≤ x11 then (if x11 < (x9.length : Int) then (a27_flat.l1 k x3 ([] : List (S39)) x9 x10 x11 (rd_L6 x9 x11) ((rd_L6 x9 x11).length : Int) 0) else (none)) else (none)) else (some x3)
def a27_flat.l1 : Nat → T2 → List (S39) → T3 → Int → Int → T2 → Int → Int → Option (T2)
 | 0, _, _, _, _, _, _, _, _ => none
 | k + 1, x3, x6, x9, x10, x11, x15, x16, x17 => if x17 < x16 then (if 0 ≤ x17 then (if x17 < (x15.length : Int) then ((value_Number.f ((rd_L5 x15 x17).length : Int)).bind fun bt138 => (if x6.length < 3518437208883 then ((some (x6 ++ [(⟨bt138.1, bt138.2.1, bt138.2.2.1, bt138.2.2.2⟩ : S39)] : List (S39))).bind fun y142 => (if y142.length + (rd_L5 x15 x17).length < 3518437208883 then (a27_flat.l1 k x3 (y142 ++ (rd_L5 x15 x17)) x9 x10 x11 x15 x16 (wrap64 (x17 + 1))) else (none))) else (none))) else (none)) else (none)) else (if x3.length < 5864062014805 then (a27_flat.l0 k (x3 ++ [x6]) x9 x10 (wrap64 (x11 + 1))) else (none))
end
def a27_flat.f (k : Nat) (l0 : T3) : Option (T2) := a27_flat.l0 k ([] : T2) l0 (l0.length : Int) 0
set_option maxHeartbeats 8000000 in
set_option maxRecDepth 100000 in
theorem a27_flat.calls (k : Nat) (A0 : Option Addr) (c0 : Nat) (l0 : T3) (r : T2) (w : World) (hr0 : Kd.C (Kd.slice 29 (Kd.slice 39 k39)) w A0 l0.length l0) (hc0 : l0.length ≤ c0) (h : a27_flat.f k l0 = some r) :
 Calls Tryz.prog 27 #[.slice A0 l0.length c0] w fun e w' => ∃ v0_ : Value, e = .returned (v0_) ∧ Kd.S (Kd.slice 39 k39) 29 w' w.heap.size (fun _ => True) v0_ r ∧ Below w.heap.size w w' := by
 have HR0 := akk hr0
 have HC0 := akk hc0
 clear hr0 hc0
 have HB := akk (Below.refl w.heap.size w)
 have H : (a27_flat.l0 k ([] : T2) l0 (l0.length : Int) 0) = some r := h
 clear h
 have H' := akk H
 clear H
 go_enter Tryz.func27, Tryz.ntmps27
 go_wp2
 go_loopg [3, 11] k (fun kq v3 v11 w' => ∃ (x3_1 : T2) (x11_1 : Int), v11 = .int .i64 x11_1 ∧ Aside0 (a27_flat.l0 kq x3_1 l0 (l0.length : Int) x11_1 = some r) ∧ Aside0 (kq ≤ k) ∧ Aside0 (Kd.S (Kd.slice 39 k39) 29 w' w.heap.size (fun _ => True) v3 x3_1) ∧ Aside0 (Below w.heap.size w w'))
 case atStart => exact ⟨(([] : T2)), (0), eT, H', ⟨Nat.le_refl _⟩, ⟨by first | exact Kd.S_nil _ _ _ _ _ | exact Kd.N_nil _ _ _ _ _ | exact Kd.V_nil _ _ _ _ _ | exact Kd.Q_nil _ _ _ _ _ | exact Kd.R_nil _ _ _ _ _⟩, ⟨bT⟩⟩
 case round =>
  clear H'
  obtain ⟨x3_1, x11_1, rfl, HA, HK1, HO_3, HB⟩ := hrel
  cases gk with
  | zero => exact absurd HA.out (by simp [a27_flat.l0])
  | succ k1 =>
   have H := HA.out
   clear HA
   simp only [a27_flat.l0] at H
   by_cases c2 : x11_1 < (l0.length : Int)
   ·rw [if_pos c2] at H
    have c2b0 := decide_eq_true c2
    clear c2
    by_cases c3 : 0 ≤ x11_1
    ·rw [if_pos c3] at H
     have c3b0 := decide_eq_true c3
     clear c3
     by_cases c4 : x11_1 < (l0.length : Int)
     ·rw [if_pos c4] at H
      have c4b0 := decide_eq_true c4
      clear c4
      have H' := akk H
      clear H
      obtain ⟨ad136, A136_0, c136_0, e136, hx136_0, HR136_0, HC136_0, p136, q136⟩ := gC6 HR0 x11_1
      cases e136
      replace hx136_0 := hxT HB.out hx136_0
      go_wp2
      go_loopg [6, 17] k1 (fun kq v6 v17 w' => ∃ (x6_2 : List (S39)) (x17_2 : Int), v17 = .int .i64 x17_2 ∧ Aside0 (a27_flat.l1 kq x3_1 x6_2 l0 (l0.length : Int) x11_1 (rd_L6 l0 x11_1) ((rd_L6 l0 x11_1).length : Int) x17_2 = some r) ∧ Aside0 (kq ≤ k1) ∧ Aside0 (Kd.S (Kd.slice 39 k39) 29 w' w.heap.size (fun k_ => some k_ ≠ (v6 : Value).ownBlock) u3 x3_1) ∧ Aside0 (Kd.R k39 39 w' w.heap.size (fun _ => True) v6 x6_2) ∧ Aside0 (Below w.heap.size w w'))
      case atStart => exact ⟨(([] : List (S39))), (0), eT, H', ⟨Nat.le_refl _⟩, ⟨sT' (Kd.S_mono HO_3.out (fun _ hk => (by simp [Value.ownBlock])))⟩, ⟨zT⟩, ⟨bT⟩⟩
      case round =>
       clear H'
       try clear c2b0
       try clear c3b0
       try clear c4b0
       try clear hx136_0
       try clear p136
       try clear q136
       obtain ⟨x6_2, x17_2, rfl, HA, HK2, HO_3, HO_6, HB⟩ := hrel
       cases gk with
       | zero => exact absurd HA.out (by simp [a27_flat.l1])
       | succ k2 =>
        have H := HA.out
        clear HA
        simp only [a27_flat.l1] at H
        by_cases c5 : x17_2 < ((rd_L6 l0 x11_1).length : Int)
        ·rw [if_pos c5] at H
         have c5b0 := decide_eq_true c5
         clear c5
         by_cases c6 : 0 ≤ x17_2
         ·rw [if_pos c6] at H
          have c6b0 := decide_eq_true c6
          clear c6
          by_cases c7 : x17_2 < ((rd_L6 l0 x11_1).length : Int)
          ·rw [if_pos c7] at H
           have c7b0 := decide_eq_true c7
           clear c7
           obtain ⟨⟨t138, t139, t140, t141⟩, A8, H⟩ := bi H
           try dsimp only at H
           by_cases c9 : x6_2.length < 3518437208883
           ·rw [if_pos c9] at H
            have LMc9 := akk c9
            clear c9
            obtain ⟨y142, hy142⟩ : ∃ y_ : List (S39), y_ = (x6_2 ++ [(⟨t138, t139, t140, t141⟩ : S39)]) := ⟨_, rfl⟩
            replace H : (if y142.length + (rd_L5 (rd_L6 l0 x11_1) x17_2).length < 3518437208883 then (a27_flat.l1 k2 x3_1 (y142 ++ (rd_L5 (rd_L6 l0 x11_1) x17_2)) l0 (l0.length : Int) x11_1 (rd_L6 l0 x11_1) ((rd_L6 l0 x11_1).length : Int) (wrap64 (x17_2 + 1))) else (none)) = some r := jT hy142 H
            have Ny142 := akk hy142
            clear hy142
            by_cases c10 : y142.length + (rd_L5 (rd_L6 l0 x11_1) x17_2).length < 3518437208883
            ·rw [if_pos c10] at H
             have LMc10 := akk c10
             clear c10
             obtain ⟨y145, hy145⟩ : ∃ y_ : List (S39), y_ = (y142 ++ (rd_L5 (rd_L6 l0 x11_1) x17_2)) := ⟨_, rfl⟩
             replace H : (a27_flat.l1 k2 x3_1 y145 l0 (l0.length : Int) x11_1 (rd_L6 l0 x11_1) ((rd_L6 l0 x11_1).length : Int) (wrap64 (x17_2 + 1))) = some r := jT hy145 H
             have Ny145 := akk hy145
             clear hy145
             have H' := akk H
             clear H
             obtain ⟨ad137, A137_0, c137_0, e137, hx137_0, HR137_0, HC137_0, p137, q137⟩ := gC5 HR136_0 x17_2
             cases e137
             replace hx137_0 := hxT HB.out hx137_0
             go_wp2_with (first | (refine gT 30 (some 24) Tryz.func30 #[.int .i64 ((rd_L5 (rd_L6 l0 x11_1) x17_2).length : Int)] ?_; (with_reducible refine (value_Number.calls ((rd_L5 (rd_L6 l0 x11_1) x17_2).length : Int) t138 t139 t140 t141 _ A8.out).mono ?_); rintro e w11 ⟨rfl, hb⟩; refine ⟨_, rfl, ?_⟩; replace HO_3 := sb HO_3 hb; replace HO_6 := rb HO_6 hb; replace HB := bb HB hb; clear hb) | ((with_reducible refine gA #[.tmp 21, .tmp 25] rfl ?_); at_builtin; refine Kd.R_append k39 (w0 := w) w.heap.size rfl (.tmp 21) (.tmp 25) 29 39 (.agg #[(.int .i64 0), (.int .i64 0), (.float .f64 0), (.string ⟨#[]⟩)]) 40 rfl Tryz.underlying29 info39 rfl (by decide) (by omega) u6 x6_2 (⟨t138, t139, t140, t141⟩ : S39) [.int .i64 t138, .int .i64 t139, .float .f64 t140, .string t141] (fun _ => True) (fun _ => False) rfl rfl ?aP (fun _ hk => hk.elim) ?aF ?aO ?aB ?aS ?aL ?_; (case aP => exact k39_mkM _ _ _ (⟨t138, t139, t140, t141⟩ : S39)); (case aB => exact bT); (case aF => exact (fun _ _ => trivial)); (case aO => exact (rT HO_6.out)); (case aS => exact (below_size bT)); (case aL => have := LMc9.out; omega); intro v143 w12 ho hb hg hat; rw [← Ny142.out] at ho; replace HO_3 := akk (Kd.S_after (ok := (fun _ => True)) (sT' (Kd.S_mono HO_3.out (fun _ hk => ⟨trivial, hk⟩))) hg hat); replace HB := akk (hb); have HO144 := akk (ho); clear HO_6; clear ho hb hg hat) | ((with_reducible refine gA #[.tmp 27, .tmp 28] rfl ?_); at_builtin; refine Kd.R_append_rows k39 (w0 := w) w.heap.size rfl (.tmp 27) (.tmp 28) 29 39 (.agg #[(.int .i64 0), (.int .i64 0), (.float .f64 0), (.string ⟨#[]⟩)]) 40 rfl Tryz.underlying29 info39 rfl (by decide) (by omega) v143 y142 (rd_L5 (rd_L6 l0 x11_1) x17_2) _ _ _ (fun _ => True) (fun _ => False) rfl rfl ?aO ?aR (fun _ _ h => h) (fun _ h => h.elim) ?aF ?aB ?aS ?aL ?_; (case aR => exact cT HR137_0.out); (case aB => exact bT); (case aF => exact (fun _ _ => trivial)); (case aO => exact (rT HO144.out)); (case aS => exact (below_size bT)); (case aL => have := LMc10.out; omega); intro v146 w13 ho hb hg hat; rw [← Ny145.out] at ho; replace HO_3 := sa HO_3 hg hat; replace HB := akk (hb); have HO147 := akk (ho); clear HO144; clear ho hb hg hat))
             go_roundg k2
             case measure => have := HK1.out; have := HK2.out; omega
             case rel => exact ⟨(y145), (wrap64 (x17_2 + 1)), eT, H', ⟨by have := HK1.out; have := HK2.out; omega⟩, ⟨sT' (Kd.S_mono HO_3.out (fun _ hk => hk.2))⟩, ⟨rT HO147.out⟩, ⟨bT⟩⟩
            ·rw [if_neg c10] at H
             exact absurd H (by simp)
           ·rw [if_neg c9] at H
            exact absurd H (by simp)
          ·rw [if_neg c7] at H
           exact absurd H (by simp)
         ·rw [if_neg c6] at H
          exact absurd H (by simp)
        ·rw [if_neg c5] at H
         have c5b0 := decide_eq_false c5
         clear c5
         by_cases c14 : x3_1.length < 5864062014805
         ·rw [if_pos c14] at H
          have LMc14 := akk c14
          clear c14
          obtain ⟨y148, hy148⟩ : ∃ y_ : T2, y_ = (x3_1 ++ [x6_2]) := ⟨_, rfl⟩
          replace H : (a27_flat.l0 k2 y148 l0 (l0.length : Int) (wrap64 (x11_1 + 1))) = some r := jT hy148 H
          have Ny148 := akk hy148
          clear hy148
          have H' := akk H
          clear H
          obtain ⟨Ao16, co16, eo16⟩ := Kd.R_slice HO_6.out
          subst eo16
          go_wp2_with ((with_reducible refine gA #[.tmp 31, .tmp 33] rfl ?_); at_builtin; refine Kd.S_append (Kd.slice 39 k39) (w0 := w) w.heap.size rfl (.tmp 31) (.tmp 33) 22 29 (.slice none 0 0) 24 rfl Tryz.underlying22 info29 rfl (by decide) (by omega) u3 x3_1 x6_2 [.slice Ao16 x6_2.length co16] (fun _ => True) (fun k_ => some k_ = (.slice Ao16 x6_2.length co16 : Value).ownBlock) rfl rfl ?aP (fun k_ hk_ => ((Kd.R_mono (ok' := fun k_ => ((fun _ => True)) k_ ∧ some k_ ≠ (u3 : Value).ownBlock) (Kd.R_apart' (HO_6.out) (Kd.S_typed HO_3.out) (by decide)) (fun k_ hk => ⟨trivial, hk.2⟩))).1 k_ hk_.symm) ?aF ?aO ?aB ?aS ?aL ?_; (case aP => exact Kd.M_row (Kd.R_mono (Kd.R_tight rfl (Kd.R_mono (ok' := fun k_ => ((fun _ => True)) k_ ∧ some k_ ≠ (u3 : Value).ownBlock) (Kd.R_apart' (HO_6.out) (Kd.S_typed HO_3.out) (by decide)) (fun k_ hk => ⟨trivial, hk.2⟩))) (fun _ h_ => h_))); (case aB => exact bT); (case aF => exact (fun _ _ => trivial)); (case aO => exact (sT' (Kd.S_mono HO_3.out (fun k_ hk => ⟨trivial, fun e_ => hk e_⟩)))); (case aS => exact (below_size bT)); (case aL => have := LMc14.out; omega); intro v149 w15 ho hb hg hat; rw [← Ny148.out] at ho; replace HB := akk (hb); have HO150 := akk (ho); clear HO_3 HO_6; clear ho hb hg hat)
          go_roundg k2
          case measure => have := HK1.out; have := HK2.out; omega
          case rel => exact ⟨(y148), (wrap64 (x11_1 + 1)), eT, H', ⟨by have := HK1.out; have := HK2.out; omega⟩, ⟨sT' HO150.out⟩, ⟨bT⟩⟩
         ·rw [if_neg c14] at H
          exact absurd H (by simp)
     ·rw [if_neg c4] at H
      exact absurd H (by simp)
    ·rw [if_neg c3] at H
     exact absurd H (by simp)
   ·rw [if_neg c2] at H
    have c2b0 := decide_eq_false c2
    clear c2
    obtain rfl := Option.some.inj H
    go_wp2
    go_ret
    exact ⟨_, fT, sT' HO_3.out, bT⟩
mutual
noncomputable def a27_JoinsTurn.l0 : Nat → T3 → T3 → List (S53) → List (S53) → List (S53) → T3 → Int → Int → Option (Bool)
 | 0, _, _, _, _, _, _, _, _ => none
 | k + 1, x0, x1, x2, x3, x4, x29, x30, x31 => if x31 < x30 then (if 0 ≤ x31 then (if x31 < (x29.length : Int) then (a27_JoinsTurn.l1 k x0 x1 x2 x3 x4 (rd_L6 x29 x31) x29 x30 x31 x1 (x1.length : Int) 0) else (none)) else (none)) else ((joins_Hash.f x0 x1 x2 x3 x4).bind fun bt160 => ((joins_Hash.f x1 x0 x3 x2 x4).bind fun bt164 => (if bt160.2 = 0 then (a27_JoinsTurn.j3 k bt160.1 bt160.2 bt164.1 bt164.2 (bt164.2 != 0)) else (a27_JoinsTurn.j3 k bt160.1 bt160.2 bt164.1 bt164.2 true))))
noncomputable def a27_JoinsTurn.l1 : Nat → T3 → T3 → List (S53) → List (S53) → List (S53) → T2 → T3 → Int → Int → T3 → Int → Int → Option (Bool)
 | 0, _, _, _, _, _, _, _, _, _, _, _, _ => none
 | k + 1, x0, x1, x2, x3, x4, x12, x29, x30, x31, x35, x36, x37 => if x37 < x36 then (if 0 ≤ x37 then (if x37 < (x35.length : Int) then (a27_JoinsTurn.l2 k x0 x1 x2 x3 x4 x12 (rd_L6 x35 x37) x29 x30 x31 x35 x36 x37 (x12.length : Int) 0) else (none)) else (none)) else (a27_JoinsTurn.l0 k x0 x1 x2 x3 x4 x29 x30 (wrap64 (x31 + 1)))
noncomputable def a27_JoinsTurn.l2 : Nat → T3 → T3 → List (S53) → List (S53) → List (S53) → T2 → T2 → T3 → Int → Int → T3 → Int → Int → Int → Int → Option (Bool)
 | 0, _, _, _, _, _, _, _, _, _, _, _, _, _, _, _ => none
 | k + 1, x0, x1, x2, x3, x4, x12, x14, x29, x30, x31, x35, x36, x37, x42, x43 => if x43 < x42 then (if 0 ≤ x43 then (if x43 < (x12.length : Int) then (if ((rd_L5 x12 x43).length : Int) > 0 then (if x43 < (x14.length : Int) then (if ((rd_L5 x14 x43).length : Int) > 0 then (some true) else (a27_JoinsTurn.l2 k x0 x1 x2 x3 x4 x12 x14 x29 x30 x31 x35 x36 x37 x42 (wrap64 (x43 + 1)))) else (a27_JoinsTurn.l2 k x0 x1 x2 x3 x4 x12 x14 x29 x30 x31 x35 x36 x37 x42 (wrap64 (x43 + 1)))) else (a27_JoinsTurn.l2 k x0 x1 x2 x3 x4 x12 x14 x29 x30 x31 x35 x36 x37 x42 (wrap64 (x43 + 1)))) else (none)) else (none)) else (a27_JoinsTurn.l1 k x0 x1 x2 x3 x4 x12 x29 x30 x31 x35 x36 (wrap64 (x37 + 1)))
noncomputable def a27_JoinsTurn.j3 : Nat → T3 → Int → T3 → Int → Bool → Option (Bool)
 | 0, _, _, _, _, _ => none
 | k + 1, x16, x17, x18, x19, x92 => if x92 = true then (some ((x17 == 0) == (x19 == 0))) else ((a27_flat.f k x16).bind fun t168 => ((a27_flat.f k x18).bind fun t171 => ((row_Bag.f t168 t171).bind fun t174 => (some t174))))
end
noncomputable def a27_JoinsTurn.f (k : Nat) (l0 : T3) (l1 : T3) (l2 : List (S53)) (l3 : List (S53)) (l4 : List (S53)) : Option (Bool) := (a27_works.f).bind fun t151 => (if t151 = true then ((a27_all.f l2 l3 l4).bind fun t152 => ((a27_Great.f k l0 l1 t152).bind fun t155 => (if t155 = true then (some true) else (a27_JoinsTurn.l0 k l0 l1 l2 l3 l4 l0 (l0.length : Int) 0)))) else (some false))
set_option maxHeartbeats 8000000 in
set_option maxRecDepth 100000 in
theorem a27_JoinsTurn.calls (k : Nat) (A0 : Option Addr) (c0 : Nat) (l0 : T3) (A1 : Option Addr) (c1 : Nat) (l1 : T3) (A2 : Option Addr) (c2 : Nat) (l2 : List (S53)) (A3 : Option Addr) (c3 : Nat) (l3 : List (S53)) (A4 : Option Addr) (c4 : Nat) (l4 : List (S53)) (r : Bool) (w : World) (hr0 : Kd.C (Kd.slice 29 (Kd.slice 39 k39)) w A0 l0.length l0) (hc0 : l0.length ≤ c0) (hr1 : Kd.C (Kd.slice 29 (Kd.slice 39 k39)) w A1 l1.length l1) (hc1 : l1.length ≤ c1) (hr2 : Kd.C k53 w A2 l2.length l2) (hc2 : l2.length ≤ c2) (hr3 : Kd.C k53 w A3 l3.length l3) (hc3 : l3.length ≤ c3) (hr4 : Kd.C k53 w A4 l4.length l4) (hc4 : l4.length ≤ c4) (h : a27_JoinsTurn.f k l0 l1 l2 l3 l4 = some r) :
 Calls Tryz.prog 6 #[.slice A0 l0.length c0, .slice A1 l1.length c1, .slice A2 l2.length c2, .slice A3 l3.length c3, .slice A4 l4.length c4] w fun e w' => e = .returned (.bool r) ∧ Below w.heap.size w w' := by
 have HR0 := akk hr0
 have HC0 := akk hc0
 clear hr0 hc0
 have HR1 := akk hr1
 have HC1 := akk hc1
 clear hr1 hc1
 have HR2 := akk hr2
 have HC2 := akk hc2
 clear hr2 hc2
 have HR3 := akk hr3
 have HC3 := akk hc3
 clear hr3 hc3
 have HR4 := akk hr4
 have HC4 := akk hc4
 clear hr4 hc4
 have HB := akk (Below.refl w.heap.size w)
 have H : ((a27_works.f).bind fun t151 => (if t151 = true then ((a27_all.f l2 l3 l4).bind fun t152 => ((a27_Great.f k l0 l1 t152).bind fun t155 => (if t155 = true then (some true) else (a27_JoinsTurn.l0 k l0 l1 l2 l3 l4 l0 (l0.length : Int) 0)))) else (some false))) = some r := h
 clear h
 obtain ⟨t151, A6, H⟩ := bi H
 try dsimp only at H
 by_cases c7 : t151 = true
 ·subst c7
  rw [if_pos rfl] at H
  obtain ⟨t152, A8, H⟩ := bi H
  try dsimp only at H
  obtain ⟨t155, A9, H⟩ := bi H
  try dsimp only at H
  by_cases c10 : t155 = true
  ·subst c10
   rw [if_pos rfl] at H
   obtain rfl := Option.some.inj H
   go_enter Tryz.func6, Tryz.ntmps6
   go_wp2_with (first | (refine gT 8 (some 20) Tryz.func8 #[] ?_; (with_reducible refine (a27_works.calls  true _ A6.out).mono ?_); rintro e w11 ⟨rfl, hb⟩; refine ⟨_, rfl, ?_⟩; replace HB := bb HB hb; clear hb) | (refine gT 15 (some 27) Tryz.func15 #[.slice A2 l2.length c2, .slice A3 l3.length c3, .slice A4 l4.length c4] ?_; (with_reducible refine (a27_all.calls (fun k_ => k_ < w.heap.size) _ _ l2 (fun k_ => k_ < w.heap.size) _ _ l3 (fun k_ => k_ < w.heap.size) _ _ l4 t152 _ ?_ ?_ ?_ A8.out).mono ?_); exact Kd.V_mk HC2.out (Kd.F_below (Kd.C_F k53_heap HR2.out) bT); exact Kd.V_mk HC3.out (Kd.F_below (Kd.C_F k53_heap HR3.out) bT); exact Kd.V_mk HC4.out (Kd.F_below (Kd.C_F k53_heap HR4.out) bT); rintro e w12 ⟨v153, rfl, ho0, hb⟩; refine ⟨_, rfl, ?_⟩; have HO154 := akk (Kd.N_lower (Kd.N_mono (ok' := fun k_ => True) ho0 (fun k_ hk_ => trivial)) (below_size bT)); replace HB := bb HB hb; (try clear hb); (try clear hb2); (try clear hk); (try clear hi); (try clear ho0); obtain ⟨Ao13, co13, eo13⟩ := Kd.N_slice HO154.out; subst eo13) | (refine gT 7 (some 28) Tryz.func7 #[.slice A0 l0.length c0, .slice A1 l1.length c1, .slice Ao13 t152.length co13] ?_; (with_reducible refine (a27_Great.calls k (fun k_ => k_ < w.heap.size) _ _ l0 (fun k_ => k_ < w.heap.size) _ _ l1 _ _ t152 true _ ?_ ?_ ?_ ?_ A9.out).mono ?_); exact Kd.V_mk HC0.out (Kd.F_below (Kd.C_F (Kd.heap_slice 29 (Kd.heap_slice 39 k39_heap)) HR0.out) bT); exact Kd.V_mk HC1.out (Kd.F_below (Kd.C_F (Kd.heap_slice 29 (Kd.heap_slice 39 k39_heap)) HR1.out) bT); exact cV (Kd.N_reads' HO154.out).2.2; exact (Kd.N_reads' HO154.out).2.1; rintro e w14 ⟨rfl, hb⟩; refine ⟨_, rfl, ?_⟩; replace HO154 := nb HO154 hb; replace HB := bb HB hb; clear hb))
   go_ret
   exact ⟨fT, bT⟩
  ·replace c10 := Bool.eq_false_iff.mpr c10
   subst c10
   rw [if_neg (show ¬ (false = true) by decide)] at H
   have H' := akk H
   clear H
   go_enter Tryz.func6, Tryz.ntmps6
   go_wp2_with (first | (refine gT 8 (some 20) Tryz.func8 #[] ?_; (with_reducible refine (a27_works.calls  true _ A6.out).mono ?_); rintro e w15 ⟨rfl, hb⟩; refine ⟨_, rfl, ?_⟩; replace HB := bb HB hb; clear hb) | (refine gT 15 (some 27) Tryz.func15 #[.slice A2 l2.length c2, .slice A3 l3.length c3, .slice A4 l4.length c4] ?_; (with_reducible refine (a27_all.calls (fun k_ => k_ < w.heap.size) _ _ l2 (fun k_ => k_ < w.heap.size) _ _ l3 (fun k_ => k_ < w.heap.size) _ _ l4 t152 _ ?_ ?_ ?_ A8.out).mono ?_); exact Kd.V_mk HC2.out (Kd.F_below (Kd.C_F k53_heap HR2.out) bT); exact Kd.V_mk HC3.out (Kd.F_below (Kd.C_F k53_heap HR3.out) bT); exact Kd.V_mk HC4.out (Kd.F_below (Kd.C_F k53_heap HR4.out) bT); rintro e w16 ⟨v153, rfl, ho0, hb⟩; refine ⟨_, rfl, ?_⟩; have HO154 := akk (Kd.N_lower (Kd.N_mono (ok' := fun k_ => True) ho0 (fun k_ hk_ => trivial)) (below_size bT)); replace HB := bb HB hb; (try clear hb); (try clear hb2); (try clear hk); (try clear hi); (try clear ho0); obtain ⟨Ao17, co17, eo17⟩ := Kd.N_slice HO154.out; subst eo17) | (refine gT 7 (some 28) Tryz.func7 #[.slice A0 l0.length c0, .slice A1 l1.length c1, .slice Ao17 t152.length co17] ?_; (with_reducible refine (a27_Great.calls k (fun k_ => k_ < w.heap.size) _ _ l0 (fun k_ => k_ < w.heap.size) _ _ l1 _ _ t152 false _ ?_ ?_ ?_ ?_ A9.out).mono ?_); exact Kd.V_mk HC0.out (Kd.F_below (Kd.C_F (Kd.heap_slice 29 (Kd.heap_slice 39 k39_heap)) HR0.out) bT); exact Kd.V_mk HC1.out (Kd.F_below (Kd.C_F (Kd.heap_slice 29 (Kd.heap_slice 39 k39_heap)) HR1.out) bT); exact cV (Kd.N_reads' HO154.out).2.2; exact (Kd.N_reads' HO154.out).2.1; rintro e w18 ⟨rfl, hb⟩; refine ⟨_, rfl, ?_⟩; replace HO154 := nb HO154 hb; replace HB := bb HB hb; clear hb))
   go_loopg [31] k (fun kq v31 w' => ∃ (x31_1 : Int), v31 = .int .i64 x31_1 ∧ Aside0 (a27_JoinsTurn.l0 kq l0 l1 l2 l3 l4 l0 (l0.length : Int) x31_1 = some r) ∧ Aside0 (kq ≤ k) ∧ Aside0 (Below w.heap.size w w'))
   case atStart => exact ⟨(0), eT, H', ⟨Nat.le_refl _⟩, ⟨bT⟩⟩
   case round =>
    clear H'
    try clear c7
    try clear c10
    obtain ⟨x31_1, rfl, HA, HK1, HB⟩ := hrel
    cases gk with
    | zero => exact absurd HA.out (by simp [a27_JoinsTurn.l0])
    | succ k1 =>
     have H := HA.out
     clear HA
     simp only [a27_JoinsTurn.l0] at H
     by_cases c19 : x31_1 < (l0.length : Int)
     ·rw [if_pos c19] at H
      have c19b0 := decide_eq_true c19
      clear c19
      by_cases c20 : 0 ≤ x31_1
      ·rw [if_pos c20] at H
       have c20b0 := decide_eq_true c20
       clear c20
       by_cases c21 : x31_1 < (l0.length : Int)
       ·rw [if_pos c21] at H
        have c21b0 := decide_eq_true c21
        clear c21
        have H' := akk H
        clear H
        obtain ⟨ad156, A156_0, c156_0, e156, hx156_0, HR156_0, HC156_0, p156, q156⟩ := gC6 HR0 x31_1
        cases e156
        replace hx156_0 := hxT HB.out hx156_0
        go_wp2
        go_loopg [37] k1 (fun kq v37 w' => ∃ (x37_2 : Int), v37 = .int .i64 x37_2 ∧ Aside0 (a27_JoinsTurn.l1 kq l0 l1 l2 l3 l4 (rd_L6 l0 x31_1) l0 (l0.length : Int) x31_1 l1 (l1.length : Int) x37_2 = some r) ∧ Aside0 (kq ≤ k1) ∧ Aside0 (Below w.heap.size w w'))
        case atStart => exact ⟨(0), eT, H', ⟨Nat.le_refl _⟩, ⟨bT⟩⟩
        case round =>
         clear H'
         try clear c19b0
         try clear c20b0
         try clear c21b0
         try clear hx156_0
         try clear p156
         try clear q156
         obtain ⟨x37_2, rfl, HA, HK2, HB⟩ := hrel
         cases gk with
         | zero => exact absurd HA.out (by simp [a27_JoinsTurn.l1])
         | succ k2 =>
          have H := HA.out
          clear HA
          simp only [a27_JoinsTurn.l1] at H
          by_cases c22 : x37_2 < (l1.length : Int)
          ·rw [if_pos c22] at H
           have c22b0 := decide_eq_true c22
           clear c22
           by_cases c23 : 0 ≤ x37_2
           ·rw [if_pos c23] at H
            have c23b0 := decide_eq_true c23
            clear c23
            by_cases c24 : x37_2 < (l1.length : Int)
            ·rw [if_pos c24] at H
             have c24b0 := decide_eq_true c24
             clear c24
             have H' := akk H
             clear H
             obtain ⟨ad157, A157_0, c157_0, e157, hx157_0, HR157_0, HC157_0, p157, q157⟩ := gC6 HR1 x37_2
             cases e157
             replace hx157_0 := hxT HB.out hx157_0
             go_wp2
             go_loopg [43] k2 (fun kq v43 w' => ∃ (x43_3 : Int), v43 = .int .i64 x43_3 ∧ Aside0 (a27_JoinsTurn.l2 kq l0 l1 l2 l3 l4 (rd_L6 l0 x31_1) (rd_L6 l1 x37_2) l0 (l0.length : Int) x31_1 l1 (l1.length : Int) x37_2 ((rd_L6 l0 x31_1).length : Int) x43_3 = some r) ∧ Aside0 (kq ≤ k2) ∧ Aside0 (Below w.heap.size w w'))
             case atStart => exact ⟨(0), eT, H', ⟨Nat.le_refl _⟩, ⟨bT⟩⟩
             case round =>
              clear H'
              try clear c22b0
              try clear c23b0
              try clear c24b0
              try clear hx157_0
              try clear p157
              try clear q157
              obtain ⟨x43_3, rfl, HA, HK3, HB⟩ := hrel
              cases gk with
              | zero => exact absurd HA.out (by simp [a27_JoinsTurn.l2])
              | succ k3 =>
               have H := HA.out
               clear HA
               simp only [a27_JoinsTurn.l2] at H
               by_cases c25 : x43_3 < ((rd_L6 l0 x31_1).length : Int)
               ·rw [if_pos c25] at H
                have c25b0 := decide_eq_true c25
                clear c25
                by_cases c26 : 0 ≤ x43_3
                ·rw [if_pos c26] at H
                 have c26b0 := decide_eq_true c26
                 clear c26
                 by_cases c27 : x43_3 < ((rd_L6 l0 x31_1).length : Int)
                 ·rw [if_pos c27] at H
                  have c27b0 := decide_eq_true c27
                  clear c27
                  by_cases c28 : ((rd_L5 (rd_L6 l0 x31_1) x43_3).length : Int) > 0
                  ·rw [if_pos c28] at H
                   have c28b0 := decide_eq_true c28
                   have c28b1 : decide (0 < (rd_L5 (rd_L6 l0 x31_1) x43_3).length) = true := decide_eq_true (by omega)
                   clear c28
                   by_cases c29 : x43_3 < ((rd_L6 l1 x37_2).length : Int)
                   ·rw [if_pos c29] at H
                    have c29b0 := decide_eq_true c29
                    clear c29
                    by_cases c30 : ((rd_L5 (rd_L6 l1 x37_2) x43_3).length : Int) > 0
                    ·rw [if_pos c30] at H
                     have c30b0 := decide_eq_true c30
                     have c30b1 : decide (0 < (rd_L5 (rd_L6 l1 x37_2) x43_3).length) = true := decide_eq_true (by omega)
                     clear c30
                     obtain rfl := Option.some.inj H
                     obtain ⟨ad158, A158_0, c158_0, e158, hx158_0, HR158_0, HC158_0, p158, q158⟩ := gC5 HR156_0 x43_3
                     cases e158
                     replace hx158_0 := hxT HB.out hx158_0
                     obtain ⟨ad159, A159_0, c159_0, e159, hx159_0, HR159_0, HC159_0, p159, q159⟩ := gC5 HR157_0 x43_3
                     cases e159
                     replace hx159_0 := hxT HB.out hx159_0
                     go_wp2
                     go_ret
                     exact ⟨fT, bT⟩
                    ·rw [if_neg c30] at H
                     have c30b0 := decide_eq_false c30
                     have c30b1 : decide (0 < (rd_L5 (rd_L6 l1 x37_2) x43_3).length) = false := decide_eq_false (by omega)
                     clear c30
                     have H' := akk H
                     clear H
                     obtain ⟨ad158, A158_0, c158_0, e158, hx158_0, HR158_0, HC158_0, p158, q158⟩ := gC5 HR156_0 x43_3
                     cases e158
                     replace hx158_0 := hxT HB.out hx158_0
                     obtain ⟨ad159, A159_0, c159_0, e159, hx159_0, HR159_0, HC159_0, p159, q159⟩ := gC5 HR157_0 x43_3
                     cases e159
                     replace hx159_0 := hxT HB.out hx159_0
                     go_wp2
                     go_roundg k3
                     case measure => have := HK1.out; have := HK2.out; have := HK3.out; omega
                     case rel => exact ⟨(wrap64 (x43_3 + 1)), eT, H', ⟨by have := HK1.out; have := HK2.out; have := HK3.out; omega⟩, ⟨bT⟩⟩
                   ·rw [if_neg c29] at H
                    have c29b0 := decide_eq_false c29
                    clear c29
                    have H' := akk H
                    clear H
                    obtain ⟨ad158, A158_0, c158_0, e158, hx158_0, HR158_0, HC158_0, p158, q158⟩ := gC5 HR156_0 x43_3
                    cases e158
                    replace hx158_0 := hxT HB.out hx158_0
                    go_wp2
                    go_roundg k3
                    case measure => have := HK1.out; have := HK2.out; have := HK3.out; omega
                    case rel => exact ⟨(wrap64 (x43_3 + 1)), eT, H', ⟨by have := HK1.out; have := HK2.out; have := HK3.out; omega⟩, ⟨bT⟩⟩
                  ·rw [if_neg c28] at H
                   have c28b0 := decide_eq_false c28
                   have c28b1 : decide (0 < (rd_L5 (rd_L6 l0 x31_1) x43_3).length) = false := decide_eq_false (by omega)
                   clear c28
                   have H' := akk H
                   clear H
                   obtain ⟨ad158, A158_0, c158_0, e158, hx158_0, HR158_0, HC158_0, p158, q158⟩ := gC5 HR156_0 x43_3
                   cases e158
                   replace hx158_0 := hxT HB.out hx158_0
                   go_wp2
                   go_roundg k3
                   case measure => have := HK1.out; have := HK2.out; have := HK3.out; omega
                   case rel => exact ⟨(wrap64 (x43_3 + 1)), eT, H', ⟨by have := HK1.out; have := HK2.out; have := HK3.out; omega⟩, ⟨bT⟩⟩
                 ·rw [if_neg c27] at H
                  exact absurd H (by simp)
                ·rw [if_neg c26] at H
                 exact absurd H (by simp)
               ·rw [if_neg c25] at H
                have c25b0 := decide_eq_false c25
                clear c25
                have H' := akk H
                clear H
                go_wp2
                go_roundg k3
                case measure => have := HK1.out; have := HK2.out; have := HK3.out; omega
                case rel => exact ⟨(wrap64 (x37_2 + 1)), eT, H', ⟨by have := HK1.out; have := HK2.out; have := HK3.out; omega⟩, ⟨bT⟩⟩
            ·rw [if_neg c24] at H
             exact absurd H (by simp)
           ·rw [if_neg c23] at H
            exact absurd H (by simp)
          ·rw [if_neg c22] at H
           have c22b0 := decide_eq_false c22
           clear c22
           have H' := akk H
           clear H
           go_wp2
           go_roundg k2
           case measure => have := HK1.out; have := HK2.out; omega
           case rel => exact ⟨(wrap64 (x31_1 + 1)), eT, H', ⟨by have := HK1.out; have := HK2.out; omega⟩, ⟨bT⟩⟩
       ·rw [if_neg c21] at H
        exact absurd H (by simp)
      ·rw [if_neg c20] at H
       exact absurd H (by simp)
     ·rw [if_neg c19] at H
      have c19b0 := decide_eq_false c19
      clear c19
      obtain ⟨⟨t160, t161⟩, A31, H⟩ := bi H
      try dsimp only at H
      obtain ⟨⟨t164, t165⟩, A32, H⟩ := bi H
      try dsimp only at H
      have HC33 := akk H
      clear H
      go_upto_region 21 with (first | (refine gT 19 (some 75) Tryz.func19 #[.slice A0 l0.length c0, .slice A1 l1.length c1, .slice A2 l2.length c2, .slice A3 l3.length c3, .slice A4 l4.length c4] ?_; (with_reducible refine (joins_Hash.calls _ _ l0 _ _ l1 _ _ l2 _ _ l3 _ _ l4 t160 t161 _ ?side1 ?side2 ?side3 ?side4 ?side5 ?side6 ?side7 ?side8 ?side9 ?side10 A31.out).mono ?_); (case side1 => exact cT HR0.out); (case side2 => exact HC0.out); (case side3 => exact cT HR1.out); (case side4 => exact HC1.out); (case side5 => exact cT HR2.out); (case side6 => exact HC2.out); (case side7 => exact cT HR3.out); (case side8 => exact HC3.out); (case side9 => exact cT HR4.out); (case side10 => exact HC4.out); rintro e w34 ⟨v162, rfl, ho0, hb⟩; refine ⟨_, rfl, ?_⟩; have HO163 := akk (Kd.N_lower (Kd.N_mono (ok' := fun k_ => True) (Kd.R_N (Kd.R_bound ho0)) (fun k_ hk_ => trivial)) (below_size bT)); replace HB := akk (below_step bT hb); (try clear hb); (try clear hb2); (try clear hk); (try clear hi); (try clear ho0)) | (refine gT 19 (some 84) Tryz.func19 #[.slice A1 l1.length c1, .slice A0 l0.length c0, .slice A3 l3.length c3, .slice A2 l2.length c2, .slice A4 l4.length c4] ?_; (with_reducible refine (joins_Hash.calls _ _ l1 _ _ l0 _ _ l3 _ _ l2 _ _ l4 t164 t165 _ ?side1 ?side2 ?side3 ?side4 ?side5 ?side6 ?side7 ?side8 ?side9 ?side10 A32.out).mono ?_); (case side1 => exact cT HR1.out); (case side2 => exact HC1.out); (case side3 => exact cT HR0.out); (case side4 => exact HC0.out); (case side5 => exact cT HR3.out); (case side6 => exact HC3.out); (case side7 => exact cT HR2.out); (case side8 => exact HC2.out); (case side9 => exact cT HR4.out); (case side10 => exact HC4.out); rintro e w35 ⟨v166, rfl, ho0, hb⟩; refine ⟨_, rfl, ?_⟩; have HO167 := akk (Kd.N_lower (Kd.N_mono (ok' := fun k_ => some k_ ≠ (v162 : Value).ownBlock) (Kd.R_N (Kd.R_bound ho0)) (fun k_ hk_ => (Kd.fresh' (Kd.N_lt (nT HO163.out)) k_ hk_.2.1))) (below_size bT)); replace HO163 := akk (Kd.N_elder' (nT HO163.out) (bB ho0) hb); replace HB := akk (below_step bT hb); (try clear hb); (try clear hb2); (try clear hk); (try clear hi); (try clear ho0)))
      (try simp only [Act.put, List.setIfInBounds_toArray, List.set_cons_zero, List.set_cons_succ])
      go_cut [92] (fun v92 wc => ∃ (kq : Nat) (x92_32 : Bool), v92 = .bool x92_32 ∧ Aside0 (a27_JoinsTurn.j3 kq t160 t161 t164 t165 x92_32 = some r) ∧ Aside0 (kq ≤ k1) ∧ Aside0 (Kd.N (Kd.slice 29 (Kd.slice 39 k39)) 22 wc w.heap.size (fun k_ => some k_ ≠ (v166 : Value).ownBlock) v162 t160) ∧ Aside0 (Kd.N (Kd.slice 29 (Kd.slice 39 k39)) 22 wc w.heap.size (fun k_ => some k_ ≠ (v162 : Value).ownBlock) v166 t164) ∧ Aside0 (Below w.heap.size w wc))
      case first =>
       have H := HC33.out
       clear HC33
       by_cases c36 : t161 = 0
       ·rw [if_pos c36] at H
        have c36b0 : (t161 == 0) = true := beq_iff_eq.mpr c36
        have c36b1 : (t161 != 0) = false := bne_eq_false_iff_eq.mpr c36
        clear c36
        (first | rw [c36b0] | (simp only [i64_w, i32_w]; rw [c36b0]) | skip)
        have H' := akk H
        clear H
        go_wp2
        go_meet
        case rel => exact ⟨_, ((t165 != 0)), eT, H', ⟨by have := HK1.out; first | omega | exact Nat.le_refl _⟩, ⟨nT' (Kd.N_mono HO163.out (fun _ hk => hk.2))⟩, ⟨nT HO167.out⟩, ⟨bT⟩⟩
       ·rw [if_neg c36] at H
        have c36b0 : (t161 == 0) = false := beq_eq_false_iff_ne.mpr c36
        have c36b1 : (t161 != 0) = true := bne_iff_ne.mpr c36
        (first | rw [c36b0] | (simp only [i64_w, i32_w]; rw [c36b0]) | skip)
        have H' := akk H
        clear H
        go_wp2
        go_meet
        case rel => exact ⟨_, (true), eT, H', ⟨by have := HK1.out; first | omega | exact Nat.le_refl _⟩, ⟨nT' (Kd.N_mono HO163.out (fun _ hk => hk.2))⟩, ⟨nT HO167.out⟩, ⟨bT⟩⟩
      case rest =>
       clear HC33
       try clear c19b0
       obtain ⟨kq, x92_32, rfl, HA, HJ32, HO_16, HO_18, HB⟩ := hcut
       cases kq with
       | zero => exact absurd HA.out (by simp [a27_JoinsTurn.j3])
       | succ kj32 =>
        have H := HA.out
        clear HA
        simp only [a27_JoinsTurn.j3] at H
        by_cases c37 : x92_32 = true
        ·subst c37
         rw [if_pos rfl] at H
         obtain rfl := Option.some.inj H
         go_wp2
         go_ret
         exact ⟨fT, bT⟩
        ·replace c37 := Bool.eq_false_iff.mpr c37
         subst c37
         rw [if_neg (show ¬ (false = true) by decide)] at H
         obtain ⟨t168, A38, H⟩ := bi H
         try dsimp only at H
         obtain ⟨t171, A39, H⟩ := bi H
         try dsimp only at H
         obtain ⟨t174, A40, H⟩ := bi H
         try dsimp only at H
         obtain rfl := Option.some.inj H
         obtain ⟨Ao41, co41, eo41⟩ := Kd.N_slice HO_16.out
         subst eo41
         go_wp2_with (first | (refine gT 27 (some 99) Tryz.func27 #[.slice Ao41 t160.length co41] ?_; (with_reducible refine (a27_flat.calls kj32 _ _ t160 t168 _ ?_ ?_ A38.out).mono ?_); exact cV (Kd.N_reads' HO_16.out).2.2; exact (Kd.N_reads' HO_16.out).2.1; rintro e w42 ⟨v169, rfl, ho0, hb⟩; refine ⟨_, rfl, ?_⟩; have HO170 := akk (Kd.N_lower (Kd.N_mono (ok' := fun k_ => some k_ ≠ (.slice Ao41 t160.length co41 : Value).ownBlock ∧ some k_ ≠ (v166 : Value).ownBlock) (Kd.S_N (Kd.S_bound ho0)) (fun k_ hk_ => ⟨(Kd.fresh' (Kd.N_lt (nT HO_16.out)) k_ hk_.2.1), (Kd.fresh' (Kd.N_lt (nT HO_18.out)) k_ hk_.2.1)⟩)) (below_size bT)); replace HO_16 := ne HO_16 ho0 hb; replace HO_18 := ne HO_18 ho0 hb; replace HB := bb HB hb; (try clear hb); (try clear hb2); (try clear hk); (try clear hi); (try clear ho0); obtain ⟨Ao43, co43, eo43⟩ := Kd.N_slice HO_18.out; subst eo43) | (refine gT 27 (some 101) Tryz.func27 #[.slice Ao43 t164.length co43] ?_; (with_reducible refine (a27_flat.calls kj32 _ _ t164 t171 _ ?_ ?_ A39.out).mono ?_); exact cV (Kd.N_reads' HO_18.out).2.2; exact (Kd.N_reads' HO_18.out).2.1; rintro e w44 ⟨v172, rfl, ho0, hb⟩; refine ⟨_, rfl, ?_⟩; have HO173 := akk (Kd.N_lower (Kd.N_mono (ok' := fun k_ => some k_ ≠ (.slice Ao41 t160.length co41 : Value).ownBlock ∧ some k_ ≠ (.slice Ao43 t164.length co43 : Value).ownBlock ∧ some k_ ≠ (v169 : Value).ownBlock) (Kd.S_N (Kd.S_bound ho0)) (fun k_ hk_ => ⟨(Kd.fresh' (Kd.N_lt (nT HO_16.out)) k_ hk_.2.1), (Kd.fresh' (Kd.N_lt (nT HO_18.out)) k_ hk_.2.1), (Kd.fresh' (Kd.N_lt (nT HO170.out)) k_ hk_.2.1)⟩)) (below_size bT)); replace HO_16 := ne HO_16 ho0 hb; replace HO_18 := ne HO_18 ho0 hb; replace HO170 := ne HO170 ho0 hb; replace HB := bb HB hb; (try clear hb); (try clear hb2); (try clear hk); (try clear hi); (try clear ho0); obtain ⟨Ao45, co45, eo45⟩ := Kd.N_slice HO170.out; subst eo45; obtain ⟨Ao46, co46, eo46⟩ := Kd.N_slice HO173.out; subst eo46) | (refine gT 26 (some 102) Tryz.func26 #[.slice Ao45 t168.length co45, .slice Ao46 t171.length co46] ?_; (with_reducible refine (row_Bag.calls _ _ t168 _ _ t171 t174 _ ?_ ?_ ?_ ?_ A40.out).mono ?_); exact cV (Kd.N_reads' HO170.out).2.2; exact (Kd.N_reads' HO170.out).2.1; exact cV (Kd.N_reads' HO173.out).2.2; exact (Kd.N_reads' HO173.out).2.1; rintro e w47 ⟨rfl, hb⟩; refine ⟨_, rfl, ?_⟩; replace HO_16 := nb HO_16 hb; replace HO_18 := nb HO_18 hb; replace HO170 := nb HO170 hb; replace HO173 := nb HO173 hb; replace HB := bb HB hb; clear hb))
         go_ret
         exact ⟨fT, bT⟩
 ·replace c7 := Bool.eq_false_iff.mpr c7
  subst c7
  rw [if_neg (show ¬ (false = true) by decide)] at H
  obtain rfl := Option.some.inj H
  go_enter Tryz.func6, Tryz.ntmps6
  go_wp2_with (refine gT 8 (some 20) Tryz.func8 #[] ?_; (with_reducible refine (a27_works.calls  false _ A6.out).mono ?_); rintro e w48 ⟨rfl, hb⟩; refine ⟨_, rfl, ?_⟩; replace HB := bb HB hb; clear hb)
  go_ret
  exact ⟨fT, bT⟩
end Go.Proofs.YtgmolmpfihkolaaGreat.Pj
namespace Go.Proofs.YtgmolmpfihkolaaGreat
open Go.RowKit Go.Proofs.YtgmolmpfihkolaaGreatW.PrintWords Go.Proofs.YtgmolmpfihkolaaGreat.Pj
set_option linter.unusedVariables false
set_option maxRecDepth 100000
end Go.Proofs.YtgmolmpfihkolaaGreat
namespace Go.Proofs.YtgmolmpfihkolaaGreat
open Go.RowKit Go.Proofs.YtgmolmpfihkolaaGreatW.PrintWords Go.Proofs.YtgmolmpfihkolaaGreatW.PrintMore Go.Proofs.YtgmolmpfihkolaaGreat.Pj
set_option linter.unusedVariables false
set_option maxRecDepth 100000
end Go.Proofs.YtgmolmpfihkolaaGreat
