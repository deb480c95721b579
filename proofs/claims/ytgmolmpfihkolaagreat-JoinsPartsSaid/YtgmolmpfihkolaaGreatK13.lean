/- Part of the proof. -/
import Derived.Test.YtgmolmpfihkolaaGreatK12
namespace Go.Proofs.YtgmolmpfihkolaaGreat
open Go.RowKit
open Go.Deep
set_option linter.unusedVariables false
set_option maxRecDepth 100000
set_option linter.unusedSimpArgs false
attribute [local go_sem] run_store_float
attribute [local go_sem] undef_is
structure PartSt (W : World) (d : Nat) (kids : List Tx) (k : Nat) (o : Int) (wr : World) : Prop where
 ok : okTs (d + 1) (kids.take k) = true
 le : 1 + szTs (kids.take k) ≤ 400
 eq : o = ((1 + szTs (kids.take k) : Nat) : Int)
 below : Below W.heap.size W wr
set_option maxHeartbeats 8000000 in
theorem parts_any : ∀ (D : Nat) (cs : List Value) (t : Tx) (d : Nat) (w : World), ExAt w D cs t → d ≤ 25 →
 Calls Tryz.prog 91 #[.agg cs.toArray, .int .i64 (d : Int)] w fun e w' => e = .returned (.int .i64 (partsT d t)) ∧ Below w.heap.size w w'
 | 0, _, _, _, _, h, _ => h.elim
 | D + 1, cs, .mk kind rel col con kids, d, w, h, hd => by
  obtain ⟨a, len, cap, rfl, ⟨_, _, _, hcw⟩, hr⟩ := h
  have ih := hdq (parts_any D)
  obtain ⟨ck, ci, cf, ct⟩ := con
  obtain ⟨res, hres⟩ : ∃ r, r = partsT d (.mk kind rel col ⟨ck, ci, cf, ct⟩ kids) := ⟨_, rfl⟩
  have hno := hdq (partsT_no d kind rel col ⟨ck, ci, cf, ct⟩ kids)
  have hyes := hdq (partsT_yes d kind rel col ⟨ck, ci, cf, ct⟩ kids)
  rw [← hres] at hno hyes ⊢
  clear hres
  have hlen : kids.length = len := hr.1
  have h63 : len < 2 ^ 63 := by have := hr.2.1; have := hr.2.2.1; unfold maxLen at this; omega
  rw [hlen] at hno hyes
  have HR := hdq hr
  have HRI := hdq (RRight_exp ck ci cf ct hcw)
  obtain ⟨q, hq⟩ : ∃ q, q = rightV ⟨ck, ci, cf, ct⟩ := ⟨_, rfl⟩
  rw [← hq] at HRI
  have HQV := hdq hq.symm
  clear hr hcw hlen hq
  simp only
  by_cases hA : 24 < d
  ·have HE := hdq (hno.out (.inl hA))
   have HX := hdq (BoxE.start w kind rel col ck ci cf ct a len cap 53)
   obtain ⟨x0, x1, x2, x3, x4, x5, x6, x7, _⟩ := HX.out
   have hA' : (24 : Int) < (d : Int) := by omega
   clear hA hno hyes ih HR
   go_enter Tryz.func91, Tryz.ntmps91
   go_upto_region 2 with fail
   go_quiet (fail)
   go_wp2
   go_ret
   exact ⟨by rw [HE.out]; rfl, HX.out.below.trans ⟨rfl, rfl, rfl, Nat.le_refl _, fun _ _ => rfl⟩⟩
  by_cases hC : kidsK kind ≠ (len : Int)
  ·exact (bad_kids kind rel col ck ci cf ct a len cap d w hA hC).mono fun e w' h => ⟨by rw [h.1, hno.out (.inr (.inl hC))], h.2⟩
  have hC : kidsK kind = (len : Int) := Classical.byContradiction fun h => hC h
  by_cases c1 : rel < 0
  ·exact (bad_c1 kind rel col ck ci cf ct a len cap d w hA hC c1).mono fun e w' h => ⟨by rw [h.1, hno.out (.inr (.inr (fields_no _ _ _ _ (.inl c1))))], h.2⟩
  by_cases c2 : 31 < rel
  ·exact (bad_c2 kind rel col ck ci cf ct a len cap d w hA hC c1 c2).mono fun e w' h => ⟨by rw [h.1, hno.out (.inr (.inr (fields_no _ _ _ _ (.inr (.inl c2)))))], h.2⟩
  by_cases c3 : col < 0
  ·exact (bad_c3 kind rel col ck ci cf ct a len cap d w hA hC c1 c2 c3).mono fun e w' h => ⟨by rw [h.1, hno.out (.inr (.inr (fields_no _ _ _ _ (.inr (.inr (.inl c3))))))], h.2⟩
  by_cases c4 : 31 < col
  ·exact (bad_c4 kind rel col ck ci cf ct a len cap d w hA hC c1 c2 c3 c4).mono fun e w' h => ⟨by rw [h.1, hno.out (.inr (.inr (fields_no _ _ _ _ (.inr (.inr (.inr (.inl c4)))))))], h.2⟩
  by_cases c9 : ¬ kind = 1 ∧ ¬ rel = 0
  ·exact (bad_c9 kind rel col ck ci cf ct a len cap d w hA hC c1 c2 c3 c4 c9.1 c9.2).mono fun e w' h => ⟨by rw [h.1, hno.out (.inr (.inr (fields_no _ _ _ _ (.inr (.inr (.inr (.inr (.inl ⟨c9.1, .inl c9.2⟩))))))))], h.2⟩
  by_cases c8 : ¬ kind = 1 ∧ ¬ col = 0
  ·exact (bad_c8 kind rel col ck ci cf ct a len cap d w hA hC c1 c2 c3 c4 c8.1 c8.2 (Classical.byContradiction fun h => c9 ⟨c8.1, h⟩)).mono fun e w' h => ⟨by rw [h.1, hno.out (.inr (.inr (fields_no _ _ _ _ (.inr (.inr (.inr (.inr (.inl ⟨c8.1, .inr c8.2⟩))))))))], h.2⟩
  have g1 : d ≤ 24 := by omega
  have g3 : 0 ≤ rel ∧ rel ≤ 31 ∧ 0 ≤ col ∧ col ≤ 31 := by omega
  have g4 : kind = 1 ∨ (rel = 0 ∧ col = 0) := by
   by_cases h : kind = 1
   ·exact .inl h
   ·exact .inr ⟨Classical.byContradiction fun e => c9 ⟨h, e⟩, Classical.byContradiction fun e => c8 ⟨h, e⟩⟩
  have g2 : kidsK kind = (len : Int) := hC
  have HK := hdq (fun W => hC ▸ RKids_any kind W)
  have HX := hdq (BoxE.start w kind rel col ck ci cf ct a len cap 53)
  have HKS := hdq (fun (W : World) (hS : W.cell? ⟨w.heap.size, 0, none⟩ = some (.int .i64 kind) ∧ W.cell? ⟨w.heap.size, 1, none⟩ = some (.int .i64 rel) ∧ W.cell? ⟨w.heap.size, 2, none⟩ = some (.int .i64 col) ∧ W.cell? ⟨w.heap.size, 3, none⟩ = some (.int .i64 ck) ∧ W.cell? ⟨w.heap.size, 4, none⟩ = some (.int .i64 ci) ∧ W.cell? ⟨w.heap.size, 5, none⟩ = some (.float .f64 cf) ∧ W.cell? ⟨w.heap.size, 6, none⟩ = some (.string ct) ∧ W.cell? ⟨w.heap.size, 7, none⟩ = some (.slice a len cap) ∧ Hid (Below w.heap.size w W ∧ w.heap.size < W.heap.size)) => (HK.out W).mono (R' := fun e w' => e = .returned (.int .i64 (len : Int)) ∧ (w'.cell? ⟨w.heap.size, 0, none⟩ = some (.int .i64 kind) ∧ w'.cell? ⟨w.heap.size, 1, none⟩ = some (.int .i64 rel) ∧ w'.cell? ⟨w.heap.size, 2, none⟩ = some (.int .i64 col) ∧ w'.cell? ⟨w.heap.size, 3, none⟩ = some (.int .i64 ck) ∧ w'.cell? ⟨w.heap.size, 4, none⟩ = some (.int .i64 ci) ∧ w'.cell? ⟨w.heap.size, 5, none⟩ = some (.float .f64 cf) ∧ w'.cell? ⟨w.heap.size, 6, none⟩ = some (.string ct) ∧ w'.cell? ⟨w.heap.size, 7, none⟩ = some (.slice a len cap) ∧ Hid (Below w.heap.size w w' ∧ w.heap.size < w'.heap.size))) (fun e w' h => ⟨h.1, BoxE.next (k := kind) (r := rel) (c := col) hS h.2⟩))
  obtain ⟨x0, x1, x2, x3, x4, x5, x6, x7, _⟩ := HX.out
  have hA' : ¬ (24 : Int) < (d : Int) := by omega
  clear hC c8 c9
  go_enter Tryz.func91, Tryz.ntmps91
  go_upto_region 2 with fail
  go_cut [53] from 8 to 52 (fun t' W => t' = .bool false ∧ BoxE w kind rel col ck ci cf ct a len cap W)
  case first =>
   clear hno hyes ih HR hA g1 g2 g3
   by_cases hk1 : kind = 1
   ·have m1 : (kind == 1) = true := by simp; exact hk1
    have m2 : (kind != 1) = false := by simp; exact hk1
    clear hk1 g4
    refine wp_region_held_drew (S := (fun W : World => W.cell? ⟨w.heap.size, 0, none⟩ = some (.int .i64 kind) ∧ W.cell? ⟨w.heap.size, 1, none⟩ = some (.int .i64 rel) ∧ W.cell? ⟨w.heap.size, 2, none⟩ = some (.int .i64 col) ∧ W.cell? ⟨w.heap.size, 3, none⟩ = some (.int .i64 ck) ∧ W.cell? ⟨w.heap.size, 4, none⟩ = some (.int .i64 ci) ∧ W.cell? ⟨w.heap.size, 5, none⟩ = some (.float .f64 cf) ∧ W.cell? ⟨w.heap.size, 6, none⟩ = some (.string ct) ∧ W.cell? ⟨w.heap.size, 7, none⟩ = some (.slice a len cap) ∧ Hid (Below w.heap.size w W ∧ w.heap.size < W.heap.size))) (by kernel_rfl) (HX.out.next (Below.refl _ _).drew) (fun hHeld => ?_)
    refine tD 0 8 (.int .i64 (d : Int)) hHeld ?_
    refine tD 1 9 (.bool false) hHeld ?_
    refine tD 2 10 (.bool false) hHeld ?_
    refine tD 3 11 (.pointer (some ⟨w.heap.size, 0, none⟩)) hHeld ?_
    refine tD 4 12 (.int .i64 kind) hHeld ?_
    refine tD 6 14 (.pointer (some ⟨w.heap.size, 7, none⟩)) hHeld ?_
    refine tD 7 15 (.slice a len cap) hHeld ?_
    refine tD 8 16 (.int .i64 (len : Int)) hHeld ?_
    refine wpAnyH_ready (rs := [5]) (by kernel_rfl) (by simp) ?_
    refine AllReadyH.cons (o := { dst := some 13, op := .call { callee := .value (.func 121), args := #[.tmp 12], argTypes := #[3] }, type := 3, pos := "ref.go:32", after := #[{ on := 4, ground := .data }, { on := 2, ground := .chain }, { on := 2, ground := .guard }], guard := some (2, false) }) rfl (fun K hK => ?_) AllReadyH.nil
    rw [if_pos (by rfl)]
    go_simp
    go_at_call 121
    refine (HKS.out _ hHeld).mono ?_
    rintro e wx ⟨rfl, hSx⟩
    refine hK.out _ _ hSx (fun hHeld2 => ?_)
    clear hK hHeld hSx
    have hHeld := hHeld2
    clear hHeld2
    try simp only [Act.put, List.setIfInBounds_toArray, List.set_cons_zero, List.set_cons_succ]
    refine tD 9 17 (.bool false) hHeld ?_
    refine tD 10 18 (.bool false) hHeld ?_
    refine tD 11 19 (.bool false) hHeld ?_
    refine tD 12 20 (.pointer (some ⟨w.heap.size, 1, none⟩)) hHeld ?_
    refine tD 13 21 (.int .i64 rel) hHeld ?_
    refine tD 14 22 (.bool false) hHeld ?_
    refine tD 15 23 (.bool false) hHeld ?_
    refine tD 16 24 (.bool false) hHeld ?_
    refine tD 17 25 (.pointer (some ⟨w.heap.size, 1, none⟩)) hHeld ?_
    refine tD 18 26 (.int .i64 rel) hHeld ?_
    refine tD 19 27 (.bool false) hHeld ?_
    refine tD 20 28 (.bool false) hHeld ?_
    refine tD 21 29 (.bool false) hHeld ?_
    refine tD 22 30 (.pointer (some ⟨w.heap.size, 2, none⟩)) hHeld ?_
    refine tD 23 31 (.int .i64 col) hHeld ?_
    refine tD 24 32 (.bool false) hHeld ?_
    refine tD 25 33 (.bool false) hHeld ?_
    refine tD 26 34 (.bool false) hHeld ?_
    refine tD 27 35 (.pointer (some ⟨w.heap.size, 2, none⟩)) hHeld ?_
    refine tD 28 36 (.int .i64 col) hHeld ?_
    refine tD 29 37 (.bool false) hHeld ?_
    refine tD 30 38 (.bool false) hHeld ?_
    refine tD 31 39 (.bool false) hHeld ?_
    refine tD 32 40 (.pointer (some ⟨w.heap.size, 0, none⟩)) hHeld ?_
    refine tD 33 41 (.int .i64 kind) hHeld ?_
    refine tD 34 42 (.bool false) hHeld ?_
    refine tD 35 43 (.bool false) hHeld ?_
    refine tE 36 44 hHeld ?_
    refine tE 37 45 hHeld ?_
    refine tE 38 46 hHeld ?_
    refine tE 39 47 hHeld ?_
    refine tE 40 48 hHeld ?_
    refine tE 41 49 hHeld ?_
    refine tE 42 50 hHeld ?_
    refine tE 43 51 hHeld ?_
    refine tD 44 52 (.bool false) hHeld ?_
    refine tD 45 53 (.bool false) hHeld ?_
    refine wpAnyH_done (by kernel_rfl) ?_ _
    all_goals go_wp2_with fail
    all_goals go_meet
    all_goals exact ⟨by first | rfl | (simp; omega), by assumption⟩
   ·have m1 : (kind == 1) = false := by simp; exact hk1
    have m2 : (kind != 1) = true := by simp; exact hk1
    obtain ⟨hr0, hc0⟩ := g4.resolve_left hk1
    have n1 : (rel == 0) = true := by simp; exact hr0
    have n2 : (rel != 0) = false := by simp; exact hr0
    have n3 : (col == 0) = true := by simp; exact hc0
    have n4 : (col != 0) = false := by simp; exact hc0
    clear hr0 hc0 hk1 g4
    refine wp_region_held_drew (S := (fun W : World => W.cell? ⟨w.heap.size, 0, none⟩ = some (.int .i64 kind) ∧ W.cell? ⟨w.heap.size, 1, none⟩ = some (.int .i64 rel) ∧ W.cell? ⟨w.heap.size, 2, none⟩ = some (.int .i64 col) ∧ W.cell? ⟨w.heap.size, 3, none⟩ = some (.int .i64 ck) ∧ W.cell? ⟨w.heap.size, 4, none⟩ = some (.int .i64 ci) ∧ W.cell? ⟨w.heap.size, 5, none⟩ = some (.float .f64 cf) ∧ W.cell? ⟨w.heap.size, 6, none⟩ = some (.string ct) ∧ W.cell? ⟨w.heap.size, 7, none⟩ = some (.slice a len cap) ∧ Hid (Below w.heap.size w W ∧ w.heap.size < W.heap.size))) (by kernel_rfl) (HX.out.next (Below.refl _ _).drew) (fun hHeld => ?_)
    refine tD 0 8 (.int .i64 (d : Int)) hHeld ?_
    refine tD 1 9 (.bool false) hHeld ?_
    refine tD 2 10 (.bool false) hHeld ?_
    refine tD 3 11 (.pointer (some ⟨w.heap.size, 0, none⟩)) hHeld ?_
    refine tD 4 12 (.int .i64 kind) hHeld ?_
    refine tD 6 14 (.pointer (some ⟨w.heap.size, 7, none⟩)) hHeld ?_
    refine tD 7 15 (.slice a len cap) hHeld ?_
    refine tD 8 16 (.int .i64 (len : Int)) hHeld ?_
    refine wpAnyH_ready (rs := [5]) (by kernel_rfl) (by simp) ?_
    refine AllReadyH.cons (o := { dst := some 13, op := .call { callee := .value (.func 121), args := #[.tmp 12], argTypes := #[3] }, type := 3, pos := "ref.go:32", after := #[{ on := 4, ground := .data }, { on := 2, ground := .chain }, { on := 2, ground := .guard }], guard := some (2, false) }) rfl (fun K hK => ?_) AllReadyH.nil
    rw [if_pos (by rfl)]
    go_simp
    go_at_call 121
    refine (HKS.out _ hHeld).mono ?_
    rintro e wx ⟨rfl, hSx⟩
    refine hK.out _ _ hSx (fun hHeld2 => ?_)
    clear hK hHeld hSx
    have hHeld := hHeld2
    clear hHeld2
    try simp only [Act.put, List.setIfInBounds_toArray, List.set_cons_zero, List.set_cons_succ]
    refine tD 9 17 (.bool false) hHeld ?_
    refine tD 10 18 (.bool false) hHeld ?_
    refine tD 11 19 (.bool false) hHeld ?_
    refine tD 12 20 (.pointer (some ⟨w.heap.size, 1, none⟩)) hHeld ?_
    refine tD 13 21 (.int .i64 rel) hHeld ?_
    refine tD 14 22 (.bool false) hHeld ?_
    refine tD 15 23 (.bool false) hHeld ?_
    refine tD 16 24 (.bool false) hHeld ?_
    refine tD 17 25 (.pointer (some ⟨w.heap.size, 1, none⟩)) hHeld ?_
    refine tD 18 26 (.int .i64 rel) hHeld ?_
    refine tD 19 27 (.bool false) hHeld ?_
    refine tD 20 28 (.bool false) hHeld ?_
    refine tD 21 29 (.bool false) hHeld ?_
    refine tD 22 30 (.pointer (some ⟨w.heap.size, 2, none⟩)) hHeld ?_
    refine tD 23 31 (.int .i64 col) hHeld ?_
    refine tD 24 32 (.bool false) hHeld ?_
    refine tD 25 33 (.bool false) hHeld ?_
    refine tD 26 34 (.bool false) hHeld ?_
    refine tD 27 35 (.pointer (some ⟨w.heap.size, 2, none⟩)) hHeld ?_
    refine tD 28 36 (.int .i64 col) hHeld ?_
    refine tD 29 37 (.bool false) hHeld ?_
    refine tD 30 38 (.bool false) hHeld ?_
    refine tD 31 39 (.bool false) hHeld ?_
    refine tD 32 40 (.pointer (some ⟨w.heap.size, 0, none⟩)) hHeld ?_
    refine tD 33 41 (.int .i64 kind) hHeld ?_
    refine tD 34 42 (.bool true) hHeld ?_
    refine tD 35 43 (.bool true) hHeld ?_
    refine tD 36 44 (.pointer (some ⟨w.heap.size, 1, none⟩)) hHeld ?_
    refine tD 37 45 (.int .i64 rel) hHeld ?_
    refine tD 38 46 (.bool false) hHeld ?_
    refine tD 39 47 (.bool false) hHeld ?_
    refine tD 40 48 (.pointer (some ⟨w.heap.size, 2, none⟩)) hHeld ?_
    refine tD 41 49 (.int .i64 col) hHeld ?_
    refine tD 42 50 (.bool false) hHeld ?_
    refine tD 43 51 (.bool false) hHeld ?_
    refine tD 44 52 (.bool false) hHeld ?_
    refine tD 45 53 (.bool false) hHeld ?_
    refine wpAnyH_done (by kernel_rfl) ?_ _
    all_goals go_wp2_with fail
    all_goals go_meet
    all_goals exact ⟨by first | rfl | (simp; omega), by assumption⟩
  case rest =>
   obtain ⟨rfl, hbx⟩ := hcut
   clear x0 x1 x2 x3 x4 x5 x6 x7 HX HKS HK
   obtain ⟨x0, x1, x2, x3, x4, x5, x6, x7, HW8⟩ := hbx
   have hbx : BoxE w kind rel col ck ci cf ct a len cap wc := ⟨x0, x1, x2, x3, x4, x5, x6, x7, HW8⟩
   have hbx := hdq hbx
   by_cases hbad : q = false ∨ (kind ≠ 2 ∧ ck ≠ 0)
   ·have HE : Hid (res = 401) := hdq <| by
     rcases hbad with hb | hb
     ·exact hno.out (.inr (.inr (fields_no _ _ _ _ (.inr (.inr (.inr (.inr (.inr (.inl (by rw [HQV.out]; exact hb))))))))))
     ·exact hno.out (.inr (.inr (fields_no _ _ _ _ (.inr (.inr (.inr (.inr (.inr (.inr hb)))))))))
    clear hno hyes g1 g2 g3 g4 hA c1 c2 c3 c4
    cases q with
    | false =>
     clear hbad
     go_wp2_with (go_at_call 64; refine (HRI.out _).mono ?_; rintro e w1 ⟨rfl, hb1⟩; have HB1 := hdq (hbx.out.next hb1); obtain ⟨y0, y1, y2, y3, y4, y5, y6, y7, _⟩ := hbx.out.next hb1; clear hb1)
     go_ret
     exact ⟨by rw [HE.out]; rfl, HB1.out.below⟩
    | true =>
     obtain ⟨hk2, hck⟩ := hbad.resolve_left (by simp)
     have n1 : (kind == 2) = false := by simp; exact hk2
     have n2 : (kind != 2) = true := by simp; exact hk2
     have n3 : (ck == 0) = false := by simp; exact hck
     have n4 : (ck != 0) = true := by simp; exact hck
     clear hbad
     go_wp2_with (go_at_call 64; refine (HRI.out _).mono ?_; rintro e w1 ⟨rfl, hb1⟩; have HB1 := hdq (hbx.out.next hb1); obtain ⟨y0, y1, y2, y3, y4, y5, y6, y7, _⟩ := hbx.out.next hb1; clear hb1)
     go_ret
     exact ⟨by rw [HE.out]; rfl, HB1.out.below⟩
   ·obtain rfl : q = true := by cases q with
     | true => rfl
     | false => exact absurd (.inl rfl) hbad
    have hk2 : kind = 2 ∨ ck = 0 := Classical.byContradiction fun h => hbad (.inr ⟨fun e => h (.inl e), fun e => h (.inr e)⟩)
    have HE := hdq (hyes.out g1 g2 (fields_yes _ _ _ _ g3.1 g3.2.1 g3.2.2.1 g3.2.2.2 g4 HQV.out hk2))
    have hd24 : (d : Int) ≤ 24 := by omega
    clear hno hyes g2 g3 g4 hbad hA c1 c2 c3 c4
    go_upto_region 4 with fail
    go_cut [69] from 55 to 68 (fun t W => t = .bool false ∧ BoxE w kind rel col ck ci cf ct a len cap W)
    case first =>
     by_cases hk3 : kind = 2
     ·have n1 : (kind == 2) = true := by simp; exact hk3
      have n2 : (kind != 2) = false := by simp; exact hk3
      clear hk2 hk3
      go_wp2_with (go_at_call 64; refine (HRI.out _).mono ?_; rintro e w1 ⟨rfl, hb1⟩; have HB1 := hdq (hbx.out.next hb1); obtain ⟨y0, y1, y2, y3, y4, y5, y6, y7, _⟩ := hbx.out.next hb1; clear hb1)
      go_meet
      exact ⟨rfl, HB1.out⟩
     ·have n1 : (kind == 2) = false := by simp; exact hk3
      have n2 : (kind != 2) = true := by simp; exact hk3
      have hck := hk2.resolve_left hk3
      have n3 : (ck == 0) = true := by simp; exact hck
      have n4 : (ck != 0) = false := by simp; exact hck
      clear hk2 hk3 hck
      go_wp2_with (go_at_call 64; refine (HRI.out _).mono ?_; rintro e w1 ⟨rfl, hb1⟩; have HB1 := hdq (hbx.out.next hb1); obtain ⟨y0, y1, y2, y3, y4, y5, y6, y7, _⟩ := hbx.out.next hb1; clear hb1)
      go_meet
      exact ⟨rfl, HB1.out⟩
    case rest =>
     obtain ⟨rfl, hbz⟩ := hcut
     have HBX := hdq hbz
     clear x0 x1 x2 x3 x4 x5 x6 x7 hbx HW8
     obtain ⟨z0, z1, z2, z3, z4, z5, z6, z7, _⟩ := hbz
     go_upto_region 8 with fail
     go_loopw [6, 7] (fun o i wr => ∃ (k : Nat) (z : Int), i = .int .i64 k ∧ k ≤ len ∧ o = .int .i64 z ∧ PartSt wc d kids k z wr) (fun _ i _ => len - (intOf i).toNat)
     case atStart => exact ⟨0, 1, rfl, Nat.zero_le _, rfl, by simp [okTs], by simp [szTs], by simp [szTs], Below.refl _ _⟩
     case round =>
      obtain ⟨k, z, rfl, hk, rfl, hst⟩ := hrel
      have hbw := HBX.out.next hst.below
      obtain ⟨_, _, _, _, _, _, _, y7, _⟩ := hbw
      by_cases hlt : k < len
      ·obtain ⟨h1, _, _, h4⟩ := HR.out
       obtain ⟨b, off, rfl, hbl, hc⟩ := h4.resolve_left (by omega)
       have hk' : k < kids.length := by omega
       obtain ⟨t, ht⟩ : ∃ t, kids[k]? = some t := ⟨_, List.getElem?_eq_getElem hk'⟩
       obtain ⟨cs, hR, hcs⟩ := hc k t ht
       obtain ⟨k0, k1, k2, k3, k4, k5, k6, ka, kl, kc, rfl⟩ := hR.cells
       have hbb : Below w.heap.size w wr := HBX.out.below.trans (hst.below.mono HBX.out.below.size)
       have d0 := (hbb.cell (p := ⟨b, off + k * 8 + 0, none⟩) hbl).trans (hcs 0 _ rfl)
       have d1 := (hbb.cell (p := ⟨b, off + k * 8 + 1, none⟩) hbl).trans (hcs 1 _ rfl)
       have d2 := (hbb.cell (p := ⟨b, off + k * 8 + 2, none⟩) hbl).trans (hcs 2 _ rfl)
       have d3 := (hbb.cell (p := ⟨b, off + k * 8 + 3, none⟩) hbl).trans (hcs 3 _ rfl)
       have d4 := (hbb.cell (p := ⟨b, off + k * 8 + 4, none⟩) hbl).trans (hcs 4 _ rfl)
       have d5 := (hbb.cell (p := ⟨b, off + k * 8 + 5, none⟩) hbl).trans (hcs 5 _ rfl)
       have d6 := (hbb.cell (p := ⟨b, off + k * 8 + 6, none⟩) hbl).trans (hcs 6 _ rfl)
       have d7 := (hbb.cell (p := ⟨b, off + k * 8 + 7, none⟩) hbl).trans (hcs 7 _ rfl)
       rw [Nat.add_zero] at d0
       have IH := hdq (fun W hb => by
        have := ih.out _ t (d + 1) W (hR.later hb) (by omega)
        rw [Int.natCast_add, Int.natCast_one] at this
        exact this)
       have HST := hdq hst
       have HT := hdq ht
       have HBB := hdq hbb
       have hz4 : z ≤ 400 := by have := hst.eq; have := hst.le; omega
       have hz0 : 0 ≤ z := by have := hst.eq; omega
       have hlt' : (k : Int) < (len : Int) := by omega
       clear hcs hR ht hbb hst hc h4 h1 hk'
       by_cases hnx : okT (d + 1) t = true ∧ z + (szT t : Int) ≤ 400
       ·have hv : partsT (d + 1) t = (szT t : Int) := by unfold partsT; rw [if_pos ⟨hnx.1, by omega⟩]
        rw [hv] at IH
        obtain ⟨sz, hsz⟩ : ∃ y, y = (szT t : Int) := ⟨_, rfl⟩
        rw [← hsz] at IH
        have hw : wrap64 (z + sz) = z + sz := by unfold wrap64; omega
        have hz2 : ¬ (400 : Int) < z + sz := by omega
        have HST2 := hdq (fun wy (hb : Below wc.heap.size wc wy) => PartSt.mk (W := wc) (d := d) (kids := kids) (k := k + 1) (o := z + sz) (wr := wy) (by rw [okTs_take _ _ _ _ HT.out, HST.out.ok, hnx.1]; rfl) (by have := HST.out.eq; rw [szTs_take _ _ _ HT.out]; omega) (by have := HST.out.eq; rw [szTs_take _ _ _ HT.out]; omega) hb)
        clear hv hnx hsz
        go_wp2_with (go_at_call 91; refine (IH.out _ HBB.out).mono ?_; rintro e w5 ⟨rfl, hb5⟩; have HB5 := hdq hb5; clear hb5)
        go_roundw
        case rel => exact ⟨k + 1, z + sz, by go_num, by omega, by first | rfl | rw [hw], HST2.out _ (HST.out.below.trans (HB5.out.mono HST.out.below.size))⟩
        case measure => simp [intOf]; omega
       ·have hp : ∃ y : Int, y = partsT (d + 1) t ∧ 0 ≤ y ∧ y ≤ 401 ∧ 400 < z + y := by
         refine ⟨_, rfl, ?_⟩
         unfold partsT
         by_cases h : okT (d + 1) t = true ∧ szT t ≤ 400
         ·rw [if_pos h]
          have : ¬ z + (szT t : Int) ≤ 400 := fun e => hnx ⟨h.1, e⟩
          omega
         ·rw [if_neg h]; have := HST.out.eq; omega
        obtain ⟨y, hy, y0, y1, y2⟩ := hp
        rw [← hy] at IH
        have hw : wrap64 (z + y) = z + y := by unfold wrap64; omega
        have HE2 : Hid (res = 401) := hdq <| by
         rw [HE.out, if_neg]
         rintro ⟨f1, f2⟩
         apply hnx
         have f3 := okTs_le (d + 1) kids (k + 1) f1
         rw [okTs_take _ _ _ _ HT.out, Bool.and_eq_true] at f3
         have f4 := szTs_le kids (k + 1)
         rw [szTs_take _ _ _ HT.out] at f4
         have := HST.out.eq
         exact ⟨f3.2, by omega⟩
        clear hnx hy
        go_wp2_with (go_at_call 91; refine (IH.out _ HBB.out).mono ?_; rintro e w5 ⟨rfl, hb5⟩; have HB5 := hdq (HBB.out.trans (hb5.mono HBB.out.size)); clear hb5)
        go_ret
        exact ⟨by rw [HE2.out]; rfl, HB5.out⟩
      ·obtain rfl : k = len := by omega
       have HE2 : Hid (res = z) := hdq <| by
        have e : kids.take k = kids := List.take_of_length_le (by rw [HR.out.1]; exact Nat.le_refl _)
        have f1 := hst.ok
        have f2 := hst.le
        have f3 := hst.eq
        rw [e] at f1 f2 f3
        rw [HE.out, if_pos ⟨f1, f2⟩, f3]
       have HB := hdq (HBX.out.below.trans (hst.below.mono HBX.out.below.size))
       clear hst
       go_wp2
       go_ret
       exact ⟨by rw [HE2.out]; rfl, HB.out⟩
theorem RFormed_any (D : Nat) (cs : List Value) (t : Tx) (w : World) (h : ExAt w D cs t) : Calls Tryz.prog 62 #[.agg cs.toArray] w fun e w' => e = .returned (.bool (formedT t)) ∧ Below w.heap.size w w' := by
 have HC := hdq (fun W hb => parts_any D cs t 1 W (h.later hb) (by omega))
 have hf := parts_formed t
 obtain ⟨k0, k1, k2, k3, k4, k5, k6, a, len, cap, rfl⟩ := h.cells
 obtain ⟨z, hz⟩ : ∃ z, z = partsT 1 t := ⟨_, rfl⟩
 rw [← hz] at HC hf
 have HF := hdq hf
 have HB0 := hdq ((Below.refl _ w).alloc (Nat.le_refl _) (.cells #[.int .i64 k0, .int .i64 k1, .int .i64 k2, .int .i64 k3, .int .i64 k4, .float .f64 k5, .string k6, .slice a len cap] 53))
 clear h hz hf
 go_enter Tryz.func62, Tryz.ntmps62
 go_wp2_with (go_at_call 91; refine (HC.out _ HB0.out).mono ?_; rintro e w1 ⟨rfl, hb1⟩; have HB1 := hdq (HB0.out.trans (hb1.mono HB0.out.size)); clear hb1)
 go_ret
 exact ⟨by rw [← HF.out]; rfl, HB1.out⟩
end Go.Proofs.YtgmolmpfihkolaaGreat
