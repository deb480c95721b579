/- Part of the proof. -/
import Derived.Test.YtgmolmpfihkolaaGreatK06
namespace Go.Proofs.YtgmolmpfihkolaaGreat
open Go.RowKit
open Go.Deep
set_option linter.unusedVariables false
set_option maxRecDepth 100000
attribute [local go_sem] run_store_float
set_option maxHeartbeats 4000000 in
theorem RKids_any (k : Int) (w : World) : Calls Tryz.prog 121 #[.int .i64 k] w fun e w' => e = .returned (.int .i64 (kidsK k)) ∧ Below w.heap.size w w' := by
 by_cases h : 1 ≤ k ∧ k ≤ 13
 ·rcases (show k = 1 ∨ k = 2 ∨ k = 3 ∨ k = 4 ∨ k = 5 ∨ k = 6 ∨ k = 7 ∨ k = 8 ∨ k = 9 ∨ k = 10 ∨ k = 11 ∨ k = 12 ∨ k = 13 by omega) with rfl | rfl | rfl | rfl | rfl | rfl | rfl | rfl | rfl | rfl | rfl | rfl | rfl
  all_goals
   clear h
   go_enter Tryz.func121, Tryz.ntmps121
   go_wp2
   go_ret
   exact ⟨rfl, (Below.refl _ w).alloc (Nat.le_refl _) _⟩
 ·have e : kidsK k = -1 := by unfold kidsK; rw [if_neg (by omega), if_neg (by omega), if_neg (by omega)]
  rw [e]
  clear e
  by_cases h1 : k < 1
  ·clear h
   go_enter Tryz.func121, Tryz.ntmps121
   go_wp2
   go_ret
   exact ⟨rfl, Below.refl _ w⟩
  ·have h13 : 13 < k := by omega
   clear h
   go_enter Tryz.func121, Tryz.ntmps121
   go_wp2
   go_ret
   exact ⟨rfl, Below.refl _ w⟩
theorem partsT_no (d : Nat) (kind rel col : Int) (con : Val) (kids : List Tx) (h : 24 < d ∨ kidsK kind ≠ (kids.length : Int) ∨ fieldsK kind rel col con = false) : partsT d (.mk kind rel col con kids) = 401 := by
 unfold partsT
 rw [if_neg]
 rintro ⟨h1, h2⟩
 simp only [okT, Bool.and_eq_true, decide_eq_true_eq] at h1
 rcases h with h | h | h
 ·omega
 ·exact h h1.1.1.2
 ·rw [h1.1.2] at h; cases h
theorem partsT_yes (d : Nat) (kind rel col : Int) (con : Val) (kids : List Tx) (h1 : d ≤ 24) (h3 : kidsK kind = (kids.length : Int)) (h4 : fieldsK kind rel col con = true) :
 partsT d (.mk kind rel col con kids) = if okTs (d + 1) kids = true ∧ 1 + szTs kids ≤ 400 then ((1 + szTs kids : Nat) : Int) else 401 := by
 unfold partsT
 simp only [okT, szT, h3, h4, h1, decide_true, Bool.true_and, Bool.and_true]
theorem fields_no (kind rel col : Int) (con : Val) (h : rel < 0 ∨ 31 < rel ∨ col < 0 ∨ 31 < col ∨ (kind ≠ 1 ∧ (rel ≠ 0 ∨ col ≠ 0)) ∨ rightV con = false ∨ (kind ≠ 2 ∧ con.kind ≠ 0)) : fieldsK kind rel col con = false := by
 cases hf : fieldsK kind rel col con with
 | false => rfl
 | true =>
  unfold fieldsK at hf
  simp only [Bool.and_eq_true, Bool.or_eq_true, decide_eq_true_eq] at hf
  obtain ⟨⟨⟨⟨h1, h2⟩, h3⟩, h4⟩, h5⟩ := hf
  rcases h with h | h | h | h | h | h | h
  ·omega
  ·omega
  ·omega
  ·omega
  ·omega
  ·rw [h4] at h; cases h
  ·omega
theorem fields_yes (kind rel col : Int) (con : Val) (h1 : 0 ≤ rel) (h2 : rel ≤ 31) (h3 : 0 ≤ col) (h4 : col ≤ 31) (h5 : kind = 1 ∨ (rel = 0 ∧ col = 0)) (h6 : rightV con = true) (h7 : kind = 2 ∨ con.kind = 0) : fieldsK kind rel col con = true := by
 unfold fieldsK
 simp only [Bool.and_eq_true, Bool.or_eq_true, decide_eq_true_eq]
 exact ⟨⟨⟨⟨h5, h1, h2⟩, h3, h4⟩, h6⟩, h7⟩
theorem undef_is : undef = Value.tuple #[] := rfl
end Go.Proofs.YtgmolmpfihkolaaGreat
namespace Go.Proofs.YtgmolmpfihkolaaGreat
open Go.RowKit
open Go.Deep
set_option linter.unusedVariables false
set_option maxRecDepth 100000
set_option linter.unusedSimpArgs false
attribute [local go_sem] run_store_float
attribute [local go_sem] undef_is
theorem take_to {P : Program} {ops : Array Oper} {Q : Exit → Act → World → Prop} {md : Region.Mode} {S : World → Prop} {i : Nat} {oi : Oper} {d : Option Tmp} {v : Value} {fuel : Nat} {listed : Array Bool} {a : Act} {w : World} (hi : ops[i]? = some oi) (hd : oi.dst = d)
 (hs : Region.noSelect ops = true) (hf : Region.free md ops listed i = true) (hr : (Region.ready md ops listed).contains i = true)
 (hQ : ∀ c a w, Q (.panic c) (a.put d v) w → Q (.panic c) a w) (hy : YieldsIf P ops S oi v a) (hS : S w)
 (h : wpAnyH P md ops Q S fuel (listed.setIfInBounds i true) (a.put d v) w) : wpAnyH P md ops Q S (fuel + 1) listed a w := by
 subst hd
 exact wpAnyH_take hi hs hf hr hQ hy hS h
theorem tD {P : Program} {ops : Array Oper} {Q : Exit → Act → World → Prop} {md : Region.Mode} {S : World → Prop} (i : Nat) (d : Tmp) (v : Value) {oi : Oper} {fuel : Nat} {l l' : Array Bool} {a a' : Act} {w : World} (hS : S w) (h : wpAnyH P md ops Q S fuel l' a' w)
 (hi : ops[i]? = some oi := by rfl) (hd : oi.dst = some d := by rfl) (hs : Region.noSelect ops = true := by kernel_rfl) (hf : Region.free md ops l i = true := by kernel_rfl) (hr : (Region.ready md ops l).contains i = true := by kernel_rfl)
 (hQ : ∀ c a w, Q (.panic c) (a.put (some d) v) w → Q (.panic c) a w := by exact fun _ _ _ h => h) (hy : YieldsIf P ops S oi v a := by (refine Or.inl ⟨by rfl, ?_⟩; intro W hSw; (try dsimp only at hSw); go_simp; try with_reducible rfl))
 (hl : l.setIfInBounds i true = l' := by ((try simp only [List.setIfInBounds_toArray, List.set_cons_zero, List.set_cons_succ]); rfl)) (ha : a.put (some d) v = a' := by ((try simp only [Act.put, List.setIfInBounds_toArray, List.set_cons_zero, List.set_cons_succ]); rfl)) : wpAnyH P md ops Q S (fuel + 1) l a w := by
 subst hl ha
 exact take_to hi hd hs hf hr hQ hy hS h
theorem tE {P : Program} {ops : Array Oper} {Q : Exit → Act → World → Prop} {md : Region.Mode} {S : World → Prop} (i : Nat) (d : Tmp) {oi : Oper} {fuel : Nat} {l l' : Array Bool} {a a' : Act} {w : World} (hS : S w) (h : wpAnyH P md ops Q S fuel l' a' w)
 (hi : ops[i]? = some oi := by rfl) (hd : oi.dst = some d := by rfl) (hs : Region.noSelect ops = true := by kernel_rfl) (hf : Region.free md ops l i = true := by kernel_rfl) (hr : (Region.ready md ops l).contains i = true := by kernel_rfl)
 (hQ : ∀ c a w, Q (.panic c) (a.put (some d) undef) w → Q (.panic c) a w := by exact fun _ _ _ h => h) (hy : YieldsIf P ops S oi undef a := by exact Or.inr ⟨by rfl, rfl⟩)
 (hl : l.setIfInBounds i true = l' := by ((try simp only [List.setIfInBounds_toArray, List.set_cons_zero, List.set_cons_succ]); rfl)) (ha : a.put (some d) undef = a' := by ((try simp only [Act.put, List.setIfInBounds_toArray, List.set_cons_zero, List.set_cons_succ]); rfl)) : wpAnyH P md ops Q S (fuel + 1) l a w := by
 subst hl ha
 exact take_to hi hd hs hf hr hQ hy hS h
set_option maxHeartbeats 8000000 in
theorem bad_kids (kind rel col ck ci : Int) (cf : Nat) (ct : ByteArray) (a : Option Addr) (len cap : Nat) (d : Nat) (w : World) (hA : ¬ 24 < d) (hC : kidsK kind ≠ (len : Int))  :
 Calls Tryz.prog 91 #[.agg #[.int .i64 kind, .int .i64 rel, .int .i64 col, .int .i64 ck, .int .i64 ci, .float .f64 cf, .string ct, .slice a len cap], .int .i64 (d : Int)] w fun e w' => e = .returned (.int .i64 401) ∧ Below w.heap.size w w' := by
 have HX := hdq (BoxE.start w kind rel col ck ci cf ct a len cap 53)
 obtain ⟨kk, hkk⟩ : ∃ q, q = kidsK kind := ⟨_, rfl⟩
 have HK := hdq (fun W => hkk ▸ RKids_any kind W)
 rw [← hkk] at hC
 clear hkk
 have hA' : ¬ (24 : Int) < (d : Int) := by omega
 have HKS := hdq (fun (W : World) (hS : W.cell? ⟨w.heap.size, 0, none⟩ = some (.int .i64 kind) ∧ W.cell? ⟨w.heap.size, 1, none⟩ = some (.int .i64 rel) ∧ W.cell? ⟨w.heap.size, 2, none⟩ = some (.int .i64 col) ∧ W.cell? ⟨w.heap.size, 3, none⟩ = some (.int .i64 ck) ∧ W.cell? ⟨w.heap.size, 4, none⟩ = some (.int .i64 ci) ∧ W.cell? ⟨w.heap.size, 5, none⟩ = some (.float .f64 cf) ∧ W.cell? ⟨w.heap.size, 6, none⟩ = some (.string ct) ∧ W.cell? ⟨w.heap.size, 7, none⟩ = some (.slice a len cap) ∧ Hid (Below w.heap.size w W ∧ w.heap.size < W.heap.size)) => (HK.out W).mono (R' := fun e w' => e = .returned (.int .i64 kk) ∧ (w'.cell? ⟨w.heap.size, 0, none⟩ = some (.int .i64 kind) ∧ w'.cell? ⟨w.heap.size, 1, none⟩ = some (.int .i64 rel) ∧ w'.cell? ⟨w.heap.size, 2, none⟩ = some (.int .i64 col) ∧ w'.cell? ⟨w.heap.size, 3, none⟩ = some (.int .i64 ck) ∧ w'.cell? ⟨w.heap.size, 4, none⟩ = some (.int .i64 ci) ∧ w'.cell? ⟨w.heap.size, 5, none⟩ = some (.float .f64 cf) ∧ w'.cell? ⟨w.heap.size, 6, none⟩ = some (.string ct) ∧ w'.cell? ⟨w.heap.size, 7, none⟩ = some (.slice a len cap) ∧ Hid (Below w.heap.size w w' ∧ w.heap.size < w'.heap.size))) (fun e w' h => ⟨h.1, BoxE.next (k := kind) (r := rel) (c := col) hS h.2⟩))
 obtain ⟨x0, x1, x2, x3, x4, x5, x6, x7, _⟩ := HX.out
 have hC' : (kk == (len : Int)) = false := by simp; exact hC
 have hC1 : (kk != (len : Int)) = true := by simp; exact hC
 clear hA
 go_enter Tryz.func91, Tryz.ntmps91
 go_upto_region 2 with fail
 go_cut [53] from 8 to 52 (fun t' W => t' = .bool true ∧ BoxE w kind rel col ck ci cf ct a len cap W)
 case first =>
  refine wp_region_held_drew (S := (fun W : World => W.cell? ⟨w.heap.size, 0, none⟩ = some (.int .i64 kind) ∧ W.cell? ⟨w.heap.size, 1, none⟩ = some (.int .i64 rel) ∧ W.cell? ⟨w.heap.size, 2, none⟩ = some (.int .i64 col) ∧ W.cell? ⟨w.heap.size, 3, none⟩ = some (.int .i64 ck) ∧ W.cell? ⟨w.heap.size, 4, none⟩ = some (.int .i64 ci) ∧ W.cell? ⟨w.heap.size, 5, none⟩ = some (.float .f64 cf) ∧ W.cell? ⟨w.heap.size, 6, none⟩ = some (.string ct) ∧ W.cell? ⟨w.heap.size, 7, none⟩ = some (.slice a len cap) ∧ Hid (Below w.heap.size w W ∧ w.heap.size < W.heap.size))) (by kernel_rfl) (HX.out.next (Below.refl _ _).drew) (fun hHeld => ?_)
  refine tD 0 8 (.int .i64 (d : Int)) hHeld ?_
  refine tD 1 9 (.bool false) hHeld ?_
  refine tD 2 10 (.bool false) hHeld ?_
  refine tD 3 11 (.pointer (some ⟨w.heap.size, 0, none⟩)) hHeld ?_
  refine tD 4 12 (.int .i64 kind) hHeld ?_
  refine tD 6 14 (.pointer (some ⟨w.heap.size, 7, none⟩)) hHeld ?_
  refine tD 7 15 (.slice a len cap) hHeld ?_
  refine tD 8 16 (.int .i64 (len : Int)) hHeld ?_
  refine wpAnyH_ready (rs := [5]) (by kernel_rfl) (by simp) ?_
  refine AllReadyH.cons (o := { dst := some 13, op := .call { callee := .value (.func 121), args := #[.tmp 12], argTypes := #[3] }, type := 3, pos := "ref.go:32", after := #[{ on := 4, ground := .data }, { on := 2, ground := .chain }, { on := 2, ground := .guard }], guard := some (2, false) }) rfl (fun K hK => ?_) AllReadyH.nil
  rw [if_pos (by rfl)]
  go_simp
  go_at_call 121
  refine (HKS.out _ hHeld).mono ?_
  rintro e wx ⟨rfl, hSx⟩
  refine hK.out _ _ hSx (fun hHeld2 => ?_)
  clear hK hHeld hSx
  have hHeld := hHeld2
  clear hHeld2
  try simp only [Act.put, List.setIfInBounds_toArray, List.set_cons_zero, List.set_cons_succ]
  refine tD 9 17 (.bool true) hHeld ?_
  refine tD 10 18 (.bool true) hHeld ?_
  refine tD 11 19 (.bool true) hHeld ?_
  refine tE 12 20 hHeld ?_
  refine tE 13 21 hHeld ?_
  refine tE 14 22 hHeld ?_
  refine tD 15 23 (.bool true) hHeld ?_
  refine tD 16 24 (.bool true) hHeld ?_
  refine tE 17 25 hHeld ?_
  refine tE 18 26 hHeld ?_
  refine tE 19 27 hHeld ?_
  refine tD 20 28 (.bool true) hHeld ?_
  refine tD 21 29 (.bool true) hHeld ?_
  refine tE 22 30 hHeld ?_
  refine tE 23 31 hHeld ?_
  refine tE 24 32 hHeld ?_
  refine tD 25 33 (.bool true) hHeld ?_
  refine tD 26 34 (.bool true) hHeld ?_
  refine tE 27 35 hHeld ?_
  refine tE 28 36 hHeld ?_
  refine tE 29 37 hHeld ?_
  refine tD 30 38 (.bool true) hHeld ?_
  refine tD 31 39 (.bool true) hHeld ?_
  refine tE 32 40 hHeld ?_
  refine tE 33 41 hHeld ?_
  refine tE 34 42 hHeld ?_
  refine tE 35 43 hHeld ?_
  refine tE 36 44 hHeld ?_
  refine tE 37 45 hHeld ?_
  refine tE 38 46 hHeld ?_
  refine tE 39 47 hHeld ?_
  refine tE 40 48 hHeld ?_
  refine tE 41 49 hHeld ?_
  refine tE 42 50 hHeld ?_
  refine tE 43 51 hHeld ?_
  refine tE 44 52 hHeld ?_
  refine tD 45 53 (.bool true) hHeld ?_
  refine wpAnyH_done (by kernel_rfl) ?_ _
  all_goals go_wp2_with fail
  all_goals go_meet
  all_goals exact ⟨rfl, by assumption⟩
 case rest =>
  obtain ⟨rfl, hbx⟩ := hcut
  clear x0 x1 x2 x3 x4 x5 x6 x7 HX HKS HK
  have HB := hdq hbx.below
  clear hbx
  go_wp2
  go_ret
  exact ⟨rfl, HB.out⟩
set_option maxHeartbeats 8000000 in
theorem bad_c1 (kind rel col ck ci : Int) (cf : Nat) (ct : ByteArray) (a : Option Addr) (len cap : Nat) (d : Nat) (w : World) (hA : ¬ 24 < d) (hC : kidsK kind = (len : Int)) (c1 : rel < 0) :
 Calls Tryz.prog 91 #[.agg #[.int .i64 kind, .int .i64 rel, .int .i64 col, .int .i64 ck, .int .i64 ci, .float .f64 cf, .string ct, .slice a len cap], .int .i64 (d : Int)] w fun e w' => e = .returned (.int .i64 401) ∧ Below w.heap.size w w' := by
 have HX := hdq (BoxE.start w kind rel col ck ci cf ct a len cap 53)
 obtain ⟨kk, hkk⟩ : ∃ q, q = kidsK kind := ⟨_, rfl⟩
 have HK := hdq (fun W => hkk ▸ RKids_any kind W)
 rw [← hkk] at hC
 clear hkk
 have hA' : ¬ (24 : Int) < (d : Int) := by omega
 subst hC
 have HKS := hdq (fun (W : World) (hS : W.cell? ⟨w.heap.size, 0, none⟩ = some (.int .i64 kind) ∧ W.cell? ⟨w.heap.size, 1, none⟩ = some (.int .i64 rel) ∧ W.cell? ⟨w.heap.size, 2, none⟩ = some (.int .i64 col) ∧ W.cell? ⟨w.heap.size, 3, none⟩ = some (.int .i64 ck) ∧ W.cell? ⟨w.heap.size, 4, none⟩ = some (.int .i64 ci) ∧ W.cell? ⟨w.heap.size, 5, none⟩ = some (.float .f64 cf) ∧ W.cell? ⟨w.heap.size, 6, none⟩ = some (.string ct) ∧ W.cell? ⟨w.heap.size, 7, none⟩ = some (.slice a len cap) ∧ Hid (Below w.heap.size w W ∧ w.heap.size < W.heap.size)) => (HK.out W).mono (R' := fun e w' => e = .returned (.int .i64 (len : Int)) ∧ (w'.cell? ⟨w.heap.size, 0, none⟩ = some (.int .i64 kind) ∧ w'.cell? ⟨w.heap.size, 1, none⟩ = some (.int .i64 rel) ∧ w'.cell? ⟨w.heap.size, 2, none⟩ = some (.int .i64 col) ∧ w'.cell? ⟨w.heap.size, 3, none⟩ = some (.int .i64 ck) ∧ w'.cell? ⟨w.heap.size, 4, none⟩ = some (.int .i64 ci) ∧ w'.cell? ⟨w.heap.size, 5, none⟩ = some (.float .f64 cf) ∧ w'.cell? ⟨w.heap.size, 6, none⟩ = some (.string ct) ∧ w'.cell? ⟨w.heap.size, 7, none⟩ = some (.slice a len cap) ∧ Hid (Below w.heap.size w w' ∧ w.heap.size < w'.heap.size))) (fun e w' h => ⟨h.1, BoxE.next (k := kind) (r := rel) (c := col) hS h.2⟩))
 obtain ⟨x0, x1, x2, x3, x4, x5, x6, x7, _⟩ := HX.out
 have d1 : decide (rel < 0) = true := by simp; exact c1
 clear hA
 go_enter Tryz.func91, Tryz.ntmps91
 go_upto_region 2 with fail
 go_cut [53] from 8 to 52 (fun t' W => t' = .bool true ∧ BoxE w kind rel col ck ci cf ct a len cap W)
 case first =>
  refine wp_region_held_drew (S := (fun W : World => W.cell? ⟨w.heap.size, 0, none⟩ = some (.int .i64 kind) ∧ W.cell? ⟨w.heap.size, 1, none⟩ = some (.int .i64 rel) ∧ W.cell? ⟨w.heap.size, 2, none⟩ = some (.int .i64 col) ∧ W.cell? ⟨w.heap.size, 3, none⟩ = some (.int .i64 ck) ∧ W.cell? ⟨w.heap.size, 4, none⟩ = some (.int .i64 ci) ∧ W.cell? ⟨w.heap.size, 5, none⟩ = some (.float .f64 cf) ∧ W.cell? ⟨w.heap.size, 6, none⟩ = some (.string ct) ∧ W.cell? ⟨w.heap.size, 7, none⟩ = some (.slice a len cap) ∧ Hid (Below w.heap.size w W ∧ w.heap.size < W.heap.size))) (by kernel_rfl) (HX.out.next (Below.refl _ _).drew) (fun hHeld => ?_)
  refine tD 0 8 (.int .i64 (d : Int)) hHeld ?_
  refine tD 1 9 (.bool false) hHeld ?_
  refine tD 2 10 (.bool false) hHeld ?_
  refine tD 3 11 (.pointer (some ⟨w.heap.size, 0, none⟩)) hHeld ?_
  refine tD 4 12 (.int .i64 kind) hHeld ?_
  refine tD 6 14 (.pointer (some ⟨w.heap.size, 7, none⟩)) hHeld ?_
  refine tD 7 15 (.slice a len cap) hHeld ?_
  refine tD 8 16 (.int .i64 (len : Int)) hHeld ?_
  refine wpAnyH_ready (rs := [5]) (by kernel_rfl) (by simp) ?_
  refine AllReadyH.cons (o := { dst := some 13, op := .call { callee := .value (.func 121), args := #[.tmp 12], argTypes := #[3] }, type := 3, pos := "ref.go:32", after := #[{ on := 4, ground := .data }, { on := 2, ground := .chain }, { on := 2, ground := .guard }], guard := some (2, false) }) rfl (fun K hK => ?_) AllReadyH.nil
  rw [if_pos (by rfl)]
  go_simp
  go_at_call 121
  refine (HKS.out _ hHeld).mono ?_
  rintro e wx ⟨rfl, hSx⟩
  refine hK.out _ _ hSx (fun hHeld2 => ?_)
  clear hK hHeld hSx
  have hHeld := hHeld2
  clear hHeld2
  try simp only [Act.put, List.setIfInBounds_toArray, List.set_cons_zero, List.set_cons_succ]
  refine tD 9 17 (.bool false) hHeld ?_
  refine tD 10 18 (.bool false) hHeld ?_
  refine tD 11 19 (.bool false) hHeld ?_
  refine tD 12 20 (.pointer (some ⟨w.heap.size, 1, none⟩)) hHeld ?_
  refine tD 13 21 (.int .i64 rel) hHeld ?_
  refine tD 14 22 (.bool true) hHeld ?_
  refine tD 15 23 (.bool true) hHeld ?_
  refine tD 16 24 (.bool true) hHeld ?_
  refine tE 17 25 hHeld ?_
  refine tE 18 26 hHeld ?_
  refine tE 19 27 hHeld ?_
  refine tD 20 28 (.bool true) hHeld ?_
  refine tD 21 29 (.bool true) hHeld ?_
  refine tE 22 30 hHeld ?_
  refine tE 23 31 hHeld ?_
  refine tE 24 32 hHeld ?_
  refine tD 25 33 (.bool true) hHeld ?_
  refine tD 26 34 (.bool true) hHeld ?_
  refine tE 27 35 hHeld ?_
  refine tE 28 36 hHeld ?_
  refine tE 29 37 hHeld ?_
  refine tD 30 38 (.bool true) hHeld ?_
  refine tD 31 39 (.bool true) hHeld ?_
  refine tE 32 40 hHeld ?_
  refine tE 33 41 hHeld ?_
  refine tE 34 42 hHeld ?_
  refine tE 35 43 hHeld ?_
  refine tE 36 44 hHeld ?_
  refine tE 37 45 hHeld ?_
  refine tE 38 46 hHeld ?_
  refine tE 39 47 hHeld ?_
  refine tE 40 48 hHeld ?_
  refine tE 41 49 hHeld ?_
  refine tE 42 50 hHeld ?_
  refine tE 43 51 hHeld ?_
  refine tE 44 52 hHeld ?_
  refine tD 45 53 (.bool true) hHeld ?_
  refine wpAnyH_done (by kernel_rfl) ?_ _
  all_goals go_wp2_with fail
  all_goals go_meet
  all_goals exact ⟨rfl, by assumption⟩
 case rest =>
  obtain ⟨rfl, hbx⟩ := hcut
  clear x0 x1 x2 x3 x4 x5 x6 x7 HX HKS HK
  have HB := hdq hbx.below
  clear hbx
  go_wp2
  go_ret
  exact ⟨rfl, HB.out⟩
set_option maxHeartbeats 8000000 in
theorem bad_c2 (kind rel col ck ci : Int) (cf : Nat) (ct : ByteArray) (a : Option Addr) (len cap : Nat) (d : Nat) (w : World) (hA : ¬ 24 < d) (hC : kidsK kind = (len : Int)) (c1 : ¬ rel < 0) (c2 : 31 < rel) :
 Calls Tryz.prog 91 #[.agg #[.int .i64 kind, .int .i64 rel, .int .i64 col, .int .i64 ck, .int .i64 ci, .float .f64 cf, .string ct, .slice a len cap], .int .i64 (d : Int)] w fun e w' => e = .returned (.int .i64 401) ∧ Below w.heap.size w w' := by
 have HX := hdq (BoxE.start w kind rel col ck ci cf ct a len cap 53)
 obtain ⟨kk, hkk⟩ : ∃ q, q = kidsK kind := ⟨_, rfl⟩
 have HK := hdq (fun W => hkk ▸ RKids_any kind W)
 rw [← hkk] at hC
 clear hkk
 have hA' : ¬ (24 : Int) < (d : Int) := by omega
 subst hC
 have HKS := hdq (fun (W : World) (hS : W.cell? ⟨w.heap.size, 0, none⟩ = some (.int .i64 kind) ∧ W.cell? ⟨w.heap.size, 1, none⟩ = some (.int .i64 rel) ∧ W.cell? ⟨w.heap.size, 2, none⟩ = some (.int .i64 col) ∧ W.cell? ⟨w.heap.size, 3, none⟩ = some (.int .i64 ck) ∧ W.cell? ⟨w.heap.size, 4, none⟩ = some (.int .i64 ci) ∧ W.cell? ⟨w.heap.size, 5, none⟩ = some (.float .f64 cf) ∧ W.cell? ⟨w.heap.size, 6, none⟩ = some (.string ct) ∧ W.cell? ⟨w.heap.size, 7, none⟩ = some (.slice a len cap) ∧ Hid (Below w.heap.size w W ∧ w.heap.size < W.heap.size)) => (HK.out W).mono (R' := fun e w' => e = .returned (.int .i64 (len : Int)) ∧ (w'.cell? ⟨w.heap.size, 0, none⟩ = some (.int .i64 kind) ∧ w'.cell? ⟨w.heap.size, 1, none⟩ = some (.int .i64 rel) ∧ w'.cell? ⟨w.heap.size, 2, none⟩ = some (.int .i64 col) ∧ w'.cell? ⟨w.heap.size, 3, none⟩ = some (.int .i64 ck) ∧ w'.cell? ⟨w.heap.size, 4, none⟩ = some (.int .i64 ci) ∧ w'.cell? ⟨w.heap.size, 5, none⟩ = some (.float .f64 cf) ∧ w'.cell? ⟨w.heap.size, 6, none⟩ = some (.string ct) ∧ w'.cell? ⟨w.heap.size, 7, none⟩ = some (.slice a len cap) ∧ Hid (Below w.heap.size w w' ∧ w.heap.size < w'.heap.size))) (fun e w' h => ⟨h.1, BoxE.next (k := kind) (r := rel) (c := col) hS h.2⟩))
 obtain ⟨x0, x1, x2, x3, x4, x5, x6, x7, _⟩ := HX.out
 have d1 : decide ((31 : Int) < rel) = true := by simp; exact c2
 clear hA
 go_enter Tryz.func91, Tryz.ntmps91
 go_upto_region 2 with fail
 go_cut [53] from 8 to 52 (fun t' W => t' = .bool true ∧ BoxE w kind rel col ck ci cf ct a len cap W)
 case first =>
  refine wp_region_held_drew (S := (fun W : World => W.cell? ⟨w.heap.size, 0, none⟩ = some (.int .i64 kind) ∧ W.cell? ⟨w.heap.size, 1, none⟩ = some (.int .i64 rel) ∧ W.cell? ⟨w.heap.size, 2, none⟩ = some (.int .i64 col) ∧ W.cell? ⟨w.heap.size, 3, none⟩ = some (.int .i64 ck) ∧ W.cell? ⟨w.heap.size, 4, none⟩ = some (.int .i64 ci) ∧ W.cell? ⟨w.heap.size, 5, none⟩ = some (.float .f64 cf) ∧ W.cell? ⟨w.heap.size, 6, none⟩ = some (.string ct) ∧ W.cell? ⟨w.heap.size, 7, none⟩ = some (.slice a len cap) ∧ Hid (Below w.heap.size w W ∧ w.heap.size < W.heap.size))) (by kernel_rfl) (HX.out.next (Below.refl _ _).drew) (fun hHeld => ?_)
  refine tD 0 8 (.int .i64 (d : Int)) hHeld ?_
  refine tD 1 9 (.bool false) hHeld ?_
  refine tD 2 10 (.bool false) hHeld ?_
  refine tD 3 11 (.pointer (some ⟨w.heap.size, 0, none⟩)) hHeld ?_
  refine tD 4 12 (.int .i64 kind) hHeld ?_
  refine tD 6 14 (.pointer (some ⟨w.heap.size, 7, none⟩)) hHeld ?_
  refine tD 7 15 (.slice a len cap) hHeld ?_
  refine tD 8 16 (.int .i64 (len : Int)) hHeld ?_
  refine wpAnyH_ready (rs := [5]) (by kernel_rfl) (by simp) ?_
  refine AllReadyH.cons (o := { dst := some 13, op := .call { callee := .value (.func 121), args := #[.tmp 12], argTypes := #[3] }, type := 3, pos := "ref.go:32", after := #[{ on := 4, ground := .data }, { on := 2, ground := .chain }, { on := 2, ground := .guard }], guard := some (2, false) }) rfl (fun K hK => ?_) AllReadyH.nil
  rw [if_pos (by rfl)]
  go_simp
  go_at_call 121
  refine (HKS.out _ hHeld).mono ?_
  rintro e wx ⟨rfl, hSx⟩
  refine hK.out _ _ hSx (fun hHeld2 => ?_)
  clear hK hHeld hSx
  have hHeld := hHeld2
  clear hHeld2
  try simp only [Act.put, List.setIfInBounds_toArray, List.set_cons_zero, List.set_cons_succ]
  refine tD 9 17 (.bool false) hHeld ?_
  refine tD 10 18 (.bool false) hHeld ?_
  refine tD 11 19 (.bool false) hHeld ?_
  refine tD 12 20 (.pointer (some ⟨w.heap.size, 1, none⟩)) hHeld ?_
  refine tD 13 21 (.int .i64 rel) hHeld ?_
  refine tD 14 22 (.bool false) hHeld ?_
  refine tD 15 23 (.bool false) hHeld ?_
  refine tD 16 24 (.bool false) hHeld ?_
  refine tD 17 25 (.pointer (some ⟨w.heap.size, 1, none⟩)) hHeld ?_
  refine tD 18 26 (.int .i64 rel) hHeld ?_
  refine tD 19 27 (.bool true) hHeld ?_
  refine tD 20 28 (.bool true) hHeld ?_
  refine tD 21 29 (.bool true) hHeld ?_
  refine tE 22 30 hHeld ?_
  refine tE 23 31 hHeld ?_
  refine tE 24 32 hHeld ?_
  refine tD 25 33 (.bool true) hHeld ?_
  refine tD 26 34 (.bool true) hHeld ?_
  refine tE 27 35 hHeld ?_
  refine tE 28 36 hHeld ?_
  refine tE 29 37 hHeld ?_
  refine tD 30 38 (.bool true) hHeld ?_
  refine tD 31 39 (.bool true) hHeld ?_
  refine tE 32 40 hHeld ?_
  refine tE 33 41 hHeld ?_
  refine tE 34 42 hHeld ?_
  refine tE 35 43 hHeld ?_
  refine tE 36 44 hHeld ?_
  refine tE 37 45 hHeld ?_
  refine tE 38 46 hHeld ?_
  refine tE 39 47 hHeld ?_
  refine tE 40 48 hHeld ?_
  refine tE 41 49 hHeld ?_
  refine tE 42 50 hHeld ?_
  refine tE 43 51 hHeld ?_
  refine tE 44 52 hHeld ?_
  refine tD 45 53 (.bool true) hHeld ?_
  refine wpAnyH_done (by kernel_rfl) ?_ _
  all_goals go_wp2_with fail
  all_goals go_meet
  all_goals exact ⟨rfl, by assumption⟩
 case rest =>
  obtain ⟨rfl, hbx⟩ := hcut
  clear x0 x1 x2 x3 x4 x5 x6 x7 HX HKS HK
  have HB := hdq hbx.below
  clear hbx
  go_wp2
  go_ret
  exact ⟨rfl, HB.out⟩
set_option maxHeartbeats 8000000 in
theorem bad_c3 (kind rel col ck ci : Int) (cf : Nat) (ct : ByteArray) (a : Option Addr) (len cap : Nat) (d : Nat) (w : World) (hA : ¬ 24 < d) (hC : kidsK kind = (len : Int)) (c1 : ¬ rel < 0) (c2 : ¬ 31 < rel) (c3 : col < 0) :
 Calls Tryz.prog 91 #[.agg #[.int .i64 kind, .int .i64 rel, .int .i64 col, .int .i64 ck, .int .i64 ci, .float .f64 cf, .string ct, .slice a len cap], .int .i64 (d : Int)] w fun e w' => e = .returned (.int .i64 401) ∧ Below w.heap.size w w' := by
 have HX := hdq (BoxE.start w kind rel col ck ci cf ct a len cap 53)
 obtain ⟨kk, hkk⟩ : ∃ q, q = kidsK kind := ⟨_, rfl⟩
 have HK := hdq (fun W => hkk ▸ RKids_any kind W)
 rw [← hkk] at hC
 clear hkk
 have hA' : ¬ (24 : Int) < (d : Int) := by omega
 subst hC
 have HKS := hdq (fun (W : World) (hS : W.cell? ⟨w.heap.size, 0, none⟩ = some (.int .i64 kind) ∧ W.cell? ⟨w.heap.size, 1, none⟩ = some (.int .i64 rel) ∧ W.cell? ⟨w.heap.size, 2, none⟩ = some (.int .i64 col) ∧ W.cell? ⟨w.heap.size, 3, none⟩ = some (.int .i64 ck) ∧ W.cell? ⟨w.heap.size, 4, none⟩ = some (.int .i64 ci) ∧ W.cell? ⟨w.heap.size, 5, none⟩ = some (.float .f64 cf) ∧ W.cell? ⟨w.heap.size, 6, none⟩ = some (.string ct) ∧ W.cell? ⟨w.heap.size, 7, none⟩ = some (.slice a len cap) ∧ Hid (Below w.heap.size w W ∧ w.heap.size < W.heap.size)) => (HK.out W).mono (R' := fun e w' => e = .returned (.int .i64 (len : Int)) ∧ (w'.cell? ⟨w.heap.size, 0, none⟩ = some (.int .i64 kind) ∧ w'.cell? ⟨w.heap.size, 1, none⟩ = some (.int .i64 rel) ∧ w'.cell? ⟨w.heap.size, 2, none⟩ = some (.int .i64 col) ∧ w'.cell? ⟨w.heap.size, 3, none⟩ = some (.int .i64 ck) ∧ w'.cell? ⟨w.heap.size, 4, none⟩ = some (.int .i64 ci) ∧ w'.cell? ⟨w.heap.size, 5, none⟩ = some (.float .f64 cf) ∧ w'.cell? ⟨w.heap.size, 6, none⟩ = some (.string ct) ∧ w'.cell? ⟨w.heap.size, 7, none⟩ = some (.slice a len cap) ∧ Hid (Below w.heap.size w w' ∧ w.heap.size < w'.heap.size))) (fun e w' h => ⟨h.1, BoxE.next (k := kind) (r := rel) (c := col) hS h.2⟩))
 obtain ⟨x0, x1, x2, x3, x4, x5, x6, x7, _⟩ := HX.out
 have d1 : decide (col < 0) = true := by simp; exact c3
 clear hA
 go_enter Tryz.func91, Tryz.ntmps91
 go_upto_region 2 with fail
 go_cut [53] from 8 to 52 (fun t' W => t' = .bool true ∧ BoxE w kind rel col ck ci cf ct a len cap W)
 case first =>
  refine wp_region_held_drew (S := (fun W : World => W.cell? ⟨w.heap.size, 0, none⟩ = some (.int .i64 kind) ∧ W.cell? ⟨w.heap.size, 1, none⟩ = some (.int .i64 rel) ∧ W.cell? ⟨w.heap.size, 2, none⟩ = some (.int .i64 col) ∧ W.cell? ⟨w.heap.size, 3, none⟩ = some (.int .i64 ck) ∧ W.cell? ⟨w.heap.size, 4, none⟩ = some (.int .i64 ci) ∧ W.cell? ⟨w.heap.size, 5, none⟩ = some (.float .f64 cf) ∧ W.cell? ⟨w.heap.size, 6, none⟩ = some (.string ct) ∧ W.cell? ⟨w.heap.size, 7, none⟩ = some (.slice a len cap) ∧ Hid (Below w.heap.size w W ∧ w.heap.size < W.heap.size))) (by kernel_rfl) (HX.out.next (Below.refl _ _).drew) (fun hHeld => ?_)
  refine tD 0 8 (.int .i64 (d : Int)) hHeld ?_
  refine tD 1 9 (.bool false) hHeld ?_
  refine tD 2 10 (.bool false) hHeld ?_
  refine tD 3 11 (.pointer (some ⟨w.heap.size, 0, none⟩)) hHeld ?_
  refine tD 4 12 (.int .i64 kind) hHeld ?_
  refine tD 6 14 (.pointer (some ⟨w.heap.size, 7, none⟩)) hHeld ?_
  refine tD 7 15 (.slice a len cap) hHeld ?_
  refine tD 8 16 (.int .i64 (len : Int)) hHeld ?_
  refine wpAnyH_ready (rs := [5]) (by kernel_rfl) (by simp) ?_
  refine AllReadyH.cons (o := { dst := some 13, op := .call { callee := .value (.func 121), args := #[.tmp 12], argTypes := #[3] }, type := 3, pos := "ref.go:32", after := #[{ on := 4, ground := .data }, { on := 2, ground := .chain }, { on := 2, ground := .guard }], guard := some (2, false) }) rfl (fun K hK => ?_) AllReadyH.nil
  rw [if_pos (by rfl)]
  go_simp
  go_at_call 121
  refine (HKS.out _ hHeld).mono ?_
  rintro e wx ⟨rfl, hSx⟩
  refine hK.out _ _ hSx (fun hHeld2 => ?_)
  clear hK hHeld hSx
  have hHeld := hHeld2
  clear hHeld2
  try simp only [Act.put, List.setIfInBounds_toArray, List.set_cons_zero, List.set_cons_succ]
  refine tD 9 17 (.bool false) hHeld ?_
  refine tD 10 18 (.bool false) hHeld ?_
  refine tD 11 19 (.bool false) hHeld ?_
  refine tD 12 20 (.pointer (some ⟨w.heap.size, 1, none⟩)) hHeld ?_
  refine tD 13 21 (.int .i64 rel) hHeld ?_
  refine tD 14 22 (.bool false) hHeld ?_
  refine tD 15 23 (.bool false) hHeld ?_
  refine tD 16 24 (.bool false) hHeld ?_
  refine tD 17 25 (.pointer (some ⟨w.heap.size, 1, none⟩)) hHeld ?_
  refine tD 18 26 (.int .i64 rel) hHeld ?_
  refine tD 19 27 (.bool false) hHeld ?_
  refine tD 20 28 (.bool false) hHeld ?_
  refine tD 21 29 (.bool false) hHeld ?_
  refine tD 22 30 (.pointer (some ⟨w.heap.size, 2, none⟩)) hHeld ?_
  refine tD 23 31 (.int .i64 col) hHeld ?_
  refine tD 24 32 (.bool true) hHeld ?_
  refine tD 25 33 (.bool true) hHeld ?_
  refine tD 26 34 (.bool true) hHeld ?_
  refine tE 27 35 hHeld ?_
  refine tE 28 36 hHeld ?_
  refine tE 29 37 hHeld ?_
  refine tD 30 38 (.bool true) hHeld ?_
  refine tD 31 39 (.bool true) hHeld ?_
  refine tE 32 40 hHeld ?_
  refine tE 33 41 hHeld ?_
  refine tE 34 42 hHeld ?_
  refine tE 35 43 hHeld ?_
  refine tE 36 44 hHeld ?_
  refine tE 37 45 hHeld ?_
  refine tE 38 46 hHeld ?_
  refine tE 39 47 hHeld ?_
  refine tE 40 48 hHeld ?_
  refine tE 41 49 hHeld ?_
  refine tE 42 50 hHeld ?_
  refine tE 43 51 hHeld ?_
  refine tE 44 52 hHeld ?_
  refine tD 45 53 (.bool true) hHeld ?_
  refine wpAnyH_done (by kernel_rfl) ?_ _
  all_goals go_wp2_with fail
  all_goals go_meet
  all_goals exact ⟨rfl, by assumption⟩
 case rest =>
  obtain ⟨rfl, hbx⟩ := hcut
  clear x0 x1 x2 x3 x4 x5 x6 x7 HX HKS HK
  have HB := hdq hbx.below
  clear hbx
  go_wp2
  go_ret
  exact ⟨rfl, HB.out⟩
set_option maxHeartbeats 8000000 in
theorem bad_c4 (kind rel col ck ci : Int) (cf : Nat) (ct : ByteArray) (a : Option Addr) (len cap : Nat) (d : Nat) (w : World) (hA : ¬ 24 < d) (hC : kidsK kind = (len : Int)) (c1 : ¬ rel < 0) (c2 : ¬ 31 < rel) (c3 : ¬ col < 0) (c4 : 31 < col) :
 Calls Tryz.prog 91 #[.agg #[.int .i64 kind, .int .i64 rel, .int .i64 col, .int .i64 ck, .int .i64 ci, .float .f64 cf, .string ct, .slice a len cap], .int .i64 (d : Int)] w fun e w' => e = .returned (.int .i64 401) ∧ Below w.heap.size w w' := by
 have HX := hdq (BoxE.start w kind rel col ck ci cf ct a len cap 53)
 obtain ⟨kk, hkk⟩ : ∃ q, q = kidsK kind := ⟨_, rfl⟩
 have HK := hdq (fun W => hkk ▸ RKids_any kind W)
 rw [← hkk] at hC
 clear hkk
 have hA' : ¬ (24 : Int) < (d : Int) := by omega
 subst hC
 have HKS := hdq (fun (W : World) (hS : W.cell? ⟨w.heap.size, 0, none⟩ = some (.int .i64 kind) ∧ W.cell? ⟨w.heap.size, 1, none⟩ = some (.int .i64 rel) ∧ W.cell? ⟨w.heap.size, 2, none⟩ = some (.int .i64 col) ∧ W.cell? ⟨w.heap.size, 3, none⟩ = some (.int .i64 ck) ∧ W.cell? ⟨w.heap.size, 4, none⟩ = some (.int .i64 ci) ∧ W.cell? ⟨w.heap.size, 5, none⟩ = some (.float .f64 cf) ∧ W.cell? ⟨w.heap.size, 6, none⟩ = some (.string ct) ∧ W.cell? ⟨w.heap.size, 7, none⟩ = some (.slice a len cap) ∧ Hid (Below w.heap.size w W ∧ w.heap.size < W.heap.size)) => (HK.out W).mono (R' := fun e w' => e = .returned (.int .i64 (len : Int)) ∧ (w'.cell? ⟨w.heap.size, 0, none⟩ = some (.int .i64 kind) ∧ w'.cell? ⟨w.heap.size, 1, none⟩ = some (.int .i64 rel) ∧ w'.cell? ⟨w.heap.size, 2, none⟩ = some (.int .i64 col) ∧ w'.cell? ⟨w.heap.size, 3, none⟩ = some (.int .i64 ck) ∧ w'.cell? ⟨w.heap.size, 4, none⟩ = some (.int .i64 ci) ∧ w'.cell? ⟨w.heap.size, 5, none⟩ = some (.float .f64 cf) ∧ w'.cell? ⟨w.heap.size, 6, none⟩ = some (.string ct) ∧ w'.cell? ⟨w.heap.size, 7, none⟩ = some (.slice a len cap) ∧ Hid (Below w.heap.size w w' ∧ w.heap.size < w'.heap.size))) (fun e w' h => ⟨h.1, BoxE.next (k := kind) (r := rel) (c := col) hS h.2⟩))
 obtain ⟨x0, x1, x2, x3, x4, x5, x6, x7, _⟩ := HX.out
 have d1 : decide ((31 : Int) < col) = true := by simp; exact c4
 clear hA
 go_enter Tryz.func91, Tryz.ntmps91
 go_upto_region 2 with fail
 go_cut [53] from 8 to 52 (fun t' W => t' = .bool true ∧ BoxE w kind rel col ck ci cf ct a len cap W)
 case first =>
  refine wp_region_held_drew (S := (fun W : World => W.cell? ⟨w.heap.size, 0, none⟩ = some (.int .i64 kind) ∧ W.cell? ⟨w.heap.size, 1, none⟩ = some (.int .i64 rel) ∧ W.cell? ⟨w.heap.size, 2, none⟩ = some (.int .i64 col) ∧ W.cell? ⟨w.heap.size, 3, none⟩ = some (.int .i64 ck) ∧ W.cell? ⟨w.heap.size, 4, none⟩ = some (.int .i64 ci) ∧ W.cell? ⟨w.heap.size, 5, none⟩ = some (.float .f64 cf) ∧ W.cell? ⟨w.heap.size, 6, none⟩ = some (.string ct) ∧ W.cell? ⟨w.heap.size, 7, none⟩ = some (.slice a len cap) ∧ Hid (Below w.heap.size w W ∧ w.heap.size < W.heap.size))) (by kernel_rfl) (HX.out.next (Below.refl _ _).drew) (fun hHeld => ?_)
  refine tD 0 8 (.int .i64 (d : Int)) hHeld ?_
  refine tD 1 9 (.bool false) hHeld ?_
  refine tD 2 10 (.bool false) hHeld ?_
  refine tD 3 11 (.pointer (some ⟨w.heap.size, 0, none⟩)) hHeld ?_
  refine tD 4 12 (.int .i64 kind) hHeld ?_
  refine tD 6 14 (.pointer (some ⟨w.heap.size, 7, none⟩)) hHeld ?_
  refine tD 7 15 (.slice a len cap) hHeld ?_
  refine tD 8 16 (.int .i64 (len : Int)) hHeld ?_
  refine wpAnyH_ready (rs := [5]) (by kernel_rfl) (by simp) ?_
  refine AllReadyH.cons (o := { dst := some 13, op := .call { callee := .value (.func 121), args := #[.tmp 12], argTypes := #[3] }, type := 3, pos := "ref.go:32", after := #[{ on := 4, ground := .data }, { on := 2, ground := .chain }, { on := 2, ground := .guard }], guard := some (2, false) }) rfl (fun K hK => ?_) AllReadyH.nil
  rw [if_pos (by rfl)]
  go_simp
  go_at_call 121
  refine (HKS.out _ hHeld).mono ?_
  rintro e wx ⟨rfl, hSx⟩
  refine hK.out _ _ hSx (fun hHeld2 => ?_)
  clear hK hHeld hSx
  have hHeld := hHeld2
  clear hHeld2
  try simp only [Act.put, List.setIfInBounds_toArray, List.set_cons_zero, List.set_cons_succ]
  refine tD 9 17 (.bool false) hHeld ?_
  refine tD 10 18 (.bool false) hHeld ?_
  refine tD 11 19 (.bool false) hHeld ?_
  refine tD 12 20 (.pointer (some ⟨w.heap.size, 1, none⟩)) hHeld ?_
  refine tD 13 21 (.int .i64 rel) hHeld ?_
  refine tD 14 22 (.bool false) hHeld ?_
  refine tD 15 23 (.bool false) hHeld ?_
  refine tD 16 24 (.bool false) hHeld ?_
  refine tD 17 25 (.pointer (some ⟨w.heap.size, 1, none⟩)) hHeld ?_
  refine tD 18 26 (.int .i64 rel) hHeld ?_
  refine tD 19 27 (.bool false) hHeld ?_
  refine tD 20 28 (.bool false) hHeld ?_
  refine tD 21 29 (.bool false) hHeld ?_
  refine tD 22 30 (.pointer (some ⟨w.heap.size, 2, none⟩)) hHeld ?_
  refine tD 23 31 (.int .i64 col) hHeld ?_
  refine tD 24 32 (.bool false) hHeld ?_
  refine tD 25 33 (.bool false) hHeld ?_
  refine tD 26 34 (.bool false) hHeld ?_
  refine tD 27 35 (.pointer (some ⟨w.heap.size, 2, none⟩)) hHeld ?_
  refine tD 28 36 (.int .i64 col) hHeld ?_
  refine tD 29 37 (.bool true) hHeld ?_
  refine tD 30 38 (.bool true) hHeld ?_
  refine tD 31 39 (.bool true) hHeld ?_
  refine tE 32 40 hHeld ?_
  refine tE 33 41 hHeld ?_
  refine tE 34 42 hHeld ?_
  refine tE 35 43 hHeld ?_
  refine tE 36 44 hHeld ?_
  refine tE 37 45 hHeld ?_
  refine tE 38 46 hHeld ?_
  refine tE 39 47 hHeld ?_
  refine tE 40 48 hHeld ?_
  refine tE 41 49 hHeld ?_
  refine tE 42 50 hHeld ?_
  refine tE 43 51 hHeld ?_
  refine tE 44 52 hHeld ?_
  refine tD 45 53 (.bool true) hHeld ?_
  refine wpAnyH_done (by kernel_rfl) ?_ _
  all_goals go_wp2_with fail
  all_goals go_meet
  all_goals exact ⟨rfl, by assumption⟩
 case rest =>
  obtain ⟨rfl, hbx⟩ := hcut
  clear x0 x1 x2 x3 x4 x5 x6 x7 HX HKS HK
  have HB := hdq hbx.below
  clear hbx
  go_wp2
  go_ret
  exact ⟨rfl, HB.out⟩
set_option maxHeartbeats 8000000 in
theorem bad_c8 (kind rel col ck ci : Int) (cf : Nat) (ct : ByteArray) (a : Option Addr) (len cap : Nat) (d : Nat) (w : World) (hA : ¬ 24 < d) (hC : kidsK kind = (len : Int)) (c1 : ¬ rel < 0) (c2 : ¬ 31 < rel) (c3 : ¬ col < 0) (c4 : ¬ 31 < col) (c5 : ¬ kind = 1) (c7 : ¬ col = 0) (hr0 : rel = 0) :
 Calls Tryz.prog 91 #[.agg #[.int .i64 kind, .int .i64 rel, .int .i64 col, .int .i64 ck, .int .i64 ci, .float .f64 cf, .string ct, .slice a len cap], .int .i64 (d : Int)] w fun e w' => e = .returned (.int .i64 401) ∧ Below w.heap.size w w' := by
 have HX := hdq (BoxE.start w kind rel col ck ci cf ct a len cap 53)
 obtain ⟨kk, hkk⟩ : ∃ q, q = kidsK kind := ⟨_, rfl⟩
 have HK := hdq (fun W => hkk ▸ RKids_any kind W)
 rw [← hkk] at hC
 clear hkk
 have hA' : ¬ (24 : Int) < (d : Int) := by omega
 subst hC
 have HKS := hdq (fun (W : World) (hS : W.cell? ⟨w.heap.size, 0, none⟩ = some (.int .i64 kind) ∧ W.cell? ⟨w.heap.size, 1, none⟩ = some (.int .i64 rel) ∧ W.cell? ⟨w.heap.size, 2, none⟩ = some (.int .i64 col) ∧ W.cell? ⟨w.heap.size, 3, none⟩ = some (.int .i64 ck) ∧ W.cell? ⟨w.heap.size, 4, none⟩ = some (.int .i64 ci) ∧ W.cell? ⟨w.heap.size, 5, none⟩ = some (.float .f64 cf) ∧ W.cell? ⟨w.heap.size, 6, none⟩ = some (.string ct) ∧ W.cell? ⟨w.heap.size, 7, none⟩ = some (.slice a len cap) ∧ Hid (Below w.heap.size w W ∧ w.heap.size < W.heap.size)) => (HK.out W).mono (R' := fun e w' => e = .returned (.int .i64 (len : Int)) ∧ (w'.cell? ⟨w.heap.size, 0, none⟩ = some (.int .i64 kind) ∧ w'.cell? ⟨w.heap.size, 1, none⟩ = some (.int .i64 rel) ∧ w'.cell? ⟨w.heap.size, 2, none⟩ = some (.int .i64 col) ∧ w'.cell? ⟨w.heap.size, 3, none⟩ = some (.int .i64 ck) ∧ w'.cell? ⟨w.heap.size, 4, none⟩ = some (.int .i64 ci) ∧ w'.cell? ⟨w.heap.size, 5, none⟩ = some (.float .f64 cf) ∧ w'.cell? ⟨w.heap.size, 6, none⟩ = some (.string ct) ∧ w'.cell? ⟨w.heap.size, 7, none⟩ = some (.slice a len cap) ∧ Hid (Below w.heap.size w w' ∧ w.heap.size < w'.heap.size))) (fun e w' h => ⟨h.1, BoxE.next (k := kind) (r := rel) (c := col) hS h.2⟩))
 obtain ⟨x0, x1, x2, x3, x4, x5, x6, x7, _⟩ := HX.out
 have m1 : (kind == 1) = false := by simp; assumption
 have m2 : (kind != 1) = true := by simp; assumption
 have n3 : (rel == 0) = true := by simp; exact hr0
 have n4 : (rel != 0) = false := by simp; exact hr0
 clear hr0
 have n1 : (col == 0) = false := by simp; exact c7
 have n2 : (col != 0) = true := by simp; exact c7
 clear hA
 go_enter Tryz.func91, Tryz.ntmps91
 go_upto_region 2 with fail
 go_cut [53] from 8 to 52 (fun t' W => t' = .bool true ∧ BoxE w kind rel col ck ci cf ct a len cap W)
 case first =>
  refine wp_region_held_drew (S := (fun W : World => W.cell? ⟨w.heap.size, 0, none⟩ = some (.int .i64 kind) ∧ W.cell? ⟨w.heap.size, 1, none⟩ = some (.int .i64 rel) ∧ W.cell? ⟨w.heap.size, 2, none⟩ = some (.int .i64 col) ∧ W.cell? ⟨w.heap.size, 3, none⟩ = some (.int .i64 ck) ∧ W.cell? ⟨w.heap.size, 4, none⟩ = some (.int .i64 ci) ∧ W.cell? ⟨w.heap.size, 5, none⟩ = some (.float .f64 cf) ∧ W.cell? ⟨w.heap.size, 6, none⟩ = some (.string ct) ∧ W.cell? ⟨w.heap.size, 7, none⟩ = some (.slice a len cap) ∧ Hid (Below w.heap.size w W ∧ w.heap.size < W.heap.size))) (by kernel_rfl) (HX.out.next (Below.refl _ _).drew) (fun hHeld => ?_)
  refine tD 0 8 (.int .i64 (d : Int)) hHeld ?_
  refine tD 1 9 (.bool false) hHeld ?_
  refine tD 2 10 (.bool false) hHeld ?_
  refine tD 3 11 (.pointer (some ⟨w.heap.size, 0, none⟩)) hHeld ?_
  refine tD 4 12 (.int .i64 kind) hHeld ?_
  refine tD 6 14 (.pointer (some ⟨w.heap.size, 7, none⟩)) hHeld ?_
  refine tD 7 15 (.slice a len cap) hHeld ?_
  refine tD 8 16 (.int .i64 (len : Int)) hHeld ?_
  refine wpAnyH_ready (rs := [5]) (by kernel_rfl) (by simp) ?_
  refine AllReadyH.cons (o := { dst := some 13, op := .call { callee := .value (.func 121), args := #[.tmp 12], argTypes := #[3] }, type := 3, pos := "ref.go:32", after := #[{ on := 4, ground := .data }, { on := 2, ground := .chain }, { on := 2, ground := .guard }], guard := some (2, false) }) rfl (fun K hK => ?_) AllReadyH.nil
  rw [if_pos (by rfl)]
  go_simp
  go_at_call 121
  refine (HKS.out _ hHeld).mono ?_
  rintro e wx ⟨rfl, hSx⟩
  refine hK.out _ _ hSx (fun hHeld2 => ?_)
  clear hK hHeld hSx
  have hHeld := hHeld2
  clear hHeld2
  try simp only [Act.put, List.setIfInBounds_toArray, List.set_cons_zero, List.set_cons_succ]
  refine tD 9 17 (.bool false) hHeld ?_
  refine tD 10 18 (.bool false) hHeld ?_
  refine tD 11 19 (.bool false) hHeld ?_
  refine tD 12 20 (.pointer (some ⟨w.heap.size, 1, none⟩)) hHeld ?_
  refine tD 13 21 (.int .i64 rel) hHeld ?_
  refine tD 14 22 (.bool false) hHeld ?_
  refine tD 15 23 (.bool false) hHeld ?_
  refine tD 16 24 (.bool false) hHeld ?_
  refine tD 17 25 (.pointer (some ⟨w.heap.size, 1, none⟩)) hHeld ?_
  refine tD 18 26 (.int .i64 rel) hHeld ?_
  refine tD 19 27 (.bool false) hHeld ?_
  refine tD 20 28 (.bool false) hHeld ?_
  refine tD 21 29 (.bool false) hHeld ?_
  refine tD 22 30 (.pointer (some ⟨w.heap.size, 2, none⟩)) hHeld ?_
  refine tD 23 31 (.int .i64 col) hHeld ?_
  refine tD 24 32 (.bool false) hHeld ?_
  refine tD 25 33 (.bool false) hHeld ?_
  refine tD 26 34 (.bool false) hHeld ?_
  refine tD 27 35 (.pointer (some ⟨w.heap.size, 2, none⟩)) hHeld ?_
  refine tD 28 36 (.int .i64 col) hHeld ?_
  refine tD 29 37 (.bool false) hHeld ?_
  refine tD 30 38 (.bool false) hHeld ?_
  refine tD 31 39 (.bool false) hHeld ?_
  refine tD 32 40 (.pointer (some ⟨w.heap.size, 0, none⟩)) hHeld ?_
  refine tD 33 41 (.int .i64 kind) hHeld ?_
  refine tD 34 42 (.bool true) hHeld ?_
  refine tD 35 43 (.bool true) hHeld ?_
  refine tD 36 44 (.pointer (some ⟨w.heap.size, 1, none⟩)) hHeld ?_
  refine tD 37 45 (.int .i64 rel) hHeld ?_
  refine tD 38 46 (.bool false) hHeld ?_
  refine tD 39 47 (.bool false) hHeld ?_
  refine tD 40 48 (.pointer (some ⟨w.heap.size, 2, none⟩)) hHeld ?_
  refine tD 41 49 (.int .i64 col) hHeld ?_
  refine tD 42 50 (.bool true) hHeld ?_
  refine tD 43 51 (.bool true) hHeld ?_
  refine tD 44 52 (.bool true) hHeld ?_
  refine tD 45 53 (.bool true) hHeld ?_
  refine wpAnyH_done (by kernel_rfl) ?_ _
  all_goals go_wp2_with fail
  all_goals go_meet
  all_goals exact ⟨rfl, by assumption⟩
 case rest =>
  obtain ⟨rfl, hbx⟩ := hcut
  clear x0 x1 x2 x3 x4 x5 x6 x7 HX HKS HK
  have HB := hdq hbx.below
  clear hbx
  go_wp2
  go_ret
  exact ⟨rfl, HB.out⟩
set_option maxHeartbeats 8000000 in
theorem bad_c9 (kind rel col ck ci : Int) (cf : Nat) (ct : ByteArray) (a : Option Addr) (len cap : Nat) (d : Nat) (w : World) (hA : ¬ 24 < d) (hC : kidsK kind = (len : Int)) (c1 : ¬ rel < 0) (c2 : ¬ 31 < rel) (c3 : ¬ col < 0) (c4 : ¬ 31 < col) (c5 : ¬ kind = 1) (c6 : ¬ rel = 0) :
 Calls Tryz.prog 91 #[.agg #[.int .i64 kind, .int .i64 rel, .int .i64 col, .int .i64 ck, .int .i64 ci, .float .f64 cf, .string ct, .slice a len cap], .int .i64 (d : Int)] w fun e w' => e = .returned (.int .i64 401) ∧ Below w.heap.size w w' := by
 have HX := hdq (BoxE.start w kind rel col ck ci cf ct a len cap 53)
 obtain ⟨kk, hkk⟩ : ∃ q, q = kidsK kind := ⟨_, rfl⟩
 have HK := hdq (fun W => hkk ▸ RKids_any kind W)
 rw [← hkk] at hC
 clear hkk
 have hA' : ¬ (24 : Int) < (d : Int) := by omega
 subst hC
 have HKS := hdq (fun (W : World) (hS : W.cell? ⟨w.heap.size, 0, none⟩ = some (.int .i64 kind) ∧ W.cell? ⟨w.heap.size, 1, none⟩ = some (.int .i64 rel) ∧ W.cell? ⟨w.heap.size, 2, none⟩ = some (.int .i64 col) ∧ W.cell? ⟨w.heap.size, 3, none⟩ = some (.int .i64 ck) ∧ W.cell? ⟨w.heap.size, 4, none⟩ = some (.int .i64 ci) ∧ W.cell? ⟨w.heap.size, 5, none⟩ = some (.float .f64 cf) ∧ W.cell? ⟨w.heap.size, 6, none⟩ = some (.string ct) ∧ W.cell? ⟨w.heap.size, 7, none⟩ = some (.slice a len cap) ∧ Hid (Below w.heap.size w W ∧ w.heap.size < W.heap.size)) => (HK.out W).mono (R' := fun e w' => e = .returned (.int .i64 (len : Int)) ∧ (w'.cell? ⟨w.heap.size, 0, none⟩ = some (.int .i64 kind) ∧ w'.cell? ⟨w.heap.size, 1, none⟩ = some (.int .i64 rel) ∧ w'.cell? ⟨w.heap.size, 2, none⟩ = some (.int .i64 col) ∧ w'.cell? ⟨w.heap.size, 3, none⟩ = some (.int .i64 ck) ∧ w'.cell? ⟨w.heap.size, 4, none⟩ = some (.int .i64 ci) ∧ w'.cell? ⟨w.heap.size, 5, none⟩ = some (.float .f64 cf) ∧ w'.cell? ⟨w.heap.size, 6, none⟩ = some (.string ct) ∧ w'.cell? ⟨w.heap.size, 7, none⟩ = some (.slice a len cap) ∧ Hid (Below w.heap.size w w' ∧ w.heap.size < w'.heap.size))) (fun e w' h => ⟨h.1, BoxE.next (k := kind) (r := rel) (c := col) hS h.2⟩))
 obtain ⟨x0, x1, x2, x3, x4, x5, x6, x7, _⟩ := HX.out
 have m1 : (kind == 1) = false := by simp; assumption
 have m2 : (kind != 1) = true := by simp; assumption
 have n1 : (rel == 0) = false := by simp; exact c6
 have n2 : (rel != 0) = true := by simp; exact c6
 clear hA
 go_enter Tryz.func91, Tryz.ntmps91
 go_upto_region 2 with fail
 go_cut [53] from 8 to 52 (fun t' W => t' = .bool true ∧ BoxE w kind rel col ck ci cf ct a len cap W)
 case first =>
  refine wp_region_held_drew (S := (fun W : World => W.cell? ⟨w.heap.size, 0, none⟩ = some (.int .i64 kind) ∧ W.cell? ⟨w.heap.size, 1, none⟩ = some (.int .i64 rel) ∧ W.cell? ⟨w.heap.size, 2, none⟩ = some (.int .i64 col) ∧ W.cell? ⟨w.heap.size, 3, none⟩ = some (.int .i64 ck) ∧ W.cell? ⟨w.heap.size, 4, none⟩ = some (.int .i64 ci) ∧ W.cell? ⟨w.heap.size, 5, none⟩ = some (.float .f64 cf) ∧ W.cell? ⟨w.heap.size, 6, none⟩ = some (.string ct) ∧ W.cell? ⟨w.heap.size, 7, none⟩ = some (.slice a len cap) ∧ Hid (Below w.heap.size w W ∧ w.heap.size < W.heap.size))) (by kernel_rfl) (HX.out.next (Below.refl _ _).drew) (fun hHeld => ?_)
  refine tD 0 8 (.int .i64 (d : Int)) hHeld ?_
  refine tD 1 9 (.bool false) hHeld ?_
  refine tD 2 10 (.bool false) hHeld ?_
  refine tD 3 11 (.pointer (some ⟨w.heap.size, 0, none⟩)) hHeld ?_
  refine tD 4 12 (.int .i64 kind) hHeld ?_
  refine tD 6 14 (.pointer (some ⟨w.heap.size, 7, none⟩)) hHeld ?_
  refine tD 7 15 (.slice a len cap) hHeld ?_
  refine tD 8 16 (.int .i64 (len : Int)) hHeld ?_
  refine wpAnyH_ready (rs := [5]) (by kernel_rfl) (by simp) ?_
  refine AllReadyH.cons (o := { dst := some 13, op := .call { callee := .value (.func 121), args := #[.tmp 12], argTypes := #[3] }, type := 3, pos := "ref.go:32", after := #[{ on := 4, ground := .data }, { on := 2, ground := .chain }, { on := 2, ground := .guard }], guard := some (2, false) }) rfl (fun K hK => ?_) AllReadyH.nil
  rw [if_pos (by rfl)]
  go_simp
  go_at_call 121
  refine (HKS.out _ hHeld).mono ?_
  rintro e wx ⟨rfl, hSx⟩
  refine hK.out _ _ hSx (fun hHeld2 => ?_)
  clear hK hHeld hSx
  have hHeld := hHeld2
  clear hHeld2
  try simp only [Act.put, List.setIfInBounds_toArray, List.set_cons_zero, List.set_cons_succ]
  refine tD 9 17 (.bool false) hHeld ?_
  refine tD 10 18 (.bool false) hHeld ?_
  refine tD 11 19 (.bool false) hHeld ?_
  refine tD 12 20 (.pointer (some ⟨w.heap.size, 1, none⟩)) hHeld ?_
  refine tD 13 21 (.int .i64 rel) hHeld ?_
  refine tD 14 22 (.bool false) hHeld ?_
  refine tD 15 23 (.bool false) hHeld ?_
  refine tD 16 24 (.bool false) hHeld ?_
  refine tD 17 25 (.pointer (some ⟨w.heap.size, 1, none⟩)) hHeld ?_
  refine tD 18 26 (.int .i64 rel) hHeld ?_
  refine tD 19 27 (.bool false) hHeld ?_
  refine tD 20 28 (.bool false) hHeld ?_
  refine tD 21 29 (.bool false) hHeld ?_
  refine tD 22 30 (.pointer (some ⟨w.heap.size, 2, none⟩)) hHeld ?_
  refine tD 23 31 (.int .i64 col) hHeld ?_
  refine tD 24 32 (.bool false) hHeld ?_
  refine tD 25 33 (.bool false) hHeld ?_
  refine tD 26 34 (.bool false) hHeld ?_
  refine tD 27 35 (.pointer (some ⟨w.heap.size, 2, none⟩)) hHeld ?_
  refine tD 28 36 (.int .i64 col) hHeld ?_
  refine tD 29 37 (.bool false) hHeld ?_
  refine tD 30 38 (.bool false) hHeld ?_
  refine tD 31 39 (.bool false) hHeld ?_
  refine tD 32 40 (.pointer (some ⟨w.heap.size, 0, none⟩)) hHeld ?_
  refine tD 33 41 (.int .i64 kind) hHeld ?_
  refine tD 34 42 (.bool true) hHeld ?_
  refine tD 35 43 (.bool true) hHeld ?_
  refine tD 36 44 (.pointer (some ⟨w.heap.size, 1, none⟩)) hHeld ?_
  refine tD 37 45 (.int .i64 rel) hHeld ?_
  refine tD 38 46 (.bool true) hHeld ?_
  refine tD 39 47 (.bool true) hHeld ?_
  refine tE 40 48 hHeld ?_
  refine tE 41 49 hHeld ?_
  refine tE 42 50 hHeld ?_
  refine tD 43 51 (.bool true) hHeld ?_
  refine tD 44 52 (.bool true) hHeld ?_
  refine tD 45 53 (.bool true) hHeld ?_
  refine wpAnyH_done (by kernel_rfl) ?_ _
  all_goals go_wp2_with fail
  all_goals go_meet
  all_goals exact ⟨rfl, by assumption⟩
 case rest =>
  obtain ⟨rfl, hbx⟩ := hcut
  clear x0 x1 x2 x3 x4 x5 x6 x7 HX HKS HK
  have HB := hdq hbx.below
  clear hbx
  go_wp2
  go_ret
  exact ⟨rfl, HB.out⟩
end Go.Proofs.YtgmolmpfihkolaaGreat
