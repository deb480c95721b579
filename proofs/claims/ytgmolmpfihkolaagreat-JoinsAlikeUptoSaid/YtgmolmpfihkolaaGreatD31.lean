/- Part of the proof. -/
import Derived.Test.YtgmolmpfihkolaaGreatD30
namespace Go.Proofs.YtgmolmpfihkolaaGreat
open Go.RowKit Go.Proofs.YtgmolmpfihkolaaGreatW.PrintWords Go.Proofs.YtgmolmpfihkolaaGreatW.PrintMore Go.Proofs.YtgmolmpfihkolaaGreat.Pj
set_option linter.unusedVariables false
set_option linter.unusedSimpArgs false
set_option maxRecDepth 100000
attribute [local go_sem] run_store_float
set_option maxHeartbeats 80000000 in
theorem JA_main (a0 : Option Addr) (c0 : Nat) (la : List Tup) (a1 : Option Addr) (c1 : Nat) (lb : List Tup) (a2 : Option Addr) (c2 : Nat) (l2 : List PE) (a3 : Option Addr) (c3 : Nat) (l3 : List PE) (a4 : Option Addr) (c4 : Nat) (l4 : List PE) (w : World)
 (hr0 : Kd.C KT w a0 la.length la) (hc0 : la.length ≤ c0) (hr1 : Kd.C KT w a1 lb.length lb) (hc1 : lb.length ≤ c1) (hr2 : Kd.C k53 w a2 l2.length l2) (hc2 : l2.length ≤ c2) (hr3 : Kd.C k53 w a3 l3.length l3) (hc3 : l3.length ≤ c3) (hr4 : Kd.C k53 w a4 l4.length l4) (hc4 : l4.length ≤ c4)
 (hwa : ∀ t ∈ la, wfRs t = true) (hwb : ∀ t ∈ lb, wfRs t = true) (hw2 : wfEs l2 = true) (hw3 : wfEs l3 = true) (hw4 : wfEs l4 = true) (hn : l2.length + l3.length + l4.length ≤ 100000000) (hg : a27_Great.f 200000 la lb (l2 ++ l3 ++ l4 ++ l2 ++ l3) = some false) (hg3 : la.length ≤ 30 ∧ lb.length ≤ 30 ∧ l2.length ≤ 200 ∧ l3.length ≤ 200 ∧ l4.length ≤ 200 ∧ (∀ t ∈ la, okTup t) ∧ ∀ t ∈ lb, okTup t) (hl : l2.length = l3.length) (h0 : ¬ l2.length = 0) :
 Calls Tryz.prog 5 #[.slice a0 la.length c0, .slice a1 lb.length c1, .slice a2 l2.length c2, .slice a3 l3.length c3, .slice a4 l4.length c4] w fun e w' => e = .returned (.bool true) ∧ Below w.heap.size w w' := by
 have HI : Hid (AIn w w a0 la a1 lb a2 l2 a3 l3 a4 l4) := hdq ⟨Below.refl _ _, hr0, hr1, hr2, hr3, hr4⟩
 have HC := hdq (And.intro hc0 (And.intro hc1 (And.intro hc2 (And.intro hc3 hc4))))
 have ha1 := all_f2 l2 l3 l4 (by omega)
 have ha2 := all_f2 (l2 ++ l3 ++ l4) l2 l3 (by rw [List.length_append, List.length_append]; omega)
 obtain ⟨lx, hlx⟩ : ∃ lx, lx = l2 ++ l3 ++ l4 := ⟨_, rfl⟩
 rw [← hlx] at ha1 ha2 hg
 obtain ⟨ly, hly⟩ : ∃ ly, ly = lx ++ l2 ++ l3 := ⟨_, rfl⟩
 rw [← hly] at ha2 hg
 have HA1 := hdq ha1
 have HA2 := hdq ha2
 have HG := hdq hg
 clear hlx hly ha1 ha2
 clear hr0 hr1 hr2 hr3 hr4 hc0 hc1 hc2 hc3 hc4 hg
 have B2 : (l2.length : Int) = (l3.length : Int) ∨ ¬ (l2.length : Int) = (l3.length : Int) := Classical.em _
 obtain ⟨na, nb, n2, n3, n4, oa, ob⟩ := hg3
 have ha : okTups la := ⟨by omega, fun t ht => ⟨hwa t ht, oa t ht⟩⟩
 have hb : okTups lb := ⟨by omega, fun t ht => ⟨hwb t ht, ob t ht⟩⟩
 have o2 : okLs l2 := ⟨hw2, by omega⟩
 have o3 : okLs l3 := ⟨hw3, by omega⟩
 have o4 : okLs l4 := ⟨hw4, by omega⟩
 have HO := hdq (And.intro ha (And.intro hb (And.intro o2 (And.intro o3 o4))))
 have HN := hdq (And.intro na (And.intro nb (And.intro n2 (And.intro n3 n4))))
 have hkb := keyed_both la lb l2 l3 l4 ha hb o2 o3 o4 na nb
 have hko := keyedR_ok2 la lb l2 l3 l4 ha hb o2 o3 na nb
 obtain ⟨kr, hkr⟩ : ∃ kr, kr = keyedR la lb l2 l3 l4 := ⟨_, rfl⟩
 rw [← hkr] at hkb hko
 obtain ⟨x, xe⟩ := kr
 have HK := hdq hkb
 have HKO := hdq (same_f2 x hko.1 (by have := hko.2; simp only at this; omega) 200000 (by omega))
 have HKR := hdq hkr
 clear na nb n2 n3 n4 oa ob ha hb o2 o3 o4 hkb hko hkr hwa hwb hw2 hw3 hw4 hn
 have b1 : ((l2.length : Int) != (l3.length : Int)) = false := by rw [bne_eq_false_iff_eq]; omega
 have b2 : ((l2.length : Int) == 0) = false := by rw [beq_eq_false_iff_ne]; omega
 have bx : (xe != xe) = false := bne_self_eq_false _
 have HL := hdq (And.intro hl h0)
 clear hl h0
 go_enter Tryz.func5, Tryz.ntmps5
 go_wp2_with (first
  | (go_at_call 8; refine (a27_works.calls true _ rfl).mono ?_; rintro e w1 ⟨rfl, hb⟩; have HI1 := hdq (HI.out.step hb); clear hb)
  | (go_at_call 15; have q1 := v53 HI1.out.2.2.2.1 HC.out.2.2.1; have q2 := v53 HI1.out.2.2.2.2.1 HC.out.2.2.2.1; have q3 := v53 HI1.out.2.2.2.2.2 HC.out.2.2.2.2; (with_reducible refine (a27_all.calls _ _ _ _ _ _ _ _ _ _ _ _ _ _ q1 q2 q3 HA1.out).mono ?_); clear q1 q2 q3; rintro e w2 ⟨v2, rfl, hN, hb⟩; obtain ⟨A5, c5, rfl⟩ := Kd.N_slice hN; have HV : Hid (Kd.V k53 53 w2 w2.heap.size _ (.slice A5 lx.length c5) lx) := hdq (Kd.V_mk (Kd.N_reads' hN).2.1 (Kd.N_F hN)); have HI2 := hdq (HI1.out.step hb); clear hb hN)
  | (go_at_call 15; have q1 := v53 HI2.out.2.2.2.1 HC.out.2.2.1; have q2 := v53 HI2.out.2.2.2.2.1 HC.out.2.2.2.1; (with_reducible refine (a27_all.calls _ _ _ _ _ _ _ _ _ _ _ _ _ _ HV.out q1 q2 HA2.out).mono ?_); clear q1 q2; rintro e w3 ⟨v3, rfl, hN, hb⟩; obtain ⟨A6, c6, rfl⟩ := Kd.N_slice hN; have HL6 := hdq (Kd.N_reads' hN).2.1; have HV6 := hdq (Kd.N_reads' hN).2.2; have HI3 := hdq (HI2.out.step hb); have HV3 : Hid (Kd.V KT 22 w3 w3.heap.size (fun k => k < w3.heap.size) (.slice a0 la.length c0) la ∧ Kd.V KT 22 w3 w3.heap.size (fun k => k < w3.heap.size) (.slice a1 lb.length c1) lb) := hdq ⟨Kd.V_mk HC.out.1 (Kd.C_F (Kd.heap_slice _ (Kd.heap_slice _ k39_heap)) HI3.out.2.1), Kd.V_mk HC.out.2.1 (Kd.C_F (Kd.heap_slice _ (Kd.heap_slice _ k39_heap)) HI3.out.2.2.1)⟩; clear hb hN)
  | (go_at_call 7; refine (a27_Great.calls 200000 _ _ _ _ _ _ _ _ _ _ _ _ _ HV3.out.1 HV3.out.2 HV6.out HL6.out HG.out).mono ?_; rintro e w4 ⟨rfl, hb⟩; have HI4 := hdq (HI3.out.step hb); clear hb)
  | (go_at_call 19; refine (joins_Hash.calls _ _ _ _ _ _ _ _ _ _ _ _ _ _ _ _ _ _ HI4.out.2.1 HC.out.1 HI4.out.2.2.1 HC.out.2.1 HI4.out.2.2.2.1 HC.out.2.2.1 HI4.out.2.2.2.2.1 HC.out.2.2.2.1 HI4.out.2.2.2.2.2 HC.out.2.2.2.2 HK.out.2).mono ?_; rintro e w5 ⟨v5, rfl, hR, hb⟩; obtain ⟨AX, cX, rfl⟩ := Kd.R_slice hR; have HI5 := hdq (HI4.out.step hb); have HX5 := hdq (Kd.R_lower hR HI4.out.1.size); clear hR hb)
  | (go_at_call 21; refine (joins_Merge.calls _ _ _ _ _ _ _ _ _ _ _ _ _ _ _ _ _ _ HI5.out.2.1 HC.out.1 HI5.out.2.2.1 HC.out.2.1 HI5.out.2.2.2.1 HC.out.2.2.1 HI5.out.2.2.2.2.1 HC.out.2.2.2.1 HI5.out.2.2.2.2.2 HC.out.2.2.2.2 HK.out.1).mono ?_; rintro e w6 ⟨v6, rfl, hR, hb⟩; obtain ⟨AY, cY, rfl⟩ := Kd.R_slice hR; have HI6 := hdq (HI5.out.step hb); have HX6 := hdq (Kd.R_below HX5.out hb); have HY6 := hdq hR; clear hR hb)
  | (go_at_call 18; refine (r26_Same.calls 200000 _ _ _ _ _ _ _ _ (Kd.R_reads' HX6.out).2.2 (Kd.R_reads' HX6.out).2.1 (Kd.R_reads' HY6.out).2.2 (Kd.R_reads' HY6.out).2.1 HKO.out).mono ?_; rintro e w7 ⟨rfl, hb⟩; have HI7 := hdq (HI6.out.step hb); have HX7 := hdq (Kd.R_below HX6.out hb); clear hb))
 have HS := hdq (show ASt w w7 a0 la a1 lb a2 l2 a3 l3 a4 l4 AX cX x from ⟨HI7.out, HX7.out⟩)
 clear HI HI1 HI2 HI3 HI4 HI5 HI6 HI7 HX5 HX6 HX7 HY6 HV HV3 HV6 HL6 HG HA1 HA2 HK b1 b2
 go_loopw [86] (fun v86 wr => ∃ (i : Nat), v86 = .int .i64 (i : Int) ∧ i ≤ la.length ∧ Hid (∀ i' k', i' < i → k' < lb.length → CP l2 l3 l4 (la.getD i' []) (lb.getD k' [])) ∧ Hid (ASt w wr a0 la a1 lb a2 l2 a3 l3 a4 l4 AX cX x)) (fun v86 _ => la.length - (intOf v86).toNat)
 case atStart => exact ⟨0, rfl, Nat.zero_le _, hdq (fun i' k' h => absurd h (Nat.not_lt_zero _)), HS⟩
 case round =>
  clear HS
  obtain ⟨i, rfl, hi, HP, HS⟩ := hrel
  have hna := HN.out.1
  by_cases hlt : i < la.length
  ·have HLT := hdq hlt
   go_wp2
   go_loopw [91] (fun v91 wr => ∃ (k : Nat), v91 = .int .i64 (k : Int) ∧ k ≤ lb.length ∧ Hid (∀ k', k' < k → CP l2 l3 l4 (la.getD i []) (lb.getD k' [])) ∧ Hid (ASt w wr a0 la a1 lb a2 l2 a3 l3 a4 l4 AX cX x)) (fun v91 _ => lb.length - (intOf v91).toNat)
   case atStart => exact ⟨0, rfl, Nat.zero_le _, hdq (fun k' h => absurd h (Nat.not_lt_zero _)), HS⟩
   case round =>
    clear HS
    obtain ⟨k, rfl, hk, HQ, HS⟩ := hrel
    have hnb := HN.out.2.1
    by_cases hkt : k < lb.length
    ·obtain ⟨ad, A0, d0, e, hx, hl, hCs⟩ := at_L6 HS.out.1.2.1 (i : Int) (by omega) (by omega)
     cases e
     obtain ⟨bd, A1, d1, e, hy, hm, hCt⟩ := at_L6 HS.out.1.2.2.1 (k : Int) (by omega) (by omega)
     cases e
     rw [rd6] at hx hl hCs hy hm hCt
     rw [Int.toNat_natCast] at hx hy
     obtain ⟨s, hs⟩ : ∃ s, s = la.getD i [] := ⟨_, rfl⟩
     obtain ⟨t, ht⟩ : ∃ t, t = lb.getD k [] := ⟨_, rfl⟩
     rw [← hs] at hx hl hCs
     rw [← ht] at hy hm hCt
     have hsw := HO.out.1.get i
     have htw := HO.out.2.1.get k
     rw [← hs] at hsw
     rw [← ht] at htw
     have HST := hdq (And.intro hs (And.intro ht (And.intro hsw htw)))
     have HS2 := hdq (show AS2 w wr (some ad) la (some bd) lb a2 l2 a3 l3 a4 l4 AX cX x A0 s A1 t from ⟨HS.out, hCs, hCt⟩)
     have hu := union_f 200000 (by omega) s t hsw.2 htw.2
     have huw := unionP_wf hsw.1 htw.1
     have huo := unionP_ok hsw.2 htw.2
     obtain ⟨u, hue⟩ : ∃ u, u = unionP s t := ⟨_, rfl⟩
     rw [← hue] at hu huw huo
     have HUE := hdq (And.intro hue (And.intro huw huo))
     have HLM := hdq (And.intro hl hm)
     have HUN : Hid (∀ W, (W.cell? (ad.add i) = some (.slice A0 s.length d0) ∧ W.cell? (bd.add k) = some (.slice A1 t.length d1) ∧ Hid (AS2 w W (some ad) la (some bd) lb a2 l2 a3 l3 a4 l4 AX cX x A0 s A1 t)) → Calls Tryz.prog 9 #[.slice A0 s.length d0, .slice A1 t.length d1] W fun e w' => ∃ AT cT, e = .returned (.slice AT u.length cT) ∧ (w'.cell? (ad.add i) = some (.slice A0 s.length d0) ∧ w'.cell? (bd.add k) = some (.slice A1 t.length d1) ∧ Hid (AS2 w w' (some ad) la (some bd) lb a2 l2 a3 l3 a4 l4 AX cX x A0 s A1 t)) ∧ Hid (Kd.R (Kd.slice 39 k39) 29 w' w.heap.size (fun _ => True) (.slice AT u.length cT) u)) := hdq (fun W hW => by
      obtain ⟨q1, q2, q3⟩ := hW
      refine (joins_Union.calls 200000 _ _ _ _ _ _ _ _ q3.out.2.1 HLM.out.1 q3.out.2.2 HLM.out.2 hu).mono ?_
      rintro e w' ⟨v, rfl, hS, hb⟩
      have hS2 := Kd.R_lower (Kd.S_R hS) q3.out.1.1.1.size
      obtain ⟨AT, cT, rfl⟩ := Kd.R_slice hS2
      exact ⟨AT, cT, rfl, ⟨(hb.cell (World.block_lt_of_cell? W _ q1)).trans q1, (hb.cell (World.block_lt_of_cell? W _ q2)).trans q2, hdq (q3.out.step hb)⟩, hdq hS2⟩)
     clear hl hm hCs hCt hs ht hsw htw hu huw huo hue HS
     have HKT := hdq hkt
     go_upto_region 15 with (fail)
     go_cut [17] (fun v17 wc => ∃ AT cT, v17 = .slice AT u.length cT ∧ Hid (AS3 w wc (some ad) la (some bd) lb a2 l2 a3 l3 a4 l4 AX cX x A0 s A1 t AT cT u))
     case first =>
      as_aux_lemma =>
       go_wp2
       go_region_held3 (fun W : World => W.cell? (ad.add i) = some (.slice A0 s.length d0) ∧ W.cell? (bd.add k) = some (.slice A1 t.length d1) ∧ Hid (AS2 w W (some ad) la (some bd) lb a2 l2 a3 l3 a4 l4 AX cX x A0 s A1 t)) (first | (exact ⟨by simpa using hx, by simpa using hy, hdq (HS2.out.step (below_drew (Below.refl _ _)))⟩) | assumption) (first | (go_at_call 9; refine (HUN.out _ (by assumption)).mono ?_; rintro e wx ⟨AT, cT, rfl, hSx, HT⟩))
       go_wp2
       go_meet
       exact ⟨_, _, rfl, hdq ⟨hSx.2.2.out, HT.out⟩⟩
     case rest =>
      obtain ⟨AT, cT, rfl, HS3⟩ := hcut
      clear HUN HS2
      go_wp2
      go_loopw [105] (fun v105 wr => ∃ (n : Nat), v105 = .int .i64 (n : Int) ∧ n ≤ l2.length ∧ Hid (∀ (n' : Nat) (x y : Tx), n' < n → (tsOf l2)[n']? = some x → (tsOf l3)[n']? = some y → cpE (rsOf s) (rsOf t) (rsOf u) x y) ∧ Hid (AS3 w wr (some ad) la (some bd) lb a2 l2 a3 l3 a4 l4 AX cX x A0 s A1 t AT cT u)) (fun v105 _ => l2.length - (intOf v105).toNat)
      case atStart => exact ⟨0, rfl, Nat.zero_le _, hdq (fun n' x y h => absurd h (Nat.not_lt_zero _)), HS3⟩
      case round =>
       clear HS3 hx hy
       obtain ⟨n, rfl, hnl, HE, HS3⟩ := hrel
       have hl200 := HN.out.2.2.1
       by_cases hnt : n < l2.length
       ·have HNT := hdq hnt
        have HLEN := hdq HL.out.1
        have hnt3 : n < l3.length := by rw [← HLEN.out]; exact hnt
        obtain ⟨p, hp⟩ : ∃ p, p = rd_T53 l2 (n : Int) := ⟨_, rfl⟩
        obtain ⟨q, hq⟩ : ∃ q, q = rd_T53 l3 (n : Int) := ⟨_, rfl⟩
        have HPP := hdq (And.intro hp (And.intro (by rw [hp, rd53 l2 n hnt]; exact wfEs_at HO.out.2.2.1.1 n hnt : wfE p = true) (And.intro hq (by rw [hq, rd53 l3 n hnt3]; exact wfEs_at HO.out.2.2.2.1.1 n hnt3 : wfE q = true))))
        obtain ⟨r1, hr1⟩ : ∃ r, r = tellV (rsOf s) (tOf p) := ⟨_, rfl⟩
        obtain ⟨v1, e1⟩ := r1
        have HP1 := hdq hr1
        obtain ⟨r2, hr2⟩ : ∃ r, r = tellV (rsOf t) (tOf q) := ⟨_, rfl⟩
        obtain ⟨v2, e2⟩ := r2
        have HP2 := hdq hr2
        obtain ⟨r3, hr3⟩ : ∃ r, r = tellV (rsOf u) (tOf p) := ⟨_, rfl⟩
        obtain ⟨v3, e3⟩ := r3
        have HP3 := hdq hr3
        obtain ⟨r4, hr4⟩ : ∃ r, r = tellV (rsOf u) (tOf q) := ⟨_, rfl⟩
        obtain ⟨v4, e4⟩ := r4
        have HP4 := hdq hr4
        obtain ⟨r5, hr5⟩ : ∃ r, r = tellV (rsOf u) (eqT (tOf p) (tOf q)) := ⟨_, rfl⟩
        obtain ⟨v5, e5⟩ := r5
        have HP5 := hdq hr5
        clear hp hq hr1 hr2 hr3 hr4 hr5
        obtain ⟨ad2, A7, c7, e, g0, g1, g2, g3, g4, g5, g6, g7, h7c, h7⟩ := at_T53 HS3.out.1.1.1.2.2.2.1 (n : Int) (by omega) (by have := HNT.out; omega)
        cases e
        rw [← HPP.out.1] at g0 g1 g2 g3 g4 g5 g6 g7 h7c h7
        rw [Int.toNat_natCast] at g0 g1 g2 g3 g4 g5 g6 g7
        obtain ⟨hh, A0', d0', e, hx, hl, hCs⟩ := at_L6 HS3.out.1.1.1.2.1 (i : Int) (by have := HLT.out; omega) (by have := HLT.out; omega)
        cases e
        rw [rd6, ← HST.out.1] at hx hl hCs
        rw [Int.toNat_natCast] at hx
        have G9 := hdq (show wr.cell? (ad2.add (n * 8)) = some (.int .i64 p.f0) ∧ wr.cell? ⟨(ad2.add (n * 8)).block, (ad2.add (n * 8)).off + 1, none⟩ = some (.int .i64 p.f1) ∧ wr.cell? ⟨(ad2.add (n * 8)).block, (ad2.add (n * 8)).off + 2, none⟩ = some (.int .i64 p.f2) ∧ wr.cell? ⟨(ad2.add (n * 8)).block, (ad2.add (n * 8)).off + 3, none⟩ = some (.int .i64 p.f3.f0) ∧ wr.cell? ⟨(ad2.add (n * 8)).block, (ad2.add (n * 8)).off + 4, none⟩ = some (.int .i64 p.f3.f1) ∧ wr.cell? ⟨(ad2.add (n * 8)).block, (ad2.add (n * 8)).off + 5, none⟩ = some (.float .f64 p.f3.f2) ∧ wr.cell? ⟨(ad2.add (n * 8)).block, (ad2.add (n * 8)).off + 6, none⟩ = some (.string p.f3.f3) ∧ wr.cell? ⟨(ad2.add (n * 8)).block, (ad2.add (n * 8)).off + 7, none⟩ = some (.slice A7 p.f4.length c7) ∧ wr.cell? (ad.add i) = some (.slice A0' s.length d0') from ⟨g0, g1, g2, g3, g4, g5, g6, g7, hx⟩)
        have HC9 := hdq (And.intro h7c (And.intro h7 (And.intro hl hCs)))
        have HEV : Hid (∀ W, (W.cell? (ad2.add (n * 8)) = some (.int .i64 p.f0) ∧ W.cell? ⟨(ad2.add (n * 8)).block, (ad2.add (n * 8)).off + 1, none⟩ = some (.int .i64 p.f1) ∧ W.cell? ⟨(ad2.add (n * 8)).block, (ad2.add (n * 8)).off + 2, none⟩ = some (.int .i64 p.f2) ∧ W.cell? ⟨(ad2.add (n * 8)).block, (ad2.add (n * 8)).off + 3, none⟩ = some (.int .i64 p.f3.f0) ∧ W.cell? ⟨(ad2.add (n * 8)).block, (ad2.add (n * 8)).off + 4, none⟩ = some (.int .i64 p.f3.f1) ∧ W.cell? ⟨(ad2.add (n * 8)).block, (ad2.add (n * 8)).off + 5, none⟩ = some (.float .f64 p.f3.f2) ∧ W.cell? ⟨(ad2.add (n * 8)).block, (ad2.add (n * 8)).off + 6, none⟩ = some (.string p.f3.f3) ∧ W.cell? ⟨(ad2.add (n * 8)).block, (ad2.add (n * 8)).off + 7, none⟩ = some (.slice A7 p.f4.length c7) ∧ W.cell? (ad.add i) = some (.slice A0' s.length d0') ∧ Hid (Below wr.heap.size wr W)) → Calls Tryz.prog 22 #[.agg #[.int .i64 p.f0, .int .i64 p.f1, .int .i64 p.f2, .int .i64 p.f3.f0, .int .i64 p.f3.f1, .float .f64 p.f3.f2, .string p.f3.f3, .slice A7 p.f4.length c7], .slice A0' s.length d0'] W fun e w' => e = .returned (.tuple #[.agg #[.int .i64 v1.kind, .int .i64 v1.int, .float .f64 v1.flt, .string v1.text], .int .i64 e1]) ∧ (w'.cell? (ad2.add (n * 8)) = some (.int .i64 p.f0) ∧ w'.cell? ⟨(ad2.add (n * 8)).block, (ad2.add (n * 8)).off + 1, none⟩ = some (.int .i64 p.f1) ∧ w'.cell? ⟨(ad2.add (n * 8)).block, (ad2.add (n * 8)).off + 2, none⟩ = some (.int .i64 p.f2) ∧ w'.cell? ⟨(ad2.add (n * 8)).block, (ad2.add (n * 8)).off + 3, none⟩ = some (.int .i64 p.f3.f0) ∧ w'.cell? ⟨(ad2.add (n * 8)).block, (ad2.add (n * 8)).off + 4, none⟩ = some (.int .i64 p.f3.f1) ∧ w'.cell? ⟨(ad2.add (n * 8)).block, (ad2.add (n * 8)).off + 5, none⟩ = some (.float .f64 p.f3.f2) ∧ w'.cell? ⟨(ad2.add (n * 8)).block, (ad2.add (n * 8)).off + 6, none⟩ = some (.string p.f3.f3) ∧ w'.cell? ⟨(ad2.add (n * 8)).block, (ad2.add (n * 8)).off + 7, none⟩ = some (.slice A7 p.f4.length c7) ∧ w'.cell? (ad.add i) = some (.slice A0' s.length d0') ∧ Hid (Below wr.heap.size wr w')) ∧ Below W.heap.size W w') := hdq (fun W hW => by
         have q9 := hW.2.2.2.2.2.2.2.2.2.out
         refine (Eval_at (Kd.C_below HC9.out.2.1 q9) HC9.out.1 (Kd.C_below HC9.out.2.2.2 q9) HC9.out.2.2.1 HPP.out.2.1 HST.out.2.2.1.1 HP1.out).mono ?_
         rintro e w' ⟨rfl, hb⟩
         exact ⟨rfl, nine G9.out (q9.trans (hb.mono q9.size)), hb⟩)
        clear h7 h7c hCs hl
        go_upto_region 19 with (fail)
        go_cut [19, 20] (fun v19 v20 wc => ∃ bp : Nat, v19 = .pointer (some ⟨bp, 0, none⟩) ∧ v20 = .int .i64 e1 ∧ Hid (BoxV wc bp v1) ∧ Hid (Below wr.heap.size wr wc))
        case first =>
         as_aux_lemma =>
          go_wp2
          go_region_held3 (fun W : World => W.cell? (ad2.add (n * 8)) = some (.int .i64 p.f0) ∧ W.cell? ⟨(ad2.add (n * 8)).block, (ad2.add (n * 8)).off + 1, none⟩ = some (.int .i64 p.f1) ∧ W.cell? ⟨(ad2.add (n * 8)).block, (ad2.add (n * 8)).off + 2, none⟩ = some (.int .i64 p.f2) ∧ W.cell? ⟨(ad2.add (n * 8)).block, (ad2.add (n * 8)).off + 3, none⟩ = some (.int .i64 p.f3.f0) ∧ W.cell? ⟨(ad2.add (n * 8)).block, (ad2.add (n * 8)).off + 4, none⟩ = some (.int .i64 p.f3.f1) ∧ W.cell? ⟨(ad2.add (n * 8)).block, (ad2.add (n * 8)).off + 5, none⟩ = some (.float .f64 p.f3.f2) ∧ W.cell? ⟨(ad2.add (n * 8)).block, (ad2.add (n * 8)).off + 6, none⟩ = some (.string p.f3.f3) ∧ W.cell? ⟨(ad2.add (n * 8)).block, (ad2.add (n * 8)).off + 7, none⟩ = some (.slice A7 p.f4.length c7) ∧ W.cell? (ad.add i) = some (.slice A0' s.length d0') ∧ Hid (Below wr.heap.size wr W)) (first | (exact ⟨by simpa using g0, by simpa using g1, by simpa using g2, by simpa using g3, by simpa using g4, by simpa using g5, by simpa using g6, by simpa using g7, by simpa using hx, hdq (below_drew (Below.refl _ _))⟩) | assumption | (exact nine G9.out (by repeat (first | exact HBx.out | exact Below.refl _ _ | refine below_alloc ?_ _ | refine below_drew ?_ | refine below_set ?_ hsz | refine below_set ?_ (Nat.le_refl _))))) (first | (go_at_call 22; refine (HEV.out _ (by assumption)).mono ?_; rintro e wx ⟨rfl, hSx, hbx⟩; have HBx := hSx.2.2.2.2.2.2.2.2.2; have hsz := HBx.out.size; have hz := (by first | exact newV2 hbx | exact newV wx : (_ ∧ _ ∧ _ ∧ _) ∧ (_ ∧ _ ∧ _ ∧ _)); obtain ⟨⟨z0, z1, z2, z3⟩, y0, y1, y2, y3⟩ := hz; (try have HZ := hdq (blk_below (blk_drew (blk_new wr (.cells #[.int .i64 0, .int .i64 0, .float .f64 0, .string ⟨#[]⟩] 39))) hbx)); clear hbx))
          all_goals go_wp2
          all_goals go_meet
          all_goals first | exact ⟨_, rfl, rfl, hdq (blk_new _ _), hdq (below_alloc HBx.out _)⟩ | exact ⟨_, rfl, rfl, hdq (box4 HZ.out), hdq (below_set (below_set (below_set (below_set HBx.out (Nat.le_refl _)) (Nat.le_refl _)) (Nat.le_refl _)) (Nat.le_refl _))⟩
        case rest =>
         obtain ⟨b1, rfl, rfl, Hb1, HB1⟩ := hcut
         obtain ⟨wP, rfl⟩ : ∃ x, x = wc := ⟨wc, rfl⟩
         have HS4 := hdq (HS3.out.step HB1.out)
         clear G9 HC9 HEV g0 g1 g2 g3 g4 g5 g6 g7 hx
         obtain ⟨ad3, B7, e7, e, g0, g1, g2, g3, g4, g5, g6, g7, h7c, h7⟩ := at_T53 HS4.out.1.1.1.2.2.2.2.1 (n : Int) (by omega) (by have := HLEN.out; have := HNT.out; omega)
         cases e
         rw [← HPP.out.2.2.1] at g0 g1 g2 g3 g4 g5 g6 g7 h7c h7
         rw [Int.toNat_natCast] at g0 g1 g2 g3 g4 g5 g6 g7
         obtain ⟨hh, A1', d1', e, hx, hl, hCs⟩ := at_L6 HS4.out.1.1.1.2.2.1 (k : Int) (by have := HKT.out; omega) (by have := HKT.out; omega)
         cases e
         rw [rd6, ← HST.out.2.1] at hx hl hCs
         rw [Int.toNat_natCast] at hx
         have G9 := hdq (show wP.cell? (ad3.add (n * 8)) = some (.int .i64 q.f0) ∧ wP.cell? ⟨(ad3.add (n * 8)).block, (ad3.add (n * 8)).off + 1, none⟩ = some (.int .i64 q.f1) ∧ wP.cell? ⟨(ad3.add (n * 8)).block, (ad3.add (n * 8)).off + 2, none⟩ = some (.int .i64 q.f2) ∧ wP.cell? ⟨(ad3.add (n * 8)).block, (ad3.add (n * 8)).off + 3, none⟩ = some (.int .i64 q.f3.f0) ∧ wP.cell? ⟨(ad3.add (n * 8)).block, (ad3.add (n * 8)).off + 4, none⟩ = some (.int .i64 q.f3.f1) ∧ wP.cell? ⟨(ad3.add (n * 8)).block, (ad3.add (n * 8)).off + 5, none⟩ = some (.float .f64 q.f3.f2) ∧ wP.cell? ⟨(ad3.add (n * 8)).block, (ad3.add (n * 8)).off + 6, none⟩ = some (.string q.f3.f3) ∧ wP.cell? ⟨(ad3.add (n * 8)).block, (ad3.add (n * 8)).off + 7, none⟩ = some (.slice B7 q.f4.length e7) ∧ wP.cell? (bd.add k) = some (.slice A1' t.length d1') from ⟨g0, g1, g2, g3, g4, g5, g6, g7, hx⟩)
         have HC9 := hdq (And.intro h7c (And.intro h7 (And.intro hl hCs)))
         have HEV : Hid (∀ W, (W.cell? (ad3.add (n * 8)) = some (.int .i64 q.f0) ∧ W.cell? ⟨(ad3.add (n * 8)).block, (ad3.add (n * 8)).off + 1, none⟩ = some (.int .i64 q.f1) ∧ W.cell? ⟨(ad3.add (n * 8)).block, (ad3.add (n * 8)).off + 2, none⟩ = some (.int .i64 q.f2) ∧ W.cell? ⟨(ad3.add (n * 8)).block, (ad3.add (n * 8)).off + 3, none⟩ = some (.int .i64 q.f3.f0) ∧ W.cell? ⟨(ad3.add (n * 8)).block, (ad3.add (n * 8)).off + 4, none⟩ = some (.int .i64 q.f3.f1) ∧ W.cell? ⟨(ad3.add (n * 8)).block, (ad3.add (n * 8)).off + 5, none⟩ = some (.float .f64 q.f3.f2) ∧ W.cell? ⟨(ad3.add (n * 8)).block, (ad3.add (n * 8)).off + 6, none⟩ = some (.string q.f3.f3) ∧ W.cell? ⟨(ad3.add (n * 8)).block, (ad3.add (n * 8)).off + 7, none⟩ = some (.slice B7 q.f4.length e7) ∧ W.cell? (bd.add k) = some (.slice A1' t.length d1') ∧ Hid (Below wP.heap.size wP W)) → Calls Tryz.prog 22 #[.agg #[.int .i64 q.f0, .int .i64 q.f1, .int .i64 q.f2, .int .i64 q.f3.f0, .int .i64 q.f3.f1, .float .f64 q.f3.f2, .string q.f3.f3, .slice B7 q.f4.length e7], .slice A1' t.length d1'] W fun e w' => e = .returned (.tuple #[.agg #[.int .i64 v2.kind, .int .i64 v2.int, .float .f64 v2.flt, .string v2.text], .int .i64 e2]) ∧ (w'.cell? (ad3.add (n * 8)) = some (.int .i64 q.f0) ∧ w'.cell? ⟨(ad3.add (n * 8)).block, (ad3.add (n * 8)).off + 1, none⟩ = some (.int .i64 q.f1) ∧ w'.cell? ⟨(ad3.add (n * 8)).block, (ad3.add (n * 8)).off + 2, none⟩ = some (.int .i64 q.f2) ∧ w'.cell? ⟨(ad3.add (n * 8)).block, (ad3.add (n * 8)).off + 3, none⟩ = some (.int .i64 q.f3.f0) ∧ w'.cell? ⟨(ad3.add (n * 8)).block, (ad3.add (n * 8)).off + 4, none⟩ = some (.int .i64 q.f3.f1) ∧ w'.cell? ⟨(ad3.add (n * 8)).block, (ad3.add (n * 8)).off + 5, none⟩ = some (.float .f64 q.f3.f2) ∧ w'.cell? ⟨(ad3.add (n * 8)).block, (ad3.add (n * 8)).off + 6, none⟩ = some (.string q.f3.f3) ∧ w'.cell? ⟨(ad3.add (n * 8)).block, (ad3.add (n * 8)).off + 7, none⟩ = some (.slice B7 q.f4.length e7) ∧ w'.cell? (bd.add k) = some (.slice A1' t.length d1') ∧ Hid (Below wP.heap.size wP w')) ∧ Below W.heap.size W w') := hdq (fun W hW => by
          have q9 := hW.2.2.2.2.2.2.2.2.2.out
          refine (Eval_at (Kd.C_below HC9.out.2.1 q9) HC9.out.1 (Kd.C_below HC9.out.2.2.2 q9) HC9.out.2.2.1 HPP.out.2.2.2 HST.out.2.2.2.1 HP2.out).mono ?_
          rintro e w' ⟨rfl, hb⟩
          exact ⟨rfl, nine G9.out (q9.trans (hb.mono q9.size)), hb⟩)
         clear h7 h7c hCs hl
         go_upto_region 20 with (fail)
         go_cut [21, 22] (fun v21 v22 wc => ∃ bp : Nat, v21 = .pointer (some ⟨bp, 0, none⟩) ∧ v22 = .int .i64 e2 ∧ Hid (BoxV wc bp v2) ∧ Hid (Below wP.heap.size wP wc))
         case first =>
          as_aux_lemma =>
           go_wp2
           go_region_held3 (fun W : World => W.cell? (ad3.add (n * 8)) = some (.int .i64 q.f0) ∧ W.cell? ⟨(ad3.add (n * 8)).block, (ad3.add (n * 8)).off + 1, none⟩ = some (.int .i64 q.f1) ∧ W.cell? ⟨(ad3.add (n * 8)).block, (ad3.add (n * 8)).off + 2, none⟩ = some (.int .i64 q.f2) ∧ W.cell? ⟨(ad3.add (n * 8)).block, (ad3.add (n * 8)).off + 3, none⟩ = some (.int .i64 q.f3.f0) ∧ W.cell? ⟨(ad3.add (n * 8)).block, (ad3.add (n * 8)).off + 4, none⟩ = some (.int .i64 q.f3.f1) ∧ W.cell? ⟨(ad3.add (n * 8)).block, (ad3.add (n * 8)).off + 5, none⟩ = some (.float .f64 q.f3.f2) ∧ W.cell? ⟨(ad3.add (n * 8)).block, (ad3.add (n * 8)).off + 6, none⟩ = some (.string q.f3.f3) ∧ W.cell? ⟨(ad3.add (n * 8)).block, (ad3.add (n * 8)).off + 7, none⟩ = some (.slice B7 q.f4.length e7) ∧ W.cell? (bd.add k) = some (.slice A1' t.length d1') ∧ Hid (Below wP.heap.size wP W)) (first | (exact ⟨by simpa using g0, by simpa using g1, by simpa using g2, by simpa using g3, by simpa using g4, by simpa using g5, by simpa using g6, by simpa using g7, by simpa using hx, hdq (below_drew (Below.refl _ _))⟩) | assumption | (exact nine G9.out (by repeat (first | exact HBx.out | exact Below.refl _ _ | refine below_alloc ?_ _ | refine below_drew ?_ | refine below_set ?_ hsz | refine below_set ?_ (Nat.le_refl _))))) (first | (go_at_call 22; refine (HEV.out _ (by assumption)).mono ?_; rintro e wx ⟨rfl, hSx, hbx⟩; have HBx := hSx.2.2.2.2.2.2.2.2.2; have hsz := HBx.out.size; have hz := (by first | exact newV2 hbx | exact newV wx : (_ ∧ _ ∧ _ ∧ _) ∧ (_ ∧ _ ∧ _ ∧ _)); obtain ⟨⟨z0, z1, z2, z3⟩, y0, y1, y2, y3⟩ := hz; (try have HZ := hdq (blk_below (blk_drew (blk_new wP (.cells #[.int .i64 0, .int .i64 0, .float .f64 0, .string ⟨#[]⟩] 39))) hbx)); clear hbx))
           all_goals go_wp2
           all_goals go_meet
           all_goals first | exact ⟨_, rfl, rfl, hdq (blk_new _ _), hdq (below_alloc HBx.out _)⟩ | exact ⟨_, rfl, rfl, hdq (box4 HZ.out), hdq (below_set (below_set (below_set (below_set HBx.out (Nat.le_refl _)) (Nat.le_refl _)) (Nat.le_refl _)) (Nat.le_refl _))⟩
         case rest =>
          obtain ⟨b2, rfl, rfl, Hb2, HB2⟩ := hcut
          obtain ⟨wQ, rfl⟩ : ∃ x, x = wc := ⟨wc, rfl⟩
          have HS5 := hdq (HS4.out.step HB2.out)
          replace Hb1 := hdq (Hb1.out.below HB2.out)
          clear G9 HC9 HEV g0 g1 g2 g3 g4 g5 g6 g7 hx
          obtain ⟨ad2x, A7x, c7x, e, g0, g1, g2, g3, g4, g5, g6, g7, h7c, h7⟩ := at_T53 HS5.out.1.1.1.2.2.2.1 (n : Int) (by omega) (by have := HNT.out; omega)
          cases e
          rw [← HPP.out.1] at g0 g1 g2 g3 g4 g5 g6 g7 h7c h7
          rw [Int.toNat_natCast] at g0 g1 g2 g3 g4 g5 g6 g7
          have HC9 := hdq (And.intro h7c h7)
          clear h7c h7
          go_upto_region 21 with (fail)
          go_cut [23, 24] (fun v23 v24 wc => ∃ bp : Nat, v23 = .pointer (some ⟨bp, 0, none⟩) ∧ v24 = .int .i64 e3 ∧ Hid (BoxV wc bp v3) ∧ Hid (Below wQ.heap.size wQ wc))
          case first =>
           as_aux_lemma =>
            go_wp2_with (go_at_call 22; refine (Eval_at HC9.out.2 HC9.out.1 (Kd.R_reads' HS5.out.2).2.2 (Kd.R_reads' HS5.out.2).2.1 HPP.out.2.1 HUE.out.2.1 HP3.out).mono ?_; rintro e wx ⟨rfl, hb⟩; have HBx := hdq hb; clear hb)
            go_meet
            exact ⟨_, rfl, rfl, hdq (blk_new _ _), hdq (below_alloc HBx.out _)⟩
          case rest =>
           obtain ⟨b3, rfl, rfl, Hb3, HB3⟩ := hcut
           obtain ⟨wR, rfl⟩ : ∃ x, x = wc := ⟨wc, rfl⟩
           have HS6 := hdq (HS5.out.step HB3.out)
           replace Hb1 := hdq (Hb1.out.below HB3.out)
           replace Hb2 := hdq (Hb2.out.below HB3.out)
           clear HC9 g0 g1 g2 g3 g4 g5 g6 g7
           obtain ⟨ad3x, B7x, e7x, e, g0, g1, g2, g3, g4, g5, g6, g7, h7c, h7⟩ := at_T53 HS6.out.1.1.1.2.2.2.2.1 (n : Int) (by omega) (by have := HLEN.out; have := HNT.out; omega)
           cases e
           rw [← HPP.out.2.2.1] at g0 g1 g2 g3 g4 g5 g6 g7 h7c h7
           rw [Int.toNat_natCast] at g0 g1 g2 g3 g4 g5 g6 g7
           have HC9 := hdq (And.intro h7c h7)
           clear h7c h7
           go_upto_region 22 with (fail)
           go_cut [25, 26] (fun v25 v26 wc => ∃ bp : Nat, v25 = .pointer (some ⟨bp, 0, none⟩) ∧ v26 = .int .i64 e4 ∧ Hid (BoxV wc bp v4) ∧ Hid (Below wR.heap.size wR wc))
           case first =>
            as_aux_lemma =>
             go_wp2_with (go_at_call 22; refine (Eval_at HC9.out.2 HC9.out.1 (Kd.R_reads' HS6.out.2).2.2 (Kd.R_reads' HS6.out.2).2.1 HPP.out.2.2.2 HUE.out.2.1 HP4.out).mono ?_; rintro e wx ⟨rfl, hb⟩; have HBx := hdq hb; clear hb)
             go_meet
             exact ⟨_, rfl, rfl, hdq (blk_new _ _), hdq (below_alloc HBx.out _)⟩
           case rest =>
            obtain ⟨b4, rfl, rfl, Hb4, HB4⟩ := hcut
            obtain ⟨wS, rfl⟩ : ∃ x, x = wc := ⟨wc, rfl⟩
            have HS7 := hdq (HS6.out.step HB4.out)
            replace Hb1 := hdq (Hb1.out.below HB4.out)
            replace Hb2 := hdq (Hb2.out.below HB4.out)
            replace Hb3 := hdq (Hb3.out.below HB4.out)
            clear HC9 g0 g1 g2 g3 g4 g5 g6 g7
            obtain ⟨B5, cb5, hcb5, hC5, hs5⟩ := cut_one HS7.out.1.1.1.2.2.2.1 HC.out.2.2.1 HNT.out
            obtain ⟨B6, cb6, hcb6, hC6, hs6⟩ := cut_one HS7.out.1.1.1.2.2.2.2.1 HC.out.2.2.2.1 (by rw [← HLEN.out]; exact HNT.out : n < l3.length)
            rw [← HPP.out.1] at hC5
            rw [← HPP.out.2.2.1] at hC6
            have HC9 := hdq (And.intro hcb5 (And.intro hC5 (And.intro hcb6 hC6)))
            clear hcb5 hC5 hcb6 hC6
            have hw1 : IntKind.i64.wrap ((n : Int) + 1) = (n : Int) + 1 := by rw [IntKind.wrap_i64]; have := HNT.out; have := HN.out.2.2.1; omega
            have HEQ : Hid (∀ W : World, Hid (Below wS.heap.size wS W) → Calls Tryz.prog 23 #[.slice B5 1 cb5, .slice B6 1 cb6] W fun e w' => ∃ (g : Nat) (A7 : Option Addr) (c c7 : Nat), e = .returned (.slice (some ⟨g, 0, none⟩) 1 c) ∧ (w'.cell? ⟨g, 0, none⟩ = some (.int .i64 7) ∧ w'.cell? ⟨g, 1, none⟩ = some (.int .i64 0) ∧ w'.cell? ⟨g, 2, none⟩ = some (.int .i64 0) ∧ w'.cell? ⟨g, 3, none⟩ = some (.int .i64 0) ∧ w'.cell? ⟨g, 4, none⟩ = some (.int .i64 0) ∧ w'.cell? ⟨g, 5, none⟩ = some (.float .f64 0) ∧ w'.cell? ⟨g, 6, none⟩ = some (.string ⟨#[]⟩) ∧ w'.cell? ⟨g, 7, none⟩ = some (.slice A7 2 c7)) ∧ Hid (2 ≤ c7 ∧ Kd.C k53 w' A7 2 [p, q]) ∧ 1 ≤ c ∧ Hid (Below wS.heap.size wS w') ∧ Below W.heap.size W w') := hdq (fun W hW => by
             refine (eqs_one (Kd.C_below HC9.out.2.1 hW.out) HC9.out.1 (Kd.C_below HC9.out.2.2.2 hW.out) HC9.out.2.2.1).mono ?_
             rintro e w' ⟨g, A7, c, c7, rfl, hz, h7c, h7, hgc, hb⟩
             exact ⟨g, A7, c, c7, rfl, hz, hdq ⟨h7c, h7⟩, hgc, hdq (hW.out.trans (hb.mono hW.out.size)), hb⟩)
            have HEV : Hid (∀ (W : World) (A7 : Option Addr) (c7 : Nat), Kd.C k53 W A7 2 [p, q] → 2 ≤ c7 → Hid (Below wS.heap.size wS W) → Calls Tryz.prog 22 #[.agg #[.int .i64 7, .int .i64 0, .int .i64 0, .int .i64 0, .int .i64 0, .float .f64 0, .string ⟨#[]⟩, .slice A7 2 c7], .slice AT u.length cT] W fun e w' => e = .returned (.tuple #[.agg #[.int .i64 v5.kind, .int .i64 v5.int, .float .f64 v5.flt, .string v5.text], .int .i64 e5]) ∧ Hid (Below wS.heap.size wS w') ∧ Below W.heap.size W w') := hdq (fun W A7 c7 h7 h7c hW => by
             have hR := Kd.R_reads' (Kd.R_below HS7.out.2 hW.out)
             refine (Eval_at (p := eqE p q) (v := v5) (er := e5) h7 h7c hR.2.2 hR.2.1 (wfE_eq HPP.out.2.1 HPP.out.2.2.2) HUE.out.2.1 (by rw [tOf_eq]; exact HP5.out)).mono ?_
             rintro e w' ⟨rfl, hb⟩
             exact ⟨rfl, hdq (hW.out.trans (hb.mono hW.out.size)), hb⟩)
            have hn0 : (0 : Int) ≤ (n : Int) := Int.natCast_nonneg n
            go_upto_region 23 with (fail)
            go_cut [27, 28] (fun v27 v28 wc => v28 = .int .i64 e5 ∧ Hid (Below wS.heap.size wS wc))
            case first =>
             as_aux_lemma =>
              go_wp2
              refine wp_then (reg23 (fun W A => Kd.C k53 W A 2 [p, q]) (fun _ _ _ h hb => Kd.C_below h hb) _ _ _ _ _ _ _ _ _ _ _ _ _ _ _ _ _ _ _ _ _ _ _ _ _ _ _ _ _ _ _ _ _ _ _ _ _ _ _ _ _ _ _ _ _ _ _ _ _ _ _ _ _ _ _ _ _ _ _ _ _ _ _ _ _ _ _ _ _ _ _ _ _ _ _ _ _ _ _ _ _ _ _ _ _ _ _ _ _ _ _ _ _ _ _ _ _ _ _ _ _ _ _ _ _ _ _ _ _ _ _ _ _ _ _ _ _ _ _ _ _ _ _ _ _ _ _ _ _ _ _ _ _ _ _ _ _ _ _ _ _ _ _ _ _ _ _ _ _ _ _ _ _ _ _ _ _ _ _ _ _ _ _ _ _ _ _ _ _ _ _ _ _ _ _ _ _ _ _ _ _ _ _ _ _ _ _ _ _ _ _ _ _ _ _ _ _ _ _ _ _ _ _ _ _ _ _ _ _ _ _ _ _ _ _ _ _ _ _ _ _ _ _ _ _ _ _ _ _ _ _ _ _ _ _ _ _ _ _ _ _ _ _ _ _ _ _ _ _ AT B5 B6 _ _ _ _ _ _ cb5 cb6 n v5 e5 wS hw1 hn0 hs5 hs6 HEQ HEV _ ?_)
              intro t27 t150 t151 t152 t153 t154 t155 t156 t157 t158 t159 t160 t161 t162 t163 t164 t165 t166 t167 wz HBz
              go_wp2
              go_meet
              exact ⟨rfl, HBz⟩
            case rest =>
             obtain ⟨rfl, HB5⟩ := hcut
             obtain ⟨wT, rfl⟩ : ∃ x, x = wc := ⟨wc, rfl⟩
             have HS8 := hdq (HS7.out.step HB5.out)
             replace Hb1 := hdq (Hb1.out.below HB5.out)
             replace Hb2 := hdq (Hb2.out.below HB5.out)
             replace Hb3 := hdq (Hb3.out.below HB5.out)
             replace Hb4 := hdq (Hb4.out.below HB5.out)
             clear HEQ HEV HC9 hs5 hs6 hw1
             have HW : Hid (v1.wf ∧ v2.wf ∧ v3.wf ∧ v4.wf) := by
              have q1 := tellE_wf HST.out.2.2.1.1 HPP.out.2.1
              have q2 := tellE_wf HST.out.2.2.2.1 HPP.out.2.2.2
              have q3 := tellE_wf HUE.out.2.1 HPP.out.2.1
              have q4 := tellE_wf HUE.out.2.1 HPP.out.2.2.2
              rw [← HP1.out] at q1
              rw [← HP2.out] at q2
              rw [← HP3.out] at q3
              rw [← HP4.out] at q4
              exact hdq ⟨q1, q2, q3, q4⟩
             obtain ⟨s13, hs13⟩ : ∃ b, b = decide (cmpV v1 v3 = 0) := ⟨_, rfl⟩
             obtain ⟨s24, hs24⟩ : ∃ b, b = decide (cmpV v2 v4 = 0) := ⟨_, rfl⟩
             have HSA : Hid (∀ W : World, Calls Tryz.prog 24 #[.agg #[.int .i64 v1.kind, .int .i64 v1.int, .float .f64 v1.flt, .string v1.text], .agg #[.int .i64 v3.kind, .int .i64 v3.int, .float .f64 v3.flt, .string v3.text]] W fun e w' => e = .returned (.bool s13) ∧ Below W.heap.size W w') := hdq (fun W => by rw [hs13]; exact SameV_any v1 v3 HW.out.1 HW.out.2.2.1 W)
             have HSB : Hid (∀ W : World, Calls Tryz.prog 24 #[.agg #[.int .i64 v2.kind, .int .i64 v2.int, .float .f64 v2.flt, .string v2.text], .agg #[.int .i64 v4.kind, .int .i64 v4.int, .float .f64 v4.flt, .string v4.text]] W fun e w' => e = .returned (.bool s24) ∧ Below W.heap.size W w') := hdq (fun W => by rw [hs24]; exact SameV_any v2 v4 HW.out.2.1 HW.out.2.2.2 W)
             have HS13 := hdq hs13
             have HS24 := hdq hs24
             clear hs13 hs24
             obtain ⟨x0, x1, x2, x3⟩ := boxV4 Hb1.out
             obtain ⟨y0, y1, y2, y3⟩ := boxV4 Hb3.out
             have E1 : e1 = 0 ∨ ¬ e1 = 0 := Classical.em _
             rcases E1 with E1 | E1
             rotate_left
             ·have bq : (e1 != 0) = true := bne_iff_ne.2 E1
              go_wp2_with (fail)
              go_ret
              exact ⟨rfl, HS8.out.1.1.1.1⟩
             have bq1 : (e1 != 0) = false := by rw [E1]; rfl
             have E2 : e2 = 0 ∨ ¬ e2 = 0 := Classical.em _
             rcases E2 with E2 | E2
             rotate_left
             ·have bq : (e2 != 0) = true := bne_iff_ne.2 E2
              go_wp2_with (fail)
              go_ret
              exact ⟨rfl, HS8.out.1.1.1.1⟩
             have bq2 : (e2 != 0) = false := by rw [E2]; rfl
             have E3 : e3 = 0 ∨ ¬ e3 = 0 := Classical.em _
             rcases E3 with E3 | E3
             rotate_left
             ·have bq : (e3 != 0) = true := bne_iff_ne.2 E3
              go_wp2_with (fail)
              go_ret
              exact ⟨rfl, HS8.out.1.1.1.1⟩
             have bq3 : (e3 != 0) = false := by rw [E3]; rfl
             have E4 : e4 = 0 ∨ ¬ e4 = 0 := Classical.em _
             rcases E4 with E4 | E4
             rotate_left
             ·have bq : (e4 != 0) = true := bne_iff_ne.2 E4
              go_wp2_with (fail)
              go_ret
              exact ⟨rfl, HS8.out.1.1.1.1⟩
             have bq4 : (e4 != 0) = false := by rw [E4]; rfl
             have E5 : e5 = 0 ∨ ¬ e5 = 0 := Classical.em _
             rcases E5 with E5 | E5
             rotate_left
             ·have bq : (e5 != 0) = true := bne_iff_ne.2 E5
              go_wp2_with (fail)
              go_ret
              exact ⟨rfl, HS8.out.1.1.1.1⟩
             have bq5 : (e5 != 0) = false := by rw [E5]; rfl
             cases s13 with
             | false =>
              go_wp2_with (go_at_call 24; (with_reducible refine (HSA.out _).mono ?_); rintro e wU ⟨rfl, hb⟩; have HS9 := hdq (HS8.out.step hb); obtain ⟨z0, z1, z2, z3⟩ := boxV4 (Hb2.out.below hb); obtain ⟨t0, t1, t2, t3⟩ := boxV4 (Hb4.out.below hb); clear hb)
              go_ret
              exact ⟨rfl, HS9.out.1.1.1.1⟩
             | true =>
             cases s24 with
             | false =>
              go_wp2_with (first | (go_at_call 24; (with_reducible refine (HSA.out _).mono ?_); rintro e wU ⟨rfl, hb⟩; have HS9 := hdq (HS8.out.step hb); obtain ⟨z0, z1, z2, z3⟩ := boxV4 (Hb2.out.below hb); obtain ⟨t0, t1, t2, t3⟩ := boxV4 (Hb4.out.below hb); clear hb) | (go_at_call 24; (with_reducible refine (HSB.out _).mono ?_); rintro e wV ⟨rfl, hb⟩; have HS10 := hdq (HS9.out.step hb); clear hb))
              go_ret
              exact ⟨rfl, HS10.out.1.1.1.1⟩
             | true =>
             go_wp2_with (first | (go_at_call 24; (with_reducible refine (HSA.out _).mono ?_); rintro e wU ⟨rfl, hb⟩; have HS9 := hdq (HS8.out.step hb); obtain ⟨z0, z1, z2, z3⟩ := boxV4 (Hb2.out.below hb); obtain ⟨t0, t1, t2, t3⟩ := boxV4 (Hb4.out.below hb); clear hb) | (go_at_call 24; (with_reducible refine (HSB.out _).mono ?_); rintro e wV ⟨rfl, hb⟩; have HS10 := hdq (HS9.out.step hb); clear hb))
             have hCP : cpE (rsOf s) (rsOf t) (rsOf u) (tOf p) (tOf q) := by
              have k1 := of_decide_eq_true HS13.out.symm
              have k2 := of_decide_eq_true HS24.out.symm
              exact ⟨by rw [← HP1.out]; exact E1, by rw [← HP2.out]; exact E2, by rw [← HP3.out]; exact E3, by rw [← HP4.out]; exact E4, by rw [← HP5.out]; exact E5, by rw [← HP1.out, ← HP3.out]; exact k1, by rw [← HP2.out, ← HP4.out]; exact k2⟩
             have HE2 : Hid (∀ (n' : Nat) (x y : Tx), n' < n + 1 → (tsOf l2)[n']? = some x → (tsOf l3)[n']? = some y → cpE (rsOf s) (rsOf t) (rsOf u) x y) := hdq (fun n' x y h hx hy => by
              by_cases hn' : n' < n
              ·exact HE.out n' x y hn' hx hy
              ·have e : n' = n := by omega
               have hn3 : n < l3.length := by rw [← HLEN.out]; exact HNT.out
               rw [e, tsOf_map, List.getElem?_map, List.getElem?_eq_getElem HNT.out] at hx
               rw [e, tsOf_map, List.getElem?_map, List.getElem?_eq_getElem hn3] at hy
               simp only [Option.map_some, Option.some.injEq] at hx hy
               rw [← hx, ← hy, ← rd53 l2 n HNT.out, ← rd53 l3 n hn3, ← HPP.out.1, ← HPP.out.2.2.1]
               exact hCP)
             have hnt9 := HNT.out
             refine ⟨⟨n + 1, by go_num, by omega, HE2, HS10⟩, ?_⟩
             simp [intOf]; omega
       ·
        have HE9 : Hid (cpEs (rsOf s) (rsOf t) (rsOf u) (tsOf l2) (tsOf l3)) := hdq (fun n' x y hx hy => HE.out n' x y (by have h1 := (List.getElem?_eq_some_iff.1 hx).1; rw [tsOf_len] at h1; omega) hx hy)
        obtain ⟨hv, hhv⟩ : ∃ r, r = holdsP l4 u := ⟨_, rfl⟩
        obtain ⟨ht1, he1⟩ := hv
        have hH := holds_f 200000 l4 u HO.out.2.2.2.2.1 HUE.out.2.1 (by have := HO.out.2.2.2.2.2; omega) (by have := HO.out.2.2.2.2.2; omega)
        rw [← hhv] at hH
        have HH := hdq hH
        have HHV := hdq hhv
        clear hH hhv
        have EH : he1 = 0 ∨ ¬ he1 = 0 := Classical.em _
        rcases EH with EH | EH
        ·have bq : (he1 != 0) = false := by rw [EH]; rfl
         go_wp2_with (go_at_call 25; refine (expr_Holds.calls 200000 _ _ _ _ _ _ _ _ _ HS3.out.1.1.1.2.2.2.2.2 HC.out.2.2.2.2 (Kd.R_reads' HS3.out.2).2.2 (Kd.R_reads' HS3.out.2).2.1 HH.out).mono ?_; rintro e wz ⟨rfl, hb⟩; have HS4 := hdq (HS3.out.step hb); clear hb)
         have HQ2 : Hid (∀ k', k' < k + 1 → CP l2 l3 l4 (la.getD i []) (lb.getD k' [])) := hdq (fun k' h => by
          by_cases hk' : k' < k
          ·exact HQ.out k' hk'
          ·have e : k' = k := by omega
           rw [e, ← HST.out.1, ← HST.out.2.1]
           refine ⟨by rw [← HUE.out.1]; exact HE9.out, ?_⟩
           rw [← HUE.out.1, ← HHV.out]
           exact EH)
         have hkt9 := HKT.out
         refine ⟨⟨k + 1, by go_num, by omega, HQ2, hdq HS4.out.1.1⟩, ?_⟩
         simp [intOf]; omega
        ·have bq : (he1 != 0) = true := bne_iff_ne.2 EH
         go_wp2_with (go_at_call 25; refine (expr_Holds.calls 200000 _ _ _ _ _ _ _ _ _ HS3.out.1.1.1.2.2.2.2.2 HC.out.2.2.2.2 (Kd.R_reads' HS3.out.2).2.2 (Kd.R_reads' HS3.out.2).2.1 HH.out).mono ?_; rintro e wz ⟨rfl, hb⟩; have HS4 := hdq (HS3.out.step hb); clear hb)
         go_ret
         exact ⟨rfl, HS4.out.1.1.1.1⟩
    ·
     have HP2 : Hid (∀ i' k', i' < i + 1 → k' < lb.length → CP l2 l3 l4 (la.getD i' []) (lb.getD k' [])) := hdq (fun i' k' h hk' => by
      by_cases hi' : i' < i
      ·exact HP.out i' k' hi' hk'
      ·have e : i' = i := by omega
       rw [e]
       exact HQ.out k' (by omega))
     go_wp2
     have hlt9 := HLT.out
     refine ⟨⟨i + 1, by go_num, by omega, HP2, HS⟩, ?_⟩
     simp [intOf]; omega
  ·
   as_aux_lemma =>
    have HCP : Hid (∀ i k, i < la.length → k < lb.length → CP l2 l3 l4 (la.getD i []) (lb.getD k [])) := hdq (fun i' k' h1 h2 => HP.out i' k' (by omega) h2)
    have hEqs := eqs_f l2 l3 HL.out.1 (by have := HO.out.2.2.1.2; omega) 200000 (by have := HO.out.2.2.1.2; omega)
    have hEn : (eqsP l2 l3).length = l2.length := by
     unfold eqsP
     rw [List.length_zipWith, ← HL.out.1]; omega
    obtain ⟨le, hle⟩ : ∃ le, le = eqsP l2 l3 := ⟨_, rfl⟩
    obtain ⟨z, hz⟩ : ∃ z, z = toldGo la lb (eqsP l2 l3 ++ l4) (prows 0 la.length lb.length) [] := ⟨_, rfl⟩
    have hLo := loop_f la lb (eqsP l2 l3 ++ l4) HO.out.1 HO.out.2.1 ⟨by rw [wfEs_append, eqs_wf HO.out.2.2.1.1 HO.out.2.2.2.1.1, HO.out.2.2.2.2.1]; rfl, by rw [List.length_append, hEn]; have := HN.out.2.2; omega⟩ HN.out.1 200000 (by omega) (by omega)
    have hMain := fun na nb => alike_main la lb l2 l3 l4 HO.out.1 HO.out.2.1 HO.out.2.2.1 HO.out.2.2.2.1 HL.out.1 HL.out.2 na nb HCP.out
    have hNone := alike_none la lb l2 l3 l4
    rw [← hz] at hLo hMain hNone
    rw [← HKR.out] at hMain hNone
    rw [← hle] at hEqs hEn hLo
    obtain ⟨z1, ze⟩ := z
    have HEQ := hdq hEqs
    have HLO := hdq hLo
    have HMA := hdq hMain
    have HNO := hdq hNone
    have HLE := hdq hEn
    have HNN := hdq (And.intro HN.out.2.2.1 HN.out.2.2.2.2)
    clear hEqs hLo hMain hNone hle hz hEn
    obtain ⟨lw, hlw⟩ : ∃ lw, lw = le ++ l4 := ⟨_, rfl⟩
    rw [← hlw] at HLO
    have HLW := hdq hlw
    clear hlw
    by_cases hA : la.length = 0 ∨ lb.length = 0
    ·obtain ⟨hz1, hze, hx0⟩ := HNO.out hA
     simp only at hz1 hze hx0
     subst hze
     have c3 : ((x.length : Int) == 0) = true := by rw [hx0]; rfl
     have c4 : ((z1.length : Int) == 0) = true := by rw [hz1]; rfl
     clear hz1 hx0
     by_cases hA1 : la.length = 0
     ·have c1 : ((la.length : Int) == 0) = true := by rw [hA1]; rfl
      clear hA hA1
      go_wp2_with (first | (go_at_call 23; have q1 := v53 HS.out.1.2.2.2.1 HC.out.2.2.1; have q2 := v53 HS.out.1.2.2.2.2.1 HC.out.2.2.2.1; refine (a27_eqs.calls 200000 _ _ _ _ _ _ _ _ _ _ q1 q2 HEQ.out).mono ?_; clear q1 q2; rintro e w9 ⟨v9, rfl, hN, hb⟩; have HG : Hid (∀ k, k < wr.heap.size → some k ≠ v9.ownBlock) := hdq (fun k hk e => by obtain ⟨g, cg, rfl, hg0, _, _⟩ := Kd.N_form hN (by rw [HLE.out]; exact Nat.pos_of_ne_zero HL.out.2); have h3 : k = g := Option.some.inj e; omega); have HN9 := hdq (Kd.N_mono hN (fun _ _ => trivial : ∀ k, _ → True)); have HB9 := hdq hb; have HF9 := hdq (Kd.F_below (Kd.C_F k53_heap HS.out.1.2.2.2.2.2) hb); clear hb hN) | ((with_reducible refine gate_builtin (b := .append) (xs := #[.tmp 214, .tmp 215]) rfl ?_); at_builtin; refine Kd.N_append_rows k53 (w0 := wr) wr.heap.size rfl (.tmp 214) (.tmp 215) 23 53 (.agg #[(.int .i64 0), (.int .i64 0), (.int .i64 0), (.int .i64 0), (.int .i64 0), (.float .f64 0), (.string ⟨#[]⟩), (.slice none 0 0)]) 88 rfl Tryz.underlying23 info53 rfl (by decide) (by omega) v9 le l4 _ _ _ (fun _ => True) (fun k => k < wr.heap.size) rfl rfl ?aO ?aR (fun k hk => ⟨trivial, HG.out k hk⟩) (fun _ _ => trivial) ?aB ?aS ?aL ?_; (case aO => exact HN9.out); (case aR => exact HF9.out); (case aB => exact HB9.out); (case aS => exact HB9.out.size); (case aL => have := HLE.out; have := HNN.out; omega); intro v10 w10 hN hb hg hat; clear hg hat; rw [← HLW.out] at hN; obtain ⟨AW, cW, rfl⟩ := Kd.N_slice hN; have HCW := hdq (Kd.N_reads' hN).2; have HS10 := hdq (HS.out.step hb); clear hN hb) | (go_at_call 16; refine (joins_Loop.calls 200000 _ _ _ _ _ _ _ _ _ _ _ _ HS10.out.1.2.1 HC.out.1 HS10.out.1.2.2.1 HC.out.2.1 HCW.out.2 HCW.out.1 HLO.out).mono ?_; rintro e w11 ⟨v11, rfl, hN, hb⟩; obtain ⟨AZ, cZ, rfl⟩ := Kd.N_slice hN; have HZ := hdq (Kd.N_reads' hN).2; have HS11 := hdq (HS10.out.step hb); clear hN hb))
      go_ret
      exact ⟨rfl, HS11.out.1.1⟩
     ·have c1 : ((la.length : Int) == 0) = false := by rw [beq_eq_false_iff_ne]; omega
      have c2 : ((lb.length : Int) == 0) = true := by rw [hA.resolve_left hA1]; rfl
      clear hA hA1
      go_wp2_with (first | (go_at_call 23; have q1 := v53 HS.out.1.2.2.2.1 HC.out.2.2.1; have q2 := v53 HS.out.1.2.2.2.2.1 HC.out.2.2.2.1; refine (a27_eqs.calls 200000 _ _ _ _ _ _ _ _ _ _ q1 q2 HEQ.out).mono ?_; clear q1 q2; rintro e w9 ⟨v9, rfl, hN, hb⟩; have HG : Hid (∀ k, k < wr.heap.size → some k ≠ v9.ownBlock) := hdq (fun k hk e => by obtain ⟨g, cg, rfl, hg0, _, _⟩ := Kd.N_form hN (by rw [HLE.out]; exact Nat.pos_of_ne_zero HL.out.2); have h3 : k = g := Option.some.inj e; omega); have HN9 := hdq (Kd.N_mono hN (fun _ _ => trivial : ∀ k, _ → True)); have HB9 := hdq hb; have HF9 := hdq (Kd.F_below (Kd.C_F k53_heap HS.out.1.2.2.2.2.2) hb); clear hb hN) | ((with_reducible refine gate_builtin (b := .append) (xs := #[.tmp 214, .tmp 215]) rfl ?_); at_builtin; refine Kd.N_append_rows k53 (w0 := wr) wr.heap.size rfl (.tmp 214) (.tmp 215) 23 53 (.agg #[(.int .i64 0), (.int .i64 0), (.int .i64 0), (.int .i64 0), (.int .i64 0), (.float .f64 0), (.string ⟨#[]⟩), (.slice none 0 0)]) 88 rfl Tryz.underlying23 info53 rfl (by decide) (by omega) v9 le l4 _ _ _ (fun _ => True) (fun k => k < wr.heap.size) rfl rfl ?aO ?aR (fun k hk => ⟨trivial, HG.out k hk⟩) (fun _ _ => trivial) ?aB ?aS ?aL ?_; (case aO => exact HN9.out); (case aR => exact HF9.out); (case aB => exact HB9.out); (case aS => exact HB9.out.size); (case aL => have := HLE.out; have := HNN.out; omega); intro v10 w10 hN hb hg hat; clear hg hat; rw [← HLW.out] at hN; obtain ⟨AW, cW, rfl⟩ := Kd.N_slice hN; have HCW := hdq (Kd.N_reads' hN).2; have HS10 := hdq (HS.out.step hb); clear hN hb) | (go_at_call 16; refine (joins_Loop.calls 200000 _ _ _ _ _ _ _ _ _ _ _ _ HS10.out.1.2.1 HC.out.1 HS10.out.1.2.2.1 HC.out.2.1 HCW.out.2 HCW.out.1 HLO.out).mono ?_; rintro e w11 ⟨v11, rfl, hN, hb⟩; obtain ⟨AZ, cZ, rfl⟩ := Kd.N_slice hN; have HZ := hdq (Kd.N_reads' hN).2; have HS11 := hdq (HS10.out.step hb); clear hN hb))
      go_ret
      exact ⟨rfl, HS11.out.1.1⟩
    ·have c1 : ((la.length : Int) == 0) = false := by rw [beq_eq_false_iff_ne]; omega
     have c2 : ((lb.length : Int) == 0) = false := by rw [beq_eq_false_iff_ne]; omega
     obtain ⟨hxe, hzz⟩ := HMA.out (by omega) (by omega)
     simp only at hxe
     injection hzz with hz1 hze
     subst hxe
     subst hze
     obtain rfl := hz1
     clear hA
     go_wp2_with (first | (go_at_call 23; have q1 := v53 HS.out.1.2.2.2.1 HC.out.2.2.1; have q2 := v53 HS.out.1.2.2.2.2.1 HC.out.2.2.2.1; refine (a27_eqs.calls 200000 _ _ _ _ _ _ _ _ _ _ q1 q2 HEQ.out).mono ?_; clear q1 q2; rintro e w9 ⟨v9, rfl, hN, hb⟩; have HG : Hid (∀ k, k < wr.heap.size → some k ≠ v9.ownBlock) := hdq (fun k hk e => by obtain ⟨g, cg, rfl, hg0, _, _⟩ := Kd.N_form hN (by rw [HLE.out]; exact Nat.pos_of_ne_zero HL.out.2); have h3 : k = g := Option.some.inj e; omega); have HN9 := hdq (Kd.N_mono hN (fun _ _ => trivial : ∀ k, _ → True)); have HB9 := hdq hb; have HF9 := hdq (Kd.F_below (Kd.C_F k53_heap HS.out.1.2.2.2.2.2) hb); clear hb hN) | ((with_reducible refine gate_builtin (b := .append) (xs := #[.tmp 214, .tmp 215]) rfl ?_); at_builtin; refine Kd.N_append_rows k53 (w0 := wr) wr.heap.size rfl (.tmp 214) (.tmp 215) 23 53 (.agg #[(.int .i64 0), (.int .i64 0), (.int .i64 0), (.int .i64 0), (.int .i64 0), (.float .f64 0), (.string ⟨#[]⟩), (.slice none 0 0)]) 88 rfl Tryz.underlying23 info53 rfl (by decide) (by omega) v9 le l4 _ _ _ (fun _ => True) (fun k => k < wr.heap.size) rfl rfl ?aO ?aR (fun k hk => ⟨trivial, HG.out k hk⟩) (fun _ _ => trivial) ?aB ?aS ?aL ?_; (case aO => exact HN9.out); (case aR => exact HF9.out); (case aB => exact HB9.out); (case aS => exact HB9.out.size); (case aL => have := HLE.out; have := HNN.out; omega); intro v10 w10 hN hb hg hat; clear hg hat; rw [← HLW.out] at hN; obtain ⟨AW, cW, rfl⟩ := Kd.N_slice hN; have HCW := hdq (Kd.N_reads' hN).2; have HS10 := hdq (HS.out.step hb); clear hN hb) | (go_at_call 16; refine (joins_Loop.calls 200000 _ _ _ _ _ _ _ _ _ _ _ _ HS10.out.1.2.1 HC.out.1 HS10.out.1.2.2.1 HC.out.2.1 HCW.out.2 HCW.out.1 HLO.out).mono ?_; rintro e w11 ⟨v11, rfl, hN, hb⟩; obtain ⟨AZ, cZ, rfl⟩ := Kd.N_slice hN; have HZ := hdq (Kd.N_reads' hN).2; have HS11 := hdq (HS10.out.step hb); clear hN hb) | (go_at_call 18; refine (r26_Same.calls 200000 _ _ _ _ _ _ _ _ (Kd.R_reads' HS11.out.2).2.2 (Kd.R_reads' HS11.out.2).2.1 HZ.out.2 HZ.out.1 HKO.out).mono ?_; rintro e w12 ⟨rfl, hb⟩; have HS12 := hdq (HS11.out.step hb); clear hb))
     go_ret
     exact ⟨rfl, HS12.out.1.1⟩
end Go.Proofs.YtgmolmpfihkolaaGreat
