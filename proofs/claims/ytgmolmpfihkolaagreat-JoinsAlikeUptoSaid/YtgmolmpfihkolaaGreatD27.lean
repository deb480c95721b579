/- Part of the proof. -/
import Derived.Test.YtgmolmpfihkolaaGreatD26
namespace Go.Proofs.YtgmolmpfihkolaaGreat
open Go.RowKit Go.Maps Go.WideMaps Go.Proofs.YtgmolmpfihkolaaGreatW.PrintWords Go.Proofs.YtgmolmpfihkolaaGreat.Pj
set_option linter.unusedVariables false
set_option maxRecDepth 100000
def H1W (w1 : World) (ys : List PK) (j : Nat) (W : World) : Prop := (∃ D : DU, GrW W w1.heap.size j D ∧ HoldsM (ys.take j) D) ∧ Below w1.heap.size w1 W ∧ w1.heap.size + 1 ≤ W.heap.size
def H2W (w1 : World) (ys : List PK) (n : Nat) (T rest : List PP) (v : Value) (W : World) : Prop := (∃ D : DU, GrW W w1.heap.size n D ∧ HoldsM ys D) ∧ MgW w1 T rest v W
theorem H1W.below {w1 W W' : World} {ys : List PK} {j : Nat} (h : H1W w1 ys j W) (hb : Below W.heap.size W W') : H1W w1 ys j W' := by
 obtain ⟨⟨D, h1, h2⟩, h3, h4⟩ := h
 exact ⟨⟨D, h1.below hb, h2⟩, h3.trans (hb.mono h3.size), Nat.le_trans h4 hb.size⟩
theorem H2W.below {w1 W W' : World} {ys : List PK} {n : Nat} {T rest : List PP} {v : Value} (h : H2W w1 ys n T rest v W) (hb : Below W.heap.size W W') : H2W w1 ys n T rest v W' := by
 obtain ⟨⟨D, h1, h2⟩, h3⟩ := h
 exact ⟨⟨D, h1.below hb, h2⟩, h3.below hb⟩
set_option maxHeartbeats 4000000 in
theorem Hash_any (A0 : Option Addr) (c0 : Nat) (l0 : List (List (List PV))) (A1 : Option Addr) (c1 : Nat) (l1 : List (List (List PV))) (A2 : Option Addr) (c2 : Nat) (l2 : List PE) (A3 : Option Addr) (c3 : Nat) (l3 : List PE) (A4 : Option Addr) (c4 : Nat) (l4 : List PE) (r1 : List (List (List PV))) (r2 : Int) (w : World) (hr0 : Kd.C (Kd.slice 29 (Kd.slice 39 k39)) w A0 l0.length l0) (hc0 : l0.length ≤ c0) (hr1 : Kd.C (Kd.slice 29 (Kd.slice 39 k39)) w A1 l1.length l1) (hc1 : l1.length ≤ c1) (hr2 : Kd.C k53 w A2 l2.length l2) (hc2 : l2.length ≤ c2) (hr3 : Kd.C k53 w A3 l3.length l3) (hc3 : l3.length ≤ c3) (hr4 : Kd.C k53 w A4 l4.length l4) (hc4 : l4.length ≤ c4) (h : hashF l0 l1 l2 l3 l4 = some (r1, r2)) :
 Calls Tryz.prog 19 #[.slice A0 l0.length c0, .slice A1 l1.length c1, .slice A2 l2.length c2, .slice A3 l3.length c3, .slice A4 l4.length c4] w fun e w' => ∃ v0_ : Value, e = .returned (.tuple #[v0_, .int .i64 r2]) ∧ Kd.R (Kd.slice 29 (Kd.slice 39 k39)) 22 w' w.heap.size (fun _ => True) v0_ r1 ∧ Below w.heap.size w w' := by
 unfold hashF at h
 rw [Option.bind_eq_some_iff] at h
 obtain ⟨⟨x, y, er⟩, hb, h⟩ := h
 have CB := hdq (joins_both.calls KF A0 c0 l0 A1 c1 l1 A2 c2 l2 A3 c3 l3 x y er w hr0 hc0 hr1 hc1 hr2 hc2 hr3 hc3 hb)
 simp only at h
 by_cases he : er = 0
 ·subst he
  rw [if_pos rfl] at h
  have ho : (okK x = true ∧ okK y = true) ∧ (okN x = true ∧ okN y = true) := by
   by_cases ho : ((okK x && okK y) && (okN x && okN y)) = true
   ·simpa using ho
   ·rw [if_neg ho] at h; cases h
  rw [if_pos (by rw [ho.1.1, ho.1.2, ho.2.1, ho.2.2]; rfl)] at h
  have HO := hdq ho
  obtain ⟨T, hT⟩ : ∃ T, T = hashPairs x y := ⟨_, rfl⟩
  have HT := hdq hT
  rw [← hT] at h
  have CT : Hid (∀ (w1 : World) (v : Value) (W : World), Below w.heap.size w w1 → MgW w1 T [] v W → ∃ A c, v = .slice A T.length c ∧ Calls Tryz.prog 39 #[.slice A0 l0.length c0, .slice A1 l1.length c1, .slice A T.length c, .slice A4 l4.length c4] W fun e w' => ∃ v0_ : Value, e = .returned (.tuple #[v0_, .int .i64 r2]) ∧ Kd.R (Kd.slice 29 (Kd.slice 39 k39)) 22 w' w.heap.size (fun _ => True) v0_ r1 ∧ Below w.heap.size w w') := hdq (fun w1 v W hw1 hS => by
   obtain ⟨⟨out, e1, s1⟩, s2⟩ := hS
   rw [List.append_nil] at e1
   subst e1
   have s2 := hw1.trans (s2.mono hw1.size)
   obtain ⟨A, c, rfl, hlc, hC⟩ := Kd.R_reads s1
   refine ⟨A, c, rfl, (joins_told.calls KF A0 c0 l0 A1 c1 l1 A c out A4 c4 l4 r1 r2 W (Kd.C_below hr0 s2) hc0 (Kd.C_below hr1 s2) hc1 hC hlc (Kd.C_below hr4 s2) hc4 h).mono ?_⟩
   rintro e w' ⟨v0, rfl, q1, q2⟩
   exact ⟨v0, rfl, Kd.R_lower q1 s2.size, s2.trans (q2.mono s2.size)⟩)
  clear h ho hb hr0 hc0 hr1 hc1 hr2 hc2 hr3 hc3 hr4 hc4 hT
  obtain ⟨n0, hn0⟩ : ∃ n, n = l0.length := ⟨_, rfl⟩
  obtain ⟨n1, hn1⟩ : ∃ n, n = l1.length := ⟨_, rfl⟩
  obtain ⟨n2, hn2⟩ : ∃ n, n = l2.length := ⟨_, rfl⟩
  obtain ⟨n3, hn3⟩ : ∃ n, n = l3.length := ⟨_, rfl⟩
  obtain ⟨n4, hn4⟩ : ∃ n, n = l4.length := ⟨_, rfl⟩
  obtain ⟨n5, hn5⟩ : ∃ n, n = T.length := ⟨_, rfl⟩
  obtain ⟨nx, hnx⟩ : ∃ n, n = x.length := ⟨_, rfl⟩
  obtain ⟨ny, hny⟩ : ∃ n, n = y.length := ⟨_, rfl⟩
  rw [← hn0, ← hn1, ← hn2, ← hn3] at CB
  rw [← hn0, ← hn1, ← hn4, ← hn5] at CT
  rw [← hn0, ← hn1, ← hn2, ← hn3, ← hn4]
  have NX := hdq hnx
  have NY := hdq hny
  have BND : Hid (nx ≤ 1000000 ∧ ny ≤ 1000000) := hdq (by
   have q1 := (okK_parts HO.out.1.1).2.2
   have q2 := (okK_parts HO.out.1.2).2.2
   omega)
  clear hn0 hn1 hn2 hn3 hn4 hn5 hnx hny
  have hmm := @run_makeMap Tryz.prog
  obtain ⟨i0, hi, hz0, hz1, hz2⟩ := info_parts infoInt
  go_enter Tryz.func19, Tryz.ntmps19
  go_wp2_with (first
   | (go_at_call 41; refine CB.out.mono ?_; rintro e w1 ⟨vx, vy, rfl, hx, hy, hB⟩; obtain ⟨Ax, cx, ex⟩ := Kd.R_slice (Kd.S_R hx); obtain ⟨Ay, cy, ey⟩ := Kd.R_slice (Kd.S_R hy); rw [← NX.out] at ex; rw [← NY.out] at ey; subst ex; subst ey; have KX := hdq (R_keyed2 (Kd.S_R hx) (by have := BND.out; have := NX.out; omega)); have KY := hdq (R_keyed2 (Kd.S_R hy) (by have := BND.out; have := NY.out; omega)); have HB1 := hdq hB; clear hx hy hB))
  have ST : Hid (H1W w1 y 0 (w1.alloc (.map #[] 0))) := hdq ⟨⟨.map [], World.ownsGroups_made _ _ _ _ _, HoldsM.start⟩, below_new _ _, by simp⟩
  go_loopw [39] (fun vj wr => ∃ j : Nat, vj = .int .i64 j ∧ Hid (j ≤ ny) ∧ Hid (H1W w1 y j wr)) (fun vj _ => ny - (intOf vj).toNat)
  case atStart => exact ⟨0, rfl, hdq (Nat.zero_le _), ST⟩
  case round =>
   obtain ⟨j, rfl, HJ, HW⟩ := hrel
   clear ST
   by_cases hj : j < ny
   ·obtain ⟨q, hq⟩ : ∃ q, y[j]? = some q := ⟨_, List.getElem?_eq_getElem (by have := NY.out; omega)⟩
    obtain ⟨b2, o2, e2, lb2, B1, k1, p0, p1, pl, pC⟩ := (KY.out.below HW.out.2.1).at hq
    subst e2
    obtain ⟨⟨r, hr, hnm⟩, hns, hwf⟩ := okN_at HO.out.2.2 (List.mem_of_getElem? hq)
    have hjc : (j : Int) < (ny : Int) := by omega
    have hj0 : (0 : Int) ≤ (j : Int) := by omega
    obtain ⟨g0, hg0⟩ : ∃ z, z = q.f0 := ⟨_, rfl⟩
    obtain ⟨y1, hy1⟩ : ∃ z, z = q.f1.length := ⟨_, rfl⟩
    rw [← hg0] at p0
    rw [← hy1] at p1
    have BX := hdq (BoxK.new wr g0 (.slice B1 y1 k1))
    have BN := hdq (below_new wr (.cells #[.int .i64 g0, .slice B1 y1 k1] 80))
    have PUT : Hid (∀ W, Below wr.heap.size wr W → Calls Tryz.prog 42 #[.slice none 0 0, .slice B1 y1 k1] W fun e w' => ∃ v, e = .returned v ∧ (convert 81 9 v).run Tryz.prog w' = .ok (.string (nm q)) w' ∧ Below W.heap.size W w') := hdq (fun W hW => by
     rw [hnm]
     have hput := put_any rfl (Kd.C_below pC hW) pl hr
     rw [← hy1] at hput
     exact hput)
    obtain ⟨j1, hj1⟩ : ∃ j1, j1 = j + 1 := ⟨_, rfl⟩
    have KEY := hdq (keyAt_mk hns)
    have WF : Hid ((Lit.int .i64 g0).wf = true) := hdq (hg0 ▸ hwf)
    have QJ : Hid (y.take j1 = y.take j ++ [q] ∧ g0 = q.f0) := hdq ⟨by
     obtain ⟨hjl, e⟩ := List.getElem?_eq_some_iff.1 hq
     rw [hj1, List.take_succ_eq_append_getElem hjl, e], hg0⟩
    have KJ : Hid (j1 ≤ ny ∧ ny - j1 < ny - j ∧ j < 1000000 ∧ j1 = j + 1) := hdq (by have := BND.out; omega)
    obtain ⟨nmq, hnmq⟩ : ∃ s, s = nm q := ⟨_, rfl⟩
    rw [← hnmq] at PUT KEY
    have NMQ := hdq hnmq
    have rj := wrI_add (a := j) (b := 1) hj1.symm (by have := KJ.out; omega)
    have sj := wr_add (a := j) (b := 1) hj1.symm (by have := KJ.out; clear rj; omega)
    simp only [Int.natCast_one] at rj sj
    clear hq pl pC hr hnm hns hwf hg0 hy1 hj1 hnmq lb2
    go_wp2_with (first
     | (go_at_call 42; refine (PUT.out _ BN.out).mono ?_; rintro e w3 ⟨vb, rfl, hcv, hb3⟩; have HW3 := hdq ((HW.out.below BN.out).below hb3); have BX3 := hdq (BX.out.below hb3); have hcell := BX3.out.cell; clear hb3; obtain ⟨D, hD, hH⟩ := HW3.out.1; have HD := hdq hD; have HH := hdq hH; have HW32 := hdq HW3.out.2; clear hD hH)
     | (at_lookup; refine wpList_lookup_groups _ rfl _ _ 78 rfl 9 36 3 .i64 keyLaw Tryz.underlying78 (zeroInts _) (w1.heap.size + 1) w1.heap.size j D rfl HD.out (by have := KJ.out; unfold maxLen; omega) _ _ rfl KEY.out ?_; intro v zs hat hoi hzl hback; have HAT := hdq hat; have HOI := hdq hoi; have HZL := hdq hzl; have HBK := hdq hback; clear hat hoi hzl hback)
     | (at_builtin; refine wpList_append_own_at _ rfl _ _ 36 rfl (w1.heap.size + 1) 3 i0 (.int .i64 0) 1 8 Tryz.underlying36 hi hz0 hz1 hz2 rfl (by decide) _ _ _ rfl (HOI.out.1.alloc _) ⟨w3.heap.size, 0, none⟩ 1 1 [.int .i64 g0] rfl rfl (cell_one_new _ _ _) (ints_oneCell .i64 [g0]) (by have := KJ.out; have := HZL.out; unfold maxLen; omega) (by have := KJ.out; have := HZL.out; omega) (by have := HW32.out.2; simp; omega) ?_; intro v' w4 hown' hgrow hnil hloc; have HOWN := hdq hown'; have HGR := hdq ((World.grownBy_alloc w3 _ _).trans hgrow); have HLOC := hdq hloc; clear hown' hgrow hnil hloc)
     | (at_mapUpdate; refine wpList_mapUpdate_back _ rfl _ _ _ 78 rfl HBK.out rfl rfl rfl HGR.out (HOI.out.appended HOWN.out WF.out) (by have := HZL.out; simp; omega) (HLOC.out.imp id (fun h => ⟨_, h, by simp⟩)) ?_; intro w5 hown2 hgrow2; have HO2 := hdq hown2; have HG2 := hdq hgrow2; clear hown2 hgrow2))
    have NX1 : Hid (H1W w1 y j1 w5) := hdq (by
     obtain ⟨q1, q2⟩ := QJ.out
     have hz := HH.out.read HAT.out HOI.out
     have hap := HOI.out.appended HOWN.out WF.out
     rw [NMQ.out] at hz
     have hst := HH.out.step (q := q) hz (q2 ▸ hap)
     rw [KJ.out.2.2.2] at q1 ⊢
     refine ⟨⟨_, HO2.out, ?_⟩, HW32.out.1.groups HOI.out HGR.out HG2.out (Nat.le_of_succ_le HW32.out.2) (Nat.le_succ _) (Nat.le_refl _), Nat.le_trans HW32.out.2 (Nat.le_trans HGR.out.size HG2.out.size)⟩
     rw [q1, NMQ.out, q2]
     exact hst)
    go_roundw
    case rel => exact ⟨j1, rfl, hdq KJ.out.1, NX1⟩
    case measure => simpa [intOf] using KJ.out.2.1
   ·obtain rfl : j = ny := by have := HJ.out; omega
    have S2 : Hid (H2W w1 y j T ((x.drop 0).flatMap (nmeet y)) (.slice none 0 0) wr) := hdq (by
     obtain ⟨⟨D, h1, h2⟩, h3, h4⟩ := HW.out
     rw [List.take_of_length_le (by have := NY.out; omega)] at h2
     exact ⟨⟨D, h1, h2⟩, ⟨[], by rw [HT.out]; rfl, Kd.R_nil _ _ _ _ _⟩, h3⟩)
    have HTL : Hid (T.length ≤ 1000000000000) := hdq (by
     rw [HT.out]
     have : ∀ l : List PK, (hashPairs l y).length ≤ l.length * y.length := by
      intro l
      induction l with
      | nil => simp [hashPairs]
      | cons a l ih =>
       have h : (nmeet y a).length ≤ y.length := by unfold nmeet; rw [List.length_map]; exact List.length_filter_le _ _
       have e : hashPairs (a :: l) y = nmeet y a ++ hashPairs l y := rfl
       rw [e, List.length_append, List.length_cons, Nat.add_mul, Nat.one_mul]
       omega
     have h1 := this x
     have h2 : x.length * y.length ≤ 1000000 * 1000000 := Nat.mul_le_mul (by have := BND.out; have := NX.out; omega) (by have := BND.out; have := NY.out; omega)
     omega)
    clear HW hj
    go_wp2
    go_loopw [59, 19] (fun vi vp wr2 => ∃ i : Nat, vi = .int .i64 i ∧ Hid (i ≤ nx) ∧ Hid (H2W w1 y j T ((x.drop i).flatMap (nmeet y)) vp wr2)) (fun vi _ _ => nx - (intOf vi).toNat)
    case atStart => exact ⟨0, rfl, hdq (Nat.zero_le _), S2⟩
    case round =>
     obtain ⟨i, rfl, HI, HW⟩ := hrel
     clear S2
     by_cases hi : i < nx
     ·obtain ⟨p, hp⟩ : ∃ p, x[i]? = some p := ⟨_, List.getElem?_eq_getElem (by have := NX.out; omega)⟩
      obtain ⟨b2, o2, e2, lb2, B1, k1, p0, p1, pl, pC⟩ := (KX.out.below HW.out.2.2).at hp
      subst e2
      obtain ⟨⟨r, hr, hnm⟩, hns, hwf⟩ := okN_at HO.out.2.1 (List.mem_of_getElem? hp)
      have hic : (i : Int) < (nx : Int) := by omega
      have hi0 : (0 : Int) ≤ (i : Int) := by omega
      obtain ⟨f0, hf0⟩ : ∃ z, z = p.f0 := ⟨_, rfl⟩
      obtain ⟨x1, hx1⟩ : ∃ z, z = p.f1.length := ⟨_, rfl⟩
      rw [← hf0] at p0
      rw [← hx1] at p1
      have BX := hdq (BoxK.new wr f0 (.slice B1 x1 k1))
      have BN := hdq (below_new wr (.cells #[.int .i64 f0, .slice B1 x1 k1] 80))
      have PUT : Hid (∀ W, Below wr.heap.size wr W → Calls Tryz.prog 42 #[.slice none 0 0, .slice B1 x1 k1] W fun e w' => ∃ v, e = .returned v ∧ (convert 81 9 v).run Tryz.prog w' = .ok (.string (nm p)) w' ∧ Below W.heap.size W w') := hdq (fun W hW => by
       rw [hnm]
       have hput := put_any rfl (Kd.C_below pC hW) pl hr
       rw [← hx1] at hput
       exact hput)
      obtain ⟨i1, hi1⟩ : ∃ i1, i1 = i + 1 := ⟨_, rfl⟩
      have KEY := hdq (keyAt_mk hns)
      have FM : Hid ((x.drop i).flatMap (nmeet y) = nmeet y p ++ (x.drop i1).flatMap (nmeet y)) := hdq (by
       obtain ⟨hil, e⟩ := List.getElem?_eq_some_iff.1 hp
       rw [List.drop_eq_getElem_cons hil, e, hi1]; rfl)
      have KI : Hid (i1 ≤ nx ∧ nx - i1 < nx - i ∧ i < 1000000 ∧ i1 = i + 1) := hdq (by have := BND.out; omega)
      have NM : Hid (nmeet y p = ((y.filter (fun q => decide (nm q = nm p))).map (fun q => q.f0)).map (fun z => (⟨f0, z⟩ : PP))) := hdq (by
       unfold nmeet
       rw [List.map_map, hf0]
       rfl)
      obtain ⟨nmq, hnmq⟩ : ∃ s, s = nm p := ⟨_, rfl⟩
      rw [← hnmq] at PUT KEY NM
      have ri := wrI_add (a := i) (b := 1) hi1.symm (by have := KI.out; omega)
      have si := wr_add (a := i) (b := 1) hi1.symm (by have := KI.out; clear ri; omega)
      simp only [Int.natCast_one] at ri si
      clear hp pl pC hr hnm hns hwf hf0 hx1 hi1 hnmq lb2 hi
      go_wp2_with (first
       | (go_at_call 42; refine (PUT.out _ BN.out).mono ?_; rintro e w3 ⟨vb, rfl, hcv, hb3⟩; have HW3 := hdq ((HW.out.below BN.out).below hb3); have BX3 := hdq (BX.out.below hb3); have hcell := BX3.out.cell; clear hb3; obtain ⟨D, hD, hH⟩ := HW3.out.1; have HD := hdq hD; have HH := hdq hH; clear hD hH)
       | (at_lookup; refine wpList_lookup_groups _ rfl _ _ 78 rfl 9 36 3 .i64 keyLaw Tryz.underlying78 (zeroInts _) (w1.heap.size + 1) w1.heap.size j D rfl HD.out (by have := BND.out; unfold maxLen; omega) _ _ rfl KEY.out ?_; intro v zs hat hoi hzl hback; have HAT := hdq hat; have HOI := hdq hoi; have HZL := hdq hzl; clear hat hzl hback; obtain ⟨Av, cv, rfl, hcells⟩ := ints_slice hoi; have HCE := hdq hcells; clear hcells hoi))
      have NMZ : Hid (nmeet y p = zs.map (fun z => (⟨f0, z⟩ : PP))) := hdq (by rw [NM.out, ← HH.out.read HAT.out HOI.out])
      have S3 : Hid (H2W w1 y j T ((zs.drop 0).map (fun z => (⟨f0, z⟩ : PP)) ++ (x.drop i1).flatMap (nmeet y)) u19 w3) := hdq (by
       have := HW3.out
       rw [FM.out, NMZ.out] at this
       exact this)
      have ZL : Hid (zs.length ≤ 1000000) := hdq (by have := HZL.out; have := BND.out; omega)
      clear hcv hcell HW3 HD HH HAT HZL HCE KEY PUT ri si
      have ri := wrI_add (a := i) (b := 1) KI.out.2.2.2.symm (by have := KI.out; omega)
      have si := wr_add (a := i) (b := 1) KI.out.2.2.2.symm (by have := KI.out; clear ri; omega)
      simp only [Int.natCast_one] at ri si
      go_loopw [70, 19] (fun vk vp wr3 => ∃ k : Nat, vk = .int .i64 k ∧ Hid (k ≤ zs.length) ∧ Hid (H2W w1 y j T ((zs.drop k).map (fun z => (⟨f0, z⟩ : PP)) ++ (x.drop i1).flatMap (nmeet y)) vp wr3) ∧ Hid (wr3.ownsInts (w1.heap.size + 1) 3 .i64 (.slice Av zs.length cv) zs) ∧ Hid (BoxK wr3 wr.heap.size f0)) (fun vk _ _ => zs.length - (intOf vk).toNat)
      case atStart => exact ⟨0, rfl, hdq (Nat.zero_le _), S3, HOI, BX3⟩
      case round =>
       obtain ⟨k, rfl, HK, HM4, HIN, HBX⟩ := hrel
       clear S3 HOI BX3 BX BN
       by_cases hk : k < zs.length
       ·obtain ⟨z, hz⟩ : ∃ z, zs[k]? = some z := ⟨_, List.getElem?_eq_getElem hk⟩
        obtain ⟨g, eg, hzc⟩ := ints_cell HIN.out hz
        subst eg
        have hkc : (k : Int) < (zs.length : Int) := by omega
        have hk0 : (0 : Int) ≤ (k : Int) := by omega
        obtain ⟨k2, hk2⟩ : ∃ k2, k2 = k + 1 := ⟨_, rfl⟩
        have CJ : Hid ((zs.drop k).map (fun z => (⟨f0, z⟩ : PP)) = ⟨f0, z⟩ :: (zs.drop k2).map (fun z => (⟨f0, z⟩ : PP))) := hdq (by
         obtain ⟨hjl, e⟩ := List.getElem?_eq_some_iff.1 hz
         rw [List.drop_eq_getElem_cons hjl, hk2, List.map_cons, e])
        have HM5 := HM4.out
        rw [CJ.out, List.cons_append] at HM5
        obtain ⟨hDD, ⟨out, hout, hown⟩, hbw⟩ := HM5
        have HOUT : Hid ((out ++ [(⟨f0, z⟩ : PP)]) ++ ((zs.drop k2).map (fun z => (⟨f0, z⟩ : PP)) ++ (x.drop i1).flatMap (nmeet y)) = T) := hdq (by rw [List.append_assoc]; exact hout)
        have HLEN : Hid (out.length < 1000000000000) := hdq (by
         have := HTL.out
         rw [← hout, List.length_append, List.length_cons] at this
         omega)
        have HOWN := hdq hown
        have HBW := hdq hbw
        have HDD := hdq hDD
        have KJ : Hid (k2 ≤ zs.length ∧ zs.length - k2 < zs.length - k ∧ k2 = k + 1) := hdq (by omega)
        have hcell := HBX.out.cell
        clear ri si
        have rj := wrI_add (a := k) (b := 1) hk2.symm (by have := ZL.out; have := KJ.out; omega)
        have sj := wr_add (a := k) (b := 1) hk2.symm (by have := ZL.out; have := KJ.out; clear rj; omega)
        simp only [Int.natCast_one] at rj sj
        clear HM4 hDD hout hown hbw hk2 hz
        go_wp2_with ((with_reducible refine gate_builtin (b := .append) (xs := #[.tmp 74, .tmp 79]) rfl ?_); at_builtin; refine Kd.R_append k71 (w0 := w1) w1.heap.size rfl (.tmp 74) (.tmp 79) 69 71 (.agg #[(.int .i64 0), (.int .i64 0)]) 16 rfl Tryz.underlying69 info71 rfl (by decide) (by omega) u19 out (⟨f0, z⟩ : PP) [.int .i64 f0, .int .i64 z] (fun k_ => w1.heap.size ≤ k_) (fun _ => False) ?ha ?hb ?hc ?hd ?aF ?aO ?aB ?aS ?aL ?_; (case ha => rfl); (case hb => rfl); (case hc => exact (k71_mkM _ _ _ (⟨f0, z⟩ : PP))); (case hd => exact (fun _ hk => hk.elim)); (case aF => exact (fun k_ hk => Nat.le_trans HBW.out.size hk)); (case aO => exact HOWN.out); (case aB => exact HBW.out); (case aS => exact HBW.out.size); (case aL => have := HLEN.out; omega); intro v7 w7 ho hb hg hat; have HM6 := hdq (show H2W w1 y j T ((zs.drop k2).map (fun z => (⟨f0, z⟩ : PP)) ++ (x.drop i1).flatMap (nmeet y)) v7 w7 from ⟨HDD.out.elim (fun D h => ⟨D, h.1.far HOWN.out hg, h.2⟩), ⟨_, HOUT.out, ho⟩, hb⟩); have HB6 := hdq (HBX.out.grown hg (fun cur hc => Kd.R_ne HOWN.out hc (by decide))); have HI6 := hdq (ints_far HIN.out HOWN.out hg); clear ho hb hg hat)
        go_roundw
        case rel => exact ⟨k2, rfl, hdq KJ.out.1, HM6, HI6, HB6⟩
        case measure => simpa [intOf] using KJ.out.2.1
       ·have HE := HM4.out
        rw [show zs.drop k = [] from List.drop_of_length_le (by omega)] at HE
        have HE := hdq (show H2W w1 y j T ((x.drop i1).flatMap (nmeet y)) u19 wr from HE)
        have hkc : ¬ (k : Int) < (zs.length : Int) := by omega
        have hkc2 : zs.length ≤ k := by omega
        clear hk HM4
        go_wp2
        go_roundw
        case rel => exact ⟨i1, rfl, hdq KI.out.1, HE⟩
        case measure => simpa [intOf] using KI.out.2.1
     ·obtain rfl : i = nx := by have := HI.out; omega
      have HF := HW.out.2
      rw [List.drop_of_length_le (by have := NX.out; omega)] at HF
      obtain ⟨Ap, cp, rfl, h6⟩ := CT.out w1 _ wr HB1.out HF
      have H6 := hdq h6
      clear h6 HF hi
      go_wp2_with (go_at_call 39; refine H6.out.mono ?_; rintro e w7 ⟨v0, rfl, q1, q2⟩; have H7 := hdq (And.intro q1 q2); clear q1 q2)
      go_ret2
      exact ⟨_, rfl, H7.out⟩
 ·rw [if_neg he] at h
  injection h with h
  injection h with e1 e2
  subst e1
  subst e2
  have hb1 : (er != 0) = true := by simp [he]
  obtain ⟨n0, hn0⟩ : ∃ n, n = l0.length := ⟨_, rfl⟩
  obtain ⟨n1, hn1⟩ : ∃ n, n = l1.length := ⟨_, rfl⟩
  obtain ⟨n2, hn2⟩ : ∃ n, n = l2.length := ⟨_, rfl⟩
  obtain ⟨n3, hn3⟩ : ∃ n, n = l3.length := ⟨_, rfl⟩
  obtain ⟨n4, hn4⟩ : ∃ n, n = l4.length := ⟨_, rfl⟩
  rw [← hn0, ← hn1, ← hn2, ← hn3] at CB
  rw [← hn0, ← hn1, ← hn2, ← hn3, ← hn4]
  clear hn0 hn1 hn2 hn3 hn4 hb hr0 hc0 hr1 hc1 hr2 hc2 hr3 hc3 hr4 hc4
  go_enter Tryz.func19, Tryz.ntmps19
  go_wp2_with (first
   | (go_at_call 41; refine CB.out.mono ?_; rintro e w1 ⟨vx, vy, rfl, hx, hy, hB⟩; have H1 := hdq hB; clear hx hy hB))
  go_ret2
  exact ⟨_, rfl, Kd.R_nil _ _ _ _ _, H1.out⟩
end Go.Proofs.YtgmolmpfihkolaaGreat
namespace Go.Proofs.YtgmolmpfihkolaaGreat.Pj
open Go.RowKit Go.Proofs.YtgmolmpfihkolaaGreatW.PrintWords Go.Proofs.YtgmolmpfihkolaaGreatW.PrintLast Go.Proofs.YtgmolmpfihkolaaGreatW.PrintMore
attribute [local go_sem] run_store_flt max2_int min2_int max_two min_two max_three min_three max_four min_four
set_option linter.unusedVariables false
set_option linter.unusedSimpArgs false
end Go.Proofs.YtgmolmpfihkolaaGreat.Pj
namespace Go.Proofs.YtgmolmpfihkolaaGreat
open Go.RowKit Go.Proofs.YtgmolmpfihkolaaGreatW.PrintWords Go.Proofs.YtgmolmpfihkolaaGreatW.PrintMore Go.Proofs.YtgmolmpfihkolaaGreat.Pj
set_option linter.unusedVariables false
set_option maxRecDepth 100000
theorem rowsWf_of {t : Tup} (h : wfRs t = true) : rowsWf (rsOf t) := by
 intro l hl v hv
 unfold rsOf at hl
 obtain ⟨r, hr, rfl⟩ := List.mem_map.1 hl
 obtain ⟨x, hx, rfl⟩ := List.mem_map.1 hv
 exact of_decide_eq_true (List.all_eq_true.1 (List.all_eq_true.1 h r hr) x hx)
mutual
theorem evalE_wf {rows : List (List Val)} (h : rowsWf rows) : ∀ e : PE, wfE e = true → (evalV rows (tOf e)).1.wf
 | ⟨k, r, c, v, ks⟩, hw => by
  simp only [wfE, Bool.and_eq_true] at hw
  rw [tOf]
  simp only [evalV]
  unfold combV
  split
  ·exact null_wf
  ·split
   ·exact null_wf
   ·refine opV_wf h _ _ _ _ _ _ (of_decide_eq_true hw.2.2.2.1) ?_
    have hk := evalEs_wf h ks hw.2.2.2.2
    cases ks with
    | nil => exact null_wf
    | cons t ts => exact hk t List.mem_cons_self
theorem evalEs_wf {rows : List (List Val)} (h : rowsWf rows) : ∀ l : List PE, wfEs l = true → ∀ e ∈ l, (evalV rows (tOf e)).1.wf
 | [], _, e, he => by cases he
 | x :: l, hw, e, he => by
  simp only [wfEs, Bool.and_eq_true] at hw
  rcases List.mem_cons.1 he with e1 | he
  ·rw [e1]; exact evalE_wf h x hw.1
  ·exact evalEs_wf h l hw.2 e he
end
theorem tellE_wf {t : Tup} (ht : wfRs t = true) {e : PE} (he : wfE e = true) : (tellV (rsOf t) (tOf e)).1.wf := by
 unfold tellV
 split
 ·exact evalE_wf (rowsWf_of ht) e he
 ·exact null_wf
theorem canon_wf {p : Val} (h : Canon p) : p.wf :=
 ⟨WalkArith.wf_i64 (by have := h.kind; omega), h.iwf, by simpa using h.fwf, by have := h.size; unfold maxLen; omega⟩
theorem plain_wfV {v : Val} (h : v.wf) : wfV (pOf (plainV v)) = true := decide_eq_true (by rw [vOf_pOf]; exact canon_wf (plain_canon h))
def keysP (l : List PE) (t : Tup) : List PV × Bool × Int := ((keysGo (rsOf t) [] true (tsOf l)).1.map pOf, (keysGo (rsOf t) [] true (tsOf l)).2.1, (keysGo (rsOf t) [] true (tsOf l)).2.2)
theorem keys_go (l : List PE) (t : Tup) (hl : wfEs l = true) (ht : wfRs t = true) (hn : l.length ≤ 1000000) : ∀ (m i : Nat) (acc : List Val) (sm : Bool), l.length - i = m → i ≤ l.length → acc.length + m ≤ 2000000 → ∀ K, m + 1 ≤ K →
 joins_Keys.l0 K t (acc.map pOf) sm l (l.length : Int) (i : Int) = some ((keysGo (rsOf t) acc sm (tsOf (l.drop i))).1.map pOf, (keysGo (rsOf t) acc sm (tsOf (l.drop i))).2.1, (keysGo (rsOf t) acc sm (tsOf (l.drop i))).2.2) := by
 intro m
 induction m with
 | zero =>
  intro i acc sm hm hi ha K hK
  obtain ⟨K, rfl⟩ : ∃ K', K = K' + 1 := ⟨K - 1, by omega⟩
  rw [joins_Keys.l0, if_neg (by omega), List.drop_of_length_le (by omega)]; rfl
 | succ m ih =>
  intro i acc sm hm hi ha K hK
  obtain ⟨K, rfl⟩ : ∃ K', K = K' + 1 := ⟨K - 1, by omega⟩
  have hil : i < l.length := by omega
  have he := wfEs_at hl i hil
  have hw := tellE_wf ht he
  rw [joins_Keys.l0, if_pos (by omega), if_pos (by omega), if_pos (by omega), rd53 l i hil, eval_f he ht, Option.bind_some, tsOf_drop l i hil]
  obtain ⟨x, hx⟩ : ∃ x, x = tellV (rsOf t) (tOf l[i]) := ⟨_, rfl⟩
  simp only [keysGo]
  rw [← hx] at hw ⊢
  (try simp only)
  by_cases h1 : x.2 = 0
  ·rw [if_pos h1, if_neg (show ¬ x.2 ≠ 0 from fun h => h h1)]
   have hp : value_Plain.f x.1.kind x.1.int x.1.flt x.1.text = some ((plainV x.1).kind, (plainV x.1).int, (plainV x.1).flt, (plainV x.1).text) := by
    unfold value_Plain.f plainF
    rw [if_pos (show wfV ⟨x.1.kind, x.1.int, x.1.flt, x.1.text⟩ = true from decide_eq_true hw)]; rfl
   have hm2 : (acc ++ [plainV x.1]).map pOf = acc.map pOf ++ [pOf (plainV x.1)] := by rw [List.map_append]; rfl
   cases sm with
   | true =>
    rw [if_pos rfl, hp, Option.bind_some, if_pos (by rw [List.length_map]; omega), w64 (by omega)]
    have := ih (i + 1) (acc ++ [plainV x.1]) (x.1.kind != 0) (by omega) (by omega) (by rw [List.length_append, List.length_singleton]; omega) K (by omega)
    rw [hm2] at this
    have e : (true && decide (x.1.kind ≠ 0)) = (x.1.kind != 0) := by
     rw [Bool.true_and]
     by_cases h : x.1.kind = 0 <;> simp [h]
    rw [e]
    exact this
   | false =>
    rw [if_neg (by simp), hp, Option.bind_some, if_pos (by rw [List.length_map]; omega), w64 (by omega)]
    have := ih (i + 1) (acc ++ [plainV x.1]) false (by omega) (by omega) (by rw [List.length_append, List.length_singleton]; omega) K (by omega)
    rw [hm2] at this
    rw [Bool.false_and]
    exact this
  ·rw [if_neg h1, if_pos (show x.2 ≠ 0 from h1)]; rfl
theorem keys_f (K : Nat) (l : List PE) (t : Tup) (hl : okLs l) (ht : wfRs t = true) (hK : 2000 ≤ K) : joins_Keys.f K l t = some (keysP l t) := by
 unfold joins_Keys.f
 have := hl.2
 exact keys_go l t hl.1 ht (by omega) l.length 0 [] true (by omega) (Nat.zero_le _) (by simp; omega) K (by omega)
theorem keysGo_wf {t : Tup} (ht : wfRs t = true) : ∀ (l : List PE) (acc : List Val) (sm : Bool), wfEs l = true → (∀ v ∈ acc, wfV (pOf v) = true) → (∀ v ∈ (keysGo (rsOf t) acc sm (tsOf l)).1, wfV (pOf v) = true) ∧ (keysGo (rsOf t) acc sm (tsOf l)).1.length ≤ acc.length + l.length
 | [], acc, sm, _, ha => ⟨by rw [tsOf]; exact ha, by rw [tsOf]; simp [keysGo]⟩
 | e :: l, acc, sm, hl, ha => by
  simp only [wfEs, Bool.and_eq_true] at hl
  rw [tsOf]
  simp only [keysGo]
  split
  ·exact ⟨fun v hv => (by cases hv), by simp⟩
  ·have := keysGo_wf ht l (acc ++ [plainV (tellV (rsOf t) (tOf e)).1]) (sm && decide ((tellV (rsOf t) (tOf e)).1.kind ≠ 0)) hl.2 (fun v hv => by
    rcases List.mem_append.1 hv with hv | hv
    ·exact ha v hv
    ·rw [List.mem_singleton.1 hv]; exact plain_wfV (tellE_wf ht hl.1))
   exact ⟨this.1, by have := this.2; rw [List.length_append, List.length_singleton] at this; rw [List.length_cons]; omega⟩
theorem keysP_wf {t : Tup} (ht : wfRs t = true) {l : List PE} (hl : okLs l) : wfR (keysP l t).1 = true ∧ (keysP l t).1.length ≤ 1000 := by
 have h := keysGo_wf ht l [] true hl.1 (fun v hv => by cases hv)
 refine ⟨List.all_eq_true.2 (fun x hx => ?_), ?_⟩
 ·obtain ⟨v, hv, rfl⟩ := List.mem_map.1 hx
  exact h.1 v hv
 ·show (List.map pOf _).length ≤ 1000
  rw [List.length_map]
  have := h.2
  have := hl.2
  have : ([] : List Val).length = 0 := rfl
  omega
def kgo (l : List PE) : List Tup → Nat → List PK → List PK × Int
 | [], _, acc => (acc, 0)
 | t :: ts, i, acc => if (keysP l t).2.2 ≠ 0 then ([], (keysP l t).2.2) else kgo l ts (i + 1) (if (keysP l t).2.1 then acc ++ [⟨(i : Int), (keysP l t).1⟩] else acc)
theorem keyedAll_go (l : List PE) (ts : List Tup) (hl : okLs l) (ht : okTups ts) : ∀ (m i : Nat) (acc : List PK), ts.length - i = m → i ≤ ts.length → acc.length + m ≤ 2000000 → ∀ K, m + 2001 ≤ K → joins_keyedAll.l0 K l acc ts (ts.length : Int) (i : Int) = some (kgo l (ts.drop i) i acc) := by
 intro m
 induction m with
 | zero =>
  intro i acc hm hi ha K hK
  obtain ⟨K, rfl⟩ : ∃ K', K = K' + 1 := ⟨K - 1, by omega⟩
  rw [joins_keyedAll.l0, if_neg (by omega), List.drop_of_length_le (by omega)]; rfl
 | succ m ih =>
  intro i acc hm hi ha K hK
  obtain ⟨K, rfl⟩ : ∃ K', K = K' + 1 := ⟨K - 1, by omega⟩
  have hil : i < ts.length := by omega
  have h1000 := ht.1
  rw [joins_keyedAll.l0, if_pos (by omega), if_pos (by omega), if_pos (by omega), rd6, getD_at _ _ _ hil, keys_f K l _ hl (ht.2 _ (List.getElem_mem hil)).1 (by omega), Option.bind_some, List.drop_eq_getElem_cons hil, kgo]
  obtain ⟨x, hx⟩ : ∃ x, x = keysP l ts[i] := ⟨_, rfl⟩
  rw [← hx]
  by_cases h1 : x.2.2 = 0
  ·rw [if_pos h1, if_neg (show ¬ x.2.2 ≠ 0 from fun h => h h1)]
   by_cases h2 : x.2.1 = true
   ·rw [if_pos h2, if_pos (by omega), if_pos h2, w64 (by omega)]
    exact ih (i + 1) _ (by omega) (by omega) (by rw [List.length_append, List.length_singleton]; omega) K (by omega)
   ·rw [if_neg h2, if_neg h2, w64 (by omega)]
    exact ih (i + 1) _ (by omega) (by omega) (by omega) K (by omega)
  ·rw [if_neg h1, if_pos (show x.2.2 ≠ 0 from h1)]
theorem keyedAll_f (K : Nat) (l : List PE) (ts : List Tup) (hl : okLs l) (ht : okTups ts) (hK : 4000 ≤ K) : joins_keyedAll.f K l ts = some (kgo l ts 0 []) := by
 unfold joins_keyedAll.f
 have := ht.1
 exact keyedAll_go l ts hl ht ts.length 0 [] (by omega) (Nat.zero_le _) (by simp; omega) K (by omega)
def kAt (l : List PE) (t : Tup) (i : Nat) : List PK := if (keysP l t).2.1 then [⟨(i : Int), (keysP l t).1⟩] else []
theorem kgo_list (l : List PE) : ∀ (ts : List Tup) (i : Nat) (acc : List PK), (kgo l ts i acc).2 = 0 → (kgo l ts i acc).1 = acc ++ (ts.zipIdx i).flatMap (fun x => kAt l x.1 x.2)
 | [], i, acc, _ => by simp [kgo]
 | t :: ts, i, acc, h => by
  rw [kgo] at h ⊢
  by_cases h1 : (keysP l t).2.2 ≠ 0
  ·rw [if_pos h1] at h
   exact absurd h h1
  ·rw [if_neg h1] at h ⊢
   rw [kgo_list l ts (i + 1) _ h, List.zipIdx_cons, List.flatMap_cons]
   unfold kAt
   by_cases h2 : (keysP l t).2.1 = true
   ·rw [if_pos h2]; simp [h2]
   ·rw [if_neg h2]; simp [h2]
theorem kgo_mem (l : List PE) {ts : List Tup} {i : Nat} {p : PK} (h : p ∈ (ts.zipIdx i).flatMap (fun x => kAt l x.1 x.2)) : ∃ (k : Nat) (t : Tup), ts[k]? = some t ∧ p.f0 = ((i + k : Nat) : Int) ∧ p.f1 = (keysP l t).1 := by
 obtain ⟨⟨t, j⟩, hx, hp⟩ := List.mem_flatMap.1 h
 obtain ⟨k, hk⟩ := List.mem_iff_getElem?.1 hx
 rw [List.getElem?_zipIdx] at hk
 obtain ⟨t', ht', e⟩ := Option.map_eq_some_iff.1 hk
 obtain ⟨rfl, rfl⟩ : t' = t ∧ i + k = j := by simpa using e
 unfold kAt at hp
 split at hp
 ·have : p = ⟨((i + k : Nat) : Int), (keysP l t').1⟩ := by simpa using hp
  exact ⟨k, t', ht', by rw [this], by rw [this]⟩
 ·cases hp
theorem kgo_up (l : List PE) : ∀ (ts : List Tup) (i : Nat), ((ts.zipIdx i).flatMap (fun x => kAt l x.1 x.2)).Pairwise (fun p q => p.f0 < q.f0)
 | [], i => by simp
 | t :: ts, i => by
  rw [List.zipIdx_cons, List.flatMap_cons]
  refine List.pairwise_append.2 ⟨?_, kgo_up l ts (i + 1), fun p hp q hq => ?_⟩
  ·unfold kAt
   split <;> simp
  ·obtain ⟨k, t', _, e, _⟩ := kgo_mem l hq
   unfold kAt at hp
   split at hp
   ·have : p = ⟨(i : Int), (keysP l t).1⟩ := by simpa using hp
    rw [this, e]
    show (i : Int) < _
    omega
   ·cases hp
theorem kgo_ok (l : List PE) (hl : okLs l) (ts : List Tup) (ht : okTups ts) (h : (kgo l ts 0 []).2 = 0) : okK (kgo l ts 0 []).1 = true ∧ okN (kgo l ts 0 []).1 = true ∧ ∀ p ∈ (kgo l ts 0 []).1, wfR p.f1 = true ∧ p.f1.length ≤ 1000 ∧ 0 ≤ p.f0 ∧ p.f0 < (ts.length : Int) := by
 have e := kgo_list l ts 0 [] h
 rw [List.nil_append] at e
 have each : ∀ p ∈ (kgo l ts 0 []).1, wfR p.f1 = true ∧ p.f1.length ≤ 1000 ∧ 0 ≤ p.f0 ∧ p.f0 < (ts.length : Int) := by
  intro p hp
  rw [e] at hp
  obtain ⟨k, t, hk, e0, e1⟩ := kgo_mem l hp
  have hm := List.mem_of_getElem? hk
  have hkl := (List.getElem?_eq_some_iff.1 hk).1
  have hw := keysP_wf (ht.2 t hm).1 hl
  exact ⟨by rw [e1]; exact hw.1, by rw [e1]; exact hw.2, by omega, by omega⟩
 have hlen : (kgo l ts 0 []).1.length ≤ ts.length := by
  rw [e]
  have : ∀ (ts : List Tup) (i : Nat), ((ts.zipIdx i).flatMap (fun x => kAt l x.1 x.2)).length ≤ ts.length := by
   intro ts
   induction ts with
   | nil => intro i; simp
   | cons t ts ih =>
    intro i
    rw [List.zipIdx_cons, List.flatMap_cons, List.length_append, List.length_cons]
    have h1 : (kAt l t i).length ≤ 1 := by unfold kAt; split <;> simp
    show (kAt l t i).length + _ ≤ _
    have h2 := ih (i + 1)
    omega
  exact this ts 0
 refine ⟨?_, ?_, each⟩
 ·unfold okK
  simp only [Bool.and_eq_true, decide_eq_true_eq, List.all_eq_true]
  exact ⟨by rw [e]; exact kgo_up l ts 0, fun p hp => (each p hp).1, by have := ht.1; omega⟩
 ·unfold okN
  refine List.all_eq_true.2 (fun p hp => ?_)
  obtain ⟨h1, h2, h3, h4⟩ := each p hp
  obtain ⟨n1, n2⟩ := nm_some h1 h2
  have hb : (encR p.f1).length ≤ 100000 := by
   unfold encR
   have hu := encU_length 9 p.f1.length (Nat.lt_of_le_of_lt h2 (by decide))
   have hf : ∀ l : List PV, wfR l = true → (l.flatMap (fun v => encP (plainV (vOf v)))).length ≤ l.length * 80 := by
    intro l
    induction l with
    | nil => intro _; simp
    | cons a l ih =>
     intro hw
     simp only [wfR, List.all_cons, Bool.and_eq_true] at hw
     rw [List.flatMap_cons, List.length_append, List.length_cons]
     have q1 := encP_length (plain_canon (of_decide_eq_true hw.1 : (vOf a).wf))
     have q2 := ih hw.2
     omega
   have := hf p.f1 h1
   rw [List.length_append]
   omega
  simp only [Bool.and_eq_true, decide_eq_true_eq]
  refine ⟨by rw [n1]; rfl, by rw [n2, strOfNums_size]; unfold maxLen; omega, WalkArith.wf_i64 ?_⟩
  have := ht.1
  omega
def kerr (l : List PE) : List Tup → Int
 | [] => 0
 | t :: ts => if (keysP l t).2.2 ≠ 0 then (keysP l t).2.2 else kerr l ts
theorem kgo_err (l : List PE) : ∀ (ts : List Tup) (i : Nat) (acc : List PK), (kgo l ts i acc).2 = kerr l ts
 | [], i, acc => rfl
 | t :: ts, i, acc => by
  rw [kgo, kerr]
  split
  ·rfl
  ·exact kgo_err l ts _ _
theorem kgo_length (l : List PE) (ts : List Tup) (h : (kgo l ts 0 []).2 = 0) : (kgo l ts 0 []).1.length ≤ ts.length := by
 rw [kgo_list l ts 0 [] h, List.nil_append]
 have : ∀ (ts : List Tup) (i : Nat), ((ts.zipIdx i).flatMap (fun x => kAt l x.1 x.2)).length ≤ ts.length := by
  intro ts
  induction ts with
  | nil => intro i; simp
  | cons t ts ih =>
   intro i
   rw [List.zipIdx_cons, List.flatMap_cons, List.length_append, List.length_cons]
   have h1 : (kAt l t i).length ≤ 1 := by unfold kAt; split <;> simp
   have h2 := ih (i + 1)
   show (kAt l t i).length + _ ≤ _
   omega
 exact this ts 0
theorem both_f (a b : List Tup) (l2 l3 : List PE) (ha : okTups a) (hb : okTups b) (h2 : okLs l2) (h3 : okLs l3) (K : Nat) (hK : 5000 ≤ K) : joins_both.f K a b l2 l3 = some (if l2.length ≠ l3.length ∨ l2.length = 0 then ([], [], 2) else if kerr l2 a ≠ 0 then ([], [], kerr l2 a) else if kerr l3 b ≠ 0 then ([], [], kerr l3 b) else ((kgo l2 a 0 []).1, (kgo l3 b 0 []).1, 0)) := by
 obtain ⟨K, rfl⟩ : ∃ K', K = K' + 1 := ⟨K - 1, by omega⟩
 unfold joins_both.f
 by_cases e1 : l2.length = l3.length
 ·rw [if_pos (by omega), joins_both.j0]
  by_cases e2 : l2.length = 0
  ·rw [if_pos (show ((l2.length : Int) == 0) = true by simp [e2]), if_pos (Or.inr e2)]
  ·rw [if_neg (show ¬ ((l2.length : Int) == 0) = true from fun h => e2 (by rw [beq_iff_eq] at h; omega)), if_neg (show ¬ (l2.length ≠ l3.length ∨ l2.length = 0) by omega), keyedAll_f K l2 a h2 ha (by omega), Option.bind_some, kgo_err]
   by_cases e3 : kerr l2 a = 0
   ·rw [if_pos e3, if_neg (show ¬ kerr l2 a ≠ 0 from fun h => h e3), keyedAll_f K l3 b h3 hb (by omega), Option.bind_some, kgo_err]
    by_cases e4 : kerr l3 b = 0
    ·rw [if_pos e4, if_neg (show ¬ kerr l3 b ≠ 0 from fun h => h e4)]
    ·rw [if_neg e4, if_pos (show kerr l3 b ≠ 0 from e4)]
   ·rw [if_neg e3, if_pos (show kerr l2 a ≠ 0 from e3)]
 ·rw [if_neg (by omega), joins_both.j0, if_pos rfl, if_pos (Or.inl e1)]
def keyedR (a b : List Tup) (l2 l3 l4 : List PE) : List Tup × Int := if l2.length ≠ l3.length ∨ l2.length = 0 then ([], 2) else if kerr l2 a ≠ 0 then ([], kerr l2 a) else if kerr l3 b ≠ 0 then ([], kerr l3 b) else toldGo a b l4 (pairsOf (kgo l2 a 0 []).1 (kgo l3 b 0 []).1) []
theorem hash_pairs {xs ys : List PK} (hx : ∀ p ∈ xs, wfR p.f1 = true ∧ p.f1.length ≤ 1000) (hy : ∀ p ∈ ys, wfR p.f1 = true ∧ p.f1.length ≤ 1000) : hashPairs xs ys = pairsOf xs ys := by
 unfold hashPairs pairsOf
 rw [List.flatMap_def, List.flatMap_def]
 congr 1
 refine List.map_congr_left (fun p hp => ?_)
 unfold nmeet meetOf
 congr 1
 refine List.filter_congr (fun q hq => ?_)
 have := nm_one (hx p hp).1 (hy q hq).1 (hx p hp).2 (hy q hq).2
 by_cases e : kc p q = 0
 ·rw [decide_eq_true (this.2 e), e]; rfl
 ·rw [decide_eq_false (fun h => e (this.1 h))]; simp [e]
theorem pairs_in (a b : List Tup) {xs ys : List PK} (hx : ∀ p ∈ xs, 0 ≤ p.f0 ∧ p.f0 < (a.length : Int)) (hy : ∀ p ∈ ys, 0 ≤ p.f0 ∧ p.f0 < (b.length : Int)) : ∀ p ∈ pairsOf xs ys, inAB a b p := by
 intro p hp
 unfold pairsOf at hp
 obtain ⟨x, hxm, hp⟩ := List.mem_flatMap.1 hp
 unfold meetOf at hp
 obtain ⟨y, hym, rfl⟩ := List.mem_map.1 hp
 have h1 := hx x hxm
 have h2 := hy y (List.mem_filter.1 hym).1
 exact ⟨h1.1, h1.2, h2.1, h2.2⟩
theorem keyed_both (a b : List Tup) (l2 l3 l4 : List PE) (ha : okTups a) (hb : okTups b) (h2 : okLs l2) (h3 : okLs l3) (h4 : okLs l4) (na : a.length ≤ 30) (nb : b.length ≤ 30) : keyedF a b l2 l3 l4 = some (keyedR a b l2 l3 l4) ∧ hashF a b l2 l3 l4 = some (keyedR a b l2 l3 l4) := by
 unfold keyedF hashF keyedR
 rw [both_f a b l2 l3 ha hb h2 h3 KF (by unfold KF; omega), Option.bind_some, Option.bind_some]
 by_cases e1 : l2.length ≠ l3.length ∨ l2.length = 0
 ·rw [if_pos e1, if_pos e1]
  exact ⟨rfl, rfl⟩
 ·rw [if_neg e1, if_neg e1]
  by_cases e2 : kerr l2 a ≠ 0
  ·rw [if_pos e2, if_pos e2]
   simp only
   rw [if_neg e2, if_neg e2]
   exact ⟨rfl, rfl⟩
  ·rw [if_neg e2, if_neg e2]
   by_cases e3 : kerr l3 b ≠ 0
   ·rw [if_pos e3, if_pos e3]
    simp only
    rw [if_neg e3, if_neg e3]
    exact ⟨rfl, rfl⟩
   ·rw [if_neg e3, if_neg e3]
    simp only
    have z2 : (kgo l2 a 0 []).2 = 0 := by rw [kgo_err]; simpa using e2
    have z3 : (kgo l3 b 0 []).2 = 0 := by rw [kgo_err]; simpa using e3
    obtain ⟨o1, o2, o3⟩ := kgo_ok l2 h2 a ha z2
    obtain ⟨o4, o5, o6⟩ := kgo_ok l3 h3 b hb z3
    have hin := pairs_in a b (fun p hp => ⟨(o3 p hp).2.2.1, (o3 p hp).2.2.2⟩) (fun p hp => ⟨(o6 p hp).2.2.1, (o6 p hp).2.2.2⟩)
    have hlen : (pairsOf (kgo l2 a 0 []).1 (kgo l3 b 0 []).1).length ≤ 30 * 30 :=
     Nat.le_trans (pairs_length _ _) (Nat.mul_le_mul (Nat.le_trans (kgo_length l2 a z2) na) (Nat.le_trans (kgo_length l3 b z3) nb))
    have ht := told_f a b l4 ha hb h4 _ hin KF (by unfold KF; omega) (by unfold KF; omega)
    rw [o1, o2, o4, o5, hash_pairs (fun p hp => ⟨(o3 p hp).1, (o3 p hp).2.1⟩) (fun p hp => ⟨(o6 p hp).1, (o6 p hp).2.1⟩)]
    exact ⟨ht, ht⟩
end Go.Proofs.YtgmolmpfihkolaaGreat
namespace Go.Proofs.YtgmolmpfihkolaaGreat.Pj
open Go.RowKit Go.Proofs.YtgmolmpfihkolaaGreatW.PrintWords Go.Proofs.YtgmolmpfihkolaaGreatW.PrintLast Go.Proofs.YtgmolmpfihkolaaGreatW.PrintMore
attribute [local go_sem] run_store_flt max2_int min2_int max_two min_two max_three min_three max_four min_four
set_option linter.unusedVariables false
set_option linter.unusedSimpArgs false
mutual
def r22_Bulk.l0 : Nat → List (S53) → Int → Int → Int → Option (Int)
 | 0, _, _, _, _ => none
 | k + 1, x0, x1, x5, x6 => if x6 < (x0.length : Int) then (r22_Bulk.j1 k x0 x1 x5 x6 (decide (x5 ≤ x1))) else (r22_Bulk.j1 k x0 x1 x5 x6 false)
def r22_Bulk.j1 : Nat → List (S53) → Int → Int → Int → Bool → Option (Int)
 | 0, _, _, _, _, _ => none
 | k + 1, x0, x1, x5, x6, x23 => if x23 = true then (if 0 ≤ x6 then (if x6 < (x0.length : Int) then (if (((rd_T53 x0 x6).f3.f3).size : Int) > x1 then (some (wrap64 (x1 + 1))) else (if (wrap64 (x5 + (((rd_T53 x0 x6).f3.f3).size : Int))) ≤ x1 then ((r22_Bulk.f k ((rd_T53 x0 x6).f4) (wrap64 (x1 - (wrap64 (x5 + (((rd_T53 x0 x6).f3.f3).size : Int)))))).bind fun t104 => (r22_Bulk.l0 k x0 x1 (wrap64 ((wrap64 (x5 + (((rd_T53 x0 x6).f3.f3).size : Int))) + t104)) (wrap64 (x6 + 1)))) else (r22_Bulk.l0 k x0 x1 (wrap64 (x5 + (((rd_T53 x0 x6).f3.f3).size : Int))) (wrap64 (x6 + 1))))) else (none)) else (none)) else (some x5)
def r22_Bulk.f : Nat → List (S53) → Int → Option (Int)
 | 0, _, _ => none
 | k + 1, l0, a1 => if (l0.length : Int) > a1 then (some (wrap64 (a1 + 1))) else (r22_Bulk.l0 k l0 a1 (l0.length : Int) 0)
end
set_option maxHeartbeats 8000000 in
set_option maxRecDepth 100000 in
theorem r22_Bulk.calls (k : Nat) : ∀ (A0 : Option Addr) (c0 : Nat) (l0 : List (S53)) (a1 : Int) (r : Int) (w : World) (hr0 : Kd.C k53 w A0 l0.length l0) (hc0 : l0.length ≤ c0) (h : r22_Bulk.f k l0 a1 = some r),
 Calls Tryz.prog 28 #[.slice A0 l0.length c0, .int .i64 a1] w fun e w' => e = .returned (.int .i64 r) ∧ Drawn0 w w' := by
 induction k using Nat.strongRecOn with
 | _ k ih =>
 intro A0 c0 l0 a1 r w hr0 hc0 h
 cases k with
 | zero => exact absurd h (by simp [r22_Bulk.f])
 | succ k =>
 simp only [r22_Bulk.f] at h
 have HR0 := akk hr0
 have HC0 := akk hc0
 clear hr0 hc0
 have H : (if (l0.length : Int) > a1 then (some (wrap64 (a1 + 1))) else (r22_Bulk.l0 k l0 a1 (l0.length : Int) 0)) = some r := h
 clear h
 by_cases c3 : (l0.length : Int) > a1
 ·rw [if_pos c3] at H
  have c3b0 := decide_eq_true c3
  clear c3
  obtain rfl := Option.some.inj H
  go_enter Tryz.func28, Tryz.ntmps28
  go_wp2
  go_ret
  exact ⟨by first | rfl | (simp; done) | (simp [*]; done), by repeat (first | exact Drawn0.refl _ | apply Drawn0.step)⟩
 ·rw [if_neg c3] at H
  have c3b0 := decide_eq_false c3
  clear c3
  have H' := akk H
  clear H
  go_enter Tryz.func28, Tryz.ntmps28
  go_wp2
  go_loopg [5, 6] k (fun kq v5 v6 w' => ∃ (x5_1 : Int) (x6_1 : Int), v5 = .int .i64 x5_1 ∧ v6 = .int .i64 x6_1 ∧ Aside0 (r22_Bulk.l0 kq l0 a1 x5_1 x6_1 = some r) ∧ Aside0 (kq ≤ k) ∧ Drawn0 w w')
  case atStart => exact ⟨((l0.length : Int)), (0), eT, eT, H', ⟨Nat.le_refl _⟩, by repeat (first | exact Drawn0.refl _ | apply Drawn0.step)⟩
  case round =>
   clear H'
   try clear c3b0
   obtain ⟨x5_1, x6_1, rfl, rfl, HA, HK1, ⟨m1, rfl⟩⟩ := hrel
   cases gk with
   | zero => exact absurd HA.out (by simp [r22_Bulk.l0])
   | succ k1 =>
    have H := HA.out
    clear HA
    simp only [r22_Bulk.l0] at H
    have HC4 := akk H
    clear H
    go_upto_region 5 with (fail)
    go_cut [23] (fun v23 wc => ∃ (kq : Nat) (x23_3 : Bool), v23 = .bool x23_3 ∧ Aside0 (r22_Bulk.j1 kq l0 a1 x5_1 x6_1 x23_3 = some r) ∧ Aside0 (kq ≤ k1) ∧ Drawn0 w wc)
    case first =>
     have H := HC4.out
     clear HC4
     by_cases c5 : x6_1 < (l0.length : Int)
     ·rw [if_pos c5] at H
      have c5b0 := decide_eq_true c5
      clear c5
      (first | rw [c5b0] | (simp only [i64_w, i32_w]; rw [c5b0]) | skip)
      have H' := akk H
      clear H
      go_wp2
      go_meet
      case rel => exact ⟨_, (decide (x5_1 ≤ a1)), eT, H', ⟨by have := HK1.out; first | omega | exact Nat.le_refl _⟩, by repeat (first | exact Drawn0.refl _ | apply Drawn0.step)⟩
     ·rw [if_neg c5] at H
      have c5b0 := decide_eq_false c5
      clear c5
      (first | rw [c5b0] | (simp only [i64_w, i32_w]; rw [c5b0]) | skip)
      have H' := akk H
      clear H
      go_wp2
      go_meet
      case rel => exact ⟨_, (false), eT, H', ⟨by have := HK1.out; first | omega | exact Nat.le_refl _⟩, by repeat (first | exact Drawn0.refl _ | apply Drawn0.step)⟩
    case rest =>
     clear HC4
     obtain ⟨kq, x23_3, rfl, HA, HJ3, ⟨mc3, rfl⟩⟩ := hcut
     cases kq with
     | zero => exact absurd HA.out (by simp [r22_Bulk.j1])
     | succ kj3 =>
      have H := HA.out
      clear HA
      simp only [r22_Bulk.j1] at H
      by_cases c6 : x23_3 = true
      ·subst c6
       rw [if_pos rfl] at H
       by_cases c7 : 0 ≤ x6_1
       ·rw [if_pos c7] at H
        have c7b0 := decide_eq_true c7
        clear c7
        by_cases c8 : x6_1 < (l0.length : Int)
        ·rw [if_pos c8] at H
         have c8b0 := decide_eq_true c8
         clear c8
         by_cases c9 : (((rd_T53 l0 x6_1).f3.f3).size : Int) > a1
         ·rw [if_pos c9] at H
          have c9b0 := decide_eq_true c9
          clear c9
          obtain rfl := Option.some.inj H
          have p101 : 0 ≤ (x6_1 : Int) := of_decide_eq_true aT
          have q101 : x6_1 < (l0.length : Int) := of_decide_eq_true aT
          obtain ⟨ad101, A101_7, c101_7, e101, hx101_0, hx101_1, hx101_2, hx101_3, hx101_4, hx101_5, hx101_6, hx101_7, hl101_7, hi101_7⟩ := at_T53 HR0.out x6_1 p101 q101
          cases e101
          have HR101_7 := akk hi101_7
          have HC101_7 := akk hl101_7
          clear hi101_7 hl101_7
          replace p101 := eq_true p101
          replace q101 := eq_true q101
          go_wp2
          go_ret
          exact ⟨by first | rfl | (simp; done) | (simp [*]; done), by repeat (first | exact Drawn0.refl _ | apply Drawn0.step)⟩
         ·rw [if_neg c9] at H
          have c9b0 := decide_eq_false c9
          clear c9
          by_cases c10 : (wrap64 (x5_1 + (((rd_T53 l0 x6_1).f3.f3).size : Int))) ≤ a1
          ·rw [if_pos c10] at H
           have c10b0 := decide_eq_true c10
           clear c10
           obtain ⟨t104, A11, H⟩ := bi H
           try dsimp only at H
           have H' := akk H
           clear H
           have p101 : 0 ≤ (x6_1 : Int) := of_decide_eq_true aT
           have q101 : x6_1 < (l0.length : Int) := of_decide_eq_true aT
           obtain ⟨ad101, A101_7, c101_7, e101, hx101_0, hx101_1, hx101_2, hx101_3, hx101_4, hx101_5, hx101_6, hx101_7, hl101_7, hi101_7⟩ := at_T53 HR0.out x6_1 p101 q101
           cases e101
           have HR101_7 := akk hi101_7
           have HC101_7 := akk hl101_7
           clear hi101_7 hl101_7
           replace p101 := eq_true p101
           replace q101 := eq_true q101
           have p102 : 0 ≤ (x6_1 : Int) := of_decide_eq_true aT
           have q102 : x6_1 < (l0.length : Int) := of_decide_eq_true aT
           obtain ⟨ad102, A102_7, c102_7, e102, hx102_0, hx102_1, hx102_2, hx102_3, hx102_4, hx102_5, hx102_6, hx102_7, hl102_7, hi102_7⟩ := at_T53 HR0.out x6_1 p102 q102
           obtain rfl : ad101 = ad102 := (by injection e102)
           have HR102_7 := akk hi102_7
           have HC102_7 := akk hl102_7
           clear hi102_7 hl102_7
           replace p102 := eq_true p102
           replace q102 := eq_true q102
           have ea_ := Option.some.inj (hx101_7.symm.trans hx102_7)
           injection ea_ with ea_ en_ ec_
           subst ea_
           subst ec_
           clear en_
           have p103 : 0 ≤ (x6_1 : Int) := of_decide_eq_true aT
           have q103 : x6_1 < (l0.length : Int) := of_decide_eq_true aT
           obtain ⟨ad103, A103_7, c103_7, e103, hx103_0, hx103_1, hx103_2, hx103_3, hx103_4, hx103_5, hx103_6, hx103_7, hl103_7, hi103_7⟩ := at_T53 HR0.out x6_1 p103 q103
           obtain rfl : ad101 = ad103 := (by injection e103)
           have HR103_7 := akk hi103_7
           have HC103_7 := akk hl103_7
           clear hi103_7 hl103_7
           replace p103 := eq_true p103
           replace q103 := eq_true q103
           have ea_ := Option.some.inj (hx101_7.symm.trans hx103_7)
           injection ea_ with ea_ en_ ec_
           subst ea_
           subst ec_
           clear en_
           go_wp2_with (refine gT 28 (some 58) Tryz.func28 #[.slice A101_7 ((rd_T53 l0 x6_1).f4).length c101_7, .int .i64 (wrap64 (a1 - (wrap64 (x5_1 + (((rd_T53 l0 x6_1).f3.f3).size : Int)))))] ?_; (with_reducible refine (ih kj3 (by have := HK1.out; have := HJ3.out; omega) _ _ ((rd_T53 l0 x6_1).f4) (wrap64 (a1 - (wrap64 (x5_1 + (((rd_T53 l0 x6_1).f3.f3).size : Int))))) t104 _ ?_ ?_ A11.out).mono ?_); exact cV HR103_7.out; exact HC103_7.out; rintro e w' ⟨rfl, ⟨nd, rfl⟩⟩; refine ⟨_, rfl, ?_⟩)
           go_roundg kj3
           case measure => have := HK1.out; have := HJ3.out; omega
           case rel => exact ⟨(wrap64 ((wrap64 (x5_1 + (((rd_T53 l0 x6_1).f3.f3).size : Int))) + t104)), (wrap64 (x6_1 + 1)), eT, eT, H', ⟨by have := HK1.out; have := HJ3.out; omega⟩, by repeat (first | exact Drawn0.refl _ | apply Drawn0.step)⟩
          ·rw [if_neg c10] at H
           have c10b0 := decide_eq_false c10
           clear c10
           have H' := akk H
           clear H
           have p101 : 0 ≤ (x6_1 : Int) := of_decide_eq_true aT
           have q101 : x6_1 < (l0.length : Int) := of_decide_eq_true aT
           obtain ⟨ad101, A101_7, c101_7, e101, hx101_0, hx101_1, hx101_2, hx101_3, hx101_4, hx101_5, hx101_6, hx101_7, hl101_7, hi101_7⟩ := at_T53 HR0.out x6_1 p101 q101
           cases e101
           have HR101_7 := akk hi101_7
           have HC101_7 := akk hl101_7
           clear hi101_7 hl101_7
           replace p101 := eq_true p101
           replace q101 := eq_true q101
           have p102 : 0 ≤ (x6_1 : Int) := of_decide_eq_true aT
           have q102 : x6_1 < (l0.length : Int) := of_decide_eq_true aT
           obtain ⟨ad102, A102_7, c102_7, e102, hx102_0, hx102_1, hx102_2, hx102_3, hx102_4, hx102_5, hx102_6, hx102_7, hl102_7, hi102_7⟩ := at_T53 HR0.out x6_1 p102 q102
           obtain rfl : ad101 = ad102 := (by injection e102)
           have HR102_7 := akk hi102_7
           have HC102_7 := akk hl102_7
           clear hi102_7 hl102_7
           replace p102 := eq_true p102
           replace q102 := eq_true q102
           have ea_ := Option.some.inj (hx101_7.symm.trans hx102_7)
           injection ea_ with ea_ en_ ec_
           subst ea_
           subst ec_
           clear en_
           go_wp2
           go_roundg kj3
           case measure => have := HK1.out; have := HJ3.out; omega
           case rel => exact ⟨(wrap64 (x5_1 + (((rd_T53 l0 x6_1).f3.f3).size : Int))), (wrap64 (x6_1 + 1)), eT, eT, H', ⟨by have := HK1.out; have := HJ3.out; omega⟩, by repeat (first | exact Drawn0.refl _ | apply Drawn0.step)⟩
        ·rw [if_neg c8] at H
         exact absurd H (by simp)
       ·rw [if_neg c7] at H
        exact absurd H (by simp)
      ·replace c6 := Bool.eq_false_iff.mpr c6
       subst c6
       rw [if_neg (show ¬ (false = true) by decide)] at H
       obtain rfl := Option.some.inj H
       go_wp2
       go_ret
       exact ⟨by first | rfl | (simp; done) | (simp [*]; done), by repeat (first | exact Drawn0.refl _ | apply Drawn0.step)⟩
end Go.Proofs.YtgmolmpfihkolaaGreat.Pj
