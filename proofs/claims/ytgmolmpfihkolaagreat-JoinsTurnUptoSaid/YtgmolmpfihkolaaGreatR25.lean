/- Part of the proof. -/
import Derived.Test.YtgmolmpfihkolaaGreatR24
namespace Go.Proofs.YtgmolmpfihkolaaGreat
open Go.RowKit Go.Maps Go.WideMaps Go.Proofs.YtgmolmpfihkolaaGreatW.PrintWords Go.Proofs.YtgmolmpfihkolaaGreat.Pj
set_option linter.unusedVariables false
set_option maxRecDepth 100000
def H1W (w1 : World) (ys : List PK) (j : Nat) (W : World) : Prop := (∃ D : DU, GrW W w1.heap.size j D ∧ HoldsM (ys.take j) D) ∧ Below w1.heap.size w1 W ∧ w1.heap.size + 1 ≤ W.heap.size
def H2W (w1 : World) (ys : List PK) (n : Nat) (T rest : List PP) (v : Value) (W : World) : Prop := (∃ D : DU, GrW W w1.heap.size n D ∧ HoldsM ys D) ∧ MgW w1 T rest v W
theorem H1W.below {w1 W W' : World} {ys : List PK} {j : Nat} (h : H1W w1 ys j W) (hb : Below W.heap.size W W') : H1W w1 ys j W' := by
 obtain ⟨⟨D, h1, h2⟩, h3, h4⟩ := h
 exact ⟨⟨D, h1.below hb, h2⟩, h3.trans (hb.mono h3.size), Nat.le_trans h4 hb.size⟩
theorem H2W.below {w1 W W' : World} {ys : List PK} {n : Nat} {T rest : List PP} {v : Value} (h : H2W w1 ys n T rest v W) (hb : Below W.heap.size W W') : H2W w1 ys n T rest v W' := by
 obtain ⟨⟨D, h1, h2⟩, h3⟩ := h
 exact ⟨⟨D, h1.below hb, h2⟩, h3.below hb⟩
set_option maxHeartbeats 4000000 in
theorem Hash_any (A0 : Option Addr) (c0 : Nat) (l0 : List (List (List PV))) (A1 : Option Addr) (c1 : Nat) (l1 : List (List (List PV))) (A2 : Option Addr) (c2 : Nat) (l2 : List PE) (A3 : Option Addr) (c3 : Nat) (l3 : List PE) (A4 : Option Addr) (c4 : Nat) (l4 : List PE) (r1 : List (List (List PV))) (r2 : Int) (w : World) (hr0 : Kd.C (Kd.slice 29 (Kd.slice 39 k39)) w A0 l0.length l0) (hc0 : l0.length ≤ c0) (hr1 : Kd.C (Kd.slice 29 (Kd.slice 39 k39)) w A1 l1.length l1) (hc1 : l1.length ≤ c1) (hr2 : Kd.C k53 w A2 l2.length l2) (hc2 : l2.length ≤ c2) (hr3 : Kd.C k53 w A3 l3.length l3) (hc3 : l3.length ≤ c3) (hr4 : Kd.C k53 w A4 l4.length l4) (hc4 : l4.length ≤ c4) (h : hashF l0 l1 l2 l3 l4 = some (r1, r2)) :
 Calls Tryz.prog 19 #[.slice A0 l0.length c0, .slice A1 l1.length c1, .slice A2 l2.length c2, .slice A3 l3.length c3, .slice A4 l4.length c4] w fun e w' => ∃ v0_ : Value, e = .returned (.tuple #[v0_, .int .i64 r2]) ∧ Kd.R (Kd.slice 29 (Kd.slice 39 k39)) 22 w' w.heap.size (fun _ => True) v0_ r1 ∧ Below w.heap.size w w' := by
 unfold hashF at h
 rw [Option.bind_eq_some_iff] at h
 obtain ⟨⟨x, y, er⟩, hb, h⟩ := h
 have CB := hdq (joins_both.calls KF A0 c0 l0 A1 c1 l1 A2 c2 l2 A3 c3 l3 x y er w hr0 hc0 hr1 hc1 hr2 hc2 hr3 hc3 hb)
 simp only at h
 by_cases he : er = 0
 ·subst he
  rw [if_pos rfl] at h
  have ho : (okK x = true ∧ okK y = true) ∧ (okN x = true ∧ okN y = true) := by
   by_cases ho : ((okK x && okK y) && (okN x && okN y)) = true
   ·simpa using ho
   ·rw [if_neg ho] at h; cases h
  rw [if_pos (by rw [ho.1.1, ho.1.2, ho.2.1, ho.2.2]; rfl)] at h
  have HO := hdq ho
  obtain ⟨T, hT⟩ : ∃ T, T = hashPairs x y := ⟨_, rfl⟩
  have HT := hdq hT
  rw [← hT] at h
  have CT : Hid (∀ (w1 : World) (v : Value) (W : World), Below w.heap.size w w1 → MgW w1 T [] v W → ∃ A c, v = .slice A T.length c ∧ Calls Tryz.prog 39 #[.slice A0 l0.length c0, .slice A1 l1.length c1, .slice A T.length c, .slice A4 l4.length c4] W fun e w' => ∃ v0_ : Value, e = .returned (.tuple #[v0_, .int .i64 r2]) ∧ Kd.R (Kd.slice 29 (Kd.slice 39 k39)) 22 w' w.heap.size (fun _ => True) v0_ r1 ∧ Below w.heap.size w w') := hdq (fun w1 v W hw1 hS => by
   obtain ⟨⟨out, e1, s1⟩, s2⟩ := hS
   rw [List.append_nil] at e1
   subst e1
   have s2 := hw1.trans (s2.mono hw1.size)
   obtain ⟨A, c, rfl, hlc, hC⟩ := Kd.R_reads s1
   refine ⟨A, c, rfl, (joins_told.calls KF A0 c0 l0 A1 c1 l1 A c out A4 c4 l4 r1 r2 W (Kd.C_below hr0 s2) hc0 (Kd.C_below hr1 s2) hc1 hC hlc (Kd.C_below hr4 s2) hc4 h).mono ?_⟩
   rintro e w' ⟨v0, rfl, q1, q2⟩
   exact ⟨v0, rfl, Kd.R_lower q1 s2.size, s2.trans (q2.mono s2.size)⟩)
  clear h ho hb hr0 hc0 hr1 hc1 hr2 hc2 hr3 hc3 hr4 hc4 hT
  obtain ⟨n0, hn0⟩ : ∃ n, n = l0.length := ⟨_, rfl⟩
  obtain ⟨n1, hn1⟩ : ∃ n, n = l1.length := ⟨_, rfl⟩
  obtain ⟨n2, hn2⟩ : ∃ n, n = l2.length := ⟨_, rfl⟩
  obtain ⟨n3, hn3⟩ : ∃ n, n = l3.length := ⟨_, rfl⟩
  obtain ⟨n4, hn4⟩ : ∃ n, n = l4.length := ⟨_, rfl⟩
  obtain ⟨n5, hn5⟩ : ∃ n, n = T.length := ⟨_, rfl⟩
  obtain ⟨nx, hnx⟩ : ∃ n, n = x.length := ⟨_, rfl⟩
  obtain ⟨ny, hny⟩ : ∃ n, n = y.length := ⟨_, rfl⟩
  rw [← hn0, ← hn1, ← hn2, ← hn3] at CB
  rw [← hn0, ← hn1, ← hn4, ← hn5] at CT
  rw [← hn0, ← hn1, ← hn2, ← hn3, ← hn4]
  have NX := hdq hnx
  have NY := hdq hny
  have BND : Hid (nx ≤ 1000000 ∧ ny ≤ 1000000) := hdq (by
   have q1 := (okK_parts HO.out.1.1).2.2
   have q2 := (okK_parts HO.out.1.2).2.2
   omega)
  clear hn0 hn1 hn2 hn3 hn4 hn5 hnx hny
  have hmm := @run_makeMap Tryz.prog
  obtain ⟨i0, hi, hz0, hz1, hz2⟩ := info_parts infoInt
  go_enter Tryz.func19, Tryz.ntmps19
  go_wp2_with (first
   | (go_at_call 41; refine CB.out.mono ?_; rintro e w1 ⟨vx, vy, rfl, hx, hy, hB⟩; obtain ⟨Ax, cx, ex⟩ := Kd.R_slice (Kd.S_R hx); obtain ⟨Ay, cy, ey⟩ := Kd.R_slice (Kd.S_R hy); rw [← NX.out] at ex; rw [← NY.out] at ey; subst ex; subst ey; have KX := hdq (R_keyed2 (Kd.S_R hx) (by have := BND.out; have := NX.out; omega)); have KY := hdq (R_keyed2 (Kd.S_R hy) (by have := BND.out; have := NY.out; omega)); have HB1 := hdq hB; clear hx hy hB))
  have ST : Hid (H1W w1 y 0 (w1.alloc (.map #[] 0))) := hdq ⟨⟨.map [], World.ownsGroups_made _ _ _ _ _, HoldsM.start⟩, below_new _ _, by simp⟩
  go_loopw [39] (fun vj wr => ∃ j : Nat, vj = .int .i64 j ∧ Hid (j ≤ ny) ∧ Hid (H1W w1 y j wr)) (fun vj _ => ny - (intOf vj).toNat)
  case atStart => exact ⟨0, rfl, hdq (Nat.zero_le _), ST⟩
  case round =>
   obtain ⟨j, rfl, HJ, HW⟩ := hrel
   clear ST
   by_cases hj : j < ny
   ·obtain ⟨q, hq⟩ : ∃ q, y[j]? = some q := ⟨_, List.getElem?_eq_getElem (by have := NY.out; omega)⟩
    obtain ⟨b2, o2, e2, lb2, B1, k1, p0, p1, pl, pC⟩ := (KY.out.below HW.out.2.1).at hq
    subst e2
    obtain ⟨⟨r, hr, hnm⟩, hns, hwf⟩ := okN_at HO.out.2.2 (List.mem_of_getElem? hq)
    have hjc : (j : Int) < (ny : Int) := by omega
    have hj0 : (0 : Int) ≤ (j : Int) := by omega
    obtain ⟨g0, hg0⟩ : ∃ z, z = q.f0 := ⟨_, rfl⟩
    obtain ⟨y1, hy1⟩ : ∃ z, z = q.f1.length := ⟨_, rfl⟩
    rw [← hg0] at p0
    rw [← hy1] at p1
    have BX := hdq (BoxK.new wr g0 (.slice B1 y1 k1))
    have BN := hdq (below_new wr (.cells #[.int .i64 g0, .slice B1 y1 k1] 80))
    have PUT : Hid (∀ W, Below wr.heap.size wr W → Calls Tryz.prog 42 #[.slice none 0 0, .slice B1 y1 k1] W fun e w' => ∃ v, e = .returned v ∧ (convert 81 9 v).run Tryz.prog w' = .ok (.string (nm q)) w' ∧ Below W.heap.size W w') := hdq (fun W hW => by
     rw [hnm]
     have hput := put_any rfl (Kd.C_below pC hW) pl hr
     rw [← hy1] at hput
     exact hput)
    obtain ⟨j1, hj1⟩ : ∃ j1, j1 = j + 1 := ⟨_, rfl⟩
    have KEY := hdq (keyAt_mk hns)
    have WF : Hid ((Lit.int .i64 g0).wf = true) := hdq (hg0 ▸ hwf)
    have QJ : Hid (y.take j1 = y.take j ++ [q] ∧ g0 = q.f0) := hdq ⟨by
     obtain ⟨hjl, e⟩ := List.getElem?_eq_some_iff.1 hq
     rw [hj1, List.take_succ_eq_append_getElem hjl, e], hg0⟩
    have KJ : Hid (j1 ≤ ny ∧ ny - j1 < ny - j ∧ j < 1000000 ∧ j1 = j + 1) := hdq (by have := BND.out; omega)
    obtain ⟨nmq, hnmq⟩ : ∃ s, s = nm q := ⟨_, rfl⟩
    rw [← hnmq] at PUT KEY
    have NMQ := hdq hnmq
    have rj := wrI_add (a := j) (b := 1) hj1.symm (by have := KJ.out; omega)
    have sj := wr_add (a := j) (b := 1) hj1.symm (by have := KJ.out; clear rj; omega)
    simp only [Int.natCast_one] at rj sj
    clear hq pl pC hr hnm hns hwf hg0 hy1 hj1 hnmq lb2
    go_wp2_with (first
     | (go_at_call 42; refine (PUT.out _ BN.out).mono ?_; rintro e w3 ⟨vb, rfl, hcv, hb3⟩; have HW3 := hdq ((HW.out.below BN.out).below hb3); have BX3 := hdq (BX.out.below hb3); have hcell := BX3.out.cell; clear hb3; obtain ⟨D, hD, hH⟩ := HW3.out.1; have HD := hdq hD; have HH := hdq hH; have HW32 := hdq HW3.out.2; clear hD hH)
     | (at_lookup; refine wpList_lookup_groups _ rfl _ _ 78 rfl 9 36 3 .i64 keyLaw Tryz.underlying78 (zeroInts _) (w1.heap.size + 1) w1.heap.size j D rfl HD.out (by have := KJ.out; unfold maxLen; omega) _ _ rfl KEY.out ?_; intro v zs hat hoi hzl hback; have HAT := hdq hat; have HOI := hdq hoi; have HZL := hdq hzl; have HBK := hdq hback; clear hat hoi hzl hback)
     | (at_builtin; refine wpList_append_own_at _ rfl _ _ 36 rfl (w1.heap.size + 1) 3 i0 (.int .i64 0) 1 8 Tryz.underlying36 hi hz0 hz1 hz2 rfl (by decide) _ _ _ rfl (HOI.out.1.alloc _) ⟨w3.heap.size, 0, none⟩ 1 1 [.int .i64 g0] rfl rfl (cell_one_new _ _ _) (ints_oneCell .i64 [g0]) (by have := KJ.out; have := HZL.out; unfold maxLen; omega) (by have := KJ.out; have := HZL.out; omega) (by have := HW32.out.2; simp; omega) ?_; intro v' w4 hown' hgrow hnil hloc; have HOWN := hdq hown'; have HGR := hdq ((World.grownBy_alloc w3 _ _).trans hgrow); have HLOC := hdq hloc; clear hown' hgrow hnil hloc)
     | (at_mapUpdate; refine wpList_mapUpdate_back _ rfl _ _ _ 78 rfl HBK.out rfl rfl rfl HGR.out (HOI.out.appended HOWN.out WF.out) (by have := HZL.out; simp; omega) (HLOC.out.imp id (fun h => ⟨_, h, by simp⟩)) ?_; intro w5 hown2 hgrow2; have HO2 := hdq hown2; have HG2 := hdq hgrow2; clear hown2 hgrow2))
    have NX1 : Hid (H1W w1 y j1 w5) := hdq (by
     obtain ⟨q1, q2⟩ := QJ.out
     have hz := HH.out.read HAT.out HOI.out
     have hap := HOI.out.appended HOWN.out WF.out
     rw [NMQ.out] at hz
     have hst := HH.out.step (q := q) hz (q2 ▸ hap)
     rw [KJ.out.2.2.2] at q1 ⊢
     refine ⟨⟨_, HO2.out, ?_⟩, HW32.out.1.groups HOI.out HGR.out HG2.out (Nat.le_of_succ_le HW32.out.2) (Nat.le_succ _) (Nat.le_refl _), Nat.le_trans HW32.out.2 (Nat.le_trans HGR.out.size HG2.out.size)⟩
     rw [q1, NMQ.out, q2]
     exact hst)
    go_roundw
    case rel => exact ⟨j1, rfl, hdq KJ.out.1, NX1⟩
    case measure => simpa [intOf] using KJ.out.2.1
   ·obtain rfl : j = ny := by have := HJ.out; omega
    have S2 : Hid (H2W w1 y j T ((x.drop 0).flatMap (nmeet y)) (.slice none 0 0) wr) := hdq (by
     obtain ⟨⟨D, h1, h2⟩, h3, h4⟩ := HW.out
     rw [List.take_of_length_le (by have := NY.out; omega)] at h2
     exact ⟨⟨D, h1, h2⟩, ⟨[], by rw [HT.out]; rfl, Kd.R_nil _ _ _ _ _⟩, h3⟩)
    have HTL : Hid (T.length ≤ 1000000000000) := hdq (by
     rw [HT.out]
     have : ∀ l : List PK, (hashPairs l y).length ≤ l.length * y.length := by
      intro l
      induction l with
      | nil => simp [hashPairs]
      | cons a l ih =>
       have h : (nmeet y a).length ≤ y.length := by unfold nmeet; rw [List.length_map]; exact List.length_filter_le _ _
       have e : hashPairs (a :: l) y = nmeet y a ++ hashPairs l y := rfl
       rw [e, List.length_append, List.length_cons, Nat.add_mul, Nat.one_mul]
       omega
     have h1 := this x
     have h2 : x.length * y.length ≤ 1000000 * 1000000 := Nat.mul_le_mul (by have := BND.out; have := NX.out; omega) (by have := BND.out; have := NY.out; omega)
     omega)
    clear HW hj
    go_wp2
    go_loopw [59, 19] (fun vi vp wr2 => ∃ i : Nat, vi = .int .i64 i ∧ Hid (i ≤ nx) ∧ Hid (H2W w1 y j T ((x.drop i).flatMap (nmeet y)) vp wr2)) (fun vi _ _ => nx - (intOf vi).toNat)
    case atStart => exact ⟨0, rfl, hdq (Nat.zero_le _), S2⟩
    case round =>
     obtain ⟨i, rfl, HI, HW⟩ := hrel
     clear S2
     by_cases hi : i < nx
     ·obtain ⟨p, hp⟩ : ∃ p, x[i]? = some p := ⟨_, List.getElem?_eq_getElem (by have := NX.out; omega)⟩
      obtain ⟨b2, o2, e2, lb2, B1, k1, p0, p1, pl, pC⟩ := (KX.out.below HW.out.2.2).at hp
      subst e2
      obtain ⟨⟨r, hr, hnm⟩, hns, hwf⟩ := okN_at HO.out.2.1 (List.mem_of_getElem? hp)
      have hic : (i : Int) < (nx : Int) := by omega
      have hi0 : (0 : Int) ≤ (i : Int) := by omega
      obtain ⟨f0, hf0⟩ : ∃ z, z = p.f0 := ⟨_, rfl⟩
      obtain ⟨x1, hx1⟩ : ∃ z, z = p.f1.length := ⟨_, rfl⟩
      rw [← hf0] at p0
      rw [← hx1] at p1
      have BX := hdq (BoxK.new wr f0 (.slice B1 x1 k1))
      have BN := hdq (below_new wr (.cells #[.int .i64 f0, .slice B1 x1 k1] 80))
      have PUT : Hid (∀ W, Below wr.heap.size wr W → Calls Tryz.prog 42 #[.slice none 0 0, .slice B1 x1 k1] W fun e w' => ∃ v, e = .returned v ∧ (convert 81 9 v).run Tryz.prog w' = .ok (.string (nm p)) w' ∧ Below W.heap.size W w') := hdq (fun W hW => by
       rw [hnm]
       have hput := put_any rfl (Kd.C_below pC hW) pl hr
       rw [← hx1] at hput
       exact hput)
      obtain ⟨i1, hi1⟩ : ∃ i1, i1 = i + 1 := ⟨_, rfl⟩
      have KEY := hdq (keyAt_mk hns)
      have FM : Hid ((x.drop i).flatMap (nmeet y) = nmeet y p ++ (x.drop i1).flatMap (nmeet y)) := hdq (by
       obtain ⟨hil, e⟩ := List.getElem?_eq_some_iff.1 hp
       rw [List.drop_eq_getElem_cons hil, e, hi1]; rfl)
      have KI : Hid (i1 ≤ nx ∧ nx - i1 < nx - i ∧ i < 1000000 ∧ i1 = i + 1) := hdq (by have := BND.out; omega)
      have NM : Hid (nmeet y p = ((y.filter (fun q => decide (nm q = nm p))).map (fun q => q.f0)).map (fun z => (⟨f0, z⟩ : PP))) := hdq (by
       unfold nmeet
       rw [List.map_map, hf0]
       rfl)
      obtain ⟨nmq, hnmq⟩ : ∃ s, s = nm p := ⟨_, rfl⟩
      rw [← hnmq] at PUT KEY NM
      have ri := wrI_add (a := i) (b := 1) hi1.symm (by have := KI.out; omega)
      have si := wr_add (a := i) (b := 1) hi1.symm (by have := KI.out; clear ri; omega)
      simp only [Int.natCast_one] at ri si
      clear hp pl pC hr hnm hns hwf hf0 hx1 hi1 hnmq lb2 hi
      go_wp2_with (first
       | (go_at_call 42; refine (PUT.out _ BN.out).mono ?_; rintro e w3 ⟨vb, rfl, hcv, hb3⟩; have HW3 := hdq ((HW.out.below BN.out).below hb3); have BX3 := hdq (BX.out.below hb3); have hcell := BX3.out.cell; clear hb3; obtain ⟨D, hD, hH⟩ := HW3.out.1; have HD := hdq hD; have HH := hdq hH; clear hD hH)
       | (at_lookup; refine wpList_lookup_groups _ rfl _ _ 78 rfl 9 36 3 .i64 keyLaw Tryz.underlying78 (zeroInts _) (w1.heap.size + 1) w1.heap.size j D rfl HD.out (by have := BND.out; unfold maxLen; omega) _ _ rfl KEY.out ?_; intro v zs hat hoi hzl hback; have HAT := hdq hat; have HOI := hdq hoi; have HZL := hdq hzl; clear hat hzl hback; obtain ⟨Av, cv, rfl, hcells⟩ := ints_slice hoi; have HCE := hdq hcells; clear hcells hoi))
      have NMZ : Hid (nmeet y p = zs.map (fun z => (⟨f0, z⟩ : PP))) := hdq (by rw [NM.out, ← HH.out.read HAT.out HOI.out])
      have S3 : Hid (H2W w1 y j T ((zs.drop 0).map (fun z => (⟨f0, z⟩ : PP)) ++ (x.drop i1).flatMap (nmeet y)) u19 w3) := hdq (by
       have := HW3.out
       rw [FM.out, NMZ.out] at this
       exact this)
      have ZL : Hid (zs.length ≤ 1000000) := hdq (by have := HZL.out; have := BND.out; omega)
      clear hcv hcell HW3 HD HH HAT HZL HCE KEY PUT ri si
      have ri := wrI_add (a := i) (b := 1) KI.out.2.2.2.symm (by have := KI.out; omega)
      have si := wr_add (a := i) (b := 1) KI.out.2.2.2.symm (by have := KI.out; clear ri; omega)
      simp only [Int.natCast_one] at ri si
      go_loopw [70, 19] (fun vk vp wr3 => ∃ k : Nat, vk = .int .i64 k ∧ Hid (k ≤ zs.length) ∧ Hid (H2W w1 y j T ((zs.drop k).map (fun z => (⟨f0, z⟩ : PP)) ++ (x.drop i1).flatMap (nmeet y)) vp wr3) ∧ Hid (wr3.ownsInts (w1.heap.size + 1) 3 .i64 (.slice Av zs.length cv) zs) ∧ Hid (BoxK wr3 wr.heap.size f0)) (fun vk _ _ => zs.length - (intOf vk).toNat)
      case atStart => exact ⟨0, rfl, hdq (Nat.zero_le _), S3, HOI, BX3⟩
      case round =>
       obtain ⟨k, rfl, HK, HM4, HIN, HBX⟩ := hrel
       clear S3 HOI BX3 BX BN
       by_cases hk : k < zs.length
       ·obtain ⟨z, hz⟩ : ∃ z, zs[k]? = some z := ⟨_, List.getElem?_eq_getElem hk⟩
        obtain ⟨g, eg, hzc⟩ := ints_cell HIN.out hz
        subst eg
        have hkc : (k : Int) < (zs.length : Int) := by omega
        have hk0 : (0 : Int) ≤ (k : Int) := by omega
        obtain ⟨k2, hk2⟩ : ∃ k2, k2 = k + 1 := ⟨_, rfl⟩
        have CJ : Hid ((zs.drop k).map (fun z => (⟨f0, z⟩ : PP)) = ⟨f0, z⟩ :: (zs.drop k2).map (fun z => (⟨f0, z⟩ : PP))) := hdq (by
         obtain ⟨hjl, e⟩ := List.getElem?_eq_some_iff.1 hz
         rw [List.drop_eq_getElem_cons hjl, hk2, List.map_cons, e])
        have HM5 := HM4.out
        rw [CJ.out, List.cons_append] at HM5
        obtain ⟨hDD, ⟨out, hout, hown⟩, hbw⟩ := HM5
        have HOUT : Hid ((out ++ [(⟨f0, z⟩ : PP)]) ++ ((zs.drop k2).map (fun z => (⟨f0, z⟩ : PP)) ++ (x.drop i1).flatMap (nmeet y)) = T) := hdq (by rw [List.append_assoc]; exact hout)
        have HLEN : Hid (out.length < 1000000000000) := hdq (by
         have := HTL.out
         rw [← hout, List.length_append, List.length_cons] at this
         omega)
        have HOWN := hdq hown
        have HBW := hdq hbw
        have HDD := hdq hDD
        have KJ : Hid (k2 ≤ zs.length ∧ zs.length - k2 < zs.length - k ∧ k2 = k + 1) := hdq (by omega)
        have hcell := HBX.out.cell
        clear ri si
        have rj := wrI_add (a := k) (b := 1) hk2.symm (by have := ZL.out; have := KJ.out; omega)
        have sj := wr_add (a := k) (b := 1) hk2.symm (by have := ZL.out; have := KJ.out; clear rj; omega)
        simp only [Int.natCast_one] at rj sj
        clear HM4 hDD hout hown hbw hk2 hz
        go_wp2_with ((with_reducible refine gate_builtin (b := .append) (xs := #[.tmp 74, .tmp 79]) rfl ?_); at_builtin; refine Kd.R_append k71 (w0 := w1) w1.heap.size rfl (.tmp 74) (.tmp 79) 69 71 (.agg #[(.int .i64 0), (.int .i64 0)]) 16 rfl Tryz.underlying69 info71 rfl (by decide) (by omega) u19 out (⟨f0, z⟩ : PP) [.int .i64 f0, .int .i64 z] (fun k_ => w1.heap.size ≤ k_) (fun _ => False) ?ha ?hb ?hc ?hd ?aF ?aO ?aB ?aS ?aL ?_; (case ha => rfl); (case hb => rfl); (case hc => exact (k71_mkM _ _ _ (⟨f0, z⟩ : PP))); (case hd => exact (fun _ hk => hk.elim)); (case aF => exact (fun k_ hk => Nat.le_trans HBW.out.size hk)); (case aO => exact HOWN.out); (case aB => exact HBW.out); (case aS => exact HBW.out.size); (case aL => have := HLEN.out; omega); intro v7 w7 ho hb hg hat; have HM6 := hdq (show H2W w1 y j T ((zs.drop k2).map (fun z => (⟨f0, z⟩ : PP)) ++ (x.drop i1).flatMap (nmeet y)) v7 w7 from ⟨HDD.out.elim (fun D h => ⟨D, h.1.far HOWN.out hg, h.2⟩), ⟨_, HOUT.out, ho⟩, hb⟩); have HB6 := hdq (HBX.out.grown hg (fun cur hc => Kd.R_ne HOWN.out hc (by decide))); have HI6 := hdq (ints_far HIN.out HOWN.out hg); clear ho hb hg hat)
        go_roundw
        case rel => exact ⟨k2, rfl, hdq KJ.out.1, HM6, HI6, HB6⟩
        case measure => simpa [intOf] using KJ.out.2.1
       ·have HE := HM4.out
        rw [show zs.drop k = [] from List.drop_of_length_le (by omega)] at HE
        have HE := hdq (show H2W w1 y j T ((x.drop i1).flatMap (nmeet y)) u19 wr from HE)
        have hkc : ¬ (k : Int) < (zs.length : Int) := by omega
        have hkc2 : zs.length ≤ k := by omega
        clear hk HM4
        go_wp2
        go_roundw
        case rel => exact ⟨i1, rfl, hdq KI.out.1, HE⟩
        case measure => simpa [intOf] using KI.out.2.1
     ·obtain rfl : i = nx := by have := HI.out; omega
      have HF := HW.out.2
      rw [List.drop_of_length_le (by have := NX.out; omega)] at HF
      obtain ⟨Ap, cp, rfl, h6⟩ := CT.out w1 _ wr HB1.out HF
      have H6 := hdq h6
      clear h6 HF hi
      go_wp2_with (go_at_call 39; refine H6.out.mono ?_; rintro e w7 ⟨v0, rfl, q1, q2⟩; have H7 := hdq (And.intro q1 q2); clear q1 q2)
      go_ret2
      exact ⟨_, rfl, H7.out⟩
 ·rw [if_neg he] at h
  injection h with h
  injection h with e1 e2
  subst e1
  subst e2
  have hb1 : (er != 0) = true := by simp [he]
  obtain ⟨n0, hn0⟩ : ∃ n, n = l0.length := ⟨_, rfl⟩
  obtain ⟨n1, hn1⟩ : ∃ n, n = l1.length := ⟨_, rfl⟩
  obtain ⟨n2, hn2⟩ : ∃ n, n = l2.length := ⟨_, rfl⟩
  obtain ⟨n3, hn3⟩ : ∃ n, n = l3.length := ⟨_, rfl⟩
  obtain ⟨n4, hn4⟩ : ∃ n, n = l4.length := ⟨_, rfl⟩
  rw [← hn0, ← hn1, ← hn2, ← hn3] at CB
  rw [← hn0, ← hn1, ← hn2, ← hn3, ← hn4]
  clear hn0 hn1 hn2 hn3 hn4 hb hr0 hc0 hr1 hc1 hr2 hc2 hr3 hc3 hr4 hc4
  go_enter Tryz.func19, Tryz.ntmps19
  go_wp2_with (first
   | (go_at_call 41; refine CB.out.mono ?_; rintro e w1 ⟨vx, vy, rfl, hx, hy, hB⟩; have H1 := hdq hB; clear hx hy hB))
  go_ret2
  exact ⟨_, rfl, Kd.R_nil _ _ _ _ _, H1.out⟩
end Go.Proofs.YtgmolmpfihkolaaGreat
namespace Go.Proofs.YtgmolmpfihkolaaGreat.Pj
open Go.RowKit Go.Proofs.YtgmolmpfihkolaaGreatW.PrintWords
set_option linter.unusedVariables false
def joins_Hash.f := hashF
theorem joins_Hash.calls (A0 : Option Addr) (c0 : Nat) (l0 : List (List (List (S39)))) (A1 : Option Addr) (c1 : Nat) (l1 : List (List (List (S39)))) (A2 : Option Addr) (c2 : Nat) (l2 : List (S53)) (A3 : Option Addr) (c3 : Nat) (l3 : List (S53)) (A4 : Option Addr) (c4 : Nat) (l4 : List (S53)) (r1 : List (List (List (S39)))) (r2 : Int) (w : World) (hr0 : Kd.C (Kd.slice 29 (Kd.slice 39 k39)) w A0 l0.length l0) (hc0 : l0.length ≤ c0) (hr1 : Kd.C (Kd.slice 29 (Kd.slice 39 k39)) w A1 l1.length l1) (hc1 : l1.length ≤ c1) (hr2 : Kd.C k53 w A2 l2.length l2) (hc2 : l2.length ≤ c2) (hr3 : Kd.C k53 w A3 l3.length l3) (hc3 : l3.length ≤ c3) (hr4 : Kd.C k53 w A4 l4.length l4) (hc4 : l4.length ≤ c4) (h : joins_Hash.f l0 l1 l2 l3 l4 = some (r1, r2)) :
 Calls Tryz.prog 19 #[.slice A0 l0.length c0, .slice A1 l1.length c1, .slice A2 l2.length c2, .slice A3 l3.length c3, .slice A4 l4.length c4] w fun e w' => ∃ v0_ : Value, e = .returned (.tuple #[v0_, .int .i64 r2]) ∧ Kd.R (Kd.slice 29 (Kd.slice 39 k39)) 22 w' w.heap.size (fun _ => True) v0_ r1 ∧ Below w.heap.size w w' :=
 Hash_any A0 c0 l0 A1 c1 l1 A2 c2 l2 A3 c3 l3 A4 c4 l4 r1 r2 w hr0 hc0 hr1 hc1 hr2 hc2 hr3 hc3 hr4 hc4 h
end Go.Proofs.YtgmolmpfihkolaaGreat.Pj
namespace Go.Proofs.YtgmolmpfihkolaaGreat
open Go.RowKit Go.Proofs.YtgmolmpfihkolaaGreatW.PrintWords Go.Proofs.YtgmolmpfihkolaaGreatW.PrintMore Go.Proofs.YtgmolmpfihkolaaGreat.Pj
set_option linter.unusedVariables false
set_option maxRecDepth 100000
theorem toList_loop (bs : ByteArray) : ∀ (n i : Nat) (r : List UInt8), bs.size - i = n → ByteArray.toList.loop bs i r = r.reverse ++ bs.data.toList.drop i
 | 0, i, r, h => by
  unfold ByteArray.toList.loop
  rw [if_neg (by omega), List.drop_of_length_le (by rw [Array.length_toList]; show bs.size ≤ i; omega), List.append_nil]
 | n + 1, i, r, h => by
  have hi : i < bs.data.toList.length := by rw [Array.length_toList]; show i < bs.size; omega
  unfold ByteArray.toList.loop
  rw [if_pos (by omega), toList_loop bs n (i + 1) _ (by omega), List.drop_eq_getElem_cons hi, List.reverse_cons, List.append_assoc]
  have e : bs.get! i = bs.data.toList[i] := by
   show bs.data[i]! = _
   rw [getElem!_pos bs.data i (by simpa using hi)]
   simp
  rw [e]; rfl
theorem toList_data (bs : ByteArray) : bs.toList = bs.data.toList := by
 unfold ByteArray.toList
 rw [toList_loop bs _ 0 [] rfl]; rfl
theorem toList_one {a b : ByteArray} (h : a.toList = b.toList) : a = b := by
 rw [toList_data, toList_data] at h
 obtain ⟨a⟩ := a
 obtain ⟨b⟩ := b
 congr 1
 exact Array.toList_inj.1 h
def encU (n : Nat) : List Int := if h : n < 128 then [(n : Int)] else ((n % 128 + 128 : Nat) : Int) :: encU (n / 128)
termination_by n
theorem encU_small {n : Nat} (h : n < 128) : encU n = [(n : Int)] := by rw [encU, dif_pos h]
theorem encU_great {n : Nat} (h : ¬ n < 128) : encU n = ((n % 128 + 128 : Nat) : Int) :: encU (n / 128) := by rw [encU, dif_neg h]
theorem encU_one : ∀ (n m : Nat) (r s : List Int), encU n ++ r = encU m ++ s → n = m ∧ r = s := by
 intro n
 induction n using Nat.strongRecOn with
 | ind n ih =>
  intro m r s h
  by_cases h1 : n < 128 <;> by_cases h2 : m < 128
  ·rw [encU_small h1, encU_small h2] at h
   simp only [List.cons_append, List.nil_append, List.cons.injEq] at h
   exact ⟨by omega, h.2⟩
  ·rw [encU_small h1, encU_great h2] at h
   simp only [List.cons_append, List.nil_append, List.cons.injEq] at h
   omega
  ·rw [encU_great h1, encU_small h2] at h
   simp only [List.cons_append, List.nil_append, List.cons.injEq] at h
   omega
  ·rw [encU_great h1, encU_great h2] at h
   simp only [List.cons_append, List.cons.injEq] at h
   obtain ⟨e1, e2⟩ := h
   obtain ⟨e3, e4⟩ := ih (n / 128) (by omega) (m / 128) r s e2
   exact ⟨by omega, e4⟩
theorem encU_bytes : ∀ (n : Nat) (z : Int), z ∈ encU n → 0 ≤ z ∧ z < 256 := by
 intro n
 induction n using Nat.strongRecOn with
 | ind n ih =>
  intro z hz
  by_cases h1 : n < 128
  ·rw [encU_small h1] at hz
   have : z = (n : Int) := by simpa using hz
   omega
  ·rw [encU_great h1] at hz
   rcases List.mem_cons.1 hz with e | hz
   ·omega
   ·exact ih (n / 128) (by omega) z hz
theorem encU_length : ∀ (k n : Nat), n < 128 ^ (k + 1) → (encU n).length ≤ k + 1
 | 0, n, h => by rw [encU_small (by simpa using h)]; simp
 | k + 1, n, h => by
  by_cases h1 : n < 128
  ·rw [encU_small h1]; simp
  ·rw [encU_great h1, List.length_cons]
   have := encU_length k (n / 128) (by
    rw [Nat.pow_succ] at h
    exact Nat.div_lt_of_lt_mul (by rw [Nat.mul_comm]; exact h))
   omega
theorem or128 (m : Nat) (h : m < 256) : Go.bits .or .u8 (m : Int) 128 = ((m % 128 + 128 : Nat) : Int) := by
 have : ∀ i : Fin 256, Go.bits .or .u8 ((i.val : Nat) : Int) 128 = ((i.val % 128 + 128 : Nat) : Int) := by decide
 exact this ⟨m, h⟩
theorem putUint_go : ∀ (k n : Nat) (b : List Int), n < 128 ^ (k + 1) → b.length + k + 1 < 140737488355328 → ∀ K, k < K → codec_PutUint.l0 K b (n : Int) = some (b ++ encU n)
 | k, n, b, hn, hb, 0, hK => by omega
 | k, n, b, hn, hb, K + 1, hK => by
  rw [codec_PutUint.l0]
  by_cases h1 : n < 128
  ·rw [if_neg (by omega), if_pos (by omega), encU_small h1, show ((n : Int)) % 256 = (n : Int) by omega]
  ·rw [if_pos (by omega), if_pos (by omega), encU_great h1]
   have e1 : ((n : Int)) % 256 = ((n % 256 : Nat) : Int) := by omega
   have e2 : ((n : Int)) / 128 = ((n / 128 : Nat) : Int) := by omega
   rw [e1, e2, or128 _ (Nat.mod_lt _ (by omega)), show n % 256 % 128 = n % 128 by omega]
   cases k with
   | zero => simp at hn; omega
   | succ k =>
    rw [putUint_go k (n / 128) _ (by
     rw [Nat.pow_succ] at hn
     exact Nat.div_lt_of_lt_mul (by rw [Nat.mul_comm]; exact hn)) (by rw [List.length_append, List.length_singleton]; omega) K (by omega)]
    rw [List.append_assoc]; rfl
theorem putUint_f (K : Nat) (hK : 20 ≤ K) (n : Nat) (b : List Int) (hn : n < 18446744073709551616) (hb : b.length < 100000000000000) : codec_PutUint.f K b (n : Int) = some (b ++ encU n) := by
 unfold codec_PutUint.f
 exact putUint_go 9 n b (Nat.lt_of_lt_of_le hn (by decide)) (by omega) K (by omega)
def zig (n : Int) : Nat := if n < 0 then (-(2 * n) - 1).toNat else (2 * n).toNat
theorem zig_one {a b : Int} (h : zig a = zig b) : a = b := by
 unfold zig at h
 split at h <;> split at h <;> omega
theorem xorMax (m : Nat) (h : m < 18446744073709551616) : Go.bits .xor .u64 IntKind.u64.max (m : Int) = ((18446744073709551615 - m : Nat) : Int) := by
 have e : IntKind.u64.max = ((18446744073709551615 : Nat) : Int) := by decide
 rw [e]
 unfold Go.bits
 simp only [BitVec.ofInt_natCast]
 have hb : (BitVec.ofNat 64 18446744073709551615 ^^^ BitVec.ofNat 64 m) = ~~~ (BitVec.ofNat 64 m) := by
  have : BitVec.ofNat 64 18446744073709551615 = BitVec.allOnes 64 := by decide
  rw [this, BitVec.allOnes_xor]
 show IntKind.u64.wrap ((BitVec.ofNat 64 18446744073709551615 ^^^ BitVec.ofNat 64 m).toNat : Int) = _
 rw [hb, BitVec.toNat_not, BitVec.toNat_ofNat, Nat.mod_eq_of_lt h, IntKind.wrap_u64]
 omega
theorem zig_lt {n : Int} (h : (Lit.int .i64 n).wf = true) : zig n < 18446744073709551616 := by
 have := i64_bounds h
 unfold zig; split <;> omega
theorem putInt_f (K : Nat) (hK : 20 ≤ K) (n : Int) (b : List Int) (hn : (Lit.int .i64 n).wf = true) (hb : b.length < 100000000000000) : codec_PutInt.f K b n = some (b ++ encU (zig n)) := by
 have hB := i64_bounds hn
 have hz := zig_lt hn
 unfold codec_PutInt.f
 by_cases h : n < 0
 ·rw [if_pos h]
  have e : IntKind.u64.wrap (IntKind.u64.wrap n * 2) = ((18446744073709551615 - zig n : Nat) : Int) := by
   rw [IntKind.wrap_u64, IntKind.wrap_u64]; unfold zig at hz ⊢; rw [if_pos h] at hz ⊢; omega
  rw [e, xorMax _ (by omega), show 18446744073709551615 - (18446744073709551615 - zig n) = zig n by omega, putUint_f K hK _ b hz hb]
  rfl
 ·rw [if_neg h]
  have e : IntKind.u64.wrap (IntKind.u64.wrap n * 2) = ((zig n : Nat) : Int) := by
   rw [IntKind.wrap_u64, IntKind.wrap_u64]; unfold zig at hz ⊢; rw [if_neg h] at hz ⊢; omega
  rw [e, putUint_f K hK _ b hz hb]
  rfl
def fix8 (n : Nat) : List Int := [(n / 72057594037927936 % 256 : Nat), (n / 281474976710656 % 256 : Nat), (n / 1099511627776 % 256 : Nat), (n / 4294967296 % 256 : Nat), (n / 16777216 % 256 : Nat), (n / 65536 % 256 : Nat), (n / 256 % 256 : Nat), (n % 256 : Nat)]
theorem fix8_one {n m : Nat} (hn : n < 18446744073709551616) (hm : m < 18446744073709551616) {r s : List Int} (h : fix8 n ++ r = fix8 m ++ s) : n = m ∧ r = s := by
 unfold fix8 at h
 simp only [List.cons_append, List.nil_append, List.cons.injEq] at h
 obtain ⟨h1, h2, h3, h4, h5, h6, h7, h8, h9⟩ := h
 exact ⟨by omega, h9⟩
theorem fix8_bytes (n : Nat) (z : Int) (h : z ∈ fix8 n) : 0 ≤ z ∧ z < 256 := by
 unfold fix8 at h
 simp only [List.mem_cons, List.not_mem_nil, or_false] at h
 rcases h with h | h | h | h | h | h | h | h <;> omega
theorem shr_at (n : Nat) (k : Nat) (hk : k ≤ 7) : (shr .u64 (n : Int) (IntKind.u64.wrap (wrap64 (8 * (k : Int))))) % 256 = ((n / 2 ^ (8 * k) % 256 : Nat) : Int) := by
 have e : IntKind.u64.wrap (wrap64 (8 * (k : Int))) = ((8 * k : Nat) : Int) := by
  rw [IntKind.wrap_u64]; unfold wrap64; omega
 rw [e]
 unfold shr
 have e2 : min (((8 * k : Nat) : Int)).toNat IntKind.u64.bits = 8 * k := by
  show min _ 64 = _
  omega
 rw [e2]
 have e3 : ((n : Int) / (2 : Int) ^ (8 * k)) = ((n / 2 ^ (8 * k) : Nat) : Int) := by
  have : ((2 : Int) ^ (8 * k)) = ((2 ^ (8 * k) : Nat) : Int) := by simp
  rw [this]; simp
 rw [e3]; omega
theorem putFixed_step (K n k : Nat) (b : List Int) (hk : k ≤ 7) (hb : b.length < 140737488355328) : codec_PutFixed.l0 (K + 1) b (n : Int) (k : Int) = codec_PutFixed.l0 K (b ++ [((n / 2 ^ (8 * k) % 256 : Nat) : Int)]) (n : Int) ((k : Int) - 1) := by
 rw [codec_PutFixed.l0, if_pos (by omega), if_pos (by rw [IntKind.wrap_u64]; omega), if_pos hb, shr_at n k hk, show wrap64 ((k : Int) - 1) = (k : Int) - 1 by unfold wrap64; omega]
theorem putFixed_f (K : Nat) (hK : 20 ≤ K) (n : Nat) (b : List Int) (hb : b.length < 100000000000000) : codec_PutFixed.f K b (n : Int) 8 = some (b ++ fix8 n) := by
 unfold codec_PutFixed.f
 rw [show (mn (mx 8 0) 8) - 1 = ((7 : Nat) : Int) by decide]
 obtain ⟨K', rfl⟩ : ∃ K', K = K' + 1 + 1 + 1 + 1 + 1 + 1 + 1 + 1 + 1 := ⟨K - 9, by omega⟩
 rw [putFixed_step _ n 7 b (by omega) (by omega), show ((7 : Nat) : Int) - 1 = ((6 : Nat) : Int) by rfl]
 rw [putFixed_step _ n 6 _ (by omega) (by simp; omega), show ((6 : Nat) : Int) - 1 = ((5 : Nat) : Int) by rfl]
 rw [putFixed_step _ n 5 _ (by omega) (by simp; omega), show ((5 : Nat) : Int) - 1 = ((4 : Nat) : Int) by rfl]
 rw [putFixed_step _ n 4 _ (by omega) (by simp; omega), show ((4 : Nat) : Int) - 1 = ((3 : Nat) : Int) by rfl]
 rw [putFixed_step _ n 3 _ (by omega) (by simp; omega), show ((3 : Nat) : Int) - 1 = ((2 : Nat) : Int) by rfl]
 rw [putFixed_step _ n 2 _ (by omega) (by simp; omega), show ((2 : Nat) : Int) - 1 = ((1 : Nat) : Int) by rfl]
 rw [putFixed_step _ n 1 _ (by omega) (by simp; omega), show ((1 : Nat) : Int) - 1 = ((0 : Nat) : Int) by rfl]
 rw [putFixed_step _ n 0 _ (by omega) (by simp; omega)]
 rw [codec_PutFixed.l0, if_neg (by omega)]
 unfold fix8
 simp
def encP (p : Val) : List Int := [p.kind % 256] ++ (if p.kind = 1 then [p.int % 256] else if p.kind = 2 then encU (zig p.int) else if p.kind = 3 then fix8 (bitsV p.flt) else if p.kind = 4 then encU p.text.size ++ bytesOf p.text else [])
structure Canon (p : Val) : Prop where
 kind : 0 ≤ p.kind ∧ p.kind ≤ 4
 int : p.kind ≠ 1 → p.kind ≠ 2 → p.int = 0
 bool : p.kind = 1 → p.int = 0 ∨ p.int = 1
 flt : p.kind ≠ 3 → p.flt = 0
 text : p.kind ≠ 4 → p.text = ByteArray.empty
 size : p.text.size ≤ 64
 iwf : (Lit.int .i64 p.int).wf = true
 fwf : p.flt < 18446744073709551616
 nan : nanB p.flt = true → p.flt = 9221120237041090561
 zero : p.flt % 9223372036854775808 = 0 → p.flt = 0
theorem toList_nil {s : ByteArray} (h : s.toList.isEmpty = true) : s = ByteArray.empty := by
 refine toList_one ?_
 rw [List.isEmpty_iff.1 h]
 exact (toList_data ByteArray.empty).symm
theorem null_canon : Canon Val.null := ⟨by decide, fun _ _ => rfl, fun h => by simp [Val.null] at h, fun _ => rfl, fun _ => rfl, by decide, by decide, by decide, fun h => absurd h (by decide), fun _ => rfl⟩
theorem plain_canon {v : Val} (hv : v.wf) : Canon (plainV v) := by
 obtain ⟨w1, w2, w3, w4⟩ := hv
 unfold plainV
 by_cases hr : rightV v = true
 ·rw [if_pos hr]
  unfold rightV at hr
  simp only [Bool.or_eq_true, Bool.and_eq_true, beq_iff_eq, decide_eq_true_eq] at hr
  obtain ⟨k, n, f, s⟩ := v
  simp only at *
  rcases hr with (((⟨rfl, rfl, rfl, hs⟩ | ⟨rfl, hn, rfl, hs⟩) | ⟨rfl, rfl, hs⟩) | ⟨rfl, rfl, hs⟩) | ⟨rfl, rfl, rfl, hs⟩
  ·rw [if_neg (by omega)]
   obtain rfl := toList_nil hs
   exact ⟨⟨by simp, by simp⟩, fun _ _ => rfl, fun h => by simp at h, fun _ => rfl, fun _ => rfl, by decide, w2, (show (0 : Nat) < 18446744073709551616 by omega), fun h => absurd h (show ¬ nanB 0 = true by decide), fun _ => rfl⟩
  ·rw [if_neg (by omega)]
   obtain rfl := toList_nil hs
   exact ⟨⟨by simp, by simp⟩, fun h => by simp at h, fun _ => hn, fun _ => rfl, fun _ => rfl, by show (0 : Nat) ≤ 64; omega, w2, (show (0 : Nat) < 18446744073709551616 by omega), fun h => absurd h (show ¬ nanB 0 = true by decide), fun _ => rfl⟩
  ·rw [if_neg (by omega)]
   obtain rfl := toList_nil hs
   exact ⟨⟨by simp, by simp⟩, fun _ h => by simp at h, fun h => by simp at h, fun _ => rfl, fun _ => rfl, by show (0 : Nat) ≤ 64; omega, w2, (show (0 : Nat) < 18446744073709551616 by omega), fun h => absurd h (show ¬ nanB 0 = true by decide), fun _ => rfl⟩
  ·rw [if_pos rfl]
   obtain rfl := toList_nil hs
   by_cases hn : nanB f = true
   ·rw [if_pos hn]
    exact ⟨⟨by simp, by simp⟩, fun _ _ => rfl, fun h => by simp at h, fun h => by simp at h, fun _ => rfl, by show (0 : Nat) ≤ 64; omega, w2, (show (9221120237041090561 : Nat) < 18446744073709551616 by omega), fun _ => rfl, fun h => by simp at h⟩
   ·rw [if_neg hn]
    by_cases hz : f % 9223372036854775808 = 0
    ·rw [if_pos hz]
     exact ⟨⟨by simp, by simp⟩, fun _ _ => rfl, fun h => by simp at h, fun h => by simp at h, fun _ => rfl, by show (0 : Nat) ≤ 64; omega, w2, (show (0 : Nat) < 18446744073709551616 by omega), fun h => absurd h (show ¬ nanB 0 = true by decide), fun _ => rfl⟩
    ·rw [if_neg hz]
     exact ⟨⟨by simp, by simp⟩, fun _ _ => rfl, fun h => by simp at h, fun h => by simp at h, fun _ => rfl, by show (0 : Nat) ≤ 64; omega, w2, by simpa using w3, fun h => absurd h hn, fun h => absurd h hz⟩
  ·rw [if_neg (by omega)]
   exact ⟨⟨by simp, by simp⟩, fun _ _ => rfl, fun h => by simp at h, fun _ => rfl, fun h => by simp at h, hs, w2, (show (0 : Nat) < 18446744073709551616 by omega), fun h => absurd h (show ¬ nanB 0 = true by decide), fun _ => rfl⟩
 ·rw [if_neg hr]; exact null_canon
theorem bytesOf_one {a b : ByteArray} (h : bytesOf a = bytesOf b) : a = b := by
 unfold bytesOf at h
 have := (List.map_inj_right (f := fun b : UInt8 => (b.toNat : Int)) (fun x y h => by
  have : x.toNat = y.toNat := by omega
  exact UInt8.toNat_inj.1 this)).1 h
 obtain ⟨a⟩ := a
 obtain ⟨b⟩ := b
 congr 1
 exact Array.toList_inj.1 this
theorem bitsV_canon {p : Val} (h : Canon p) : bitsV p.flt = p.flt := by
 unfold bitsV
 split
 ·rename_i hn; exact (h.nan hn).symm
 ·split
  ·rename_i hz; exact (h.zero hz).symm
  ·rfl
theorem encP_one {p q : Val} (hp : Canon p) (hq : Canon q) {r s : List Int} (h : encP p ++ r = encP q ++ s) : p = q ∧ r = s := by
 unfold encP at h
 simp only [List.cons_append, List.nil_append, List.cons.injEq] at h
 obtain ⟨hk, h⟩ := h
 have hkk : p.kind = q.kind := by have := hp.kind; have := hq.kind; omega
 rw [← hkk] at h
 have put : ∀ {a b : Val}, Canon a → Canon b → a.kind = b.kind → a.int = b.int → a.flt = b.flt → a.text = b.text → a = b := by
  rintro ⟨_, _, _, _⟩ ⟨_, _, _, _⟩ _ _ h1 h2 h3 h4
  simp only at h1 h2 h3 h4
  rw [h1, h2, h3, h4]
 by_cases k1 : p.kind = 1
 ·rw [if_pos k1, if_pos k1] at h
  simp only [List.cons_append, List.nil_append, List.cons.injEq] at h
  have b1 := hp.bool k1
  have b2 := hq.bool (by omega)
  exact ⟨put hp hq hkk (by omega) (by rw [hp.flt (by omega), hq.flt (by omega)]) (by rw [hp.text (by omega), hq.text (by omega)]), h.2⟩
 ·rw [if_neg k1, if_neg k1] at h
  by_cases k2 : p.kind = 2
  ·rw [if_pos k2, if_pos k2] at h
   obtain ⟨e1, e2⟩ := encU_one _ _ _ _ h
   exact ⟨put hp hq hkk (zig_one e1) (by rw [hp.flt (by omega), hq.flt (by omega)]) (by rw [hp.text (by omega), hq.text (by omega)]), e2⟩
  ·rw [if_neg k2, if_neg k2] at h
   have ei : p.int = q.int := by rw [hp.int k1 k2, hq.int (by omega) (by omega)]
   by_cases k3 : p.kind = 3
   ·rw [if_pos k3, if_pos k3, bitsV_canon hp, bitsV_canon hq] at h
    obtain ⟨e1, e2⟩ := fix8_one hp.fwf hq.fwf h
    exact ⟨put hp hq hkk ei e1 (by rw [hp.text (by omega), hq.text (by omega)]), e2⟩
   ·rw [if_neg k3, if_neg k3] at h
    have ef : p.flt = q.flt := by rw [hp.flt k3, hq.flt (by omega)]
    by_cases k4 : p.kind = 4
    ·rw [if_pos k4, if_pos k4, List.append_assoc, List.append_assoc] at h
     obtain ⟨e1, e2⟩ := encU_one _ _ _ _ h
     obtain ⟨e3, e4⟩ := List.append_inj e2 (by rw [bytesOf_length, bytesOf_length]; exact e1)
     exact ⟨put hp hq hkk ei ef (bytesOf_one e3), e4⟩
    ·rw [if_neg k4, if_neg k4] at h
     exact ⟨put hp hq hkk ei ef (by rw [hp.text k4, hq.text (by omega)]), h⟩
theorem encP_bytes {p : Val} (hp : Canon p) : ∀ z, z ∈ encP p → 0 ≤ z ∧ z < 256 := by
 intro z hz
 unfold encP at hz
 rcases List.mem_append.1 hz with hz | hz
 ·have : z = p.kind % 256 := by simpa using hz
  omega
 ·split at hz
  ·have : z = p.int % 256 := by simpa using hz
   omega
  ·split at hz
   ·exact encU_bytes _ _ hz
   ·split at hz
    ·exact fix8_bytes _ _ hz
    ·split at hz
     ·rcases List.mem_append.1 hz with hz | hz
      ·exact encU_bytes _ _ hz
      ·unfold bytesOf at hz
       obtain ⟨b, _, rfl⟩ := List.mem_map.1 hz
       have := b.toNat_lt
       omega
     ·cases hz
theorem encP_length {p : Val} (hp : Canon p) : (encP p).length ≤ 80 := by
 unfold encP
 rw [List.length_append, List.length_singleton]
 split
 ·simp
 ·split
  ·have := encU_length 9 (zig p.int) (Nat.lt_of_lt_of_le (zig_lt hp.iwf) (by decide))
   omega
  ·split
   ·unfold fix8; simp
   ·split
    ·have := encU_length 9 p.text.size (by have := hp.size; exact Nat.lt_of_le_of_lt this (by decide))
     have := hp.size
     rw [List.length_append, bytesOf_length]
     omega
    ·simp
theorem valuePut_f (K : Nat) (hK : 20 ≤ K) (b : List Int) (v : PV) (hv : wfV v = true) (hb : b.length < 90000000000000) : value_Put.f K b v.f0 v.f1 v.f2 v.f3 = some (b ++ encP (plainV (vOf v))) := by
 have hw : (vOf v).wf := of_decide_eq_true hv
 have hc := plain_canon hw
 unfold value_Put.f value_Plain.f plainF
 rw [if_pos (show wfV ⟨v.f0, v.f1, v.f2, v.f3⟩ = true from hv)]
 show (if b.length < 140737488355328 then _ else none) = _
 rw [if_pos (by omega)]
 obtain ⟨p, hp⟩ : ∃ p, p = plainV (vOf v) := ⟨_, rfl⟩
 show ((if (plainV (vOf v)).kind = 1 then _ else _) : Option (List Int)) = _
 rw [← hp] at hc ⊢
 have hl : (b ++ [p.kind % 256]).length = b.length + 1 := by simp
 unfold encP
 by_cases k1 : p.kind = 1
 ·rw [if_pos k1, if_pos k1]
  show (if (b ++ [p.kind % 256]).length < 140737488355328 then some ((b ++ [p.kind % 256]) ++ [p.int % 256]) else none) = _
  rw [if_pos (by rw [hl]; omega), List.append_assoc]
 ·rw [if_neg k1, if_neg k1]
  by_cases k2 : p.kind = 2
  ·rw [if_pos k2, if_pos k2]
   show ((codec_PutInt.f K (b ++ [p.kind % 256]) p.int).bind fun t => some t) = _
   rw [putInt_f K hK _ _ hc.iwf (by rw [hl]; omega), List.append_assoc]; rfl
  ·rw [if_neg k2, if_neg k2]
   by_cases k3 : p.kind = 3
   ·rw [if_pos k3, if_pos k3]
    show ((codec_PutFloat.f K (b ++ [p.kind % 256]) p.flt).bind fun t => some t) = _
    unfold codec_PutFloat.f codec_bits.f cbitsF
    rw [Option.bind_some, putFixed_f K hK _ _ (by rw [hl]; omega), List.append_assoc]; rfl
   ·rw [if_neg k3, if_neg k3]
    by_cases k4 : p.kind = 4
    ·rw [if_pos k4, if_pos k4]
     show ((codec_PutText.f K (b ++ [p.kind % 256]) p.text).bind fun t => some t) = _
     unfold codec_PutText.f
     have hs := hc.size
     have e : IntKind.u64.wrap (p.text.size : Int) = (p.text.size : Int) := by rw [IntKind.wrap_u64]; omega
     have hu := encU_length 9 p.text.size (Nat.lt_of_le_of_lt hs (by decide))
     rw [e, putUint_f K hK _ _ (by omega) (by rw [hl]; omega), Option.bind_some, if_pos (by rw [List.length_append, hl]; omega), Option.bind_some]
     simp only [List.append_assoc]
    ·rw [if_neg k4, if_neg k4, List.append_nil]
def encR (l : List PV) : List Int := encU l.length ++ l.flatMap (fun v => encP (plainV (vOf v)))
theorem rowPut_go (l : List PV) (hw : wfR l = true) (hl : l.length ≤ 1000000) : ∀ (m i : Nat) (b : List Int), l.length - i = m → i ≤ l.length → b.length + m * 80 < 90000000000000 → ∀ K, m + 21 ≤ K → row_Put.l0 K b l (l.length : Int) (i : Int) = some (b ++ (l.drop i).flatMap (fun v => encP (plainV (vOf v))))
 | m, i, b, hm, hi, hb, 0, hK => by omega
 | 0, i, b, hm, hi, hb, K + 1, hK => by
  rw [row_Put.l0, if_neg (by omega), List.drop_of_length_le (by omega)]; simp
 | m + 1, i, b, hm, hi, hb, K + 1, hK => by
  have hil : i < l.length := by omega
  have hv : wfV l[i] = true := List.all_eq_true.1 hw _ (List.getElem_mem hil)
  have e : rd_T39 l (i : Int) = l[i] := by
   unfold rd_T39
   rw [List.getD_eq_getElem?_getD, Int.toNat_natCast, List.getElem?_eq_getElem hil]; rfl
  rw [row_Put.l0, if_pos (by omega), if_pos (by omega), if_pos (by omega), e, valuePut_f K (by omega) b _ hv (by omega), Option.bind_some]
  have hc := encP_length (plain_canon (of_decide_eq_true hv : (vOf l[i]).wf))
  rw [show wrap64 ((i : Int) + 1) = ((i + 1 : Nat) : Int) by unfold wrap64; omega]
  rw [rowPut_go l hw hl m (i + 1) _ (by omega) (by omega) (by rw [List.length_append]; omega) K (by omega)]
  rw [List.drop_eq_getElem_cons hil, List.flatMap_cons, List.append_assoc]
theorem rowPut_f (K : Nat) (l : List PV) (hK : l.length + 30 ≤ K) (hw : wfR l = true) (hl : l.length ≤ 1000000) : row_Put.f K [] l = some (encR l) := by
 unfold row_Put.f
 have e : IntKind.u64.wrap (l.length : Int) = (l.length : Int) := by rw [IntKind.wrap_u64]; omega
 have hu := encU_length 9 l.length (Nat.lt_of_le_of_lt hl (by decide))
 rw [e, putUint_f K (by omega) _ _ (by omega) (by simp), Option.bind_some, List.nil_append]
 have := rowPut_go l hw hl l.length 0 (encU l.length) (by omega) (by omega) (by omega) K (by omega)
 rw [List.drop_zero] at this
 exact this
theorem encR_bytes {l : List PV} (hw : wfR l = true) : ∀ z, z ∈ encR l → 0 ≤ z ∧ z < 256 := by
 intro z hz
 unfold encR at hz
 rcases List.mem_append.1 hz with hz | hz
 ·exact encU_bytes _ _ hz
 ·obtain ⟨v, hv, hz⟩ := List.mem_flatMap.1 hz
  exact encP_bytes (plain_canon (of_decide_eq_true (List.all_eq_true.1 hw v hv))) z hz
theorem flat_one : ∀ (l m : List PV), l.length = m.length → wfR l = true → wfR m = true → ∀ r s, l.flatMap (fun v => encP (plainV (vOf v))) ++ r = m.flatMap (fun v => encP (plainV (vOf v))) ++ s → l.map (fun v => plainV (vOf v)) = m.map (fun v => plainV (vOf v))
 | [], [], _, _, _, _, _, _ => rfl
 | [], _ :: _, h, _, _, _, _, _ => by simp at h
 | _ :: _, [], h, _, _, _, _, _ => by simp at h
 | a :: l, b :: m, h, h1, h2, r, s, he => by
  simp only [wfR, List.all_cons, Bool.and_eq_true] at h1 h2
  rw [List.flatMap_cons, List.flatMap_cons, List.append_assoc, List.append_assoc] at he
  obtain ⟨e1, e2⟩ := encP_one (plain_canon (of_decide_eq_true h1.1)) (plain_canon (of_decide_eq_true h2.1)) he
  rw [List.map_cons, List.map_cons, e1, flat_one l m (by simpa using h) h1.2 h2.2 r s e2]
theorem encR_one {l m : List PV} (h1 : wfR l = true) (h2 : wfR m = true) (h : encR l = encR m) : l.map (fun v => plainV (vOf v)) = m.map (fun v => plainV (vOf v)) := by
 unfold encR at h
 obtain ⟨e1, e2⟩ := encU_one _ _ _ _ h
 exact flat_one l m e1 h1 h2 [] [] (by rw [e2])
theorem ofNat_one {x y : Nat} (hx : x < 256) (hy : y < 256) (h : UInt8.ofNat x = UInt8.ofNat y) : x = y := by
 have := congrArg UInt8.toNat h
 rw [UInt8.toNat_ofNat', UInt8.toNat_ofNat'] at this
 omega
theorem map_ofNat_one : ∀ {a b : List Int}, (∀ z, z ∈ a → 0 ≤ z ∧ z < 256) → (∀ z, z ∈ b → 0 ≤ z ∧ z < 256) → (a.map fun n => UInt8.ofNat n.toNat) = (b.map fun n => UInt8.ofNat n.toNat) → a = b
 | [], [], _, _, _ => rfl
 | [], _ :: _, _, _, h => by simp at h
 | _ :: _, [], _, _, h => by simp at h
 | x :: a, y :: b, h1, h2, h => by
  rw [List.map_cons, List.map_cons] at h
  injection h with e1 e2
  have hx := h1 x List.mem_cons_self
  have hy := h2 y List.mem_cons_self
  have e := ofNat_one (by omega) (by omega) e1
  rw [map_ofNat_one (fun z hz => h1 z (List.mem_cons_of_mem _ hz)) (fun z hz => h2 z (List.mem_cons_of_mem _ hz)) e2, show x = y by omega]
theorem strOf_one {a b : List Int} (h1 : ∀ z, z ∈ a → 0 ≤ z ∧ z < 256) (h2 : ∀ z, z ∈ b → 0 ≤ z ∧ z < 256) (h : strOfNums a = strOfNums b) : a = b := by
 have h := congrArg (fun s : ByteArray => s.data.toList) h
 simp only [strOfNums_data] at h
 exact map_ofNat_one h1 h2 h
end Go.Proofs.YtgmolmpfihkolaaGreat
namespace Go.Proofs.YtgmolmpfihkolaaGreat
open Go.RowKit Go.Proofs.YtgmolmpfihkolaaGreatW.PrintWords Go.Proofs.YtgmolmpfihkolaaGreat.Pj
set_option linter.unusedVariables false
set_option maxRecDepth 100000
theorem two_le {n m : Nat} (h : n ≤ m) : 2 ^ n ≤ 2 ^ m := Nat.pow_le_pow_right (by omega) h
theorem two_mul_lt {a b c : Nat} (h : a + b < c) : 2 ^ a * 2 ^ b < 2 ^ c := by rw [← Nat.pow_add]; exact Nat.pow_lt_pow_right (by omega) h
theorem norm_one {m m' e e' : Nat} (hm : m < 4503599627370496) (hm' : m' < 4503599627370496) (h : (4503599627370496 + m) * 2 ^ e = (4503599627370496 + m') * 2 ^ e') : e = e' ∧ m = m' := by
 have key : ∀ {a b i j : Nat}, a < 4503599627370496 → i < j → (4503599627370496 + a) * 2 ^ i = (4503599627370496 + b) * 2 ^ j → False := by
  intro a b i j ha hij h
  obtain ⟨d, rfl⟩ : ∃ d, j = i + (d + 1) := ⟨j - i - 1, by omega⟩
  rw [Nat.pow_add, ← Nat.mul_assoc, Nat.mul_right_comm] at h
  have h := Nat.eq_of_mul_eq_mul_right (Nat.two_pow_pos i) h
  have h2 : 2 ≤ 2 ^ (d + 1) := by rw [Nat.pow_succ]; have := Nat.two_pow_pos d; omega
  have h3 := Nat.mul_le_mul_left (4503599627370496 + b) h2
  omega
 rcases Nat.lt_trichotomy e e' with h1 | h1 | h1
 ·exact (key hm h1 h).elim
 ·subst h1
  have h := Nat.eq_of_mul_eq_mul_right (Nat.two_pow_pos e) h
  exact ⟨rfl, by omega⟩
 ·exact (key hm' h1 h.symm).elim
theorem magF_one {M M' : Nat} (h1 : M ≤ 9218868437227405312) (h2 : M' ≤ 9218868437227405312) (h : magF M = magF M') : M = M' := by
 have big : ∀ {N : Nat}, ¬ N < 4503599627370496 → N < 9218868437227405312 → (4503599627370496 + N % 4503599627370496) * 2 ^ (N / 4503599627370496 - 1) < 2 ^ 2099 := by
  intro N hn hN
  have a : 4503599627370496 + N % 4503599627370496 < 2 ^ 53 := by have := Nat.mod_lt N (show 0 < 4503599627370496 by omega); omega
  obtain ⟨u, hu⟩ : ∃ u, u = 2045 := ⟨_, rfl⟩
  have b := two_le (show N / 4503599627370496 - 1 ≤ u by omega)
  exact Nat.lt_of_le_of_lt (Nat.mul_le_mul (Nat.le_of_lt a) b) (two_mul_lt (c := 2099) (by omega))
 have low : ∀ (N : Nat), 4503599627370496 ≤ (4503599627370496 + N % 4503599627370496) * 2 ^ (N / 4503599627370496 - 1) := by
  intro N
  have := Nat.mul_le_mul_left (4503599627370496 + N % 4503599627370496) (Nat.two_pow_pos (N / 4503599627370496 - 1))
  omega
 have inf : (4503599627370496 : Nat) < 2 ^ 2099 := calc (4503599627370496 : Nat) < 2 ^ 53 := by omega
  _ ≤ 2 ^ 2099 := Nat.pow_le_pow_right (by omega) (by omega)
 unfold magF at h
 by_cases a1 : M < 4503599627370496
 ·rw [if_pos a1] at h
  by_cases b1 : M' < 4503599627370496
  ·rw [if_pos b1] at h; exact h
  ·rw [if_neg b1] at h
   by_cases b2 : M' < 9218868437227405312
   ·rw [if_pos b2] at h; have := low M'; omega
   ·rw [if_neg b2] at h
    exfalso
    rw [h] at a1
    exact absurd a1 (Nat.not_lt.2 (Nat.le_of_lt inf))
 ·rw [if_neg a1] at h
  by_cases a2 : M < 9218868437227405312
  ·rw [if_pos a2] at h
   by_cases b1 : M' < 4503599627370496
   ·rw [if_pos b1] at h; have := low M; omega
   ·rw [if_neg b1] at h
    by_cases b2 : M' < 9218868437227405312
    ·rw [if_pos b2] at h
     obtain ⟨e1, e2⟩ := norm_one (Nat.mod_lt _ (by omega)) (Nat.mod_lt _ (by omega)) h
     omega
    ·rw [if_neg b2] at h
     exact absurd (big a1 a2) (by rw [h]; exact Nat.lt_irrefl _)
  ·rw [if_neg a2] at h
   by_cases b1 : M' < 4503599627370496
   ·rw [if_pos b1] at h
    exfalso
    rw [← h] at b1
    exact absurd b1 (Nat.not_lt.2 (Nat.le_of_lt inf))
   ·rw [if_neg b1] at h
    by_cases b2 : M' < 9218868437227405312
    ·rw [if_pos b2] at h
     exact absurd (big b1 b2) (by rw [← h]; exact Nat.lt_irrefl _)
    ·omega
theorem magF_zero {M : Nat} (h1 : M ≤ 9218868437227405312) (h : magF M = 0) : M = 0 := magF_one h1 (by omega) (h.trans (by unfold magF; simp))
theorem valF_one {f g : Nat} (hf : f < 18446744073709551616) (hg : g < 18446744073709551616) (nf : nanB f = true → f = 9221120237041090561) (ng : nanB g = true → g = 9221120237041090561) (zf : f % 9223372036854775808 = 0 → f = 0) (zg : g % 9223372036854775808 = 0 → g = 0) (h : valF f = valF g) : f = g := by
 by_cases a : nanB f = true
 ·by_cases b : nanB g = true
  ·rw [nf a, ng b]
  ·have := valF_lt g (by simpa using b)
   rw [← h] at this
   unfold valF at this
   rw [if_pos a] at this
   exact absurd this (Int.lt_irrefl _)
 ·by_cases b : nanB g = true
  ·have := valF_lt f (by simpa using a)
   rw [h] at this
   unfold valF at this
   rw [if_pos b] at this
   exact absurd this (Int.lt_irrefl _)
  ·unfold valF at h
   rw [if_neg a, if_neg b] at h
   have lf : f % 9223372036854775808 ≤ 9218868437227405312 := by unfold nanB at a; simpa using a
   have lg : g % 9223372036854775808 ≤ 9218868437227405312 := by unfold nanB at b; simpa using b
   by_cases s1 : (f / 9223372036854775808 % 2 == 1) = true
   ·rw [if_pos s1] at h
    rw [beq_iff_eq] at s1
    by_cases s2 : (g / 9223372036854775808 % 2 == 1) = true
    ·rw [if_pos s2] at h
     rw [beq_iff_eq] at s2
     have := magF_one lf lg (by omega)
     omega
    ·rw [if_neg s2] at h
     have := zf (magF_zero lf (by omega))
     omega
   ·rw [if_neg s1] at h
    by_cases s2 : (g / 9223372036854775808 % 2 == 1) = true
    ·rw [if_pos s2] at h
     rw [beq_iff_eq] at s2
     have := zg (magF_zero lg (by omega))
     omega
    ·rw [if_neg s2] at h
     rw [beq_iff_eq] at s1 s2
     have := magF_one lf lg (by omega)
     omega
theorem cmpI_zero {a b : Int} (h : cmpI a b = 0) : a = b := by
 unfold cmpI at h
 split at h
 ·omega
 ·split at h <;> omega
theorem cmpV_one {a b : Val} (ha : a.wf) (hb : b.wf) (h : cmpV a b = 0) : plainV a = plainV b := by
 have ca := plain_canon ha
 have cb := plain_canon hb
 unfold cmpV at h
 obtain ⟨p, hp⟩ : ∃ p, p = plainV a := ⟨_, rfl⟩
 obtain ⟨q, hq⟩ : ∃ q, q = plainV b := ⟨_, rfl⟩
 rw [← hp] at ca h ⊢
 rw [← hq] at cb h ⊢
 clear hp hq
 unfold cmpP at h
 by_cases hk : p.kind = q.kind
 ·rw [if_neg (by simpa using hk)] at h
  have put : ∀ {a b : Val}, a.kind = b.kind → a.int = b.int → a.flt = b.flt → a.text = b.text → a = b := by
   rintro ⟨_, _, _, _⟩ ⟨_, _, _, _⟩ h1 h2 h3 h4
   simp only at h1 h2 h3 h4
   rw [h1, h2, h3, h4]
  by_cases k3 : p.kind = 3
  ·rw [if_pos k3, cmpF_val] at h
   exact put hk (by rw [ca.int (by omega) (by omega), cb.int (by omega) (by omega)]) (valF_one ca.fwf cb.fwf ca.nan cb.nan ca.zero cb.zero (cmpI_zero h)) (by rw [ca.text (by omega), cb.text (by omega)])
  ·rw [if_neg k3] at h
   by_cases k4 : p.kind = 4
   ·rw [if_pos k4] at h
    exact put hk (by rw [ca.int (by omega) (by omega), cb.int (by omega) (by omega)]) (by rw [ca.flt k3, cb.flt (by omega)]) (toList_one ((cmpS_vals _ _).2.2.1 h))
   ·rw [if_neg k4] at h
    exact put hk (cmpI_zero h) (by rw [ca.flt k3, cb.flt (by omega)]) (by rw [ca.text k4, cb.text (by omega)])
 ·rw [if_pos (by simpa using hk)] at h
  exact absurd (cmpI_zero h) hk
theorem cmpV_same {a b : Val} (h : plainV a = plainV b) : cmpV a b = 0 := by
 unfold cmpV
 rw [h]
 have := cmpP_neg (plainV b) (plainV b)
 omega
theorem cmpRow_plain : ∀ {l m : List PV}, wfR l = true → wfR m = true → (cmpRow (rOf l) (rOf m) = 0 ↔ l.map (fun v => plainV (vOf v)) = m.map (fun v => plainV (vOf v)))
 | [], [], _, _ => by simp [rOf, cmpRow]
 | [], b :: m, _, _ => by simp [rOf, cmpRow]
 | a :: l, [], _, _ => by simp [rOf, cmpRow]
 | a :: l, b :: m, h1, h2 => by
  simp only [wfR, List.all_cons, Bool.and_eq_true] at h1 h2
  have ih := cmpRow_plain (l := l) (m := m) h1.2 h2.2
  have wa : (vOf a).wf := of_decide_eq_true h1.1
  have wb : (vOf b).wf := of_decide_eq_true h2.1
  simp only [rOf, List.map_cons, cmpRow, List.cons.injEq]
  by_cases e : cmpV (vOf a) (vOf b) = 0
  ·rw [if_neg (by simpa using e)]
   constructor
   ·intro h
    exact ⟨cmpV_one wa wb e, ih.1 h⟩
   ·intro h
    exact ih.2 h.2
  ·rw [if_pos e]
   constructor
   ·intro h; exact absurd h e
   ·intro h; exact absurd (cmpV_same h.1) e
theorem nm_some {p : PK} (hw : wfR p.f1 = true) (hl : p.f1.length ≤ 1000) : row_Put.f KF [] p.f1 = some (encR p.f1) ∧ nm p = strOfNums (encR p.f1) := by
 have h := rowPut_f KF p.f1 (by unfold KF; omega) hw (by omega)
 exact ⟨h, by unfold nm; rw [h]⟩
theorem nm_one {p q : PK} (hp : wfR p.f1 = true) (hq : wfR q.f1 = true) (lp : p.f1.length ≤ 1000) (lq : q.f1.length ≤ 1000) : nm q = nm p ↔ kc p q = 0 := by
 rw [(nm_some hp lp).2, (nm_some hq lq).2]
 unfold kc
 rw [cmpRow_plain hp hq]
 constructor
 ·intro h
  exact encR_one hp hq (strOf_one (encR_bytes hp) (encR_bytes hq) h.symm)
 ·intro h
  have hl : p.f1.length = q.f1.length := by have := congrArg List.length h; simpa using this
  have e : p.f1.flatMap (fun v => encP (plainV (vOf v))) = q.f1.flatMap (fun v => encP (plainV (vOf v))) := by
   have a : ∀ l : List PV, l.flatMap (fun v => encP (plainV (vOf v))) = (l.map (fun v => plainV (vOf v))).flatMap encP := fun l => by rw [List.flatMap_map]
   rw [a, a, h]
  unfold encR
  rw [hl, e]
end Go.Proofs.YtgmolmpfihkolaaGreat
namespace Go.Proofs.YtgmolmpfihkolaaGreat.Pj
open Go.RowKit Go.Proofs.YtgmolmpfihkolaaGreatW.PrintWords Go.Proofs.YtgmolmpfihkolaaGreatW.PrintLast Go.Proofs.YtgmolmpfihkolaaGreatW.PrintMore
attribute [local go_sem] run_store_flt max2_int min2_int max_two min_two max_three min_three max_four min_four
set_option linter.unusedVariables false
set_option linter.unusedSimpArgs false
def r04_Exact.f (a0_0 : Int) (a0_1 : Int) (a0_2 : Nat) (a0_3 : ByteArray) (a1_0 : Int) (a1_1 : Int) (a1_2 : Nat) (a1_3 : ByteArray) : Option (Bool) := exactF ⟨a0_0, a0_1, a0_2, a0_3⟩ ⟨a1_0, a1_1, a1_2, a1_3⟩
theorem r04_Exact.calls (a0_0 : Int) (a0_1 : Int) (a0_2 : Nat) (a0_3 : ByteArray) (a1_0 : Int) (a1_1 : Int) (a1_2 : Nat) (a1_3 : ByteArray) (r : Bool) (w : World) (h : r04_Exact.f a0_0 a0_1 a0_2 a0_3 a1_0 a1_1 a1_2 a1_3 = some r) :
 Calls Tryz.prog 38 #[.agg #[.int .i64 a0_0, .int .i64 a0_1, .float .f64 a0_2, .string a0_3], .agg #[.int .i64 a1_0, .int .i64 a1_1, .float .f64 a1_2, .string a1_3]] w fun e w' => e = .returned (.bool r) ∧ Below w.heap.size w w' := by
 unfold r04_Exact.f exactF at h
 split at h
 ·rename_i hc
  simp only [Bool.and_eq_true, decide_eq_true_eq, wfV] at hc
  cases h
  exact Exact_true _ _ hc.1 hc.2.1 hc.2.2 w
 ·cases h
end Go.Proofs.YtgmolmpfihkolaaGreat.Pj
