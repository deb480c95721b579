/- Part of the proof. -/
import Derived.Test.YtgmolmpfihkolaaGreatD22
namespace Go.Proofs.YtgmolmpfihkolaaGreat
open Go.RowKit Go.Proofs.YtgmolmpfihkolaaGreatW.PrintWords Go.Proofs.YtgmolmpfihkolaaGreat.Pj
set_option linter.unusedVariables false
set_option maxRecDepth 100000
abbrev byP : Value := .func (.func 49) #[] #[]
def SortsP : Prop := ∀ (w : World) (base : Nat) (ok : Nat → Prop) (v : Value) (ps : List PP), Kd.R k71 71 w base ok v ps → ps.length ≤ 1000000000000 →
 Calls Tryz.prog 48 #[v, byP] w fun e w' => e = .returned (.tuple #[]) ∧ Kd.R k71 71 w' base ok v (sortP ps) ∧ w.grownBy w' v.ownBlock
abbrev RK := @Kd.R PK k80 80
abbrev RP := @Kd.R PP k71 71
def S1 (w : World) (x y : List PK) (vx vy : Value) (W : World) : Prop := RK W w.heap.size (fun k => some k ≠ vy.ownBlock) vx x ∧ RK W w.heap.size (fun k => some k ≠ vx.ownBlock) vy y ∧ Below w.heap.size w W
def S2 (w : World) (x y : List PK) (vx vy : Value) (W : World) : Prop := (∃ xs' : List PK, xs'.Perm x ∧ SortedK xs' ∧ RK W w.heap.size (fun k => some k ≠ vy.ownBlock) vx xs') ∧ RK W w.heap.size (fun k => some k ≠ vx.ownBlock) vy y ∧ Below w.heap.size w W
def S3 (w : World) (x y : List PK) (vx vy : Value) (W : World) : Prop := (∃ xs' : List PK, xs'.Perm x ∧ SortedK xs' ∧ RK W w.heap.size (fun k => some k ≠ vy.ownBlock) vx xs') ∧ (∃ ys' : List PK, ys'.Perm y ∧ SortedK ys' ∧ RK W w.heap.size (fun k => some k ≠ vx.ownBlock) vy ys') ∧ Below w.heap.size w W
def S4 (w : World) (T : List PP) (v : Value) (W : World) : Prop := (∃ T' : List PP, sortP T' = T ∧ T'.length ≤ 1000000000000 ∧ RP W w.heap.size (fun _ => True) v T') ∧ Below w.heap.size w W
def S5 (w : World) (T : List PP) (v : Value) (W : World) : Prop := RP W w.heap.size (fun _ => True) v T ∧ Below w.heap.size w W
theorem okK_parts {x : List PK} (h : okK x = true) : AtUp x ∧ WfK x ∧ x.length ≤ 1000000 := by
 unfold okK at h
 simp only [Bool.and_eq_true, decide_eq_true_eq, List.all_eq_true] at h
 exact ⟨h.1, h.2.1, h.2.2⟩
theorem step2 {w W : World} {x y : List PK} {vx vy : Value} (h : S1 w x y vx vy W) (hx : okK x = true) :
 Calls Tryz.prog 46 #[vx, byF] W fun e w' => e = .returned (.tuple #[]) ∧ S2 w x y vx vy w' := by
 obtain ⟨h1, h2, h3⟩ := h
 obtain ⟨u, wf, l⟩ := okK_parts hx
 refine (sortK_any h1 u wf (by omega)).mono ?_
 rintro e w' ⟨rfl, ⟨xs', p, s, r⟩, hg⟩
 exact ⟨rfl, ⟨xs', p, s, r⟩, Kd.R_grown h2 hg (fun k hk => hk), h3.grown hg h3.size (Kd.R_base h1)⟩
theorem step3 {w W : World} {x y : List PK} {vx vy : Value} (h : S2 w x y vx vy W) (hy : okK y = true) :
 Calls Tryz.prog 46 #[vy, byF] W fun e w' => e = .returned (.tuple #[]) ∧ S3 w x y vx vy w' := by
 obtain ⟨⟨xs', p, s, h1⟩, h2, h3⟩ := h
 obtain ⟨u, wf, l⟩ := okK_parts hy
 refine (sortK_any h2 u wf (by omega)).mono ?_
 rintro e w' ⟨rfl, ⟨ys', p2, s2, r⟩, hg⟩
 exact ⟨rfl, ⟨xs', p, s, Kd.R_grown h1 hg (fun k hk => hk)⟩, ⟨ys', p2, s2, r⟩, h3.grown hg h3.size (Kd.R_base h2)⟩
theorem R_keyed2 {w : World} {base n cap : Nat} {A : Option Addr} {ok : Nat → Prop} {xs : List PK} (h : RK w base ok (.slice A n cap) xs) (hl : xs.length ≤ 1099511627776) : KeyedV w A n cap xs := by
 obtain ⟨A', c', e, hc, _⟩ := Kd.R_reads h
 injection e with e1 e2 e3
 subst e1
 subst e3
 cases A with
 | none =>
  obtain ⟨_, inner, ⟨_, ho⟩, _⟩ := h
  rcases ho with ⟨e, e0⟩ | ⟨g, cap', cur, e, _⟩
  ·exact ⟨e2.symm, by omega, by omega, .inl (by omega)⟩
  ·cases e
 | some ad =>
  obtain ⟨g, rfl⟩ := Kd.R_head h
  exact R_keyed h e2.symm (by omega)
theorem step4 {w W : World} {x y : List PK} {vx vy : Value} (h : S3 w x y vx vy W) (hx : okK x = true) (hy : okK y = true) :
 Calls Tryz.prog 47 #[vx, vy] W fun e w' => ∃ v, e = .returned v ∧ S4 w (pairsOf x y) v w' := by
 obtain ⟨⟨xs', px, sx, h1⟩, ⟨ys', py, sy, h2⟩, h3⟩ := h
 obtain ⟨ux, wx, lx⟩ := okK_parts hx
 obtain ⟨uy, wy, ly⟩ := okK_parts hy
 obtain ⟨A1, c1, rfl⟩ := Kd.R_slice h1
 obtain ⟨A2, c2, rfl⟩ := Kd.R_slice h2
 have l1 := px.length_eq
 have l2 := py.length_eq
 have hm : x.length * y.length ≤ 1000000 * 1000000 := Nat.mul_le_mul lx ly
 refine (merged_any xs' ys' A1 A2 _ c1 _ c2 W (R_keyed2 h1 (by omega)) (R_keyed2 h2 (by omega)) sx sy (fun p hp => wx p (px.mem_iff.1 hp)) (fun p hp => wy p (py.mem_iff.1 hp)) (by rw [l1, l2]; exact hm)).mono ?_
 rintro e w' ⟨v, rfl, ⟨out, ho, hr⟩, hb⟩
 rw [List.append_nil] at ho
 refine ⟨v, rfl, ⟨out, by rw [ho]; exact merge_pairs px py ux uy, ?_, Kd.R_mono (Kd.R_lower hr h3.size) (fun _ _ => trivial)⟩, h3.trans (hb.mono h3.size)⟩
 rw [ho]
 have := pairs_length xs' ys'
 rw [l1, l2] at this
 omega
theorem step5 (SP : SortsP) {w W : World} {T : List PP} {v : Value} (h : S4 w T v W) :
 Calls Tryz.prog 48 #[v, byP] W fun e w' => e = .returned (.tuple #[]) ∧ S5 w T v w' := by
 obtain ⟨⟨T', e, hl, h1⟩, h3⟩ := h
 refine (SP W _ _ v T' h1 hl).mono ?_
 rintro e' w' ⟨rfl, hr, hg⟩
 exact ⟨rfl, e ▸ hr, h3.grown hg h3.size (Kd.R_base h1)⟩
set_option maxHeartbeats 4000000 in
theorem Merge_any (SP : SortsP) (A0 : Option Addr) (c0 : Nat) (l0 : List (List (List PV))) (A1 : Option Addr) (c1 : Nat) (l1 : List (List (List PV))) (A2 : Option Addr) (c2 : Nat) (l2 : List PE) (A3 : Option Addr) (c3 : Nat) (l3 : List PE) (A4 : Option Addr) (c4 : Nat) (l4 : List PE) (r1 : List (List (List PV))) (r2 : Int) (w : World) (hr0 : Kd.C (Kd.slice 29 (Kd.slice 39 k39)) w A0 l0.length l0) (hc0 : l0.length ≤ c0) (hr1 : Kd.C (Kd.slice 29 (Kd.slice 39 k39)) w A1 l1.length l1) (hc1 : l1.length ≤ c1) (hr2 : Kd.C k53 w A2 l2.length l2) (hc2 : l2.length ≤ c2) (hr3 : Kd.C k53 w A3 l3.length l3) (hc3 : l3.length ≤ c3) (hr4 : Kd.C k53 w A4 l4.length l4) (hc4 : l4.length ≤ c4) (h : keyedF l0 l1 l2 l3 l4 = some (r1, r2)) :
 Calls Tryz.prog 21 #[.slice A0 l0.length c0, .slice A1 l1.length c1, .slice A2 l2.length c2, .slice A3 l3.length c3, .slice A4 l4.length c4] w fun e w' => ∃ v0_ : Value, e = .returned (.tuple #[v0_, .int .i64 r2]) ∧ Kd.R (Kd.slice 29 (Kd.slice 39 k39)) 22 w' w.heap.size (fun _ => True) v0_ r1 ∧ Below w.heap.size w w' := by
 unfold keyedF at h
 rw [Option.bind_eq_some_iff] at h
 obtain ⟨⟨x, y, er⟩, hb, h⟩ := h
 have CB := hdq (joins_both.calls KF A0 c0 l0 A1 c1 l1 A2 c2 l2 A3 c3 l3 x y er w hr0 hc0 hr1 hc1 hr2 hc2 hr3 hc3 hb)
 simp only at h
 by_cases he : er = 0
 ·subst he
  rw [if_pos rfl] at h
  have ho : okK x = true ∧ okK y = true := by
   by_cases ho : (okK x && okK y) = true
   ·simpa using ho
   ·rw [if_neg ho] at h; cases h
  rw [if_pos (by rw [ho.1, ho.2]; rfl)] at h
  have HO := hdq ho
  have CT : Hid (∀ (v : Value) (W : World), S5 w (pairsOf x y) v W → ∃ A c, v = .slice A (pairsOf x y).length c ∧ Calls Tryz.prog 39 #[.slice A0 l0.length c0, .slice A1 l1.length c1, .slice A (pairsOf x y).length c, .slice A4 l4.length c4] W fun e w' => ∃ v0_ : Value, e = .returned (.tuple #[v0_, .int .i64 r2]) ∧ Kd.R (Kd.slice 29 (Kd.slice 39 k39)) 22 w' w.heap.size (fun _ => True) v0_ r1 ∧ Below w.heap.size w w') := hdq (fun v W hS => by
   obtain ⟨s1, s2⟩ := hS
   obtain ⟨A, c, rfl, hlc, hC⟩ := Kd.R_reads s1
   refine ⟨A, c, rfl, (joins_told.calls KF A0 c0 l0 A1 c1 l1 A c (pairsOf x y) A4 c4 l4 r1 r2 W (Kd.C_below hr0 s2) hc0 (Kd.C_below hr1 s2) hc1 hC hlc (Kd.C_below hr4 s2) hc4 h).mono ?_⟩
   rintro e w' ⟨v0, rfl, q1, q2⟩
   exact ⟨v0, rfl, Kd.R_lower q1 s2.size, s2.trans (q2.mono s2.size)⟩)
  clear h ho hb hr0 hc0 hr1 hc1 hr2 hc2 hr3 hc3 hr4 hc4
  obtain ⟨n0, hn0⟩ : ∃ n, n = l0.length := ⟨_, rfl⟩
  obtain ⟨n1, hn1⟩ : ∃ n, n = l1.length := ⟨_, rfl⟩
  obtain ⟨n2, hn2⟩ : ∃ n, n = l2.length := ⟨_, rfl⟩
  obtain ⟨n3, hn3⟩ : ∃ n, n = l3.length := ⟨_, rfl⟩
  obtain ⟨n4, hn4⟩ : ∃ n, n = l4.length := ⟨_, rfl⟩
  obtain ⟨n5, hn5⟩ : ∃ n, n = (pairsOf x y).length := ⟨_, rfl⟩
  rw [← hn0, ← hn1, ← hn2, ← hn3] at CB
  rw [← hn0, ← hn1, ← hn4, ← hn5] at CT
  rw [← hn0, ← hn1, ← hn2, ← hn3, ← hn4]
  clear hn0 hn1 hn2 hn3 hn4 hn5
  go_enter Tryz.func21, Tryz.ntmps21
  go_wp2_with (first
   | (go_at_call 41; refine CB.out.mono ?_; rintro e w1 ⟨vx, vy, rfl, hx, hy, hB⟩; have H1 := hdq (show S1 w x y vx vy w1 from ⟨Kd.S_R hx, Kd.S_R hy, hB⟩); clear hx hy hB)
   | (go_at_call 46; refine (step3 H2.out HO.out.2).mono ?_; rintro e w3 ⟨rfl, h3⟩; have H3 := hdq h3; clear h3)
   | (go_at_call 46; refine (step2 H1.out HO.out.1).mono ?_; rintro e w2 ⟨rfl, h2⟩; have H2 := hdq h2; clear h2)
   | (go_at_call 47; refine (step4 H3.out HO.out.1 HO.out.2).mono ?_; rintro e w4 ⟨vp, rfl, h4⟩; have H4 := hdq h4; clear h4)
   | (go_at_call 48; refine (step5 SP H4.out).mono ?_; rintro e w5 ⟨rfl, h5⟩; obtain ⟨Ap, cp, rfl, h6⟩ := CT.out _ _ h5; have H6 := hdq h6; clear h5 h6)
   | (go_at_call 39; refine H6.out.mono ?_; rintro e w7 ⟨v0, rfl, q1, q2⟩; have H7 := hdq (And.intro q1 q2); clear q1 q2))
  go_ret2
  exact ⟨_, rfl, H7.out⟩
 ·rw [if_neg he] at h
  injection h with h
  injection h with e1 e2
  subst e1
  subst e2
  have hb1 : (er != 0) = true := by simp [he]
  obtain ⟨n0, hn0⟩ : ∃ n, n = l0.length := ⟨_, rfl⟩
  obtain ⟨n1, hn1⟩ : ∃ n, n = l1.length := ⟨_, rfl⟩
  obtain ⟨n2, hn2⟩ : ∃ n, n = l2.length := ⟨_, rfl⟩
  obtain ⟨n3, hn3⟩ : ∃ n, n = l3.length := ⟨_, rfl⟩
  obtain ⟨n4, hn4⟩ : ∃ n, n = l4.length := ⟨_, rfl⟩
  rw [← hn0, ← hn1, ← hn2, ← hn3] at CB
  rw [← hn0, ← hn1, ← hn2, ← hn3, ← hn4]
  clear hn0 hn1 hn2 hn3 hn4 hb hr0 hc0 hr1 hc1 hr2 hc2 hr3 hc3 hr4 hc4
  go_enter Tryz.func21, Tryz.ntmps21
  go_wp2_with (first
   | (go_at_call 41; refine CB.out.mono ?_; rintro e w1 ⟨vx, vy, rfl, hx, hy, hB⟩; have H1 := hdq hB; clear hx hy hB))
  go_ret2
  exact ⟨_, rfl, Kd.R_nil _ _ _ _ _, H1.out⟩
end Go.Proofs.YtgmolmpfihkolaaGreat
namespace Go.Proofs.YtgmolmpfihkolaaGreat.Pj
open Go.RowKit
theorem info5 : (Tryz.prog.info? 5).map (fun i => (i.zero, i.size, i.bytes)) = some (some (.int .u8 0), 1, 1) := by kernel_rfl
end Go.Proofs.YtgmolmpfihkolaaGreat.Pj
namespace Go.Proofs.YtgmolmpfihkolaaGreat
open Go.RowKit
set_option linter.unusedVariables false
set_option maxRecDepth 100000
attribute [local go_sem] run_f64bits run_f64from
def bitsV (f : Nat) : Nat := if nanB f then 9221120237041090561 else if f % 9223372036854775808 = 0 then 0 else f
def cbitsF (f : Nat) : Option Int := some (bitsV f : Int)
theorem bits_any (f : Nat) (w : World) : Calls Tryz.prog 124 #[.float .f64 f] w fun e w' => e = .returned (.int .u64 (bitsV f : Nat)) ∧ Below w.heap.size w w' := by
 obtain ⟨r, hr⟩ : ∃ r, r = bitsV f := ⟨_, rfl⟩
 rw [← hr]
 unfold bitsV at hr
 have h := order_self f
 have h' : (FloatKind.f64.format.order f f != some .eq) = nanB f := by rw [bne, h, Bool.not_not]
 have hoz := order_zero f
 clear h
 cases hn : nanB f with
 | true =>
  rw [hn] at h' hr
  rw [if_pos rfl] at hr
  subst hr
  clear hn hoz
  go_enter Tryz.func124, Tryz.ntmps124
  go_wp2
  go_ret
  exact ⟨rfl, Below.refl _ _⟩
 | false =>
  rw [hn] at h' hr
  rw [if_neg (by simp)] at hr
  by_cases hz : f % 9223372036854775808 = 0
  ·rw [if_pos hz] at hr
   rw [decide_eq_true hz] at hoz
   subst hr
   clear hn hz
   go_enter Tryz.func124, Tryz.ntmps124
   go_wp2
   go_ret
   exact ⟨rfl, Below.refl _ _⟩
  ·rw [if_neg hz] at hr
   rw [decide_eq_false hz] at hoz
   subst hr
   clear hn hz
   go_enter Tryz.func124, Tryz.ntmps124
   go_wp2
   go_ret
   exact ⟨rfl, Below.refl _ _⟩
end Go.Proofs.YtgmolmpfihkolaaGreat
namespace Go.Proofs.YtgmolmpfihkolaaGreat.Pj
open Go.RowKit Go.Proofs.YtgmolmpfihkolaaGreatW.PrintWords Go.Proofs.YtgmolmpfihkolaaGreatW.PrintLast Go.Proofs.YtgmolmpfihkolaaGreatW.PrintMore
attribute [local go_sem] run_store_flt max2_int min2_int max_two min_two max_three min_three max_four min_four
set_option linter.unusedVariables false
set_option linter.unusedSimpArgs false
def codec_PutUint.l0 : Nat → List Int → Int → Option (List Int)
 | 0, _, _ => none
 | k + 1, x0, x1 => if x1 ≥ 128 then (if x0.length < 140737488355328 then (codec_PutUint.l0 k (x0 ++ [Go.bits .or .u8 ((x1) % 256) 128]) (x1 / 128)) else (none)) else (if x0.length < 140737488355328 then (some (x0 ++ [(x1) % 256])) else (none))
def codec_PutUint.f (k : Nat) (l0 : List Int) (a1 : Int) : Option (List Int) := codec_PutUint.l0 k l0 a1
set_option maxHeartbeats 8000000 in
set_option maxRecDepth 100000 in
theorem codec_PutUint.calls (k : Nat) (P0_ : Nat → Prop) (u9000_ : Value) (l0 : List Int) (a1 : Int) (r : List Int) (w0 w : World) (hB : Below w0.heap.size w0 w) (ho0 : Kd.R (Kd.int .u8) 5 w w0.heap.size P0_ u9000_ l0) (h : codec_PutUint.f k l0 a1 = some r) :
 Calls Tryz.prog 69 #[u9000_, .int .u64 a1] w fun e w' => ∃ v0_ : Value, e = .returned (v0_) ∧ Kd.R (Kd.int .u8) 5 w' w0.heap.size (fun k_ => (P0_ k_ ∨ w.heap.size ≤ k_)) v0_ r ∧ Below w0.heap.size w0 w' ∧ Kept w w' (fun k_ => P0_ k_) := by
 have HO0 := akk (show Kd.R (Kd.int .u8) 5 w w0.heap.size (fun k_ => (P0_ k_ ∨ w.heap.size ≤ k_)) u9000_ l0 from Kd.R_mono ho0 (fun k_ hk => (.inl hk)))
 have HK := akk (Kept.refl w (fun k_ => P0_ k_))
 have HW0 := akk hB.size
 have HB := akk hB
 clear hB
 have H : (codec_PutUint.l0 k l0 a1) = some r := h
 clear h
 have H' := akk H
 clear H
 go_enter Tryz.func69, Tryz.ntmps69
 go_wp2
 go_loopg [0, 1] k (fun kq v0 v1 w' => ∃ (x0_1 : List Int) (x1_1 : Int), v1 = .int .u64 x1_1 ∧ Aside0 (codec_PutUint.l0 kq x0_1 x1_1 = some r) ∧ Aside0 (kq ≤ k) ∧ Aside0 (Kd.R (Kd.int .u8) 5 w' w0.heap.size (fun k_ => (P0_ k_ ∨ w.heap.size ≤ k_)) v0 x0_1) ∧ Aside0 (Kept w w' (fun k_ => P0_ k_)) ∧ Aside0 (Below w0.heap.size w0 w'))
 case atStart => exact ⟨(l0), (a1), eT, H', ⟨Nat.le_refl _⟩, ⟨rT HO0.out⟩, ⟨by repeat (first | (with_reducible first | exact HK.out | apply Kept.alloc | apply Kept.drewN | apply Kept.drew) | exact HK.out)⟩, ⟨bT⟩⟩
 case round =>
  clear H'
  obtain ⟨x0_1, x1_1, rfl, HA, HK1, HO_0, HK, HB⟩ := hrel
  cases gk with
  | zero => exact absurd HA.out (by simp [codec_PutUint.l0])
  | succ k1 =>
   have H := HA.out
   clear HA
   simp only [codec_PutUint.l0] at H
   by_cases c3 : x1_1 ≥ 128
   ·rw [if_pos c3] at H
    have c3b0 := decide_eq_true c3
    clear c3
    by_cases c4 : x0_1.length < 140737488355328
    ·rw [if_pos c4] at H
     have LMc4 := akk c4
     clear c4
     obtain ⟨y188, hy188⟩ : ∃ y_ : List Int, y_ = (x0_1 ++ [Go.bits .or .u8 ((x1_1) % 256) 128]) := ⟨_, rfl⟩
     replace H : (codec_PutUint.l0 k1 y188 (x1_1 / 128)) = some r := jT hy188 H
     have Ny188 := akk hy188
     clear hy188
     have H' := akk H
     clear H
     go_wp2_with ((with_reducible refine gA #[.tmp 7, .tmp 11] rfl ?_); at_builtin; refine Kd.R_append (Kd.int .u8) (w0 := w0) w0.heap.size rfl (.tmp 7) (.tmp 11) 81 5 (.int .u8 0) 1 rfl Tryz.underlying81 info5 rfl (by decide) (by omega) u0 x0_1 (Go.bits .or .u8 ((x1_1) % 256) 128) [.int .u8 (Go.bits .or .u8 ((x1_1) % 256) 128)] (fun k_ => (P0_ k_ ∨ w.heap.size ≤ k_)) (fun _ => False) rfl rfl ?aP (fun _ hk => hk.elim) ?aF ?aO ?aB ?aS ?aL ?_; (case aP => exact rfl); (case aB => exact bT); (case aF => exact (fun k_ hk => (.inr (Nat.le_trans hk1 hk)))); (case aO => exact (rT HO_0.out)); (case aS => exact (below_size bT)); (case aL => have := LMc4.out; omega); intro v189 w5 ho hb hg hat; rw [← Ny188.out] at ho; replace HB := akk (hb); replace HK := hG HK hg (fun k_ e_ => (HO_0.out.1 k_ e_)); have HO190 := akk (ho); clear HO_0; clear ho hb hg hat)
     go_roundg k1
     case measure => have := HK1.out; omega
     case rel => exact ⟨(y188), (x1_1 / 128), eT, H', ⟨by have := HK1.out; omega⟩, ⟨rT HO190.out⟩, ⟨by repeat (first | (with_reducible first | exact HK.out | apply Kept.alloc | apply Kept.drewN | apply Kept.drew) | exact HK.out)⟩, ⟨bT⟩⟩
    ·rw [if_neg c4] at H
     exact absurd H (by simp)
   ·rw [if_neg c3] at H
    have c3b0 := decide_eq_false c3
    clear c3
    by_cases c6 : x0_1.length < 140737488355328
    ·rw [if_pos c6] at H
     have LMc6 := akk c6
     clear c6
     obtain ⟨y191, hy191⟩ : ∃ y_ : List Int, y_ = (x0_1 ++ [(x1_1) % 256]) := ⟨_, rfl⟩
     replace H : (some y191) = some r := jT hy191 H
     have Ny191 := akk hy191
     clear hy191
     obtain rfl := Option.some.inj H
     go_wp2_with ((with_reducible refine gA #[.tmp 15, .tmp 18] rfl ?_); at_builtin; refine Kd.R_append (Kd.int .u8) (w0 := w0) w0.heap.size rfl (.tmp 15) (.tmp 18) 81 5 (.int .u8 0) 1 rfl Tryz.underlying81 info5 rfl (by decide) (by omega) u0 x0_1 ((x1_1) % 256) [.int .u8 ((x1_1) % 256)] (fun k_ => (P0_ k_ ∨ w.heap.size ≤ k_)) (fun _ => False) rfl rfl ?aP (fun _ hk => hk.elim) ?aF ?aO ?aB ?aS ?aL ?_; (case aP => exact rfl); (case aB => exact bT); (case aF => exact (fun k_ hk => (.inr (Nat.le_trans hk1 hk)))); (case aO => exact (rT HO_0.out)); (case aS => exact (below_size bT)); (case aL => have := LMc6.out; omega); intro v192 w7 ho hb hg hat; rw [← Ny191.out] at ho; replace HB := akk (hb); replace HK := hG HK hg (fun k_ e_ => (HO_0.out.1 k_ e_)); have HO193 := akk (ho); clear HO_0; clear ho hb hg hat)
     go_ret
     exact ⟨_, fT, rT' HO193.out, bT, by repeat (first | (with_reducible first | exact HK.out | apply Kept.alloc | apply Kept.drewN | apply Kept.drew) | exact HK.out)⟩
    ·rw [if_neg c6] at H
     exact absurd H (by simp)
def codec_PutInt.f (k : Nat) (l0 : List Int) (a1 : Int) : Option (List Int) := if a1 < 0 then ((codec_PutUint.f k l0 (Go.bits .xor .u64 IntKind.u64.max (IntKind.u64.wrap ((IntKind.u64.wrap (a1)) * 2)))).bind fun t194 => (some t194)) else ((codec_PutUint.f k l0 (IntKind.u64.wrap ((IntKind.u64.wrap (a1)) * 2))).bind fun t197 => (some t197))
set_option maxHeartbeats 8000000 in
set_option maxRecDepth 100000 in
theorem codec_PutInt.calls (k : Nat) (P0_ : Nat → Prop) (u9000_ : Value) (l0 : List Int) (a1 : Int) (r : List Int) (w0 w : World) (hB : Below w0.heap.size w0 w) (ho0 : Kd.R (Kd.int .u8) 5 w w0.heap.size P0_ u9000_ l0) (h : codec_PutInt.f k l0 a1 = some r) :
 Calls Tryz.prog 96 #[u9000_, .int .i64 a1] w fun e w' => ∃ v0_ : Value, e = .returned (v0_) ∧ Kd.R (Kd.int .u8) 5 w' w0.heap.size (fun k_ => (P0_ k_ ∨ w.heap.size ≤ k_)) v0_ r ∧ Below w0.heap.size w0 w' ∧ Kept w w' (fun k_ => P0_ k_) := by
 have HO0 := akk (show Kd.R (Kd.int .u8) 5 w w0.heap.size (fun k_ => (P0_ k_ ∨ w.heap.size ≤ k_)) u9000_ l0 from Kd.R_mono ho0 (fun k_ hk => (.inl hk)))
 have HK := akk (Kept.refl w (fun k_ => P0_ k_))
 have HW0 := akk hB.size
 have HB := akk hB
 clear hB
 have H : (if a1 < 0 then ((codec_PutUint.f k l0 (Go.bits .xor .u64 IntKind.u64.max (IntKind.u64.wrap ((IntKind.u64.wrap (a1)) * 2)))).bind fun t194 => (some t194)) else ((codec_PutUint.f k l0 (IntKind.u64.wrap ((IntKind.u64.wrap (a1)) * 2))).bind fun t197 => (some t197))) = some r := h
 clear h
 by_cases c3 : a1 < 0
 ·rw [if_pos c3] at H
  have c3b0 := decide_eq_true c3
  clear c3
  obtain ⟨t194, A4, H⟩ := bi H
  try dsimp only at H
  obtain rfl := Option.some.inj H
  obtain ⟨Ao5, co5, eo5⟩ := Kd.R_slice HO0.out
  subst eo5
  go_enter Tryz.func96, Tryz.ntmps96
  go_wp2_with (refine gT 69 (some 15) Tryz.func69 #[.slice Ao5 l0.length co5, .int .u64 (Go.bits .xor .u64 IntKind.u64.max (IntKind.u64.wrap ((IntKind.u64.wrap (a1)) * 2)))] ?_; (with_reducible refine (codec_PutUint.calls k (fun k_ => some k_ = (.slice Ao5 l0.length co5 : Value).ownBlock) (.slice Ao5 l0.length co5) l0 (Go.bits .xor .u64 IntKind.u64.max (IntKind.u64.wrap ((IntKind.u64.wrap (a1)) * 2))) t194 w0 _ ?_ ?_ A4.out).mono ?_); exact bT; exact Kd.R_tight rfl HO0.out; rintro e w6 ⟨v195, rfl, ho0, hb, hkp⟩; refine ⟨_, rfl, ?_⟩; have HO196 := akk (Kd.R_mono (ok' := fun k_ => (P0_ k_ ∨ w.heap.size ≤ k_)) ho0 (fun k_ hk_ => Or.elim hk_ (fun hs_ => (HO0.out.1 k_ (hs_).symm)) (fun hn_ => (.inr (Nat.le_trans hk1 hn_))))); replace HK := hT HK hkp (fun k_ hs_ => (fun e_ => (HO0.out.1 k_ e_.symm)) hs_); replace HB := akk (hb); clear HO0; clear hb hkp ho0)
  go_ret
  exact ⟨_, fT, rT' HO196.out, bT, by repeat (first | (with_reducible first | exact HK.out | apply Kept.alloc | apply Kept.drewN | apply Kept.drew) | exact HK.out)⟩
 ·rw [if_neg c3] at H
  have c3b0 := decide_eq_false c3
  clear c3
  obtain ⟨t197, A7, H⟩ := bi H
  try dsimp only at H
  obtain rfl := Option.some.inj H
  obtain ⟨Ao8, co8, eo8⟩ := Kd.R_slice HO0.out
  subst eo8
  go_enter Tryz.func96, Tryz.ntmps96
  go_wp2_with (refine gT 69 (some 15) Tryz.func69 #[.slice Ao8 l0.length co8, .int .u64 (IntKind.u64.wrap ((IntKind.u64.wrap (a1)) * 2))] ?_; (with_reducible refine (codec_PutUint.calls k (fun k_ => some k_ = (.slice Ao8 l0.length co8 : Value).ownBlock) (.slice Ao8 l0.length co8) l0 (IntKind.u64.wrap ((IntKind.u64.wrap (a1)) * 2)) t197 w0 _ ?_ ?_ A7.out).mono ?_); exact bT; exact Kd.R_tight rfl HO0.out; rintro e w9 ⟨v198, rfl, ho0, hb, hkp⟩; refine ⟨_, rfl, ?_⟩; have HO199 := akk (Kd.R_mono (ok' := fun k_ => (P0_ k_ ∨ w.heap.size ≤ k_)) ho0 (fun k_ hk_ => Or.elim hk_ (fun hs_ => (HO0.out.1 k_ (hs_).symm)) (fun hn_ => (.inr (Nat.le_trans hk1 hn_))))); replace HK := hT HK hkp (fun k_ hs_ => (fun e_ => (HO0.out.1 k_ e_.symm)) hs_); replace HB := akk (hb); clear HO0; clear hb hkp ho0)
  go_ret
  exact ⟨_, fT, rT' HO199.out, bT, by repeat (first | (with_reducible first | exact HK.out | apply Kept.alloc | apply Kept.drewN | apply Kept.drew) | exact HK.out)⟩
def codec_PutFixed.l0 : Nat → List Int → Int → Int → Option (List Int)
 | 0, _, _, _ => none
 | k + 1, x0, x1, x7 => if x7 ≥ 0 then (if 0 ≤ (IntKind.u64.wrap (wrap64 (8 * x7))) then (if x0.length < 140737488355328 then (codec_PutFixed.l0 k (x0 ++ [(shr .u64 x1 (IntKind.u64.wrap (wrap64 (8 * x7)))) % 256]) x1 (wrap64 (x7 - 1))) else (none)) else (none)) else (some x0)
def codec_PutFixed.f (k : Nat) (l0 : List Int) (a1 : Int) (a2 : Int) : Option (List Int) := codec_PutFixed.l0 k l0 a1 ((mn (mx a2 0) 8) - 1)
set_option maxHeartbeats 8000000 in
set_option maxRecDepth 100000 in
theorem codec_PutFixed.calls (k : Nat) (P0_ : Nat → Prop) (u9000_ : Value) (l0 : List Int) (a1 : Int) (a2 : Int) (r : List Int) (w0 w : World) (hB : Below w0.heap.size w0 w) (ho0 : Kd.R (Kd.int .u8) 5 w w0.heap.size P0_ u9000_ l0) (h : codec_PutFixed.f k l0 a1 a2 = some r) :
 Calls Tryz.prog 123 #[u9000_, .int .u64 a1, .int .i64 a2] w fun e w' => ∃ v0_ : Value, e = .returned (v0_) ∧ Kd.R (Kd.int .u8) 5 w' w0.heap.size (fun k_ => (P0_ k_ ∨ w.heap.size ≤ k_)) v0_ r ∧ Below w0.heap.size w0 w' ∧ Kept w w' (fun k_ => P0_ k_) := by
 have HO0 := akk (show Kd.R (Kd.int .u8) 5 w w0.heap.size (fun k_ => (P0_ k_ ∨ w.heap.size ≤ k_)) u9000_ l0 from Kd.R_mono ho0 (fun k_ hk => (.inl hk)))
 have HK := akk (Kept.refl w (fun k_ => P0_ k_))
 have HW0 := akk hB.size
 have HB := akk hB
 clear hB
 have H : (codec_PutFixed.l0 k l0 a1 ((mn (mx a2 0) 8) - 1)) = some r := h
 clear h
 obtain ⟨ji4, hji4⟩ : ∃ j_ : Int, (mx a2 0) = j_ := ⟨_, rfl⟩
 replace H : (codec_PutFixed.l0 k l0 a1 ((mn (ji4) 8) - 1)) = some r := by first | (rw [hji4] at H; exact H) | (simp only [hji4] at H ⊢; exact H)
 (try (have hji4l : 0 ≤ ji4 := by (rw [← hji4]; unfold mx; (repeat' split) <;> omega)))
 (try (have hji4m : 0 ≤ ji4 := by omega))
 have hji4_ : (if a2 < 0 then 0 else a2) = ji4 := hji4
 obtain ⟨ji5, hji5⟩ : ∃ j_ : Int, (mn (ji4) 8) = j_ := ⟨_, rfl⟩
 replace H : (codec_PutFixed.l0 k l0 a1 ((ji5) - 1)) = some r := by first | (rw [hji5] at H; exact H) | (simp only [hji5] at H ⊢; exact H)
 have hji5_ : (if 8 < (ji4) then 8 else (ji4)) = ji5 := hji5
 have H' := akk H
 clear H
 go_enter Tryz.func123, Tryz.ntmps123
 go_wp2
 go_loopg [0, 7] k (fun kq v0 v7 w' => ∃ (x0_1 : List Int) (x7_1 : Int), v7 = .int .i64 x7_1 ∧ Aside0 (codec_PutFixed.l0 kq x0_1 a1 x7_1 = some r) ∧ Aside0 (kq ≤ k) ∧ Aside0 (Kd.R (Kd.int .u8) 5 w' w0.heap.size (fun k_ => (P0_ k_ ∨ w.heap.size ≤ k_)) v0 x0_1) ∧ Aside0 (Kept w w' (fun k_ => P0_ k_)) ∧ Aside0 (Below w0.heap.size w0 w'))
 case atStart => exact ⟨(l0), ((ji5) - 1), (by first | rfl | (simp; done) | (simp only [← hji5] <;> (first | rfl | simp)) | (simp [*]; done)), H', ⟨Nat.le_refl _⟩, ⟨rT HO0.out⟩, ⟨by repeat (first | (with_reducible first | exact HK.out | apply Kept.alloc | apply Kept.drewN | apply Kept.drew) | exact HK.out)⟩, ⟨bT⟩⟩
 case round =>
  clear H'
  obtain ⟨x0_1, x7_1, rfl, HA, HK1, HO_0, HK, HB⟩ := hrel
  cases gk with
  | zero => exact absurd HA.out (by simp [codec_PutFixed.l0])
  | succ k1 =>
   have H := HA.out
   clear HA
   simp only [codec_PutFixed.l0] at H
   by_cases c6 : x7_1 ≥ 0
   ·rw [if_pos c6] at H
    have c6b0 := decide_eq_true c6
    clear c6
    obtain ⟨ji7, hji7⟩ : ∃ j_ : Int, (IntKind.u64.wrap (wrap64 (8 * x7_1))) = j_ := ⟨_, rfl⟩
    replace H : (if 0 ≤ (ji7) then (if x0_1.length < 140737488355328 then (codec_PutFixed.l0 k1 (x0_1 ++ [(shr .u64 a1 (ji7)) % 256]) a1 (wrap64 (x7_1 - 1))) else (none)) else (none)) = some r := by first | (rw [hji7] at H; exact H) | (simp only [hji7] at H ⊢; exact H)
    by_cases c8 : 0 ≤ (ji7)
    ·rw [if_pos c8] at H
     have c8b0 := eq_true c8
     have c8b1 := decide_eq_true c8
     clear c8
     obtain ⟨ji9, hji9⟩ : ∃ j_ : Int, (shr .u64 a1 (ji7)) = j_ := ⟨_, rfl⟩
     replace H : (if x0_1.length < 140737488355328 then (codec_PutFixed.l0 k1 (x0_1 ++ [(ji9) % 256]) a1 (wrap64 (x7_1 - 1))) else (none)) = some r := by first | (rw [hji9] at H; exact H) | (simp only [hji9] at H ⊢; exact H)
     have hji9_ : (a1 / 2 ^ min (ji7).toNat 64) = ji9 := hji9
     have hji9z : (ji7) ≤ 64 → (a1 / 2 ^ (ji7).toNat) = ji9 := shr_small hji9
     by_cases c10 : x0_1.length < 140737488355328
     ·rw [if_pos c10] at H
      have LMc10 := akk c10
      clear c10
      obtain ⟨y200, hy200⟩ : ∃ y_ : List Int, y_ = (x0_1 ++ [(ji9) % 256]) := ⟨_, rfl⟩
      replace H : (codec_PutFixed.l0 k1 y200 a1 (wrap64 (x7_1 - 1))) = some r := jT hy200 H
      have Ny200 := akk hy200
      clear hy200
      have H' := akk H
      clear H
      go_wp2_with ((with_reducible refine gA #[.tmp 16, .tmp 23] rfl ?_); at_builtin; refine Kd.R_append (Kd.int .u8) (w0 := w0) w0.heap.size rfl (.tmp 16) (.tmp 23) 81 5 (.int .u8 0) 1 rfl Tryz.underlying81 info5 rfl (by decide) (by omega) u0 x0_1 ((ji9) % 256) [.int .u8 ((ji9) % 256)] (fun k_ => (P0_ k_ ∨ w.heap.size ≤ k_)) (fun _ => False) rfl rfl ?aP (fun _ hk => hk.elim) ?aF ?aO ?aB ?aS ?aL ?_; (case aP => exact rfl); (case aB => exact bT); (case aF => exact (fun k_ hk => (.inr (Nat.le_trans hk1 hk)))); (case aO => exact (rT HO_0.out)); (case aS => exact (below_size bT)); (case aL => have := LMc10.out; omega); intro v201 w11 ho hb hg hat; rw [← Ny200.out] at ho; replace HB := akk (hb); replace HK := hG HK hg (fun k_ e_ => (HO_0.out.1 k_ e_)); have HO202 := akk (ho); clear HO_0; clear ho hb hg hat)
      go_roundg k1
      case measure => have := HK1.out; omega
      case rel => exact ⟨(y200), (wrap64 (x7_1 - 1)), eT, H', ⟨by have := HK1.out; omega⟩, ⟨rT HO202.out⟩, ⟨by repeat (first | (with_reducible first | exact HK.out | apply Kept.alloc | apply Kept.drewN | apply Kept.drew) | exact HK.out)⟩, ⟨bT⟩⟩
     ·rw [if_neg c10] at H
      exact absurd H (by simp)
    ·rw [if_neg c8] at H
     exact absurd H (by simp)
   ·rw [if_neg c6] at H
    have c6b0 := decide_eq_false c6
    clear c6
    obtain rfl := Option.some.inj H
    go_wp2
    go_ret
    exact ⟨_, by first | rfl | (simp [errW_none, errW_some] <;> rfl) | (simp only [← hji4, ← hji5]; first | rfl | (simp [errW_none, errW_some] <;> rfl)) | (simp [*, errW_none, errW_some] <;> rfl), rT' HO_0.out, bT, by repeat (first | (with_reducible first | exact HK.out | apply Kept.alloc | apply Kept.drewN | apply Kept.drew) | exact HK.out)⟩
def codec_bits.f (a0 : Nat) : Option (Int) := cbitsF a0
theorem codec_bits.calls (a0 : Nat) (r : Int) (w : World) (h : codec_bits.f a0 = some r) :
 Calls Tryz.prog 124 #[.float .f64 a0] w fun e w' => e = .returned (.int .u64 r) ∧ Below w.heap.size w w' := by
 unfold codec_bits.f cbitsF at h
 obtain rfl : ((bitsV a0 : Nat) : Int) = r := by simpa using h
 exact bits_any a0 w
def codec_PutFloat.f (k : Nat) (l0 : List Int) (a1 : Nat) : Option (List Int) := (codec_bits.f a1).bind fun t203 => ((codec_PutFixed.f k l0 t203 8).bind fun t204 => (some t204))
set_option maxHeartbeats 8000000 in
set_option maxRecDepth 100000 in
theorem codec_PutFloat.calls (k : Nat) (P0_ : Nat → Prop) (u9000_ : Value) (l0 : List Int) (a1 : Nat) (r : List Int) (w0 w : World) (hB : Below w0.heap.size w0 w) (ho0 : Kd.R (Kd.int .u8) 5 w w0.heap.size P0_ u9000_ l0) (h : codec_PutFloat.f k l0 a1 = some r) :
 Calls Tryz.prog 97 #[u9000_, .float .f64 a1] w fun e w' => ∃ v0_ : Value, e = .returned (v0_) ∧ Kd.R (Kd.int .u8) 5 w' w0.heap.size (fun k_ => (P0_ k_ ∨ w.heap.size ≤ k_)) v0_ r ∧ Below w0.heap.size w0 w' ∧ Kept w w' (fun k_ => P0_ k_) := by
 have HO0 := akk (show Kd.R (Kd.int .u8) 5 w w0.heap.size (fun k_ => (P0_ k_ ∨ w.heap.size ≤ k_)) u9000_ l0 from Kd.R_mono ho0 (fun k_ hk => (.inl hk)))
 have HK := akk (Kept.refl w (fun k_ => P0_ k_))
 have HW0 := akk hB.size
 have HB := akk hB
 clear hB
 have H : ((codec_bits.f a1).bind fun t203 => ((codec_PutFixed.f k l0 t203 8).bind fun t204 => (some t204))) = some r := h
 clear h
 obtain ⟨t203, A3, H⟩ := bi H
 try dsimp only at H
 obtain ⟨t204, A4, H⟩ := bi H
 try dsimp only at H
 obtain rfl := Option.some.inj H
 go_enter Tryz.func97, Tryz.ntmps97
 go_wp2_with (first | (refine gT 124 (some 7) Tryz.func124 #[.float .f64 a1] ?_; (with_reducible refine (codec_bits.calls a1 t203 _ A3.out).mono ?_); rintro e w5 ⟨rfl, hb⟩; refine ⟨_, rfl, ?_⟩; replace HO0 := rb HO0 hb; replace HK := hB HK hb; replace HB := bb HB hb; (try clear hb); (try clear hb2); (try clear hk); (try clear hi); obtain ⟨Ao6, co6, eo6⟩ := Kd.R_slice HO0.out; subst eo6) | (refine gT 123 (some 8) Tryz.func123 #[.slice Ao6 l0.length co6, .int .u64 t203, .int .i64 8] ?_; (with_reducible refine (codec_PutFixed.calls k (fun k_ => some k_ = (.slice Ao6 l0.length co6 : Value).ownBlock) (.slice Ao6 l0.length co6) l0 t203 8 t204 w0 _ ?_ ?_ A4.out).mono ?_); exact bT; exact Kd.R_tight rfl HO0.out; rintro e w7 ⟨v205, rfl, ho0, hb, hkp⟩; refine ⟨_, rfl, ?_⟩; have HO206 := akk (Kd.R_mono (ok' := fun k_ => (P0_ k_ ∨ w.heap.size ≤ k_)) ho0 (fun k_ hk_ => Or.elim hk_ (fun hs_ => (HO0.out.1 k_ (hs_).symm)) (fun hn_ => (.inr (Nat.le_trans hk1 hn_))))); replace HK := hT HK hkp (fun k_ hs_ => (fun e_ => (HO0.out.1 k_ e_.symm)) hs_); replace HB := akk (hb); clear HO0; clear hb hkp ho0))
 go_ret
 exact ⟨_, fT, rT' HO206.out, bT, by repeat (first | (with_reducible first | exact HK.out | apply Kept.alloc | apply Kept.drewN | apply Kept.drew) | exact HK.out)⟩
end Go.Proofs.YtgmolmpfihkolaaGreat.Pj
namespace Go.Proofs.YtgmolmpfihkolaaGreat
open Go.RowKit Go.Lib Go.Proofs.YtgmolmpfihkolaaGreatW.PrintWords Go.Proofs.YtgmolmpfihkolaaGreat.Pj
set_option linter.unusedVariables false
theorem run_append_str_at {P : Program} (w : World) (base : Nat) (t u ty e : TypeId) (i : TypeInfo) (ht : P.underlying t = some (.slice e)) (hu : P.underlying u = some .string) (hi : P.info? e = some i) (hz : i.zero = some (.int .u8 0))
 (hsize : i.size = 1) (hby : i.bytes = 1) (v : Value) (n : Nat) (xs : List Value) (hown : w.ownsRow base e 1 v n xs) (s : ByteArray)
 (h63 : n + s.size ≤ maxLen) (hbytes : n + s.size ≤ 140737488355328) (hbase : base ≤ w.heap.size) :
 ∃ v' w', (Builtin.append_ #[t, u] ty #[v, .string s]).run P w = .ok v' w' ∧ w'.ownsRow base e 1 v' (n + s.size) (xs ++ strCells s) ∧ w.grownBy w' v.ownBlock ∧ (v'.ownBlock = v.ownBlock ∨ ∃ b, v'.ownBlock = some b ∧ w.heap.size ≤ b) := by
 obtain ⟨v', w', hr, h2, h3, h4⟩ := run_append_own_string (P := P) w base t u ty e i ht hu hi hz hsize hby v n xs hown s h63 hbytes hbase
 refine ⟨v', w', hr, h2, h3, ?_⟩
 have hsmall : n + s.size ≤ 9223372036854775807 := by simp only [maxLen] at h63; omega
 have hxl : xs.length = n := by simpa using hown.1
 rcases hown.2 with ⟨rfl, rfl⟩ | ⟨g, cap, cur, rfl, hbg, hg, hnc, hcm, hcs, htake⟩
 ·by_cases hm : s.size = 0
  ·rw [h4.2 ⟨rfl, hm⟩]; exact .inl rfl
  ·have hr2 := run_append_nil_string (P := P) w t u ty e i (.int .u8 0) ht hu hi hz s (by omega) (by omega) (by rw [hby]; omega)
   have hq := hr.symm.trans hr2
   injection hq with hv hw
   exact .inr ⟨w.heap.size, by rw [hv]; rfl, Nat.le_refl _⟩
 ·by_cases hroom : n + s.size ≤ cap
  ·have hcs' : cur.size = cap := by simpa using hcs
   have hr2 := run_append_room_string (P := P) w t u ty e i ht hu hi hsize g n cap cur hg s hroom (by omega)
   have hq := hr.symm.trans hr2
   injection hq with hv hw
   exact .inl (by rw [hv]; rfl)
  ·have holds : ∀ j u, xs[j]? = some u → w.cell? ((⟨g, 0, none⟩ : Addr).add j) = some u := hown.cells (g := g) rfl
   have hr2 := run_append_grow_string (P := P) w t u ty e i (.int .u8 0) ht hu hi hz ⟨g, 0, none⟩ n cap xs (by rw [hsize]; simpa using hxl) holds s (by omega) (by omega) (by rw [hby]; exact growslice_fits (by omega) (by omega))
   have hq := hr.symm.trans hr2
   injection hq with hv hw
   exact .inr ⟨w.heap.size, by rw [hv]; rfl, Nat.le_refl _⟩
theorem print_append_str2 {P : Program} {ops : Array Oper} {rest : List Oper} {o : Oper} {a : Act} {Q : Exit → Act → World → Prop} {w0 W : World} (base : Nat) (hgd : o.guard = none) (s x : Operand) (t u e : TypeId)
 (ho : o.op = .call { callee := .builtin .append, args := #[s, x], argTypes := #[t, u] })
 (ht : P.underlying t = some (.slice e)) (hu : P.underlying u = some .string) (hinfo : (P.info? e).map (fun i => (i.zero, i.size, i.bytes)) = some (some (.int .u8 0), 1, 1))
 (v : Value) (xs : List Int) (y : ByteArray) (hs : a.eval s = v) (hx : a.eval x = .string y)
 (HO : W.ownsRow base e 1 v xs.length (nums .u8 xs)) (HB : Below base w0 W) (hbase : base ≤ W.heap.size) (hl : xs.length + y.size ≤ 140737488355328)
 (h : ∀ v1 w1, w1.ownsRow base e 1 v1 (xs ++ bytesOf y).length (nums .u8 (xs ++ bytesOf y)) → Below base w0 w1 → W.grownBy w1 v.ownBlock → (v1.ownBlock = v.ownBlock ∨ ∃ b, v1.ownBlock = some b ∧ W.heap.size ≤ b) → wpList P ops Q rest (a.put o.dst v1) w1) :
 wpList P ops Q (o :: rest) a W := by
 obtain ⟨i0, hi, hzz⟩ := Option.map_eq_some_iff.1 hinfo
 simp only [Prod.mk.injEq] at hzz
 obtain ⟨hz0, hz1, hz2⟩ := hzz
 refine wpList_plain hgd fun K hK => ?_
 obtain ⟨v1, w1, hr, hown, hg, hat⟩ := run_append_str_at (P := P) W base t u o.type e i0 ht hu hi hz0 hz1 hz2 v xs.length (nums .u8 xs) HO y (by simp only [maxLen]; omega) hl hbase
 have hl2 : (xs ++ bytesOf y).length = xs.length + y.size := by rw [List.length_append, bytesOf_length]
 have hc : nums .u8 (xs ++ bytesOf y) = nums .u8 xs ++ Lib.strCells y := by
  rw [nums_append]
  congr 1
  simp [nums, bytesOf, Lib.strCells]
 unfold Oper.wp execOp
 simp only [ho, resolve, invoke, builtin, Sem.run_bind, Sem.run_pure, Result.andThen_ok, List.map_toArray, List.map_cons, List.map_nil, hs, hx, hr]
 exact hK _ _ (h v1 w1 (by rw [hl2, hc]; exact hown) (HB.grown hg hbase (own_base HO)) hg hat)
end Go.Proofs.YtgmolmpfihkolaaGreat
namespace Go.Proofs.YtgmolmpfihkolaaGreat.Pj
open Go.RowKit Go.Proofs.YtgmolmpfihkolaaGreatW.PrintWords Go.Proofs.YtgmolmpfihkolaaGreatW.PrintLast Go.Proofs.YtgmolmpfihkolaaGreatW.PrintMore
attribute [local go_sem] run_store_flt max2_int min2_int max_two min_two max_three min_three max_four min_four
set_option linter.unusedVariables false
set_option linter.unusedSimpArgs false
def codec_PutText.f (k : Nat) (l0 : List Int) (a1 : ByteArray) : Option (List Int) := (codec_PutUint.f k l0 (IntKind.u64.wrap ((a1.size : Int)))).bind fun t207 => (if t207.length + a1.size < 140737488355328 then (some (t207 ++ bytesOf a1)) else (none))
set_option maxHeartbeats 8000000 in
set_option maxRecDepth 100000 in
theorem codec_PutText.calls (k : Nat) (P0_ : Nat → Prop) (u9000_ : Value) (l0 : List Int) (a1 : ByteArray) (r : List Int) (w0 w : World) (hB : Below w0.heap.size w0 w) (ho0 : Kd.R (Kd.int .u8) 5 w w0.heap.size P0_ u9000_ l0) (h : codec_PutText.f k l0 a1 = some r) :
 Calls Tryz.prog 98 #[u9000_, .string a1] w fun e w' => ∃ v0_ : Value, e = .returned (v0_) ∧ Kd.R (Kd.int .u8) 5 w' w0.heap.size (fun k_ => (P0_ k_ ∨ w.heap.size ≤ k_)) v0_ r ∧ Below w0.heap.size w0 w' ∧ Kept w w' (fun k_ => P0_ k_) := by
 have HO0 := akk (show Kd.R (Kd.int .u8) 5 w w0.heap.size (fun k_ => (P0_ k_ ∨ w.heap.size ≤ k_)) u9000_ l0 from Kd.R_mono ho0 (fun k_ hk => (.inl hk)))
 have HK := akk (Kept.refl w (fun k_ => P0_ k_))
 have HW0 := akk hB.size
 have HB := akk hB
 clear hB
 have H : ((codec_PutUint.f k l0 (IntKind.u64.wrap ((a1.size : Int)))).bind fun t207 => (if t207.length + a1.size < 140737488355328 then (some (t207 ++ bytesOf a1)) else (none))) = some r := h
 clear h
 obtain ⟨t207, A3, H⟩ := bi H
 try dsimp only at H
 by_cases c4 : t207.length + a1.size < 140737488355328
 ·rw [if_pos c4] at H
  have LMc4 := akk c4
  clear c4
  obtain ⟨y210, hy210⟩ : ∃ y_ : List Int, y_ = (t207 ++ bytesOf a1) := ⟨_, rfl⟩
  replace H : (some y210) = some r := jT hy210 H
  have Ny210 := akk hy210
  clear hy210
  obtain rfl := Option.some.inj H
  obtain ⟨Ao5, co5, eo5⟩ := Kd.R_slice HO0.out
  subst eo5
  go_enter Tryz.func98, Tryz.ntmps98
  go_wp2_with (first | (refine gT 69 (some 9) Tryz.func69 #[.slice Ao5 l0.length co5, .int .u64 (IntKind.u64.wrap ((a1.size : Int)))] ?_; (with_reducible refine (codec_PutUint.calls k (fun k_ => some k_ = (.slice Ao5 l0.length co5 : Value).ownBlock) (.slice Ao5 l0.length co5) l0 (IntKind.u64.wrap ((a1.size : Int))) t207 w0 _ ?_ ?_ A3.out).mono ?_); exact bT; exact Kd.R_tight rfl HO0.out; rintro e w6 ⟨v208, rfl, ho0, hb, hkp⟩; refine ⟨_, rfl, ?_⟩; have HO209 := akk (Kd.R_mono (ok' := fun k_ => (P0_ k_ ∨ w.heap.size ≤ k_)) ho0 (fun k_ hk_ => Or.elim hk_ (fun hs_ => (HO0.out.1 k_ (hs_).symm)) (fun hn_ => (.inr (Nat.le_trans hk1 hn_))))); replace HK := hT HK hkp (fun k_ hs_ => (fun e_ => (HO0.out.1 k_ e_.symm)) hs_); replace HB := akk (hb); clear HO0; clear hb hkp ho0) | (at_builtin; refine print_append_str2 (w0 := w0) w0.heap.size rfl (.tmp 9) _ 81 9 5 rfl Tryz.underlying81 Tryz.underlying9 info5 v208 t207 a1 rfl rfl ?aO ?aB ?aS ?aL ?_; (case aB => exact bT); (case aO => exact (Kd.own_of_R (rT HO209.out))); (case aS => exact (below_size bT)); (case aL => have := LMc4.out; omega); intro v211 w7 ho0 hb hg hat; have ho := Kd.R_of_own (h1 := fun _ => rfl) (ok := fun k_ => (P0_ k_ ∨ w.heap.size ≤ k_)) ho0 (fun k_ e_ => hat.elim (fun h_ => HO209.out.1 k_ (h_ ▸ e_)) (fun ⟨b_, h_, l_⟩ => .inr (by rw [h_] at e_; injection e_ with e_; rw [← e_]; exact Nat.le_trans HK.out.1 l_))); clear ho0; rw [← Ny210.out] at ho; change Kd.R (Kd.int .u8) 5 w7 w0.heap.size (fun k_ => (P0_ k_ ∨ w.heap.size ≤ k_)) v211 y210 at ho; replace HB := akk (hb); replace HK := hG HK hg (fun k_ e_ => (HO209.out.1 k_ e_)); have HO212 := akk (ho); clear HO209; clear ho hb hg hat))
  go_ret
  exact ⟨_, fT, rT' HO212.out, bT, by repeat (first | (with_reducible first | exact HK.out | apply Kept.alloc | apply Kept.drewN | apply Kept.drew) | exact HK.out)⟩
 ·rw [if_neg c4] at H
  exact absurd H (by simp)
end Go.Proofs.YtgmolmpfihkolaaGreat.Pj
