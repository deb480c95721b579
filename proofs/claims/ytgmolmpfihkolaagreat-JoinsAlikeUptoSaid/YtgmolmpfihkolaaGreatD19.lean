/- Part of the proof. -/
import Derived.Test.YtgmolmpfihkolaaGreatD18
namespace Go.Proofs.YtgmolmpfihkolaaGreat
open Go.RowKit Go.Proofs.YtgmolmpfihkolaaGreatW.PrintWords Go.Proofs.YtgmolmpfihkolaaGreat.Pj
set_option linter.unusedVariables false
set_option maxRecDepth 100000
def AtK (W : World) (b o : Nat) (p : PK) : Prop := ∃ A c, W.cell? ⟨b, o, none⟩ = some (.int .i64 p.f0) ∧ W.cell? ⟨b, o + 1, none⟩ = some (.slice A p.f1.length c) ∧ p.f1.length ≤ c ∧ Kd.C k39 W A p.f1.length p.f1
def KeyedV (W : World) (a : Option Addr) (len cap : Nat) (l : List PK) : Prop :=
 l.length = len ∧ len ≤ cap ∧ len ≤ 1099511627776 ∧ (len = 0 ∨ ∃ b o, a = some ⟨b, o, none⟩ ∧ b < W.heap.size ∧ ∀ i p, l[i]? = some p → AtK W b (o + i * 2) p)
theorem AtK.below {W W' : World} {b o : Nat} {p : PK} (h : AtK W b o p) (hb : Below W.heap.size W W') (hl : b < W.heap.size) : AtK W' b o p := by
 obtain ⟨A, c, h1, h2, h3, h4⟩ := h
 exact ⟨A, c, (hb.cell hl).trans h1, (hb.cell hl).trans h2, h3, Kd.C_below h4 hb⟩
theorem KeyedV.below {W W' : World} {a : Option Addr} {len cap : Nat} {l : List PK} (h : KeyedV W a len cap l) (hb : Below W.heap.size W W') : KeyedV W' a len cap l := by
 obtain ⟨h1, h2, h3, h4⟩ := h
 refine ⟨h1, h2, h3, ?_⟩
 rcases h4 with h4 | ⟨b, o, e, hl, hc⟩
 ·exact .inl h4
 ·exact .inr ⟨b, o, e, Nat.lt_of_lt_of_le hl hb.size, fun i p hi => (hc i p hi).below hb hl⟩
theorem KeyedV.toC {W : World} {a : Option Addr} {len cap : Nat} {l : List PK} (h : KeyedV W a len cap l) : Kd.C k80 W a l.length l := by
 obtain ⟨h1, h2, h3, h4⟩ := h
 refine ⟨rfl, by omega, fun h0 => ?_⟩
 rcases h4 with h4 | ⟨b, o, rfl, hl, hc⟩
 ·omega
 ·refine ⟨_, rfl, fun j p hj => ?_⟩
  obtain ⟨A, c, c1, c2, c3, c4⟩ := hc j p hj
  refine ⟨_, rfl, k80_mk W p c3 c4, fun i u hi => ?_⟩
  rw [addr_add]
  rcases i with _ | _ | i
  ·cases hi; exact c1
  ·cases hi; exact c2
  ·simp at hi
theorem KeyedV.drop {W : World} {a : Option Addr} {len cap : Nat} {l : List PK} (h : KeyedV W a len cap l) (n : Nat) (hn : n ≤ len) : KeyedV W (if cap = n then a else Option.map (fun x => x.add (n * 2)) a) (len - n) (cap - n) (l.drop n) := by
 obtain ⟨h1, h2, h3, h4⟩ := h
 refine ⟨by rw [List.length_drop, h1], by omega, by omega, ?_⟩
 by_cases e : len - n = 0
 ·exact .inl e
 ·rcases h4 with h4 | ⟨b, o, rfl, hl, hc⟩
  ·omega
  ·refine .inr ⟨b, o + n * 2, ?_, hl, fun i p hi => ?_⟩
   ·rw [if_neg (by omega)]
    show some ((⟨b, o, none⟩ : Addr).add (n * 2)) = _
    rw [addr_add]
   ·rw [List.getElem?_drop] at hi
    have := hc _ _ hi
    rw [show o + n * 2 + i * 2 = o + (n + i) * 2 by omega]
    exact this
theorem KeyedV.take {W : World} {a : Option Addr} {len cap : Nat} {l : List PK} (h : KeyedV W a len cap l) (n : Nat) (hn : n ≤ len) : KeyedV W a n cap (l.take n) := by
 obtain ⟨h1, h2, h3, h4⟩ := h
 refine ⟨by rw [List.length_take, h1]; omega, by omega, by omega, ?_⟩
 by_cases e : n = 0
 ·exact .inl e
 ·rcases h4 with h4 | ⟨b, o, rfl, hl, hc⟩
  ·omega
  ·refine .inr ⟨b, o, rfl, hl, fun i p hi => ?_⟩
   rw [List.getElem?_take] at hi
   by_cases hin : i < n
   ·rw [if_pos hin] at hi; exact hc _ _ hi
   ·rw [if_neg hin] at hi; cases hi
theorem KeyedV.at {W : World} {a : Option Addr} {len cap : Nat} {l : List PK} (h : KeyedV W a len cap l) {i : Nat} {p : PK} (hi : l[i]? = some p) : ∃ b o, a = some ⟨b, o, none⟩ ∧ b < W.heap.size ∧ AtK W b (o + i * 2) p := by
 obtain ⟨h1, h2, h3, h4⟩ := h
 have hl := (List.getElem?_eq_some_iff.1 hi).1
 rcases h4 with h4 | ⟨b, o, rfl, hb, hc⟩
 ·omega
 ·exact ⟨b, o, rfl, hb, hc _ _ hi⟩
def slLen : Value → Nat
 | .slice _ n _ => n
 | _ => 0
theorem pairs_nil_right (xs : List PK) : pairsOf xs [] = [] := by
 unfold pairsOf meetOf; simp
theorem pairs_length (xs ys : List PK) : (pairsOf xs ys).length ≤ xs.length * ys.length := by
 induction xs with
 | nil => simp [pairsOf]
 | cons x xs ih =>
  have h : (meetOf ys x).length ≤ ys.length := by unfold meetOf; rw [List.length_map]; exact List.length_filter_le _ _
  have e : pairsOf (x :: xs) ys = meetOf ys x ++ pairsOf xs ys := rfl
  rw [e, List.length_append, List.length_cons, Nat.add_mul, Nat.one_mul]
  omega
def MgW (w : World) (T rest : List PP) (v : Value) (W : World) : Prop :=
 (∃ out, out ++ rest = T ∧ Kd.R k71 71 W w.heap.size (fun k => w.heap.size ≤ k) v out) ∧ Below w.heap.size w W
theorem MgW.below {w W W' : World} {T rest : List PP} {v : Value} (h : MgW w T rest v W) (hb : Below W.heap.size W W') : MgW w T rest v W' := by
 obtain ⟨⟨out, h1, h2⟩, h3⟩ := h
 exact ⟨⟨out, h1, Kd.R_below h2 hb⟩, h3.trans (hb.mono h3.size)⟩
def BoxK (W : World) (b : Nat) (f : Int) : Prop := ∃ cur : Array Value, W.heap[b]? = some (.cells cur 80 (0, 0)) ∧ cur[0]? = some (.int .i64 f)
theorem BoxK.lt {W : World} {b : Nat} {f : Int} (h : BoxK W b f) : b < W.heap.size := by
 obtain ⟨cur, h1, _⟩ := h
 exact blk_lt h1
theorem BoxK.cell {W : World} {b : Nat} {f : Int} (h : BoxK W b f) : W.cell? ⟨b, 0, none⟩ = some (.int .i64 f) := by
 obtain ⟨cur, h1, h2⟩ := h
 simp only [World.cell?]; rw [h1]; simpa using h2
theorem BoxK.below {W W' : World} {b : Nat} {f : Int} (h : BoxK W b f) (hb : Below W.heap.size W W') : BoxK W' b f := by
 have hl := h.lt
 obtain ⟨cur, h1, h2⟩ := h
 exact ⟨cur, (hb.block b hl).trans h1, h2⟩
theorem BoxK.new (W : World) (f : Int) (v : Value) : BoxK (W.alloc (.cells #[.int .i64 f, v] 80)) W.heap.size f :=
 ⟨_, World.alloc_heap_new W _, rfl⟩
theorem BoxK.grown {W W' : World} {b : Nat} {f : Int} {row : Option Nat} (h : BoxK W b f) (hg : W.grownBy W' row) (hn : ∀ cur : Array Value, W.heap[b]? = some (.cells cur 80 (0, 0)) → some b ≠ row) : BoxK W' b f := by
 obtain ⟨cur, h1, h2⟩ := h
 exact ⟨cur, blk_grown h1 hg (hn cur h1), h2⟩
theorem below_new (W : World) (o : Obj) : Below W.heap.size W (W.alloc o) := (Below.refl _ _).alloc (Nat.le_refl _) o
set_option maxHeartbeats 4000000 in
theorem merged_any (xs ys : List PK) (ax ay : Option Addr) (nx cx ny cy : Nat) (w : World) (hx : KeyedV w ax nx cx xs) (hy : KeyedV w ay ny cy ys) (sx : SortedK xs) (sy : SortedK ys) (wx : WfK xs) (wy : WfK ys) (hl : nx * ny ≤ 1000000000000) :
 Calls Tryz.prog 47 #[.slice ax nx cx, .slice ay ny cy] w fun e w' => ∃ v, e = .returned v ∧ MgW w (pairsOf xs ys) [] v w' := by
 obtain ⟨T, hT⟩ : ∃ T, T = pairsOf xs ys := ⟨_, rfl⟩
 rw [← hT]
 have HTL : Hid (T.length ≤ 1000000000000) := hdq (by
  have := pairs_length xs ys
  rw [← hT, hx.1, hy.1] at this
  omega)
 have HXY := hdq (And.intro hx hy)
 have HSW : Hid (SortedK xs ∧ SortedK ys ∧ WfK xs ∧ WfK ys) := ⟨sx, sy, wx, wy⟩
 have ST : Hid (MgW w T (pairsOf xs ys) (.slice none 0 0) w) := hdq ⟨⟨[], by rw [hT]; rfl, Kd.R_nil _ _ _ _ _⟩, Below.refl _ _⟩
 clear hx hy sx sy wx wy hl hT
 go_enter Tryz.func47, Tryz.ntmps47
 go_wp2
 go_loopw [0, 1, 5] (fun v0 v1 v5 wr => ∃ (a1 a2 : Option Addr) (n1 c1 n2 c2 : Nat) (xr yr : List PK), v0 = .slice a1 n1 c1 ∧ v1 = .slice a2 n2 c2 ∧ Hid (KeyedV w a1 n1 c1 xr ∧ KeyedV w a2 n2 c2 yr) ∧ Hid (SortedK xr ∧ SortedK yr ∧ WfK xr ∧ WfK yr) ∧ Hid (MgW w T (pairsOf xr yr) v5 wr)) (fun v0 v1 _ _ => slLen v0 + slLen v1)
 case atStart => exact ⟨ax, ay, nx, cx, ny, cy, xs, ys, rfl, rfl, HXY, HSW, ST⟩
 case round =>
  obtain ⟨a1, a2, n1, c1, n2, c2, xr, yr, rfl, rfl, HKV, HS, HM⟩ := hrel
  clear ST HXY HSW
  cases xr with
  | nil =>
   obtain rfl : n1 = 0 := by have := HKV.out.1.1; simpa using this.symm
   have HF : Hid (MgW w T [] _ _) := HM
   go_wp2
   go_ret
   exact ⟨_, rfl, HF.out⟩
  | cons x xr =>
   obtain ⟨n1', hn1⟩ : ∃ n', n1 = n' + 1 := ⟨xr.length, by have := HKV.out.1.1; rw [← this]; rfl⟩
   have g1 : (0 : Int) < (n1 : Int) := by omega
   have g1' : 0 < n1 := by omega
   cases yr with
   | nil =>
    obtain rfl : n2 = 0 := by have := HKV.out.2.1; simpa using this.symm
    have HF := HM.out
    rw [pairs_nil_right] at HF
    have HF := hdq HF
    clear hn1
    go_wp2
    go_ret
    exact ⟨_, rfl, HF.out⟩
   | cons y yr =>
    obtain ⟨n2', hn2⟩ : ∃ n', n2 = n' + 1 := ⟨yr.length, by have := HKV.out.2.1; rw [← this]; rfl⟩
    have g2 : (0 : Int) < (n2 : Int) := by omega
    have g2' : 0 < n2 := by omega
    have hb := HM.out.2
    obtain ⟨b1, o1, e1, l1, A1, k1, _, q1, r1, s1⟩ := (HKV.out.1.below hb).at (i := 0) (p := x) rfl
    obtain ⟨b2, o2, e2, l2, A2, k2, _, q2, r2, s2⟩ := (HKV.out.2.below hb).at (i := 0) (p := y) rfl
    subst e1
    subst e2
    obtain ⟨z1, hz1⟩ : ∃ z, z = x.f1.length := ⟨_, rfl⟩
    obtain ⟨z2, hz2⟩ : ∃ z, z = y.f1.length := ⟨_, rfl⟩
    obtain ⟨c, hc⟩ : ∃ c, c = kc x y := ⟨_, rfl⟩
    have HCC : Hid (∀ W : World, (W.cell? ⟨b1, o1 + 1, none⟩ = some (.slice A1 z1 k1) ∧ W.cell? ⟨b2, o2 + 1, none⟩ = some (.slice A2 z2 k2) ∧ Hid (Below wr.heap.size wr W)) → Calls Tryz.prog 45 #[.slice A1 z1 k1, .slice A2 z2 k2] W fun e w' => e = .returned (.int .i64 c) ∧ (w'.cell? ⟨b1, o1 + 1, none⟩ = some (.slice A1 z1 k1) ∧ w'.cell? ⟨b2, o2 + 1, none⟩ = some (.slice A2 z2 k2) ∧ Hid (Below wr.heap.size wr w'))) := hdq (fun W hS => by
     obtain ⟨h1, h2, h3⟩ := hS
     have hcall := row_Cmp.calls A1 k1 x.f1 A2 k2 y.f1 c W (Kd.C_below s1 h3.out) r1 (Kd.C_below s2 h3.out) r2 (by
      unfold row_Cmp.f rowF
      rw [HS.out.2.2.1 x List.mem_cons_self, HS.out.2.2.2 y List.mem_cons_self, hc]
      rfl)
     rw [← hz1, ← hz2] at hcall
     refine hcall.mono ?_
     ·rintro e w' ⟨rfl, h4⟩
      have l1' := Nat.lt_of_lt_of_le l1 h3.out.size
      have l2' := Nat.lt_of_lt_of_le l2 h3.out.size
      exact ⟨rfl, (h4.cell l1').trans h1, (h4.cell l2').trans h2, hdq (h3.out.trans (h4.mono h3.out.size))⟩)
    rw [← hz1] at q1
    rw [← hz2] at q2
    have HCD := hdq hc
    have HN : Hid (n1 = n1' + 1 ∧ n2 = n2' + 1) := ⟨hn1, hn2⟩
    clear hz1 hz2 r1 s1 r2 s2 hb hc hn1 hn2 l1 l2
    rcases Int.lt_trichotomy c 0 with h | h | h
    ·have hd1 : decide (c < 0) = true := decide_eq_true h
     go_wp2
     go_region_held3 (fun W : World => W.cell? ⟨b1, o1 + 1, none⟩ = some (.slice A1 z1 k1) ∧ W.cell? ⟨b2, o2 + 1, none⟩ = some (.slice A2 z2 k2) ∧ Hid (Below wr.heap.size wr W)) (first | (exact ⟨by simpa using q1, by simpa using q2, hdq ((Below.refl _ _).drew)⟩) | assumption) (first | (go_at_call 45; refine (HCC.out _ (by assumption)).mono ?_; rintro e wx ⟨rfl, hSx⟩))
     have HNX := hdq (HM.out.below hSx.2.2.out)
     have NX : Hid ((SortedK xr ∧ SortedK (y :: yr) ∧ WfK xr ∧ WfK (y :: yr)) ∧ pairsOf (x :: xr) (y :: yr) = pairsOf xr (y :: yr)) := hdq ⟨⟨HS.out.1.drop 1, HS.out.2.1, HS.out.2.2.1.drop 1, HS.out.2.2.2⟩, pairs_lt (by rw [← HCD.out]; exact h) HS.out.2.1⟩
     rw [NX.out.2] at HNX
     have KX : Hid (KeyedV w _ (n1 - 1) (c1 - 1) xr) := hdq (HKV.out.1.drop 1 (by omega))
     have MS : Hid (n1 - 1 + n2 < n1 + n2) := hdq (by omega)
     have g3 : (1 : Int) ≤ (n1 : Int) := by omega
     have g4 : (n1 : Int) ≤ (c1 : Int) := by have := HKV.out.1.2.1; omega
     clear hSx q1 q2
     go_wp2
     go_roundw
     case rel => exact ⟨_, _, n1 - 1, c1 - 1, n2, c2, xr, y :: yr, rfl, rfl, hdq ⟨KX.out, HKV.out.2⟩, hdq NX.out.1, HNX⟩
     case measure => simpa [slLen] using MS.out
    ·subst h
     obtain ⟨n, hn1, hn2⟩ := same_f (x :: xr) HS.out.2.2.1 (by have := HKV.out.1.1; have := HKV.out.1.2.2.1; omega) (by simp)
     obtain ⟨m, hm1, hm2⟩ := same_f (y :: yr) HS.out.2.2.2 (by have := HKV.out.2.1; have := HKV.out.2.2.2.1; omega) (by simp)
     have C1 : Hid (∀ W : World, Below w.heap.size w W → Calls Tryz.prog 74 #[.slice (some ⟨b1, o1, none⟩) n1 c1] W fun e w' => e = .returned (.int .i64 (n : Int)) ∧ Below W.heap.size W w') := hdq (fun W hW => by
      have hk := HKV.out.1.below hW
      have := joins_same.calls _ _ c1 (x :: xr) n W hk.toC (by rw [hk.1]; exact hk.2.1) hn1
      rw [hk.1] at this
      exact this)
     have C2 : Hid (∀ W : World, Below w.heap.size w W → Calls Tryz.prog 74 #[.slice (some ⟨b2, o2, none⟩) n2 c2] W fun e w' => e = .returned (.int .i64 (m : Int)) ∧ Below W.heap.size W w') := hdq (fun W hW => by
      have hk := HKV.out.2.below hW
      have := joins_same.calls _ _ c2 (y :: yr) m W hk.toC (by rw [hk.1]; exact hk.2.1) hm1
      rw [hk.1] at this
      exact this)
     obtain ⟨X1, hX1⟩ : ∃ l, l = (x :: xr).take n := ⟨_, rfl⟩
     obtain ⟨Y1, hY1⟩ : ∃ l, l = (y :: yr).take m := ⟨_, rfl⟩
     obtain ⟨R, hR⟩ : ∃ l, l = pairsOf ((x :: xr).drop n) ((y :: yr).drop m) := ⟨_, rfl⟩
     have hnl : n ≤ n1 := by have := hn2.2.1; rw [HKV.out.1.1] at this; exact this
     have hml : m ≤ n2 := by have := hm2.2.1; rw [HKV.out.2.1] at this; exact this
     have hpl : pairsOf (x :: xr) (y :: yr) = cross X1 Y1 ++ R := by rw [hX1, hY1, hR]; exact pairs_step HCD.out.symm HS.out.1 HS.out.2.1 hn2 hm2
     have KX : Hid (KeyedV w (some ⟨b1, o1, none⟩) n c1 X1) := hdq (hX1 ▸ HKV.out.1.take n hnl)
     have KY : Hid (KeyedV w (some ⟨b2, o2, none⟩) m c2 Y1) := hdq (hY1 ▸ HKV.out.2.take m hml)
     have KX2 : Hid (KeyedV w (if c1 = n then some ⟨b1, o1, none⟩ else some ⟨b1, o1 + n * 2, none⟩) (n1 - n) (c1 - n) ((x :: xr).drop n)) := hdq (by have := HKV.out.1.drop n hnl; rw [Option.map_some, addr_add] at this; exact this)
     have KY2 : Hid (KeyedV w (if c2 = m then some ⟨b2, o2, none⟩ else some ⟨b2, o2 + m * 2, none⟩) (n2 - m) (c2 - m) ((y :: yr).drop m)) := hdq (by have := HKV.out.2.drop m hml; rw [Option.map_some, addr_add] at this; exact this)
     have SN : Hid (SortedK ((x :: xr).drop n) ∧ SortedK ((y :: yr).drop m) ∧ WfK ((x :: xr).drop n) ∧ WfK ((y :: yr).drop m)) := hdq ⟨HS.out.1.drop n, HS.out.2.1.drop m, HS.out.2.2.1.drop n, HS.out.2.2.2.drop m⟩
     have NM : Hid (1 ≤ n ∧ n ≤ n1 ∧ n1 ≤ c1 ∧ m ≤ n2 ∧ n2 ≤ c2 ∧ n1 ≤ 1099511627776 ∧ n2 ≤ 1099511627776) := hdq ⟨hn2.1, hnl, HKV.out.1.2.1, hml, HKV.out.2.2.1, HKV.out.1.2.2.1, HKV.out.2.2.2.1⟩
     have HR2 := hdq hR
     have HMN := HM.out
     rw [hpl] at HMN
     have HMN := hdq HMN
     clear hn1 hn2 hm1 hm2 hX1 hY1 hR hnl hml hpl HM HKV HS HCD
     go_wp2
     go_region_held3 (fun W : World => W.cell? ⟨b1, o1 + 1, none⟩ = some (.slice A1 z1 k1) ∧ W.cell? ⟨b2, o2 + 1, none⟩ = some (.slice A2 z2 k2) ∧ Hid (Below wr.heap.size wr W)) (first | (exact ⟨by simpa using q1, by simpa using q2, hdq ((Below.refl _ _).drew)⟩) | assumption) (first | (go_at_call 45; refine (HCC.out _ (by assumption)).mono ?_; rintro e wx ⟨rfl, hSx⟩))
     have HMX := hdq (HMN.out.below hSx.2.2.out)
     clear hSx q1 q2 HMN
     have g3 : (0 : Int) ≤ (n : Int) := by omega
     have g4 : (n : Int) ≤ (c1 : Int) := by have := NM.out; omega
     have g5 : (0 : Int) ≤ (m : Int) := by omega
     have g6 : (m : Int) ≤ (c2 : Int) := by have := NM.out; omega
     go_wp2_with (go_at_call 74; first
      | (refine (C2.out _ HMY.out.2).mono ?_; rintro e w3 ⟨rfl, h3⟩; have HMZ := hdq (HMY.out.below h3); clear h3)
      | (refine (C1.out _ HMX.out.2).mono ?_; rintro e w2 ⟨rfl, h2⟩; have HMY := hdq (HMX.out.below h2); clear h2))
     go_loopw [5, 38] (fun v5 vi wr2 => ∃ i : Nat, vi = .int .i64 i ∧ Hid (i ≤ n) ∧ Hid (MgW w T (cross (X1.drop i) Y1 ++ R) v5 wr2)) (fun _ vi _ => n - (intOf vi).toNat)
     case atStart => exact ⟨0, rfl, hdq (Nat.zero_le _), HMZ⟩
     case round =>
      obtain ⟨i, rfl, HI, HM2⟩ := hrel
      clear HMX HMY HMZ
      by_cases hi : i < n
      ·obtain ⟨p, hp⟩ : ∃ p, X1[i]? = some p := ⟨_, List.getElem?_eq_getElem (by rw [KX.out.1]; exact hi)⟩
       obtain ⟨b1', o1', e1, l1, A1, k1, q0, q1, r1, s1⟩ := (KX.out.below HM2.out.2).at hp
       cases e1
       have hic : (i : Int) < (n : Int) := by omega
       have hi0 : (0 : Int) ≤ (i : Int) := by omega
       obtain ⟨f0, hf0⟩ : ∃ z, z = p.f0 := ⟨_, rfl⟩
       obtain ⟨z1, hz1⟩ : ∃ z, z = p.f1.length := ⟨_, rfl⟩
       rw [← hf0] at q0
       rw [← hz1] at q1
       have HPF := hdq hf0
       have HP := hdq hp
       have HII := hdq hi
       clear r1 s1 hz1 hf0 hp hi
       obtain ⟨i1, hi1⟩ : ∃ i1, i1 = i + 1 := ⟨_, rfl⟩
       have CR : Hid (cross (X1.drop i) Y1 = Y1.map (fun q => (⟨f0, q.f0⟩ : PP)) ++ cross (X1.drop i1) Y1) := hdq (by
        obtain ⟨hil, e⟩ := List.getElem?_eq_some_iff.1 HP.out
        rw [List.drop_eq_getElem_cons hil, hi1, HPF.out, e]
        rfl)
       have HM3 := HM2.out
       rw [CR.out, List.append_assoc] at HM3
       have ST3 : Hid (MgW w T ((Y1.drop 0).map (fun q => (⟨f0, q.f0⟩ : PP)) ++ (cross (X1.drop i1) Y1 ++ R)) _ _) := hdq (HM3.below (below_new _ (.cells #[.int .i64 f0, .slice A1 z1 k1] 80)))
       have SB := hdq (BoxK.new wr f0 (.slice A1 z1 k1))
       have KI : Hid (i1 ≤ n ∧ n - i1 < n - i) := hdq (by have := HII.out; omega)
       have ri := wrI_add (a := i) (b := 1) hi1.symm (by have := NM.out; have := KI.out; omega)
       have si := wr_add (a := i) (b := 1) hi1.symm (by have := NM.out; have := KI.out; clear ri; omega)
       simp only [Int.natCast_one] at ri si
       clear HM3 hi1
       go_wp2
       go_loopw [5, 46] (fun v5 vj wr3 => ∃ j : Nat, vj = .int .i64 j ∧ Hid (j ≤ m) ∧ Hid (MgW w T ((Y1.drop j).map (fun q => (⟨f0, q.f0⟩ : PP)) ++ (cross (X1.drop i1) Y1 ++ R)) v5 wr3) ∧ Hid (BoxK wr3 wr.heap.size f0)) (fun _ vj _ => m - (intOf vj).toNat)
       case atStart => exact ⟨0, rfl, hdq (Nat.zero_le _), ST3, SB⟩
       case round =>
        obtain ⟨j, rfl, HJ, HM4, HBX⟩ := hrel
        clear ST3 SB q0 q1
        by_cases hj : j < m
        ·obtain ⟨q, hq⟩ : ∃ q, Y1[j]? = some q := ⟨_, List.getElem?_eq_getElem (by rw [KY.out.1]; exact hj)⟩
         obtain ⟨b2', o2', e2, l2, B1, h1, p0, p1, _, _⟩ := (KY.out.below HM4.out.2).at hq
         cases e2
         have hjc : (j : Int) < (m : Int) := by omega
         have hj0 : (0 : Int) ≤ (j : Int) := by omega
         obtain ⟨g0, hg0⟩ : ∃ z, z = q.f0 := ⟨_, rfl⟩
         obtain ⟨y1, hy1⟩ : ∃ z, z = q.f1.length := ⟨_, rfl⟩
         rw [← hg0] at p0
         rw [← hy1] at p1
         obtain ⟨j1, hj1⟩ : ∃ j1, j1 = j + 1 := ⟨_, rfl⟩
         have CJ : Hid ((Y1.drop j).map (fun q => (⟨f0, q.f0⟩ : PP)) = ⟨f0, g0⟩ :: (Y1.drop j1).map (fun q => (⟨f0, q.f0⟩ : PP))) := hdq (by
          obtain ⟨hjl, e⟩ := List.getElem?_eq_some_iff.1 hq
          rw [List.drop_eq_getElem_cons hjl, hj1, hg0, List.map_cons, e])
         have HM5 := HM4.out
         rw [CJ.out, List.cons_append] at HM5
         obtain ⟨out, hout, hown⟩ := HM5.1
         have HOUT : Hid ((out ++ [(⟨f0, g0⟩ : PP)]) ++ ((Y1.drop j1).map (fun q => (⟨f0, q.f0⟩ : PP)) ++ (cross (X1.drop i1) Y1 ++ R)) = T) := hdq (by rw [List.append_assoc]; exact hout)
         have HLEN : Hid (out.length < 1000000000000) := hdq (by
          have := HTL.out
          rw [← hout, List.length_append, List.length_cons] at this
          omega)
         have HOWN := hdq hown
         have HBW := hdq HM5.2
         have KJ : Hid (j1 ≤ m ∧ m - j1 < m - j) := hdq (by omega)
         have hcell := (HBX.out.below (below_new _ (.cells #[.int .i64 g0, .slice B1 y1 h1] 80))).cell
         clear ri si
         have rj := wrI_add (a := j) (b := 1) hj1.symm (by have := NM.out; have := KJ.out; omega)
         have sj := wr_add (a := j) (b := 1) hj1.symm (by have := NM.out; have := KJ.out; clear rj; omega)
         simp only [Int.natCast_one] at rj sj
         clear HM5 hout hown hj1 hg0 hy1 hq
         have BB := hdq (HBW.out.trans ((below_new wr (.cells #[.int .i64 g0, .slice B1 y1 h1] 80)).mono HBW.out.size))
         have OO := hdq (Kd.R_below HOWN.out (below_new wr (.cells #[.int .i64 g0, .slice B1 y1 h1] 80)))
         have XX := hdq (HBX.out.below (below_new wr (.cells #[.int .i64 g0, .slice B1 y1 h1] 80)))
         go_wp2_with ((with_reducible refine gate_builtin (b := .append) (xs := #[.tmp 50, .tmp 56]) rfl ?_); at_builtin; refine Kd.R_append k71 (w0 := w) w.heap.size rfl (.tmp 50) (.tmp 56) 69 71 (.agg #[(.int .i64 0), (.int .i64 0)]) 16 rfl Tryz.underlying69 info71 rfl (by decide) (by omega) u5 out (⟨f0, g0⟩ : PP) [.int .i64 f0, .int .i64 g0] (fun k_ => w.heap.size ≤ k_) (fun _ => False) ?ha ?hb ?hc ?hd ?aF ?aO ?aB ?aS ?aL ?_; (case ha => rfl); (case hb => first | rfl | (show Value.slice (some ⟨wr.heap.size + 1, 0, none⟩) 1 1 = _; rw [World.size_alloc])); (case hc => exact (k71_mkM _ _ _ (⟨f0, g0⟩ : PP))); (case hd => exact (fun _ hk => hk.elim)); (case aF => exact (fun k_ hk => Nat.le_trans BB.out.size hk)); (case aO => exact OO.out); (case aB => exact BB.out); (case aS => exact BB.out.size); (case aL => have := HLEN.out; omega); intro v7 w7 ho hb hg hat; have HM6 := hdq (show MgW w T ((Y1.drop j1).map (fun q => (⟨f0, q.f0⟩ : PP)) ++ (cross (X1.drop i1) Y1 ++ R)) v7 w7 from ⟨⟨_, HOUT.out, ho⟩, hb⟩); have HB6 := hdq (XX.out.grown hg (fun cur hc => Kd.R_ne OO.out hc (by decide))); clear ho hb hg hat)
         go_roundw
         case rel => exact ⟨j1, rfl, hdq KJ.out.1, HM6, HB6⟩
         case measure => simpa [intOf] using KJ.out.2
        ·have HE := HM4.out
         rw [show Y1.drop j = [] from List.drop_of_length_le (by have := KY.out.1; omega)] at HE
         have HE := hdq (show MgW w T (cross (X1.drop i1) Y1 ++ R) _ _ from HE)
         have hjc : ¬ (j : Int) < (m : Int) := by omega
         have hjc2 : m ≤ j := by omega
         clear hj
         go_wp2
         go_roundw
         case rel => exact ⟨i1, rfl, hdq KI.out.1, HE⟩
         case measure => simpa [intOf] using KI.out.2
      ·have HE := HM2.out
       rw [show X1.drop i = [] from List.drop_of_length_le (by have := KX.out.1; omega)] at HE
       have HE := hdq (show MgW w T R _ _ from HE)
       have hic : ¬ (i : Int) < (n : Int) := by omega
       have hic2 : n ≤ i := by omega
       have MS : Hid (n1 - n + (n2 - m) < n1 + n2) := hdq (by have := NM.out; omega)
       have h3 : (n : Int) ≤ (n1 : Int) := by have := NM.out; omega
       have h4 : (m : Int) ≤ (n2 : Int) := by have := NM.out; omega
       have h5 : (n1 : Int) ≤ (c1 : Int) := by have := NM.out; omega
       have h6 : (n2 : Int) ≤ (c2 : Int) := by have := NM.out; omega
       clear hi
       go_wp2
       rw [HR2.out] at HE
       have HE := hdq (HE.out.below (below_drew (Below.refl _ _)))
       go_big_region
       go_wp2
       go_roundw
       case rel => exact ⟨_, _, n1 - n, c1 - n, n2 - m, c2 - m, (x :: xr).drop n, (y :: yr).drop m, rfl, rfl, hdq ⟨KX2.out, KY2.out⟩, SN, HE⟩
       case measure => simpa [slLen] using MS.out
    ·have hd1 : decide (c < 0) = false := decide_eq_false (by omega)
     have hd2 : decide (0 < c) = true := decide_eq_true h
     go_wp2
     go_region_held3 (fun W : World => W.cell? ⟨b1, o1 + 1, none⟩ = some (.slice A1 z1 k1) ∧ W.cell? ⟨b2, o2 + 1, none⟩ = some (.slice A2 z2 k2) ∧ Hid (Below wr.heap.size wr W)) (first | (exact ⟨by simpa using q1, by simpa using q2, hdq ((Below.refl _ _).drew)⟩) | assumption) (first | (go_at_call 45; refine (HCC.out _ (by assumption)).mono ?_; rintro e wx ⟨rfl, hSx⟩))
     have HNX := hdq (HM.out.below hSx.2.2.out)
     have NX : Hid ((SortedK (x :: xr) ∧ SortedK yr ∧ WfK (x :: xr) ∧ WfK yr) ∧ pairsOf (x :: xr) (y :: yr) = pairsOf (x :: xr) yr) := hdq ⟨⟨HS.out.1, HS.out.2.1.drop 1, HS.out.2.2.1, HS.out.2.2.2.drop 1⟩, pairs_gt (by rw [← HCD.out]; exact h) HS.out.1⟩
     rw [NX.out.2] at HNX
     have KX : Hid (KeyedV w _ (n2 - 1) (c2 - 1) yr) := hdq (HKV.out.2.drop 1 (by omega))
     have MS : Hid (n1 + (n2 - 1) < n1 + n2) := hdq (by omega)
     have g3 : (1 : Int) ≤ (n2 : Int) := by omega
     have g4 : (n2 : Int) ≤ (c2 : Int) := by have := HKV.out.2.2.1; omega
     clear hSx q1 q2
     go_wp2
     go_roundw
     case rel => exact ⟨_, _, n1, c1, n2 - 1, c2 - 1, x :: xr, yr, rfl, rfl, hdq ⟨HKV.out.1, KX.out⟩, hdq NX.out.1, HNX⟩
     case measure => simpa [slLen] using MS.out
theorem by_any (f1 f2 : Int) (A1 A2 : Option Addr) (n1 c1 n2 c2 : Nat) (l1 l2 : List PV) (w : World) (e1 : l1.length = n1) (e2 : l2.length = n2) (h1 : Kd.C k39 w A1 n1 l1) (h2 : Kd.C k39 w A2 n2 l2) (g1 : n1 ≤ c1) (g2 : n2 ≤ c2) (w1 : wfR l1 = true) (w2 : wfR l2 = true) :
 Calls Tryz.prog 44 #[.agg #[.int .i64 f1, .slice A1 n1 c1], .agg #[.int .i64 f2, .slice A2 n2 c2]] w fun e w' => e = .returned (.int .i64 (cmpRow (rOf l1) (rOf l2))) ∧ Below w.heap.size w w' := by
 obtain ⟨c, hc⟩ : ∃ c, c = cmpRow (rOf l1) (rOf l2) := ⟨_, rfl⟩
 rw [← hc]
 have HCC : Hid (∀ W, Below w.heap.size w W → Calls Tryz.prog 45 #[.slice A1 n1 c1, .slice A2 n2 c2] W fun e w' => e = .returned (.int .i64 c) ∧ Below w.heap.size w w') := hdq (fun W hW => by
  subst e1
  subst e2
  refine (row_Cmp.calls A1 c1 l1 A2 c2 l2 c W (Kd.C_below h1 hW) g1 (Kd.C_below h2 hW) g2 (by unfold row_Cmp.f rowF; rw [w1, w2, hc]; rfl)).mono ?_
  rintro e w' ⟨rfl, h⟩
  exact ⟨rfl, hW.trans (h.mono hW.size)⟩)
 have HB : Hid (Below w.heap.size w ((w.alloc (.cells #[.int .i64 f1, .slice A1 n1 c1] 80)).alloc (.cells #[.int .i64 f2, .slice A2 n2 c2] 80))) := hdq ((below_new w _).trans ((below_new _ _).mono (by simp)))
 clear e1 e2 h1 h2 g1 g2 w1 w2 hc
 go_enter Tryz.func44, Tryz.ntmps44
 go_wp2_with (go_at_call 45; refine (HCC.out _ HB.out).mono ?_; rintro e w2 ⟨rfl, h2⟩; have H2 := hdq h2; clear h2)
 go_ret
 exact ⟨rfl, H2.out⟩
theorem perm_map_back {α β : Type} {f : α → β} : ∀ {l k : List β}, l.Perm k → ∀ {m : List α}, k = m.map f → ∃ m' : List α, m'.Perm m ∧ l = m'.map f := by
 intro l k h
 induction h with
 | nil =>
  intro m e
  obtain rfl : m = [] := by cases m with
   | nil => rfl
   | cons a m => simp at e
  exact ⟨[], .refl _, rfl⟩
 | cons x h ih =>
  intro m e
  cases m with
  | nil => simp at e
  | cons a m =>
   rw [List.map_cons] at e
   injection e with e1 e2
   obtain ⟨m', p, q⟩ := ih e2
   exact ⟨a :: m', .cons a p, by rw [List.map_cons, ← q, e1]⟩
 | swap x y l =>
  intro m e
  cases m with
  | nil => simp at e
  | cons a m =>
   cases m with
   | nil => simp at e
   | cons b m =>
    rw [List.map_cons, List.map_cons] at e
    injection e with e1 e2
    injection e2 with e2 e3
    exact ⟨b :: a :: m, .swap a b m, by rw [List.map_cons, List.map_cons, e1, e2, e3]⟩
 | trans h1 h2 ih1 ih2 =>
  intro m e
  obtain ⟨m', p, q⟩ := ih2 e
  obtain ⟨m2, p2, q2⟩ := ih1 q
  exact ⟨m2, p2.trans p, q2⟩
def atOf : Value → Int
 | .int _ z => z
 | _ => 0
def keyAt (xs : List PK) (z : Int) : List Val := match xs.find? (fun p => p.f0 == z) with
 | some p => rOf p.f1
 | none => []
def cfK (xs : List PK) (e e' : E2) : Int := cmpRow (keyAt xs (atOf e.1)) (keyAt xs (atOf e'.1))
theorem cfK_cmps (xs : List PK) : Cmps (cfK xs) where
 asym x y h := by have := cmpRow_neg (keyAt xs (atOf x.1)) (keyAt xs (atOf y.1)); unfold cfK at h ⊢; omega
 trans x y z h1 h2 := by
  have n1 := cmpRow_neg (keyAt xs (atOf x.1)) (keyAt xs (atOf y.1))
  have n2 := cmpRow_neg (keyAt xs (atOf y.1)) (keyAt xs (atOf z.1))
  have n3 := cmpRow_neg (keyAt xs (atOf x.1)) (keyAt xs (atOf z.1))
  unfold cfK at h1 h2 ⊢
  have := cmpRow_trans (keyAt xs (atOf x.1)) (keyAt xs (atOf y.1)) (keyAt xs (atOf z.1)) (by omega) (by omega)
  omega
def AtUp (xs : List PK) : Prop := xs.Pairwise (fun p q => p.f0 < q.f0)
theorem AtUp.key {xs : List PK} (h : AtUp xs) {p : PK} (hp : p ∈ xs) : keyAt xs p.f0 = rOf p.f1 := by
 unfold keyAt
 have e : xs.find? (fun q => q.f0 == p.f0) = some p := by
  induction xs with
  | nil => cases hp
  | cons x xs ih =>
   rcases List.mem_cons.1 hp with e | hp
   ·rw [e]; simp
   ·have hlt := (List.pairwise_cons.1 h).1 p hp
    rw [List.find?_cons_of_neg (by simp; omega)]
    exact ih (List.pairwise_cons.1 h).2 hp
 rw [e]
def ElK (w : World) (base : Nat) (okp : Nat → Prop) (p : PK) (e : E2) : Prop := e.1 = .int .i64 p.f0 ∧ Kd.R k39 39 w base okp e.2 p.f1
theorem ElK.later {w W : World} {base g : Nat} {okp : Nat → Prop} {p : PK} {e : E2} (h : ElK w base okp p e) (hok : ∀ k, okp k → k ≠ g) (hr : RestW w g W) : ElK W base okp p e :=
 ⟨h.1, Kd.R_step (w1 := W) h.2 (fun k hk hl => hr.block k hl (hok k hk))⟩
theorem ElK.reads {w W : World} {base g : Nat} {okp : Nat → Prop} {p : PK} {e : E2} (h : ElK w base okp p e) (hok : ∀ k, okp k → k ≠ g) (hr : RestW w g W) : ∃ A c, e = (.int .i64 p.f0, .slice A p.f1.length c) ∧ p.f1.length ≤ c ∧ Kd.C k39 W A p.f1.length p.f1 := by
 obtain ⟨h1, h3⟩ := h.later hok hr
 obtain ⟨A, c, e2, hl, hc⟩ := Kd.R_reads h3
 exact ⟨A, c, by rw [← h1, ← e2], hl, hc⟩
theorem cfK_ans (xs : List PK) (hu : AtUp xs) (hw : WfK xs) (w : World) (base g : Nat) (okp : Nat → Prop) (hok : ∀ k, okp k → k ≠ g) : CmpAns w g (cfK xs) (fun e => ∃ p ∈ xs, ElK w base okp p e) := by
 rintro x y W ⟨p, hp, hx⟩ ⟨q, hq, hy⟩ hr
 obtain ⟨A1, c1, e1, l1, r1⟩ := hx.reads hok hr
 obtain ⟨A2, c2, e2, l2, r2⟩ := hy.reads hok hr
 have ec : cfK xs x y = cmpRow (rOf p.f1) (rOf q.f1) := by
  unfold cfK
  rw [hx.1, hy.1]
  show cmpRow (keyAt xs p.f0) (keyAt xs q.f0) = _
  rw [hu.key hp, hu.key hq]
 rw [ec, e1, e2]
 exact by_any p.f0 q.f0 A1 A2 _ c1 _ c2 p.f1 q.f1 W rfl rfl r1 r2 l1 l2 (hw p hp) (hw q hq)
theorem R_sort {w : World} {base : Nat} {ok : Nat → Prop} {v : Value} {xs : List PK} (h : Kd.R k80 80 w base ok v xs) (h0 : 0 < xs.length) :
 ∃ (g cap : Nat) (Z : List E2), v = .slice (some ⟨g, 0, none⟩) xs.length cap ∧ xs.length ≤ cap ∧ base ≤ g ∧ SortW w g 80 (cap * 2) Z w ∧ Z.length = xs.length ∧ ∀ (i : Nat) (p : PK), xs[i]? = some p → ∃ e : E2, Z[i]? = some e ∧ ElK w base (fun k => ok k ∧ some k ≠ v.ownBlock) p e := by
 obtain ⟨hk, inner, ⟨hl, ho⟩, hr⟩ := h
 rcases ho with ⟨rfl, e⟩ | ⟨g, cap, cur, rfl, hb, hh, hnc, hmax, hcs, hin⟩
 ·omega
 ·have each : ∀ (i : Nat) (p : PK), xs[i]? = some p → ∃ v1, cur[i * 2]? = some (.int .i64 p.f0) ∧ cur[i * 2 + 1]? = some v1 ∧ v1.oneCell' = true ∧ Kd.R k39 39 w base (fun k => ok k ∧ some k ≠ (Value.slice (some ⟨g, 0, none⟩) xs.length cap).ownBlock) v1 p.f1 := by
   intro i p hp
   have hil := (List.getElem?_eq_some_iff.1 hp).1
   obtain ⟨v1, e1, e2⟩ := k80_openM (hr.2 i p hp)
   have e1 : (inner.drop (i * 2)).take 2 = [.int .i64 p.f0, v1] := e1
   have a0 : inner[i * 2]? = some (.int .i64 p.f0) := by
    have := congrArg (fun l => l[0]?) e1
    simpa [List.getElem?_take, List.getElem?_drop] using this
   have a1 : inner[i * 2 + 1]? = some v1 := by
    have := congrArg (fun l => l[1]?) e1
    simpa [List.getElem?_take, List.getElem?_drop] using this
   have hln : xs.length * 2 = xs.length * Kd.sz k80 := rfl
   rw [← hin, List.getElem?_take] at a0 a1
   split at a0
   ·split at a1
    ·rw [Array.getElem?_toList] at a0 a1
     refine ⟨v1, a0, a1, (Kd.R_val e2).2, e2⟩
    ·cases a1
   ·cases a0
  obtain ⟨f, hf⟩ : ∃ f : Nat → Value, ∀ (i : Nat) (p : PK), xs[i]? = some p → cur[i * 2]? = some (.int .i64 p.f0) ∧ cur[i * 2 + 1]? = some (f i) ∧ (f i).oneCell' = true ∧ Kd.R k39 39 w base (fun k => ok k ∧ some k ≠ (Value.slice (some ⟨g, 0, none⟩) xs.length cap).ownBlock) (f i) p.f1 := by
   have : ∀ i, i < xs.length → ∃ v1, ∀ p, xs[i]? = some p → cur[i * 2]? = some (.int .i64 p.f0) ∧ cur[i * 2 + 1]? = some v1 ∧ v1.oneCell' = true ∧ Kd.R k39 39 w base (fun k => ok k ∧ some k ≠ (Value.slice (some ⟨g, 0, none⟩) xs.length cap).ownBlock) v1 p.f1 := fun i hi => by
    have hx := List.getElem?_eq_getElem hi
    obtain ⟨v1, h⟩ := each i _ hx
    exact ⟨v1, fun p hp => by rw [hx] at hp; cases hp; exact h⟩
   obtain ⟨f, hf⟩ := Go.Deep.choose_lt this
   exact ⟨f, fun i p hp => hf i (List.getElem?_eq_some_iff.1 hp).1 p hp⟩
  refine ⟨g, cap, xs.zipIdx.map (fun x => (.int .i64 x.1.f0, f x.2)), rfl, hnc, hb, ⟨⟨cur, hh, hcs, by simp; omega, fun i x hx => ?_⟩, RestW.refl _ _, blk_lt hh⟩, by simp, fun i p hp => ?_⟩
  ·rw [List.getElem?_map, Option.map_eq_some_iff] at hx
   obtain ⟨⟨p, j⟩, hz, rfl⟩ := hx
   rw [List.getElem?_zipIdx] at hz
   obtain ⟨p', hp', e⟩ := Option.map_eq_some_iff.1 hz
   obtain ⟨rfl, rfl⟩ : p' = p ∧ 0 + i = j := by simpa using e
   obtain ⟨q1, q2, q3, _⟩ := hf i p' hp'
   rw [Nat.zero_add]
   exact ⟨⟨q1, q2⟩, rfl, q3⟩
  ·obtain ⟨q1, q2, q3, q4⟩ := hf i p hp
   refine ⟨(.int .i64 p.f0, f i), ?_, rfl, q4⟩
   rw [List.getElem?_map, List.getElem?_zipIdx, hp]
   simp
theorem sorted_back {w W : World} {base g cap : Nat} {ok : Nat → Prop} {xs : List PK} {Z Z' : List E2} (hk : ok g) (hb : base ≤ g) (hu : AtUp xs) (hZ : Z.length = xs.length) (hE : ∀ (i : Nat) (p : PK), xs[i]? = some p → ∃ e : E2, Z[i]? = some e ∧ ElK w base (fun k => ok k ∧ some k ≠ (Value.slice (some ⟨g, 0, none⟩) xs.length cap).ownBlock) p e) (hp : Z'.Perm Z) (hs : SortedE (cfK xs) Z') (hS : SortW w g 80 (cap * 2) Z' W) (hc : xs.length ≤ cap) (hm : cap ≤ maxLen) :
 ∃ xs' : List PK, xs'.Perm xs ∧ SortedK xs' ∧ Kd.R k80 80 W base ok (.slice (some ⟨g, 0, none⟩) xs.length cap) xs' := by
 have em : Z = (xs.zip Z).map Prod.snd := by rw [List.map_snd_zip]; omega
 obtain ⟨M, pm, eM⟩ := perm_map_back hp em
 have hM : ∀ x, x ∈ M → x.1 ∈ xs ∧ ElK w base (fun k => ok k ∧ some k ≠ (Value.slice (some ⟨g, 0, none⟩) xs.length cap).ownBlock) x.1 x.2 := by
  intro x hx
  have hx := pm.mem_iff.1 hx
  obtain ⟨i, hi, e⟩ := List.mem_iff_getElem.1 hx
  rw [List.getElem_zip] at e
  rw [List.length_zip] at hi
  have hi1 : i < xs.length := by omega
  obtain ⟨e', g1, g2⟩ := hE i _ (List.getElem?_eq_getElem hi1)
  rw [List.getElem?_eq_getElem (by omega)] at g1
  injection g1 with g1
  rw [← e]
  exact ⟨List.getElem_mem _, by rw [← g1] at g2; exact g2⟩
 have px : (M.map Prod.fst).Perm xs := by
  have := pm.map Prod.fst
  rwa [List.map_fst_zip (by omega)] at this
 have lx := px.length_eq
 rw [List.length_map] at lx
 refine ⟨M.map Prod.fst, px, ?_, fun k e => ?_, ?_⟩
 ·unfold SortedK
  unfold SortedE at hs
  rw [eM, List.pairwise_map] at hs
  rw [List.pairwise_map]
  refine hs.imp_of_mem (fun {a b} ha hb h => ?_)
  have h1 := hM a ha
  have h2 := hM b hb
  have e : cfK xs b.2 a.2 = kc b.1 a.1 := by
   unfold cfK kc
   rw [h1.2.1, h2.2.1]
   show cmpRow (keyAt xs b.1.f0) (keyAt xs a.1.f0) = _
   rw [hu.key h1.1, hu.key h2.1]
  rw [← e]; exact h
 ·have : g = k := by simpa [Value.ownBlock] using e
  rw [← this]; exact hk
 ·obtain ⟨⟨cur, c1, c2, c3, c4⟩, hr, hlt⟩ := hS
  refine ⟨cur.toList.take (xs.length * 2), ⟨?_, .inr ⟨g, cap, cur, ?_, hb, c1, by rw [List.length_map, lx]; exact hc, hm, c2, by rw [List.length_map, lx]; rfl⟩⟩, ?_, fun j p hj => ?_⟩
  ·rw [List.length_take, List.length_map, lx, show cur.toList.length = cap * 2 from by rw [Array.length_toList, c2]]
   show min (xs.length * 2) (cap * 2) = xs.length * 2
   omega
  ·rw [List.length_map, lx]
  ·rw [List.length_take, List.length_map, lx, show cur.toList.length = cap * 2 from by rw [Array.length_toList, c2]]
   show min (xs.length * 2) (cap * 2) = xs.length * 2
   omega
  ·rw [List.getElem?_map, Option.map_eq_some_iff] at hj
   obtain ⟨x, hx, rfl⟩ := hj
   have hjl := (List.getElem?_eq_some_iff.1 hx).1
   have hz : Z'[j]? = some x.2 := by rw [eM, List.getElem?_map, hx]; rfl
   obtain ⟨⟨a1, a2⟩, _⟩ := c4 j x.2 hz
   have hm2 := (hM x (List.mem_of_getElem? hx)).2
   have hl2 := hm2.later (g := g) (W := W) (fun k hk e => hk.2 (by rw [e]; rfl)) hr
   have hch : ((cur.toList.take (xs.length * 2)).drop (j * 2)).take 2 = [.int .i64 x.1.f0, x.2.2] := by
    apply List.ext_getElem?
    intro t
    rw [List.getElem?_take, List.getElem?_drop, List.getElem?_take, Array.getElem?_toList]
    rcases t with _ | _ | t
    ·rw [if_pos (by omega), if_pos (by omega), Nat.add_zero, a1, hm2.1]; rfl
    ·rw [if_pos (by omega), if_pos (by omega), a2]; rfl
    ·rw [if_neg (by omega)]; simp
   show Kd.M k80 W base _ x.1 (((cur.toList.take (xs.length * 2)).drop (j * 2)).take 2)
   rw [hch]
   exact k80_mkM W base _ x.1 (Kd.R_mono hl2.2 (fun k hk => ⟨hk.1, hk.2⟩))
theorem R_keyed {w : World} {base g cap n : Nat} {ok : Nat → Prop} {xs : List PK} (h : Kd.R k80 80 w base ok (.slice (some ⟨g, 0, none⟩) n cap) xs) (hn : xs.length = n) (hl : n ≤ 1099511627776) : KeyedV w (some ⟨g, 0, none⟩) n cap xs := by
 obtain ⟨A, c, e, hlc, hC⟩ := Kd.R_reads h
 injection e with e1 e2 e3
 subst e1
 subst e3
 refine ⟨hn, by omega, hl, ?_⟩
 by_cases h0 : n = 0
 ·exact .inl h0
 ·obtain ⟨_, _, hcell⟩ := hC
  obtain ⟨ad, ea, hcell⟩ := hcell (by omega)
  cases ea
  have each : ∀ (i : Nat) (p : PK), xs[i]? = some p → AtK w g (0 + i * 2) p := by
   intro i p hi
   obtain ⟨cs, _, hK, hcs⟩ := hcell i p hi
   obtain ⟨A1, c1, rfl, l1, g1⟩ := k80_open hK
   have at_ : ∀ j u, [Value.int .i64 p.f0, .slice A1 p.f1.length c1][j]? = some u → w.cell? ⟨g, i * 2 + j, none⟩ = some u := by
    intro j u hu
    have h : w.cell? ((⟨g, 0, none⟩ : Addr).add (i * 2 + j)) = some u := hcs j u hu
    rw [addr_add, Nat.zero_add] at h
    exact h
   rw [Nat.zero_add]
   exact ⟨A1, c1, at_ 0 _ rfl, at_ 1 _ rfl, l1, g1⟩
  have hx0 := List.getElem?_eq_getElem (l := xs) (i := 0) (by omega)
  obtain ⟨_, _, q1, _⟩ := each 0 _ hx0
  exact .inr ⟨g, 0, rfl, World.block_lt_of_cell? w _ q1, each⟩
end Go.Proofs.YtgmolmpfihkolaaGreat
namespace Go.Proofs.YtgmolmpfihkolaaGreat
open Go.RowKit
set_option linter.unusedVariables false
set_option maxRecDepth 100000
theorem insertion_none (A : Option Addr) (cap : Nat) (w : World) :
 Calls Tryz.prog 99 #[.slice A 0 cap, .int .i64 0, .int .i64 0, byF] w fun e w' => e = .returned (.tuple #[]) ∧ w = w' := by
 go_enter Tryz.func99, Tryz.ntmps99
 go_wp2
 go_loopw [8] (fun vi wr => vi = .int .i64 1 ∧ w = wr) (fun _ _ => 0)
 case atStart => exact ⟨rfl, rfl⟩
 case round =>
  obtain ⟨rfl, rfl⟩ := hrel
  go_wp2
  go_end0
  exact ⟨rfl, rfl⟩
theorem stable_none (A : Option Addr) (cap : Nat) (w : World) :
 Calls Tryz.prog 73 #[.slice A 0 cap, .int .i64 0, byF] w fun e w' => e = .returned (.tuple #[]) ∧ w = w' := by
 have C := hdq (fun W => insertion_none A cap W)
 go_enter Tryz.func73, Tryz.ntmps73
 go_wp2
 go_loopw [7, 8] (fun va vb wr => va = .int .i64 0 ∧ vb = .int .i64 20 ∧ w = wr) (fun _ _ _ => 0)
 case atStart => exact ⟨rfl, rfl, rfl⟩
 case round =>
  obtain ⟨rfl, rfl, rfl⟩ := hrel
  go_wp2_with (go_at_call 99; refine (C.out _).mono ?_; rintro e w2 ⟨rfl, rfl⟩)
  go_loopw [6, 7, 8, 9] (fun v6 _ _ _ wr2 => v6 = .int .i64 20 ∧ w = wr2) (fun _ _ _ _ _ => 0)
  case atStart => exact ⟨rfl, rfl⟩
  case round =>
   obtain ⟨rfl, rfl⟩ := hrel
   go_wp2
   go_end0
   exact ⟨rfl, rfl⟩
theorem sortNone_any (A : Option Addr) (cap : Nat) (w : World) :
 Calls Tryz.prog 46 #[.slice A 0 cap, byF] w fun e w' => e = .returned (.tuple #[]) ∧ w = w' := by
 have C := hdq (fun W => stable_none A cap W)
 go_enter Tryz.func46, Tryz.ntmps46
 go_wp2_with (go_at_call 73; refine (C.out _).mono ?_; rintro e w2 ⟨rfl, rfl⟩)
 go_end0
 exact ⟨rfl, rfl⟩
end Go.Proofs.YtgmolmpfihkolaaGreat
namespace Go.Proofs.YtgmolmpfihkolaaGreat
open Go.RowKit Go.Proofs.YtgmolmpfihkolaaGreatW.PrintWords Go.Proofs.YtgmolmpfihkolaaGreat.Pj
set_option linter.unusedVariables false
set_option maxRecDepth 100000
theorem RestW.grown {w W : World} {g : Nat} (h : RestW w g W) : w.grownBy W (some g) where
 os := h.os
 tape := h.tape
 output := h.output
 size := h.size
 block := fun k hk hn => h.block k hk (fun e => hn (by rw [e]))
theorem sortK_any {w : World} {base : Nat} {ok : Nat → Prop} {v : Value} {xs : List PK} (h : Kd.R k80 80 w base ok v xs) (hu : AtUp xs) (hw : WfK xs) (hl : xs.length < 549755813888) :
 Calls Tryz.prog 46 #[v, byF] w fun e w' => e = .returned (.tuple #[]) ∧ (∃ xs' : List PK, xs'.Perm xs ∧ SortedK xs' ∧ Kd.R k80 80 w' base ok v xs') ∧ w.grownBy w' v.ownBlock := by
 by_cases h0 : xs.length = 0
 ·obtain ⟨A, c, rfl⟩ := Kd.R_slice h
  obtain rfl : xs = [] := List.eq_nil_of_length_eq_zero h0
  refine (sortNone_any A c w).mono ?_
  rintro e w' ⟨rfl, rfl⟩
  exact ⟨rfl, ⟨[], .refl _, .nil, h⟩, ⟨rfl, rfl, rfl, Nat.le_refl _, fun k _ _ => rfl⟩⟩
 ·obtain ⟨g, cap, Z, rfl, hc, hb, hS, hZ, hE⟩ := R_sort h (by omega)
  have hm : cap ≤ maxLen := by
   obtain ⟨_, inner, ⟨_, ho⟩, _⟩ := h
   rcases ho with ⟨e, _⟩ | ⟨g', cap', cur, e, _, _, _, hm, _⟩
   ·cases e
   ·injection e with _ _ e3
    rw [e3]; exact hm
  have hk : ok g := h.1 g rfl
  have hOK : ∀ e, e ∈ Z → ∃ p ∈ xs, ElK w base (fun k => ok k ∧ some k ≠ (Value.slice (some ⟨g, 0, none⟩) xs.length cap).ownBlock) p e := by
   intro e he
   obtain ⟨i, hi, ei⟩ := List.mem_iff_getElem.1 he
   obtain ⟨e', g1, g2⟩ := hE i xs[i] (List.getElem?_eq_getElem (by omega))
   rw [List.getElem?_eq_getElem hi] at g1
   injection g1 with g1
   exact ⟨xs[i], List.getElem_mem _, by rw [← ei, g1]; exact g2⟩
  refine (sortStable_any g 80 (cap * 2) cap (cfK xs) _ (cfK_cmps xs) Z w w (cfK_ans xs hu hw w base g _ (fun k hk e => hk.2 (by rw [e]; rfl))) hOK hS xs.length hZ hl).mono ?_
  rintro e w' ⟨rfl, Z', p1, p2, p3⟩
  exact ⟨rfl, sorted_back hk hb hu hZ hE p1 p2 p3 hc hm, p3.2.1.grown⟩
end Go.Proofs.YtgmolmpfihkolaaGreat
namespace Go.Proofs.YtgmolmpfihkolaaGreat.Pj
open Go.RowKit Go.Proofs.YtgmolmpfihkolaaGreatW.PrintWords Go.Proofs.YtgmolmpfihkolaaGreatW.PrintLast
set_option linter.unusedVariables false
section
variable {W : World} {base c : Nat} {ok : Nat → Prop} {A : Option Addr} {n : Nat}
theorem gC5 {xs : List (List S39)} (h : Aside0 (Kd.C (Kd.slice 39 k39) W A n xs)) (i : Int) (p : 0 ≤ i := by exact of_decide_eq_true aT) (q : i < (n : Int) := by exact of_decide_eq_true aT) :
 ∃ ad A0 c0, A = some ad ∧ W.cell? (ad.add i.toNat) = some (.slice A0 (rd_L5 xs i).length c0) ∧ Aside0 (k39.C W A0 (rd_L5 xs i).length (rd_L5 xs i)) ∧ Aside0 ((rd_L5 xs i).length ≤ c0) ∧ (0 ≤ i) = True ∧ (i < (n : Int)) = True := by
 obtain ⟨ad, A0, c0, e, hx, hl, hi⟩ := at_L5 h.out i p q
 exact ⟨ad, A0, c0, e, hx, ⟨hi⟩, ⟨hl⟩, eq_true p, eq_true q⟩
theorem gC6 {xs : List (List (List S39))} (h : Aside0 (Kd.C (Kd.slice 29 (Kd.slice 39 k39)) W A n xs)) (i : Int) (p : 0 ≤ i := by exact of_decide_eq_true aT) (q : i < (n : Int) := by exact of_decide_eq_true aT) :
 ∃ ad A0 c0, A = some ad ∧ W.cell? (ad.add i.toNat) = some (.slice A0 (rd_L6 xs i).length c0) ∧ Aside0 ((Kd.slice 39 k39).C W A0 (rd_L6 xs i).length (rd_L6 xs i)) ∧ Aside0 ((rd_L6 xs i).length ≤ c0) ∧ (0 ≤ i) = True ∧ (i < (n : Int)) = True := by
 obtain ⟨ad, A0, c0, e, hx, hl, hi⟩ := at_L6 h.out i p q
 exact ⟨ad, A0, c0, e, hx, ⟨hi⟩, ⟨hl⟩, eq_true p, eq_true q⟩
theorem gV5 {xs : List (List S39)} (h : Aside0 (Kd.V (Kd.slice 39 k39) 29 W base ok (.slice A n c) xs)) (i : Int) (p : 0 ≤ i := by exact of_decide_eq_true aT) (q : i < (xs.length : Int) := by exact of_decide_eq_true aT) :
 ∃ ad A0 c0, A = some ad ∧ W.cell? (ad.add i.toNat) = some (.slice A0 (rd_L5 xs i).length c0) ∧ Aside0 (Kd.V k39 39 W base ok (.slice A0 (rd_L5 xs i).length c0) (rd_L5 xs i)) ∧ Aside0 (k39.C W A0 (rd_L5 xs i).length (rd_L5 xs i)) ∧ Aside0 ((rd_L5 xs i).length ≤ c0) ∧ (0 ≤ i) = True ∧ (i < (xs.length : Int)) = True := by
 obtain ⟨ad, A0, c0, e, hx, hl, hi⟩ := at_L5 (Kd.V_reads' h.out).2.2 i p q
 subst e
 obtain ⟨ce, hce, hMe, hcc⟩ := Kd.V_get h.out [] i p (by have e_ := (Kd.V_reads' h.out).1; omega)
 obtain ⟨ua, uc, rfl, ul, ge⟩ := Kd.FK_slice_open hMe
 have hv := hcc 0 _ rfl
 rw [Nat.add_zero, show ((Kd.slice 39 k39)).sz = 1 from rfl, Nat.mul_one] at hv
 replace hv := Option.some.inj (hv.symm.trans hx)
 injection hv with hva hvn hvc
 rw [hva] at ge
 rw [hvc] at ul
 exact ⟨ad, A0, c0, rfl, hx, ⟨Kd.V_mk ul ge⟩, ⟨hi⟩, ⟨hl⟩, eq_true p, eq_true q⟩
theorem gV6 {xs : List (List (List S39))} (h : Aside0 (Kd.V (Kd.slice 29 (Kd.slice 39 k39)) 22 W base ok (.slice A n c) xs)) (i : Int) (p : 0 ≤ i := by exact of_decide_eq_true aT) (q : i < (xs.length : Int) := by exact of_decide_eq_true aT) :
 ∃ ad A0 c0, A = some ad ∧ W.cell? (ad.add i.toNat) = some (.slice A0 (rd_L6 xs i).length c0) ∧ Aside0 (Kd.V (Kd.slice 39 k39) 29 W base ok (.slice A0 (rd_L6 xs i).length c0) (rd_L6 xs i)) ∧ Aside0 ((Kd.slice 39 k39).C W A0 (rd_L6 xs i).length (rd_L6 xs i)) ∧ Aside0 ((rd_L6 xs i).length ≤ c0) ∧ (0 ≤ i) = True ∧ (i < (xs.length : Int)) = True := by
 obtain ⟨ad, A0, c0, e, hx, hl, hi⟩ := at_L6 (Kd.V_reads' h.out).2.2 i p q
 subst e
 obtain ⟨ce, hce, hMe, hcc⟩ := Kd.V_get h.out [] i p (by have e_ := (Kd.V_reads' h.out).1; omega)
 obtain ⟨ua, uc, rfl, ul, ge⟩ := Kd.FK_slice_open hMe
 have hv := hcc 0 _ rfl
 rw [Nat.add_zero, show ((Kd.slice 29 (Kd.slice 39 k39))).sz = 1 from rfl, Nat.mul_one] at hv
 replace hv := Option.some.inj (hv.symm.trans hx)
 injection hv with hva hvn hvc
 rw [hva] at ge
 rw [hvc] at ul
 exact ⟨ad, A0, c0, rfl, hx, ⟨Kd.V_mk ul ge⟩, ⟨hi⟩, ⟨hl⟩, eq_true p, eq_true q⟩
theorem gN5 {xs : List (List S39)} (h : Aside0 (Kd.N (Kd.slice 39 k39) 29 W base ok (.slice A n c) xs)) (i : Int) (p : 0 ≤ i := by exact of_decide_eq_true aT) (q : i < (xs.length : Int) := by exact of_decide_eq_true aT) :
 ∃ ad A0 c0, A = some ad ∧ W.cell? (ad.add i.toNat) = some (.slice A0 (rd_L5 xs i).length c0) ∧ Aside0 (Kd.V k39 39 W base (fun k => ok k ∧ some k ≠ (Value.slice A n c).ownBlock) (.slice A0 (rd_L5 xs i).length c0) (rd_L5 xs i)) ∧ Aside0 (k39.C W A0 (rd_L5 xs i).length (rd_L5 xs i)) ∧ Aside0 ((rd_L5 xs i).length ≤ c0) ∧ (0 ≤ i) = True ∧ (i < (xs.length : Int)) = True := by
 obtain ⟨ad, A0, c0, e, hx, hl, hi⟩ := at_L5 (Kd.N_reads' h.out).2.2 i p q
 subst e
 obtain ⟨ce, hce, hMe, hcc⟩ := Kd.N_get h.out [] i p (by have e_ := (Kd.N_reads' h.out).1; omega)
 obtain ⟨ua, uc, rfl, ul, ge⟩ := Kd.FK_slice_open hMe
 have hv := hcc 0 _ rfl
 rw [Nat.add_zero, show ((Kd.slice 39 k39)).sz = 1 from rfl, Nat.mul_one] at hv
 replace hv := Option.some.inj (hv.symm.trans hx)
 injection hv with hva hvn hvc
 rw [hva] at ge
 rw [hvc] at ul
 exact ⟨ad, A0, c0, rfl, hx, ⟨Kd.V_mk ul ge⟩, ⟨hi⟩, ⟨hl⟩, eq_true p, eq_true q⟩
theorem gN6 {xs : List (List (List S39))} (h : Aside0 (Kd.N (Kd.slice 29 (Kd.slice 39 k39)) 22 W base ok (.slice A n c) xs)) (i : Int) (p : 0 ≤ i := by exact of_decide_eq_true aT) (q : i < (xs.length : Int) := by exact of_decide_eq_true aT) :
 ∃ ad A0 c0, A = some ad ∧ W.cell? (ad.add i.toNat) = some (.slice A0 (rd_L6 xs i).length c0) ∧ Aside0 (Kd.V (Kd.slice 39 k39) 29 W base (fun k => ok k ∧ some k ≠ (Value.slice A n c).ownBlock) (.slice A0 (rd_L6 xs i).length c0) (rd_L6 xs i)) ∧ Aside0 ((Kd.slice 39 k39).C W A0 (rd_L6 xs i).length (rd_L6 xs i)) ∧ Aside0 ((rd_L6 xs i).length ≤ c0) ∧ (0 ≤ i) = True ∧ (i < (xs.length : Int)) = True := by
 obtain ⟨ad, A0, c0, e, hx, hl, hi⟩ := at_L6 (Kd.N_reads' h.out).2.2 i p q
 subst e
 obtain ⟨ce, hce, hMe, hcc⟩ := Kd.N_get h.out [] i p (by have e_ := (Kd.N_reads' h.out).1; omega)
 obtain ⟨ua, uc, rfl, ul, ge⟩ := Kd.FK_slice_open hMe
 have hv := hcc 0 _ rfl
 rw [Nat.add_zero, show ((Kd.slice 29 (Kd.slice 39 k39))).sz = 1 from rfl, Nat.mul_one] at hv
 replace hv := Option.some.inj (hv.symm.trans hx)
 injection hv with hva hvn hvc
 rw [hva] at ge
 rw [hvc] at ul
 exact ⟨ad, A0, c0, rfl, hx, ⟨Kd.V_mk ul ge⟩, ⟨hi⟩, ⟨hl⟩, eq_true p, eq_true q⟩
end
end Go.Proofs.YtgmolmpfihkolaaGreat.Pj
