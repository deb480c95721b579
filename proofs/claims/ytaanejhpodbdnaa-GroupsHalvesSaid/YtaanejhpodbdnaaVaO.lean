/- The walk of the reference's Fold. -/
import Derived.Test.YtaanejhpodbdnaaVaM
import Derived.Test.YtaanejhpodbdnaaVaJ
namespace Go.Proofs.Ytaanejhpodbdnaa
open Go.RowKit
set_option maxRecDepth 100000
set_option linter.unusedVariables false
attribute [local go_sem] run_store_float

/-- What the reference's chooser keeps: kind 3 the least, 4 the greatest. -/
def chooseR (kind : Int) (h v : Val) : Val := if h.kind = 0 then v else if kind = 3 then (if rcmpP (rplainV v) (rplainV h) < 0 then v else h) else (if 0 < rcmpP (rplainV v) (rplainV h) then v else h)
/-- The reference's rounds, kind by kind. -/
def rgo (kind : Int) : Int → Val → List Val → Val × Int
  | n, h, [] => (if kind = 1 then Val.num n else h, 0)
  | n, h, x :: l => if (rplainV x).kind = 0 then rgo kind n h l else
      if kind = 2 then (if (calcAdd (if h.kind = 0 then 0 else h.int) (rplainV x)).2 = 0 then rgo kind (wrap64 (n + 1)) (calcAdd (if h.kind = 0 then 0 else h.int) (rplainV x)).1 l else (Val.null, (calcAdd (if h.kind = 0 then 0 else h.int) (rplainV x)).2))
      else rgo kind (wrap64 (n + 1)) (if kind = 1 then h else chooseR kind h (rplainV x)) l
theorem rgo_cons (kind n : Int) (h x : Val) (l : List Val) : rgo kind n h (x :: l) = if (rplainV x).kind = 0 then rgo kind n h l else
      if kind = 2 then (if (calcAdd (if h.kind = 0 then 0 else h.int) (rplainV x)).2 = 0 then rgo kind (wrap64 (n + 1)) (calcAdd (if h.kind = 0 then 0 else h.int) (rplainV x)).1 l else (Val.null, (calcAdd (if h.kind = 0 then 0 else h.int) (rplainV x)).2))
      else rgo kind (wrap64 (n + 1)) (if kind = 1 then h else chooseR kind h (rplainV x)) l := rfl

theorem rplainV_wf (v : Val) (h : v.wf) : (rplainV v).wf := by
  unfold rplainV
  split
  · split
    · split
      · exact ⟨by show (Lit.int .i64 3).wf = true; decide, by show (Lit.int .i64 0).wf = true; decide, by show 0 < 2 ^ 64; decide, Nat.zero_le _⟩
      · exact h
    · exact h
  · exact null_wf
theorem chooseR_wf (kind : Int) (h v : Val) (hh : h.wf) (hv : v.wf) : (chooseR kind h v).wf := by
  unfold chooseR
  repeat' split
  all_goals assumption

/-- The state of a round: the result's box, what is had, the value's box. -/
structure RF (w : World) (vb : Nat) (h p : Val) (W : World) : Prop where
  below : Below w.heap.size w W
  res : LiesV W w.heap.size 0 Val.null
  hv : LiesV W (w.heap.size + 1) 0 h
  vv : LiesV W vb 0 p
  lt : vb < W.heap.size
  gt : w.heap.size + 1 < vb
theorem RF.next {w W W' : World} {vb : Nat} {h p : Val} (x : RF w vb h p W) (hb : Below W.heap.size W W') : RF w vb h p W' :=
  ⟨x.below.trans (hb.mono x.below.size), x.res.below hb (by have := x.lt; have := x.gt; omega), x.hv.below hb (by have := x.lt; have := x.gt; omega), x.vv.below hb x.lt, Nat.lt_of_lt_of_le x.lt hb.size, x.gt⟩
theorem RF.setH {w W : World} {vb : Nat} {h p : Val} (x : RF w vb h p W) (q : Val) : RF w vb q p ((((W.setCell ⟨w.heap.size + 1, 0, none⟩ (.int .i64 q.kind)).setCell ⟨w.heap.size + 1, 1, none⟩ (.int .i64 q.int)).setCell ⟨w.heap.size + 1, 2, none⟩ (.float .f64 q.flt)).setCell ⟨w.heap.size + 1, 3, none⟩ (.string q.text)) := by
  have hg := x.gt
  exact ⟨below_val x.below (by omega) _ _ _ _, (((x.res.other (by simp)).other (by simp)).other (by simp)).other (by simp), x.hv.stored q, (((x.vv.other (by simp; omega)).other (by simp; omega)).other (by simp; omega)).other (by simp; omega), by simpa using x.lt, hg⟩
theorem RF.setK {w W : World} {vb : Nat} {h p : Val} (x : RF w vb h p W) (k : Int) : RF w vb { h with kind := k } p (W.setCell ⟨w.heap.size + 1, 0, none⟩ (.int .i64 k)) := by
  have hg := x.gt
  obtain ⟨⟨h1, h2, h3, h4⟩, f1, f2, f3, f4⟩ := x.hv
  exact ⟨x.below.setCell (p := ⟨w.heap.size + 1, 0, none⟩) (by simp) _, x.res.other (by simp), ⟨⟨World.cell?_setCell_same W _ _ h1, setCell_keep h2 (off_ne (by omega)), setCell_keep h3 (off_ne (by omega)), setCell_keep h4 (off_ne (by omega))⟩, by simpa using f1, by simpa using f2, by simpa using f3, by simpa using f4⟩, x.vv.other (by simp; omega), by simpa using x.lt, hg⟩
theorem RF.setKa {w W : World} {h p : Val} {t : TypeId} {cs : Array Value} (x : RF w W.heap.size h p (W.alloc (.cells cs t))) (k : Int) : RF w W.heap.size { h with kind := k } p ((W.setCell ⟨w.heap.size + 1, 0, none⟩ (.int .i64 k)).alloc (.cells cs t)) := by
  have := x.setK k
  rwa [World.setCell_alloc_past _ _ _ _ x.gt] at this
theorem RF.ltH {w W : World} {vb : Nat} {h p : Val} (x : RF w vb h p W) : w.heap.size + 1 < W.heap.size := by have := x.lt; have := x.gt; omega
theorem RF.ltR {w W : World} {vb : Nat} {h p : Val} (x : RF w vb h p W) : w.heap.size < W.heap.size := by have := x.lt; have := x.gt; omega
theorem AddI.wf {h : Val} (x : AddI h) : h.wf := by
  rcases x with rfl | ⟨n, rfl, hn⟩
  · exact null_wf
  · exact num_wf hn
theorem RCalcAdd_exp (n k m : Int) (f : Nat) (s : ByteArray) (hn : (Lit.int .i64 n).wf = true) (hb : Val.wf ⟨k, m, f, s⟩) (w : World) : Calls Try.prog 23 #[.int .i64 3, .agg #[.int .i64 2, .int .i64 n, .float .f64 0, .string ⟨#[]⟩], .agg #[.int .i64 k, .int .i64 m, .float .f64 f, .string s]] w
    fun e w' => e = .returned (.tuple #[.agg #[.int .i64 (calcAdd n ⟨k, m, f, s⟩).1.kind, .int .i64 (calcAdd n ⟨k, m, f, s⟩).1.int, .float .f64 (calcAdd n ⟨k, m, f, s⟩).1.flt, .string (calcAdd n ⟨k, m, f, s⟩).1.text], .int .i64 (calcAdd n ⟨k, m, f, s⟩).2]) ∧ Below w.heap.size w w' := RCalcAdd_any n _ hn hb w

/-- .. between rounds. -/
structure RG (w : World) (h : Val) (W : World) : Prop where
  below : Below w.heap.size w W
  res : LiesV W w.heap.size 0 Val.null
  hv : LiesV W (w.heap.size + 1) 0 h
  lt : w.heap.size + 1 < W.heap.size
theorem RF.g {w W : World} {vb : Nat} {h p : Val} (x : RF w vb h p W) : RG w h W := ⟨x.below, x.res, x.hv, by have := x.lt; have := x.gt; omega⟩
theorem RG.next {w W W' : World} {h : Val} (x : RG w h W) (hb : Below W.heap.size W W') : RG w h W' :=
  ⟨x.below.trans (hb.mono x.below.size), x.res.below hb (by have := x.lt; omega), x.hv.below hb x.lt, Nat.lt_of_lt_of_le x.lt hb.size⟩
theorem RG.box {w W : World} {h : Val} (x : RG w h W) (p : Val) (t : TypeId) : RF w W.heap.size h p (W.alloc (.cells #[.int .i64 p.kind, .int .i64 p.int, .float .f64 p.flt, .string p.text] t)) := by
  have hb := (Below.refl W.heap.size W).alloc (Nat.le_refl _) (.cells #[.int .i64 p.kind, .int .i64 p.int, .float .f64 p.flt, .string p.text] t)
  have y := x.next hb
  exact ⟨y.below, y.res, y.hv, LiesV.new W p t, by simp, x.lt⟩
theorem RG.start (w : World) (t u : TypeId) : RG w Val.null ((w.alloc (.cells #[.int .i64 0, .int .i64 0, .float .f64 0, .string ⟨#[]⟩] t)).alloc (.cells #[.int .i64 0, .int .i64 0, .float .f64 0, .string ⟨#[]⟩] u)) := by
  have h := Two.start w Val.null Val.null t u
  exact ⟨h.2.2.1, h.1, h.2.1, h.2.2.2⟩

theorem RCmp_exp (k n : Int) (f : Nat) (s : ByteArray) (k' n' : Int) (f' : Nat) (s' : ByteArray) (ha : Val.wf ⟨k, n, f, s⟩) (hb : Val.wf ⟨k', n', f', s'⟩) (w : World) : Calls Try.prog 24 #[.agg #[.int .i64 k, .int .i64 n, .float .f64 f, .string s], .agg #[.int .i64 k', .int .i64 n', .float .f64 f', .string s']] w
    fun e w' => e = .returned (.int .i64 (rcmpP (rplainV ⟨k, n, f, s⟩) (rplainV ⟨k', n', f', s'⟩))) ∧ Below w.heap.size w w' := RCmp_plain _ _ ha hb w

set_option maxHeartbeats 4000000 in
theorem RFold_1 (a : Option Addr) (len cap : Nat) (l : List Val) (w : World) (h : RowV w a len cap l) : Calls Try.prog 9 #[.int .i64 1, .slice a len cap] w
    fun e w' => e = .returned (.tuple #[(rgo 1 0 Val.null l).1.agg, .int .i64 (rgo 1 0 Val.null l).2]) ∧ Below w.heap.size w w' := by
  have h63 : len < 2 ^ 63 := by have := h.2.1; have := h.2.2.1; unfold maxLen at this; omega
  have HR := Lib.hid h
  have HLEN := Lib.hid h.1
  have HG0 := Lib.hid (RG.start w 28 28)
  clear h
  go_enter Try.func9, Try.ntmps9
  go_wp2
  go_loopw [7, 8] (fun n i wr => ∃ (k : Nat) (m : Int) (h : Val), i = .int .i64 k ∧ k ≤ len ∧ n = .int .i64 m ∧ rgo 1 m h (l.drop k) = rgo 1 0 Val.null l ∧ h = Val.null ∧ RG w h wr) (fun _ i _ => len - (intOf i).toNat)
  case atStart => exact ⟨0, 0, Val.null, rfl, Nat.zero_le _, rfl, rfl, rfl, HG0.out⟩
  case round =>
    obtain ⟨k, m, h, rfl, hk, rfl, hgo, hinv, hg⟩ := hrel
    have HG := Lib.hid hg
    have HI := Lib.hid hinv
    by_cases hlt : k < len
    · obtain ⟨b, off, rfl, x, hx, hwf, ⟨d1, d2, d3, d4⟩, hdr⟩ := fold_row HR.out hg.below hlt
      rw [hdr, rgo_cons] at hgo
      have hpw := rplainV_wf x hwf
      obtain ⟨p, hp⟩ : ∃ p, p = rplainV x := ⟨_, rfl⟩
      rw [← hp] at hgo hpw
      have HP := Lib.hid hp.symm
      obtain ⟨xk, xn, xf, xs⟩ := x
      obtain ⟨pk, pn, pf, ps⟩ := p
      simp only at *
      clear hx hdr hp hg
      by_cases h0 : pk = 0
      · subst h0
        rw [if_pos rfl] at hgo
        have HGO := Lib.hid hgo
        clear hgo hinv
        go_wp2_with (go_at_call 22; refine (RPlain_exp _ _ _ _ (by assumption) _).mono ?_; rw [HP.out]; rintro e w5 ⟨rfl, hb5⟩; have H5 := Lib.hid ((HG.out.next hb5).box ⟨0, pn, pf, ps⟩ 28); obtain ⟨⟨h1, h2, h3, h4⟩, gh1, gh2, gh3, gh4⟩ := H5.out.hv; obtain ⟨⟨v1, v2, v3, v4⟩, _⟩ := H5.out.vv; simp only [Nat.zero_add] at h1 h2 h3 h4 gh1 gh2 gh3 gh4 v1 v2 v3 v4; obtain ⟨⟨a1, a2, a3, a4⟩, fa1, fa2, fa3, fa4⟩ := (HG.out.next hb5).hv; simp only [Nat.zero_add] at a1 a2 a3 a4 fa1 fa2 fa3 fa4; have hl5 := H5.out.gt; have hn5 := Nat.ne_of_lt hl5; have hl0 : w.heap.size < w5.heap.size := Nat.lt_trans (Nat.lt_succ_self _) hl5; have hn0 := Nat.ne_of_lt hl0; clear hb5)
        refine ⟨⟨k + 1, m, h, by go_num, by omega, rfl, HGO.out, HI.out, H5.out.g⟩, ?_⟩
        simp [intOf]; omega
      · rw [if_neg h0] at hgo
        have h0z : ((pk : Int) == 0) = false := by simp; exact h0
        rw [if_neg (by omega), if_pos trivial] at hgo
        subst hinv
        have hnw := null_wf
        unfold Val.null at *
        have HGO := Lib.hid hgo
        clear hgo h0
        go_wp2_with (first | (go_at_call 22; refine (RPlain_exp _ _ _ _ (by assumption) _).mono ?_; rw [HP.out]; rintro e w5 ⟨rfl, hb5⟩; have H5 := Lib.hid ((HG.out.next hb5).box ⟨pk, pn, pf, ps⟩ 28); obtain ⟨⟨h1, h2, h3, h4⟩, gh1, gh2, gh3, gh4⟩ := H5.out.hv; obtain ⟨⟨v1, v2, v3, v4⟩, _⟩ := H5.out.vv; simp only [Nat.zero_add] at h1 h2 h3 h4 gh1 gh2 gh3 gh4 v1 v2 v3 v4; obtain ⟨⟨a1, a2, a3, a4⟩, fa1, fa2, fa3, fa4⟩ := (HG.out.next hb5).hv; simp only [Nat.zero_add] at a1 a2 a3 a4 fa1 fa2 fa3 fa4; have hl5 := H5.out.gt; have hn5 := Nat.ne_of_lt hl5; have hl0 : w.heap.size < w5.heap.size := Nat.lt_trans (Nat.lt_succ_self _) hl5; have hn0 := Nat.ne_of_lt hl0; clear hb5) | (go_at_call 24; refine (RCmp_exp _ _ _ _ _ _ _ _ (by assumption) (by assumption) _).mono ?_; rintro e w7 ⟨rfl, hb7⟩; have H7 := Lib.hid (H5.out.next hb7); obtain ⟨⟨h1, h2, h3, h4⟩, gh1, gh2, gh3, gh4⟩ := H7.out.hv; obtain ⟨⟨v1, v2, v3, v4⟩, _⟩ := H7.out.vv; simp only [Nat.zero_add] at h1 h2 h3 h4 gh1 gh2 gh3 gh4 v1 v2 v3 v4; clear hb7))
        refine ⟨⟨k + 1, _, Val.null, by go_num, by omega, rfl, HGO.out, rfl, H7.out.g⟩, ?_⟩
        simp [intOf]; omega
    · obtain rfl : k = len := by omega
      obtain ⟨hk', hn', hf', hs'⟩ := h
      rw [List.drop_of_length_le (by rw [HLEN.out]; exact Nat.le_refl _)] at hgo
      have HGO := Lib.hid hgo
      clear hgo hinv hg
      obtain ⟨⟨h1, h2, h3, h4⟩, _⟩ := HG.out.hv
      obtain ⟨⟨r1, r2, r3, r4⟩, g1, g2, g3, g4⟩ := HG.out.res
      unfold Val.null at r1 r2 r3 r4
      simp only [Nat.zero_add] at h1 h2 h3 h4 r1 r2 r3 r4 g1 g2 g3 g4
      go_wp2
      refine ret_val2 Try.results9 rfl rfl rfl (HG.out.res.stored ⟨2, m, 0, ⟨#[]⟩⟩) ⟨?_, below_val HG.out.below (Nat.le_refl _) _ _ _ _⟩
      rw [← HGO.out]; rfl

set_option maxHeartbeats 4000000 in
theorem RFold_3 (a : Option Addr) (len cap : Nat) (l : List Val) (w : World) (h : RowV w a len cap l) : Calls Try.prog 9 #[.int .i64 3, .slice a len cap] w
    fun e w' => e = .returned (.tuple #[(rgo 3 0 Val.null l).1.agg, .int .i64 (rgo 3 0 Val.null l).2]) ∧ Below w.heap.size w w' := by
  have h63 : len < 2 ^ 63 := by have := h.2.1; have := h.2.2.1; unfold maxLen at this; omega
  have HR := Lib.hid h
  have HLEN := Lib.hid h.1
  have HG0 := Lib.hid (RG.start w 28 28)
  clear h
  go_enter Try.func9, Try.ntmps9
  go_wp2
  go_loopw [7, 8] (fun n i wr => ∃ (k : Nat) (m : Int) (h : Val), i = .int .i64 k ∧ k ≤ len ∧ n = .int .i64 m ∧ rgo 3 m h (l.drop k) = rgo 3 0 Val.null l ∧ h.wf ∧ RG w h wr) (fun _ i _ => len - (intOf i).toNat)
  case atStart => exact ⟨0, 0, Val.null, rfl, Nat.zero_le _, rfl, rfl, null_wf, HG0.out⟩
  case round =>
    obtain ⟨k, m, h, rfl, hk, rfl, hgo, hinv, hg⟩ := hrel
    have HG := Lib.hid hg
    have HI := Lib.hid hinv
    by_cases hlt : k < len
    · obtain ⟨b, off, rfl, x, hx, hwf, ⟨d1, d2, d3, d4⟩, hdr⟩ := fold_row HR.out hg.below hlt
      rw [hdr, rgo_cons] at hgo
      have hpw := rplainV_wf x hwf
      obtain ⟨p, hp⟩ : ∃ p, p = rplainV x := ⟨_, rfl⟩
      rw [← hp] at hgo hpw
      have HP := Lib.hid hp.symm
      obtain ⟨xk, xn, xf, xs⟩ := x
      obtain ⟨pk, pn, pf, ps⟩ := p
      simp only at *
      clear hx hdr hp hg
      by_cases h0 : pk = 0
      · subst h0
        rw [if_pos rfl] at hgo
        have HGO := Lib.hid hgo
        clear hgo hinv
        go_wp2_with (go_at_call 22; refine (RPlain_exp _ _ _ _ (by assumption) _).mono ?_; rw [HP.out]; rintro e w5 ⟨rfl, hb5⟩; have H5 := Lib.hid ((HG.out.next hb5).box ⟨0, pn, pf, ps⟩ 28); obtain ⟨⟨h1, h2, h3, h4⟩, gh1, gh2, gh3, gh4⟩ := H5.out.hv; obtain ⟨⟨v1, v2, v3, v4⟩, _⟩ := H5.out.vv; simp only [Nat.zero_add] at h1 h2 h3 h4 gh1 gh2 gh3 gh4 v1 v2 v3 v4; obtain ⟨⟨a1, a2, a3, a4⟩, fa1, fa2, fa3, fa4⟩ := (HG.out.next hb5).hv; simp only [Nat.zero_add] at a1 a2 a3 a4 fa1 fa2 fa3 fa4; have hl5 := H5.out.gt; have hn5 := Nat.ne_of_lt hl5; have hl0 : w.heap.size < w5.heap.size := Nat.lt_trans (Nat.lt_succ_self _) hl5; have hn0 := Nat.ne_of_lt hl0; clear hb5)
        refine ⟨⟨k + 1, m, h, by go_num, by omega, rfl, HGO.out, HI.out, H5.out.g⟩, ?_⟩
        simp [intOf]; omega
      · rw [if_neg h0] at hgo
        have h0z : ((pk : Int) == 0) = false := by simp; exact h0
        rw [if_neg (by omega), if_neg (by omega)] at hgo
        obtain ⟨hk', hn', hf', hs'⟩ := h
        have hcw := chooseR_wf 3 ⟨hk', hn', hf', hs'⟩ ⟨pk, pn, pf, ps⟩ hinv hpw
        obtain ⟨c, hc⟩ : ∃ c, c = rcmpP (rplainV ⟨pk, pn, pf, ps⟩) (rplainV ⟨hk', hn', hf', hs'⟩) := ⟨_, rfl⟩
        have HC := Lib.hid hc.symm
        unfold chooseR at hgo hcw
        rw [← hc] at hgo hcw
        simp only at hgo hcw
        clear hc
        by_cases hz : hk' = 0
        · subst hz
          rw [if_pos rfl] at hgo
          have HGO := Lib.hid hgo
          clear hgo h0 hcw
          go_wp2_with (first | (go_at_call 22; refine (RPlain_exp _ _ _ _ (by assumption) _).mono ?_; rw [HP.out]; rintro e w5 ⟨rfl, hb5⟩; have H5 := Lib.hid ((HG.out.next hb5).box ⟨pk, pn, pf, ps⟩ 28); obtain ⟨⟨h1, h2, h3, h4⟩, gh1, gh2, gh3, gh4⟩ := H5.out.hv; obtain ⟨⟨v1, v2, v3, v4⟩, _⟩ := H5.out.vv; simp only [Nat.zero_add] at h1 h2 h3 h4 gh1 gh2 gh3 gh4 v1 v2 v3 v4; obtain ⟨⟨a1, a2, a3, a4⟩, fa1, fa2, fa3, fa4⟩ := (HG.out.next hb5).hv; simp only [Nat.zero_add] at a1 a2 a3 a4 fa1 fa2 fa3 fa4; have hl5 := H5.out.gt; have hn5 := Nat.ne_of_lt hl5; have hl0 : w.heap.size < w5.heap.size := Nat.lt_trans (Nat.lt_succ_self _) hl5; have hn0 := Nat.ne_of_lt hl0; clear hb5) | (go_at_call 24; refine (RCmp_exp _ _ _ _ _ _ _ _ (by assumption) (by assumption) _).mono ?_; (try rw [HC.out]); rintro e w7 ⟨rfl, hb7⟩; have H7 := Lib.hid (H5.out.next hb7); obtain ⟨⟨h1, h2, h3, h4⟩, gh1, gh2, gh3, gh4⟩ := H7.out.hv; obtain ⟨⟨v1, v2, v3, v4⟩, _⟩ := H7.out.vv; simp only [Nat.zero_add] at h1 h2 h3 h4 gh1 gh2 gh3 gh4 v1 v2 v3 v4; clear hb7))
          refine ⟨⟨k + 1, _, ⟨pk, pn, pf, ps⟩, by go_num, by omega, rfl, HGO.out, hpw, (H7.out.setH ⟨pk, pn, pf, ps⟩).g⟩, ?_⟩
          simp [intOf]; omega
        · have hz1 : ((hk' : Int) == 0) = false := by simp; exact hz
          rw [if_neg hz] at hgo hcw
          rw [if_pos trivial] at hgo hcw
          by_cases hcc : c < 0
          · rw [if_pos hcc] at hgo
            have HGO := Lib.hid hgo
            clear hgo h0 hcw hz
            go_wp2_with (first | (go_at_call 22; refine (RPlain_exp _ _ _ _ (by assumption) _).mono ?_; rw [HP.out]; rintro e w5 ⟨rfl, hb5⟩; have H5 := Lib.hid ((HG.out.next hb5).box ⟨pk, pn, pf, ps⟩ 28); obtain ⟨⟨h1, h2, h3, h4⟩, gh1, gh2, gh3, gh4⟩ := H5.out.hv; obtain ⟨⟨v1, v2, v3, v4⟩, _⟩ := H5.out.vv; simp only [Nat.zero_add] at h1 h2 h3 h4 gh1 gh2 gh3 gh4 v1 v2 v3 v4; obtain ⟨⟨a1, a2, a3, a4⟩, fa1, fa2, fa3, fa4⟩ := (HG.out.next hb5).hv; simp only [Nat.zero_add] at a1 a2 a3 a4 fa1 fa2 fa3 fa4; have hl5 := H5.out.gt; have hn5 := Nat.ne_of_lt hl5; have hl0 : w.heap.size < w5.heap.size := Nat.lt_trans (Nat.lt_succ_self _) hl5; have hn0 := Nat.ne_of_lt hl0; clear hb5) | (go_at_call 24; refine (RCmp_exp _ _ _ _ _ _ _ _ (by assumption) (by assumption) _).mono ?_; (try rw [HC.out]); rintro e w7 ⟨rfl, hb7⟩; have H7 := Lib.hid (H5.out.next hb7); obtain ⟨⟨h1, h2, h3, h4⟩, gh1, gh2, gh3, gh4⟩ := H7.out.hv; obtain ⟨⟨v1, v2, v3, v4⟩, _⟩ := H7.out.vv; simp only [Nat.zero_add] at h1 h2 h3 h4 gh1 gh2 gh3 gh4 v1 v2 v3 v4; clear hb7))
            refine ⟨⟨k + 1, _, ⟨pk, pn, pf, ps⟩, by go_num, by omega, rfl, HGO.out, hpw, (H7.out.setH ⟨pk, pn, pf, ps⟩).g⟩, ?_⟩
            simp [intOf]; omega
          · have hcf : ((c : Int) < 0) = False := by simp; omega
            rw [if_neg hcc] at hgo
            have HGO := Lib.hid hgo
            clear hgo h0 hcw hz hcc
            go_wp2_with (first | (go_at_call 22; refine (RPlain_exp _ _ _ _ (by assumption) _).mono ?_; rw [HP.out]; rintro e w5 ⟨rfl, hb5⟩; have H5 := Lib.hid ((HG.out.next hb5).box ⟨pk, pn, pf, ps⟩ 28); obtain ⟨⟨h1, h2, h3, h4⟩, gh1, gh2, gh3, gh4⟩ := H5.out.hv; obtain ⟨⟨v1, v2, v3, v4⟩, _⟩ := H5.out.vv; simp only [Nat.zero_add] at h1 h2 h3 h4 gh1 gh2 gh3 gh4 v1 v2 v3 v4; obtain ⟨⟨a1, a2, a3, a4⟩, fa1, fa2, fa3, fa4⟩ := (HG.out.next hb5).hv; simp only [Nat.zero_add] at a1 a2 a3 a4 fa1 fa2 fa3 fa4; have hl5 := H5.out.gt; have hn5 := Nat.ne_of_lt hl5; have hl0 : w.heap.size < w5.heap.size := Nat.lt_trans (Nat.lt_succ_self _) hl5; have hn0 := Nat.ne_of_lt hl0; clear hb5) | (go_at_call 24; refine (RCmp_exp _ _ _ _ _ _ _ _ (by assumption) (by assumption) _).mono ?_; (try rw [HC.out]); rintro e w7 ⟨rfl, hb7⟩; have H7 := Lib.hid (H5.out.next hb7); obtain ⟨⟨h1, h2, h3, h4⟩, gh1, gh2, gh3, gh4⟩ := H7.out.hv; obtain ⟨⟨v1, v2, v3, v4⟩, _⟩ := H7.out.vv; simp only [Nat.zero_add] at h1 h2 h3 h4 gh1 gh2 gh3 gh4 v1 v2 v3 v4; clear hb7))
            refine ⟨⟨k + 1, _, ⟨hk', hn', hf', hs'⟩, by go_num, by omega, rfl, HGO.out, HI.out, H7.out.g⟩, ?_⟩
            simp [intOf]; omega
    · obtain rfl : k = len := by omega
      obtain ⟨hk', hn', hf', hs'⟩ := h
      rw [List.drop_of_length_le (by rw [HLEN.out]; exact Nat.le_refl _)] at hgo
      have HGO := Lib.hid hgo
      clear hgo hinv hg
      obtain ⟨⟨h1, h2, h3, h4⟩, _⟩ := HG.out.hv
      obtain ⟨⟨r1, r2, r3, r4⟩, g1, g2, g3, g4⟩ := HG.out.res
      unfold Val.null at r1 r2 r3 r4
      simp only [Nat.zero_add] at h1 h2 h3 h4 r1 r2 r3 r4 g1 g2 g3 g4
      go_wp2
      refine ret_val2 Try.results9 rfl rfl rfl (HG.out.res.stored ⟨hk', hn', hf', hs'⟩) ⟨?_, below_val HG.out.below (Nat.le_refl _) _ _ _ _⟩
      rw [← HGO.out]; rfl

set_option maxHeartbeats 4000000 in
theorem RFold_4 (a : Option Addr) (len cap : Nat) (l : List Val) (w : World) (h : RowV w a len cap l) : Calls Try.prog 9 #[.int .i64 4, .slice a len cap] w
    fun e w' => e = .returned (.tuple #[(rgo 4 0 Val.null l).1.agg, .int .i64 (rgo 4 0 Val.null l).2]) ∧ Below w.heap.size w w' := by
  have h63 : len < 2 ^ 63 := by have := h.2.1; have := h.2.2.1; unfold maxLen at this; omega
  have HR := Lib.hid h
  have HLEN := Lib.hid h.1
  have HG0 := Lib.hid (RG.start w 28 28)
  clear h
  go_enter Try.func9, Try.ntmps9
  go_wp2
  go_loopw [7, 8] (fun n i wr => ∃ (k : Nat) (m : Int) (h : Val), i = .int .i64 k ∧ k ≤ len ∧ n = .int .i64 m ∧ rgo 4 m h (l.drop k) = rgo 4 0 Val.null l ∧ h.wf ∧ RG w h wr) (fun _ i _ => len - (intOf i).toNat)
  case atStart => exact ⟨0, 0, Val.null, rfl, Nat.zero_le _, rfl, rfl, null_wf, HG0.out⟩
  case round =>
    obtain ⟨k, m, h, rfl, hk, rfl, hgo, hinv, hg⟩ := hrel
    have HG := Lib.hid hg
    have HI := Lib.hid hinv
    by_cases hlt : k < len
    · obtain ⟨b, off, rfl, x, hx, hwf, ⟨d1, d2, d3, d4⟩, hdr⟩ := fold_row HR.out hg.below hlt
      rw [hdr, rgo_cons] at hgo
      have hpw := rplainV_wf x hwf
      obtain ⟨p, hp⟩ : ∃ p, p = rplainV x := ⟨_, rfl⟩
      rw [← hp] at hgo hpw
      have HP := Lib.hid hp.symm
      obtain ⟨xk, xn, xf, xs⟩ := x
      obtain ⟨pk, pn, pf, ps⟩ := p
      simp only at *
      clear hx hdr hp hg
      by_cases h0 : pk = 0
      · subst h0
        rw [if_pos rfl] at hgo
        have HGO := Lib.hid hgo
        clear hgo hinv
        go_wp2_with (go_at_call 22; refine (RPlain_exp _ _ _ _ (by assumption) _).mono ?_; rw [HP.out]; rintro e w5 ⟨rfl, hb5⟩; have H5 := Lib.hid ((HG.out.next hb5).box ⟨0, pn, pf, ps⟩ 28); obtain ⟨⟨h1, h2, h3, h4⟩, gh1, gh2, gh3, gh4⟩ := H5.out.hv; obtain ⟨⟨v1, v2, v3, v4⟩, _⟩ := H5.out.vv; simp only [Nat.zero_add] at h1 h2 h3 h4 gh1 gh2 gh3 gh4 v1 v2 v3 v4; obtain ⟨⟨a1, a2, a3, a4⟩, fa1, fa2, fa3, fa4⟩ := (HG.out.next hb5).hv; simp only [Nat.zero_add] at a1 a2 a3 a4 fa1 fa2 fa3 fa4; have hl5 := H5.out.gt; have hn5 := Nat.ne_of_lt hl5; have hl0 : w.heap.size < w5.heap.size := Nat.lt_trans (Nat.lt_succ_self _) hl5; have hn0 := Nat.ne_of_lt hl0; clear hb5)
        refine ⟨⟨k + 1, m, h, by go_num, by omega, rfl, HGO.out, HI.out, H5.out.g⟩, ?_⟩
        simp [intOf]; omega
      · rw [if_neg h0] at hgo
        have h0z : ((pk : Int) == 0) = false := by simp; exact h0
        rw [if_neg (by omega), if_neg (by omega)] at hgo
        obtain ⟨hk', hn', hf', hs'⟩ := h
        have hcw := chooseR_wf 4 ⟨hk', hn', hf', hs'⟩ ⟨pk, pn, pf, ps⟩ hinv hpw
        obtain ⟨c, hc⟩ : ∃ c, c = rcmpP (rplainV ⟨pk, pn, pf, ps⟩) (rplainV ⟨hk', hn', hf', hs'⟩) := ⟨_, rfl⟩
        have HC := Lib.hid hc.symm
        unfold chooseR at hgo hcw
        rw [← hc] at hgo hcw
        simp only at hgo hcw
        clear hc
        by_cases hz : hk' = 0
        · subst hz
          rw [if_pos rfl] at hgo
          have HGO := Lib.hid hgo
          clear hgo h0 hcw
          go_wp2_with (first | (go_at_call 22; refine (RPlain_exp _ _ _ _ (by assumption) _).mono ?_; rw [HP.out]; rintro e w5 ⟨rfl, hb5⟩; have H5 := Lib.hid ((HG.out.next hb5).box ⟨pk, pn, pf, ps⟩ 28); obtain ⟨⟨h1, h2, h3, h4⟩, gh1, gh2, gh3, gh4⟩ := H5.out.hv; obtain ⟨⟨v1, v2, v3, v4⟩, _⟩ := H5.out.vv; simp only [Nat.zero_add] at h1 h2 h3 h4 gh1 gh2 gh3 gh4 v1 v2 v3 v4; obtain ⟨⟨a1, a2, a3, a4⟩, fa1, fa2, fa3, fa4⟩ := (HG.out.next hb5).hv; simp only [Nat.zero_add] at a1 a2 a3 a4 fa1 fa2 fa3 fa4; have hl5 := H5.out.gt; have hn5 := Nat.ne_of_lt hl5; have hl0 : w.heap.size < w5.heap.size := Nat.lt_trans (Nat.lt_succ_self _) hl5; have hn0 := Nat.ne_of_lt hl0; clear hb5) | (go_at_call 24; refine (RCmp_exp _ _ _ _ _ _ _ _ (by assumption) (by assumption) _).mono ?_; (try rw [HC.out]); rintro e w7 ⟨rfl, hb7⟩; have H7 := Lib.hid (H5.out.next hb7); obtain ⟨⟨h1, h2, h3, h4⟩, gh1, gh2, gh3, gh4⟩ := H7.out.hv; obtain ⟨⟨v1, v2, v3, v4⟩, _⟩ := H7.out.vv; simp only [Nat.zero_add] at h1 h2 h3 h4 gh1 gh2 gh3 gh4 v1 v2 v3 v4; clear hb7))
          refine ⟨⟨k + 1, _, ⟨pk, pn, pf, ps⟩, by go_num, by omega, rfl, HGO.out, hpw, (H7.out.setH ⟨pk, pn, pf, ps⟩).g⟩, ?_⟩
          simp [intOf]; omega
        · have hz1 : ((hk' : Int) == 0) = false := by simp; exact hz
          rw [if_neg hz] at hgo hcw
          rw [if_neg (by omega)] at hgo hcw
          by_cases hcc : 0 < c
          · rw [if_pos hcc] at hgo
            have HGO := Lib.hid hgo
            clear hgo h0 hcw hz
            go_wp2_with (first | (go_at_call 22; refine (RPlain_exp _ _ _ _ (by assumption) _).mono ?_; rw [HP.out]; rintro e w5 ⟨rfl, hb5⟩; have H5 := Lib.hid ((HG.out.next hb5).box ⟨pk, pn, pf, ps⟩ 28); obtain ⟨⟨h1, h2, h3, h4⟩, gh1, gh2, gh3, gh4⟩ := H5.out.hv; obtain ⟨⟨v1, v2, v3, v4⟩, _⟩ := H5.out.vv; simp only [Nat.zero_add] at h1 h2 h3 h4 gh1 gh2 gh3 gh4 v1 v2 v3 v4; obtain ⟨⟨a1, a2, a3, a4⟩, fa1, fa2, fa3, fa4⟩ := (HG.out.next hb5).hv; simp only [Nat.zero_add] at a1 a2 a3 a4 fa1 fa2 fa3 fa4; have hl5 := H5.out.gt; have hn5 := Nat.ne_of_lt hl5; have hl0 : w.heap.size < w5.heap.size := Nat.lt_trans (Nat.lt_succ_self _) hl5; have hn0 := Nat.ne_of_lt hl0; clear hb5) | (go_at_call 24; refine (RCmp_exp _ _ _ _ _ _ _ _ (by assumption) (by assumption) _).mono ?_; (try rw [HC.out]); rintro e w7 ⟨rfl, hb7⟩; have H7 := Lib.hid (H5.out.next hb7); obtain ⟨⟨h1, h2, h3, h4⟩, gh1, gh2, gh3, gh4⟩ := H7.out.hv; obtain ⟨⟨v1, v2, v3, v4⟩, _⟩ := H7.out.vv; simp only [Nat.zero_add] at h1 h2 h3 h4 gh1 gh2 gh3 gh4 v1 v2 v3 v4; clear hb7))
            refine ⟨⟨k + 1, _, ⟨pk, pn, pf, ps⟩, by go_num, by omega, rfl, HGO.out, hpw, (H7.out.setH ⟨pk, pn, pf, ps⟩).g⟩, ?_⟩
            simp [intOf]; omega
          · have hcf : ((0 : Int) < c) = False := by simp; omega
            rw [if_neg hcc] at hgo
            have HGO := Lib.hid hgo
            clear hgo h0 hcw hz hcc
            go_wp2_with (first | (go_at_call 22; refine (RPlain_exp _ _ _ _ (by assumption) _).mono ?_; rw [HP.out]; rintro e w5 ⟨rfl, hb5⟩; have H5 := Lib.hid ((HG.out.next hb5).box ⟨pk, pn, pf, ps⟩ 28); obtain ⟨⟨h1, h2, h3, h4⟩, gh1, gh2, gh3, gh4⟩ := H5.out.hv; obtain ⟨⟨v1, v2, v3, v4⟩, _⟩ := H5.out.vv; simp only [Nat.zero_add] at h1 h2 h3 h4 gh1 gh2 gh3 gh4 v1 v2 v3 v4; obtain ⟨⟨a1, a2, a3, a4⟩, fa1, fa2, fa3, fa4⟩ := (HG.out.next hb5).hv; simp only [Nat.zero_add] at a1 a2 a3 a4 fa1 fa2 fa3 fa4; have hl5 := H5.out.gt; have hn5 := Nat.ne_of_lt hl5; have hl0 : w.heap.size < w5.heap.size := Nat.lt_trans (Nat.lt_succ_self _) hl5; have hn0 := Nat.ne_of_lt hl0; clear hb5) | (go_at_call 24; refine (RCmp_exp _ _ _ _ _ _ _ _ (by assumption) (by assumption) _).mono ?_; (try rw [HC.out]); rintro e w7 ⟨rfl, hb7⟩; have H7 := Lib.hid (H5.out.next hb7); obtain ⟨⟨h1, h2, h3, h4⟩, gh1, gh2, gh3, gh4⟩ := H7.out.hv; obtain ⟨⟨v1, v2, v3, v4⟩, _⟩ := H7.out.vv; simp only [Nat.zero_add] at h1 h2 h3 h4 gh1 gh2 gh3 gh4 v1 v2 v3 v4; clear hb7))
            refine ⟨⟨k + 1, _, ⟨hk', hn', hf', hs'⟩, by go_num, by omega, rfl, HGO.out, HI.out, H7.out.g⟩, ?_⟩
            simp [intOf]; omega
    · obtain rfl : k = len := by omega
      obtain ⟨hk', hn', hf', hs'⟩ := h
      rw [List.drop_of_length_le (by rw [HLEN.out]; exact Nat.le_refl _)] at hgo
      have HGO := Lib.hid hgo
      clear hgo hinv hg
      obtain ⟨⟨h1, h2, h3, h4⟩, _⟩ := HG.out.hv
      obtain ⟨⟨r1, r2, r3, r4⟩, g1, g2, g3, g4⟩ := HG.out.res
      unfold Val.null at r1 r2 r3 r4
      simp only [Nat.zero_add] at h1 h2 h3 h4 r1 r2 r3 r4 g1 g2 g3 g4
      go_wp2
      refine ret_val2 Try.results9 rfl rfl rfl (HG.out.res.stored ⟨hk', hn', hf', hs'⟩) ⟨?_, below_val HG.out.below (Nat.le_refl _) _ _ _ _⟩
      rw [← HGO.out]; rfl

end Go.Proofs.Ytaanejhpodbdnaa
