/- The reference's Calc where Ints are added. -/
import Derived.Test.YtaanejhpodbdnaaVaL
namespace Go.Proofs.Ytaanejhpodbdnaa
open Go.RowKit
set_option maxRecDepth 100000
set_option linter.unusedVariables false
attribute [local go_sem] run_store_float

theorem rnumber_exp (k n : Int) (f : Nat) (s : ByteArray) (hv : Val.wf ⟨k, n, f, s⟩) (w : World) : Calls Try.prog 40 #[.agg #[.int .i64 k, .int .i64 n, .float .f64 f, .string s]] w
    fun e w' => e = .returned (.bool (numV ⟨k, n, f, s⟩)) ∧ Below w.heap.size w w' := rnumber_any _ hv w

theorem add_zero0 (t : TypeId) (w : World) : (binOp .add t (.float .f64 0) (.float .f64 0)).run Try.prog w = .ok (.float .f64 0) w := run_float_arith w .add t .f64 _ _ _ (by kernel_rfl)
attribute [local go_sem] add_zero0

/-- Four boxes of values. -/
def FourB (w : World) (a b c d : Val) (W : World) : Prop := Three w a b c W ∧ LiesV W (w.heap.size + 3) 0 d ∧ w.heap.size + 3 < W.heap.size
theorem FourB.start (w : World) (a b c d : Val) (t u x y : TypeId) : FourB w a b c d ((((w.alloc (.cells #[.int .i64 a.kind, .int .i64 a.int, .float .f64 a.flt, .string a.text] t)).alloc (.cells #[.int .i64 b.kind, .int .i64 b.int, .float .f64 b.flt, .string b.text] u)).alloc (.cells #[.int .i64 c.kind, .int .i64 c.int, .float .f64 c.flt, .string c.text] x)).alloc (.cells #[.int .i64 d.kind, .int .i64 d.int, .float .f64 d.flt, .string d.text] y)) := by
  have h := Three.start w a b c t u x
  have hs : w.heap.size + 3 = (((w.alloc (.cells #[.int .i64 a.kind, .int .i64 a.int, .float .f64 a.flt, .string a.text] t)).alloc (.cells #[.int .i64 b.kind, .int .i64 b.int, .float .f64 b.flt, .string b.text] u)).alloc (.cells #[.int .i64 c.kind, .int .i64 c.int, .float .f64 c.flt, .string c.text] x)).heap.size := by simp
  have h2 := LiesV.new (((w.alloc (.cells #[.int .i64 a.kind, .int .i64 a.int, .float .f64 a.flt, .string a.text] t)).alloc (.cells #[.int .i64 b.kind, .int .i64 b.int, .float .f64 b.flt, .string b.text] u)).alloc (.cells #[.int .i64 c.kind, .int .i64 c.int, .float .f64 c.flt, .string c.text] x)) d y
  rw [← hs] at h2
  exact ⟨h.later ((Below.refl _ _).alloc (Nat.le_refl _) _), h2, by simp⟩
theorem FourB.later {w W W' : World} {a b c d : Val} (h : FourB w a b c d W) (hb : Below W.heap.size W W') : FourB w a b c d W' :=
  ⟨h.1.later hb, h.2.1.below hb h.2.2, Nat.lt_of_lt_of_le h.2.2 hb.size⟩
theorem FourB.below {w W : World} {a b c d : Val} (h : FourB w a b c d W) : Below w.heap.size w W := h.1.below

theorem FourB.lt0 {w W : World} {a b c d : Val} (h : FourB w a b c d W) : w.heap.size < W.heap.size := by have := h.2.2; omega
theorem FourB.lt1 {w W : World} {a b c d : Val} (h : FourB w a b c d W) : w.heap.size + 1 < W.heap.size := by have := h.2.2; omega
theorem num_flt (v : Val) (h : numV v = true) (hk : v.kind = 2) : v.flt = 0 := by
  unfold numV rightV at h
  simp [hk] at h
  exact h.1

theorem rplain_num (n : Int) : rplainV ⟨2, n, 0, ⟨#[]⟩⟩ = ⟨2, n, 0, ⟨#[]⟩⟩ := by
  unfold rplainV
  rw [show rightV ⟨2, n, 0, ⟨#[]⟩⟩ = true from num_right n, if_pos rfl, if_neg (by simp)]

set_option maxHeartbeats 4000000 in
theorem RCalcAdd_any (n : Int) (b : Val) (hn : (Lit.int .i64 n).wf = true) (hb : b.wf) (w : World) : Calls Try.prog 23 #[.int .i64 3, (Val.num n).agg, b.agg] w
    fun e w' => e = .returned (.tuple #[(calcAdd n b).1.agg, .int .i64 (calcAdd n b).2]) ∧ Below w.heap.size w w' := by
  have HT := Lib.hid (FourB.start w (Val.num n) b Val.null Val.null 28 28 28 28)
  have hwn := num_wf hn
  have HN := Lib.hid (numV_num n)
  have hflt := num_flt b
  clear hn
  obtain ⟨r, hr⟩ : ∃ r, r = calcAdd n b := ⟨_, rfl⟩
  rw [← hr]
  unfold calcAdd at hr
  obtain ⟨k, m, f, s⟩ := b
  unfold Val.agg Val.num Val.null at *
  simp only at *
  obtain ⟨q, hq⟩ : ∃ q, q = numV ⟨k, m, f, s⟩ := ⟨_, rfl⟩
  rw [← hq] at hr hflt
  have HQ := Lib.hid hq.symm
  clear hq
  have hww : (Val.mk 2 (wrap64 (n + m)) 0 ⟨#[]⟩).wf := num_wf (wrap_wf _)
  have HW := Lib.hid (rplain_num (wrap64 (n + m)))
  cases q with
  | false =>
    rw [if_neg (by simp)] at hr
    subst hr
    clear hflt
    go_enter Try.func23, Try.ntmps23
    go_wp2_with (first | (go_at_call 40; refine (rnumber_exp _ _ _ _ (by assumption) _).mono ?_; (try rw [HN.out]); (try rw [HQ.out]); rintro e wx ⟨rfl, hbx⟩; (first | (have HT1 := Lib.hid (HT.out.later hbx); obtain ⟨⟨⟨⟨⟨l1, l2, l3, l4⟩, _⟩, ⟨⟨m1, m2, m3, m4⟩, _⟩, _⟩, ⟨⟨r1, r2, r3, r4⟩, g1, g2, g3, g4⟩, _⟩, ⟨⟨o1, o2, o3, o4⟩, _⟩, hsx⟩ := HT1.out; simp only [Nat.zero_add] at l1 l2 l3 l4 m1 m2 m3 m4 r1 r2 r3 r4 g1 g2 g3 g4 o1 o2 o3 o4) | (have HT2 := Lib.hid (HT1.out.later hbx); obtain ⟨⟨⟨⟨⟨l1, l2, l3, l4⟩, _⟩, ⟨⟨m1, m2, m3, m4⟩, _⟩, _⟩, ⟨⟨r1, r2, r3, r4⟩, g1, g2, g3, g4⟩, _⟩, ⟨⟨o1, o2, o3, o4⟩, _⟩, hsx⟩ := HT2.out; have hwx0 := HT2.out.lt0; have hwx1 := HT2.out.lt1; have hne0 := Nat.ne_of_lt hwx0; have hne1 := Nat.ne_of_lt hwx1; simp only [Nat.zero_add] at l1 l2 l3 l4 m1 m2 m3 m4 r1 r2 r3 r4 g1 g2 g3 g4 o1 o2 o3 o4)); clear hbx) | (go_at_call 22; refine (RPlain_exp _ _ _ _ (by assumption) _).mono ?_; rw [HW.out]; rintro e wy ⟨rfl, hby⟩; have HT3 := Lib.hid ((HT2.out.later ((Below.refl _ _).alloc (Nat.le_refl _) _)).later hby); obtain ⟨⟨⟨⟨⟨l1, l2, l3, l4⟩, _⟩, ⟨⟨m1, m2, m3, m4⟩, _⟩, _⟩, ⟨⟨r1, r2, r3, r4⟩, g1, g2, g3, g4⟩, _⟩, ⟨⟨o1, o2, o3, o4⟩, _⟩, hsx⟩ := HT3.out; simp only [Nat.zero_add] at l1 l2 l3 l4 m1 m2 m3 m4 r1 r2 r3 r4 g1 g2 g3 g4 o1 o2 o3 o4; clear hby))
    exact ret_val2 Try.results23 rfl rfl rfl (HT2.out.1.2.1.stored ⟨0, 0, 0, ⟨#[]⟩⟩) ⟨rfl, below_val HT2.out.below (by omega) _ _ _ _⟩
  | true =>
    rw [if_pos rfl] at hr
    by_cases h0 : k = 0
    · subst h0
      rw [if_pos rfl] at hr
      subst hr
      clear hflt
      go_enter Try.func23, Try.ntmps23
      go_wp2_with (first | (go_at_call 40; refine (rnumber_exp _ _ _ _ (by assumption) _).mono ?_; (try rw [HN.out]); (try rw [HQ.out]); rintro e wx ⟨rfl, hbx⟩; (first | (have HT1 := Lib.hid (HT.out.later hbx); obtain ⟨⟨⟨⟨⟨l1, l2, l3, l4⟩, _⟩, ⟨⟨m1, m2, m3, m4⟩, _⟩, _⟩, ⟨⟨r1, r2, r3, r4⟩, g1, g2, g3, g4⟩, _⟩, ⟨⟨o1, o2, o3, o4⟩, _⟩, hsx⟩ := HT1.out; simp only [Nat.zero_add] at l1 l2 l3 l4 m1 m2 m3 m4 r1 r2 r3 r4 g1 g2 g3 g4 o1 o2 o3 o4) | (have HT2 := Lib.hid (HT1.out.later hbx); obtain ⟨⟨⟨⟨⟨l1, l2, l3, l4⟩, _⟩, ⟨⟨m1, m2, m3, m4⟩, _⟩, _⟩, ⟨⟨r1, r2, r3, r4⟩, g1, g2, g3, g4⟩, _⟩, ⟨⟨o1, o2, o3, o4⟩, _⟩, hsx⟩ := HT2.out; have hwx0 := HT2.out.lt0; have hwx1 := HT2.out.lt1; have hne0 := Nat.ne_of_lt hwx0; have hne1 := Nat.ne_of_lt hwx1; simp only [Nat.zero_add] at l1 l2 l3 l4 m1 m2 m3 m4 r1 r2 r3 r4 g1 g2 g3 g4 o1 o2 o3 o4)); clear hbx) | (go_at_call 22; refine (RPlain_exp _ _ _ _ (by assumption) _).mono ?_; rw [HW.out]; rintro e wy ⟨rfl, hby⟩; have HT3 := Lib.hid ((HT2.out.later ((Below.refl _ _).alloc (Nat.le_refl _) _)).later hby); obtain ⟨⟨⟨⟨⟨l1, l2, l3, l4⟩, _⟩, ⟨⟨m1, m2, m3, m4⟩, _⟩, _⟩, ⟨⟨r1, r2, r3, r4⟩, g1, g2, g3, g4⟩, _⟩, ⟨⟨o1, o2, o3, o4⟩, _⟩, hsx⟩ := HT3.out; simp only [Nat.zero_add] at l1 l2 l3 l4 m1 m2 m3 m4 r1 r2 r3 r4 g1 g2 g3 g4 o1 o2 o3 o4; clear hby))
      exact ret_val2 Try.results23 rfl rfl rfl (HT2.out.1.2.1.stored ⟨0, 0, 0, ⟨#[]⟩⟩) ⟨rfl, below_val HT2.out.below (by omega) _ _ _ _⟩
    · rw [if_neg h0] at hr
      have z0 : ((k : Int) == 0) = false := by simp; exact h0
      have z1 : ((k : Int) != 0) = true := by simp; exact h0
      by_cases h2 : k = 2
      · subst h2
        rw [if_pos rfl] at hr
        subst hr
        obtain rfl : f = 0 := hflt rfl rfl
        clear hflt
        go_enter Try.func23, Try.ntmps23
        go_wp2_with (first | (go_at_call 40; refine (rnumber_exp _ _ _ _ (by assumption) _).mono ?_; (try rw [HN.out]); (try rw [HQ.out]); rintro e wx ⟨rfl, hbx⟩; (first | (have HT1 := Lib.hid (HT.out.later hbx); obtain ⟨⟨⟨⟨⟨l1, l2, l3, l4⟩, _⟩, ⟨⟨m1, m2, m3, m4⟩, _⟩, _⟩, ⟨⟨r1, r2, r3, r4⟩, g1, g2, g3, g4⟩, _⟩, ⟨⟨o1, o2, o3, o4⟩, _⟩, hsx⟩ := HT1.out; simp only [Nat.zero_add] at l1 l2 l3 l4 m1 m2 m3 m4 r1 r2 r3 r4 g1 g2 g3 g4 o1 o2 o3 o4) | (have HT2 := Lib.hid (HT1.out.later hbx); obtain ⟨⟨⟨⟨⟨l1, l2, l3, l4⟩, _⟩, ⟨⟨m1, m2, m3, m4⟩, _⟩, _⟩, ⟨⟨r1, r2, r3, r4⟩, g1, g2, g3, g4⟩, _⟩, ⟨⟨o1, o2, o3, o4⟩, _⟩, hsx⟩ := HT2.out; have hwx0 := HT2.out.lt0; have hwx1 := HT2.out.lt1; have hne0 := Nat.ne_of_lt hwx0; have hne1 := Nat.ne_of_lt hwx1; simp only [Nat.zero_add] at l1 l2 l3 l4 m1 m2 m3 m4 r1 r2 r3 r4 g1 g2 g3 g4 o1 o2 o3 o4)); clear hbx) | (go_at_call 22; refine (RPlain_exp _ _ _ _ (by assumption) _).mono ?_; rw [HW.out]; rintro e wy ⟨rfl, hby⟩; have HT3 := Lib.hid ((HT2.out.later ((Below.refl _ _).alloc (Nat.le_refl _) _)).later hby); obtain ⟨⟨⟨⟨⟨l1, l2, l3, l4⟩, _⟩, ⟨⟨m1, m2, m3, m4⟩, _⟩, _⟩, ⟨⟨r1, r2, r3, r4⟩, g1, g2, g3, g4⟩, _⟩, ⟨⟨o1, o2, o3, o4⟩, _⟩, hsx⟩ := HT3.out; simp only [Nat.zero_add] at l1 l2 l3 l4 m1 m2 m3 m4 r1 r2 r3 r4 g1 g2 g3 g4 o1 o2 o3 o4; clear hby))
        exact ret_val2 Try.results23 rfl rfl rfl (HT3.out.1.2.1.stored ⟨2, wrap64 (n + m), 0, ⟨#[]⟩⟩) ⟨rfl, below_val HT3.out.below (by omega) _ _ _ _⟩
      · rw [if_neg h2] at hr
        have z2 : ((2 : Int) != k) = true := by simp; omega
        subst hr
        clear hflt
        go_enter Try.func23, Try.ntmps23
        go_wp2_with (first | (go_at_call 40; refine (rnumber_exp _ _ _ _ (by assumption) _).mono ?_; (try rw [HN.out]); (try rw [HQ.out]); rintro e wx ⟨rfl, hbx⟩; (first | (have HT1 := Lib.hid (HT.out.later hbx); obtain ⟨⟨⟨⟨⟨l1, l2, l3, l4⟩, _⟩, ⟨⟨m1, m2, m3, m4⟩, _⟩, _⟩, ⟨⟨r1, r2, r3, r4⟩, g1, g2, g3, g4⟩, _⟩, ⟨⟨o1, o2, o3, o4⟩, _⟩, hsx⟩ := HT1.out; simp only [Nat.zero_add] at l1 l2 l3 l4 m1 m2 m3 m4 r1 r2 r3 r4 g1 g2 g3 g4 o1 o2 o3 o4) | (have HT2 := Lib.hid (HT1.out.later hbx); obtain ⟨⟨⟨⟨⟨l1, l2, l3, l4⟩, _⟩, ⟨⟨m1, m2, m3, m4⟩, _⟩, _⟩, ⟨⟨r1, r2, r3, r4⟩, g1, g2, g3, g4⟩, _⟩, ⟨⟨o1, o2, o3, o4⟩, _⟩, hsx⟩ := HT2.out; have hwx0 := HT2.out.lt0; have hwx1 := HT2.out.lt1; have hne0 := Nat.ne_of_lt hwx0; have hne1 := Nat.ne_of_lt hwx1; simp only [Nat.zero_add] at l1 l2 l3 l4 m1 m2 m3 m4 r1 r2 r3 r4 g1 g2 g3 g4 o1 o2 o3 o4)); clear hbx) | (go_at_call 22; refine (RPlain_exp _ _ _ _ (by assumption) _).mono ?_; rw [HW.out]; rintro e wy ⟨rfl, hby⟩; have HT3 := Lib.hid ((HT2.out.later ((Below.refl _ _).alloc (Nat.le_refl _) _)).later hby); obtain ⟨⟨⟨⟨⟨l1, l2, l3, l4⟩, _⟩, ⟨⟨m1, m2, m3, m4⟩, _⟩, _⟩, ⟨⟨r1, r2, r3, r4⟩, g1, g2, g3, g4⟩, _⟩, ⟨⟨o1, o2, o3, o4⟩, _⟩, hsx⟩ := HT3.out; simp only [Nat.zero_add] at l1 l2 l3 l4 m1 m2 m3 m4 r1 r2 r3 r4 g1 g2 g3 g4 o1 o2 o3 o4; clear hby))
        exact ret_val2 Try.results23 rfl rfl rfl (HT2.out.1.2.1.stored ⟨0, 0, 0, ⟨#[]⟩⟩) ⟨rfl, below_val HT2.out.below (by omega) _ _ _ _⟩
end Go.Proofs.Ytaanejhpodbdnaa
