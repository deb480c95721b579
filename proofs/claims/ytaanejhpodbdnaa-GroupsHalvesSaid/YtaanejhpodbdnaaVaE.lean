/- The walks of value.Number, numeric, whole, and of Calc where Ints are added. -/
import Derived.Test.YtaanejhpodbdnaaVaD
import Derived.Laws.ResultCell
namespace Go.Proofs.Ytaanejhpodbdnaa
open Go.RowKit
set_option maxRecDepth 100000
attribute [local go_sem] run_store_float

def cellsV (v : Val) : Array Value := #[.int .i64 v.kind, .int .i64 v.int, .float .f64 v.flt, .string v.text]
/-- Boxes of values, one behind the other. -/
def Boxes (w : World) (l : List Val) (W : World) : Prop := (∀ i v, l[i]? = some v → LiesV W (w.heap.size + i) 0 v) ∧ Below w.heap.size w W ∧ w.heap.size + l.length ≤ W.heap.size
theorem Boxes.nil (w : World) : Boxes w [] w := ⟨fun i v h => by simp at h, Below.refl _ _, by simp⟩
theorem Boxes.later {w W W' : World} {l : List Val} (h : Boxes w l W) (hb : Below W.heap.size W W') : Boxes w l W' :=
  ⟨fun i v hi => (h.1 i v hi).below hb (by have := (List.getElem?_eq_some_iff.1 hi).1; have := h.2.2; omega), h.2.1.trans (hb.mono h.2.1.size), Nat.le_trans h.2.2 hb.size⟩
theorem Boxes.drew {w W : World} {l : List Val} (h : Boxes w l W) : Boxes w l W.drew := h.later (Below.refl _ W).drew
theorem Boxes.alloc {w W : World} {l : List Val} (h : Boxes w l W) (hs : W.heap.size = w.heap.size + l.length) (v : Val) (t : TypeId) : Boxes w (l ++ [v]) (W.alloc (.cells (cellsV v) t)) := by
  have h' := h.later ((Below.refl _ W).alloc (Nat.le_refl _) (.cells (cellsV v) t))
  refine ⟨fun i u hi => ?_, h'.2.1, by simp; omega⟩
  by_cases hil : i < l.length
  · rw [List.getElem?_append_left hil] at hi
    exact h'.1 i u hi
  · have hlt := (List.getElem?_eq_some_iff.1 hi).1
    rw [List.length_append, List.length_singleton] at hlt
    obtain rfl : i = l.length := by omega
    have : u = v := by simpa using hi.symm
    subst this
    rw [← hs]
    exact LiesV.new W u t
theorem Boxes.set {w W : World} {l : List Val} (h : Boxes w l W) (i : Nat) (hi : i < l.length) (v : Val) : Boxes w (l.set i v) ((((W.setCell ⟨w.heap.size + i, 0, none⟩ (.int .i64 v.kind)).setCell ⟨w.heap.size + i, 1, none⟩ (.int .i64 v.int)).setCell ⟨w.heap.size + i, 2, none⟩ (.float .f64 v.flt)).setCell ⟨w.heap.size + i, 3, none⟩ (.string v.text)) := by
  refine ⟨fun j u hj => ?_, below_val h.2.1 (by omega) _ _ _ _, by simpa using h.2.2⟩
  by_cases e : j = i
  · subst e
    have : u = v := by rw [List.getElem?_set_self hi] at hj; exact (Option.some.inj hj).symm
    subst this
    exact (h.1 j _ (List.getElem?_eq_getElem hi)).stored u
  · rw [List.getElem?_set_ne (fun h => e h.symm)] at hj
    exact ((((h.1 j u hj).other (by simp; omega)).other (by simp; omega)).other (by simp; omega)).other (by simp; omega)
theorem Boxes.at {w W : World} {l : List Val} (h : Boxes w l W) (i : Nat) (v : Val) (hi : l[i]? = some v) : LiesV W (w.heap.size + i) 0 v := h.1 i v hi

theorem ret_val2 {fn : Func} {p u : Tmp} (hr : fn.results = #[.cell p 28, .tmp u]) {R : Ending → World → Prop} {a : Act} {W : World} {b : Nat} {v : Val} {x : Value} (hp : a.tmps.getD p undef = .pointer (some ⟨b, 0, none⟩)) (hu : a.tmps.getD u undef = x) (hd : a.defers = [])
    (hL : LiesV W b 0 v) (h : R (.returned (.tuple #[v.agg, x])) W) : bodyPost Try.prog fn R .ret a W := by
  refine bodyPost_ret ?_ hd h
  rw [results_cell_tmp hr, hp, hu]
  simp [asAddr, load_val hL, Result.andThen]

theorem Number_any (n : Int) (w : World) : Calls Try.prog 19 #[.int .i64 n] w fun e w' => e = .returned (Val.num n).agg ∧ Below w.heap.size w w' := by
  have HB := Lib.hid ((Boxes.nil w).alloc (by simp) Val.null 28)
  go_enter Try.func19, Try.ntmps19
  go_wp2
  exact ret_val Try.results19 rfl rfl (LiesV.new w (Val.num n) _) ⟨rfl, (Below.refl _ w).alloc (Nat.le_refl _) _⟩

theorem Number_exp (n : Int) (w : World) : Calls Try.prog 19 #[.int .i64 n] w fun e w' => e = .returned (.agg #[.int .i64 2, .int .i64 n, .float .f64 0, .string ⟨#[]⟩]) ∧ Below w.heap.size w w' := Number_any n w

/-- May a value be reckoned with? -/
def numV (v : Val) : Bool := rightV v && (v.kind != 1 && v.kind != 4)

theorem numeric_any (v : Val) (hv : v.wf) (w : World) : Calls Try.prog 90 #[v.agg] w fun e w' => e = .returned (.bool (numV v)) ∧ Below w.heap.size w w' := by
  have HRI := Lib.hid (fun W => Right_any v hv W)
  unfold numV
  obtain ⟨r, hr⟩ : ∃ r, r = rightV v := ⟨_, rfl⟩
  rw [← hr] at HRI
  rw [← hr]
  clear hr hv
  have HL := Lib.hid (LiesV.new w v 28)
  have HB0 := Lib.hid ((Below.refl _ w).alloc (Nat.le_refl _) (.cells #[.int .i64 v.kind, .int .i64 v.int, .float .f64 v.flt, .string v.text] 28))
  obtain ⟨k, n, f, s⟩ := v
  unfold Val.agg at *
  simp only at *
  cases r
  all_goals go_enter Try.func90, Try.ntmps90
  all_goals go_wp2_with (go_at_call 21; refine (HRI.out _).mono ?_; rintro e w1 ⟨rfl, hb⟩; have HB1 := Lib.hid (HB0.out.trans (hb.mono HB0.out.size)); obtain ⟨⟨l1, _, _, _⟩, _⟩ := HL.out.below hb (by simp); clear hb)
  all_goals go_ret
  all_goals exact ⟨by simp_all, HB1.out⟩

theorem whole_add (a b : Int) (w : World) : Calls Try.prog 91 #[.int .i64 3, .int .i64 a, .int .i64 b] w fun e w' => e = .returned (.int .i64 (wrap64 (a + b))) ∧ w = w' := by
  go_enter Try.func91, Try.ntmps91
  go_wp2
  go_ret
  exact ⟨rfl, rfl⟩

theorem numeric_exp (k n : Int) (f : Nat) (s : ByteArray) (hv : Val.wf ⟨k, n, f, s⟩) (w : World) : Calls Try.prog 90 #[.agg #[.int .i64 k, .int .i64 n, .float .f64 f, .string s]] w
    fun e w' => e = .returned (.bool (numV ⟨k, n, f, s⟩)) ∧ Below w.heap.size w w' := numeric_any _ hv w
theorem num_wf {n : Int} (h : (Lit.int .i64 n).wf = true) : (Val.num n).wf := ⟨by show (Lit.int .i64 2).wf = true; decide, h, by show 0 < 2 ^ 64; decide, by show (⟨#[]⟩ : ByteArray).size ≤ maxLen; exact Nat.zero_le _⟩
theorem null_wf : Val.null.wf := ⟨by decide, by decide, by decide, Nat.zero_le _⟩
theorem num_right (n : Int) : rightV (Val.num n) = true := by
  unfold rightV Val.num; simp
theorem numV_num (n : Int) : numV ⟨2, n, 0, ⟨#[]⟩⟩ = true := by
  unfold numV
  rw [show rightV ⟨2, n, 0, ⟨#[]⟩⟩ = true from num_right n]; rfl
theorem wrap_wf (n : Int) : (Lit.int .i64 (wrap64 n)).wf = true := by
  unfold wrap64
  simp [Lit.wf, IntKind.min, IntKind.max, IntKind.signed, IntKind.bits]
  omega

/-- What an Int and a value make, added; or why not. -/
def calcAdd (n : Int) (b : Val) : Val × Int := if numV b then (if b.kind = 0 then (Val.null, 0) else if b.kind = 2 then (Val.num (wrap64 (n + b.int)), 0) else (Val.null, 50)) else (Val.null, 50)

/-- Three boxes of values. -/
def Three (w : World) (a b r : Val) (W : World) : Prop := Two w a b W ∧ LiesV W (w.heap.size + 2) 0 r ∧ w.heap.size + 2 < W.heap.size
theorem Three.start (w : World) (a b r : Val) (t u x : TypeId) : Three w a b r (((w.alloc (.cells #[.int .i64 a.kind, .int .i64 a.int, .float .f64 a.flt, .string a.text] t)).alloc (.cells #[.int .i64 b.kind, .int .i64 b.int, .float .f64 b.flt, .string b.text] u)).alloc (.cells #[.int .i64 r.kind, .int .i64 r.int, .float .f64 r.flt, .string r.text] x)) := by
  have h := Two.start w a b t u
  have hs : w.heap.size + 2 = ((w.alloc (.cells #[.int .i64 a.kind, .int .i64 a.int, .float .f64 a.flt, .string a.text] t)).alloc (.cells #[.int .i64 b.kind, .int .i64 b.int, .float .f64 b.flt, .string b.text] u)).heap.size := by simp
  have h2 := LiesV.new ((w.alloc (.cells #[.int .i64 a.kind, .int .i64 a.int, .float .f64 a.flt, .string a.text] t)).alloc (.cells #[.int .i64 b.kind, .int .i64 b.int, .float .f64 b.flt, .string b.text] u)) r x
  rw [← hs] at h2
  exact ⟨h.later ((Below.refl _ _).alloc (Nat.le_refl _) _), h2, by simp⟩
theorem Three.later {w W W' : World} {a b r : Val} (h : Three w a b r W) (hb : Below W.heap.size W W') : Three w a b r W' :=
  ⟨h.1.later hb, h.2.1.below hb h.2.2, Nat.lt_of_lt_of_le h.2.2 hb.size⟩
theorem Three.below {w W : World} {a b r : Val} (h : Three w a b r W) : Below w.heap.size w W := h.1.2.2.1

set_option maxHeartbeats 2000000 in
theorem CalcAdd_any (n : Int) (b : Val) (hn : (Lit.int .i64 n).wf = true) (hb : b.wf) (w : World) : Calls Try.prog 71 #[.int .i64 3, (Val.num n).agg, b.agg] w
    fun e w' => e = .returned (.tuple #[(calcAdd n b).1.agg, .int .i64 (calcAdd n b).2]) ∧ Below w.heap.size w w' := by
  have HT := Lib.hid (Three.start w (Val.num n) b Val.null 28 28 28)
  have hwn := num_wf hn
  have HN := Lib.hid (numV_num n)
  clear hn
  obtain ⟨r, hr⟩ : ∃ r, r = calcAdd n b := ⟨_, rfl⟩
  rw [← hr]
  unfold calcAdd at hr
  obtain ⟨k, m, f, s⟩ := b
  unfold Val.agg Val.num Val.null at *
  simp only at *
  obtain ⟨q, hq⟩ : ∃ q, q = numV ⟨k, m, f, s⟩ := ⟨_, rfl⟩
  rw [← hq] at hr
  have HQ := Lib.hid hq.symm
  clear hq
  cases q with
  | false =>
    rw [if_neg (by simp)] at hr
    subst hr
    go_enter Try.func71, Try.ntmps71
    go_wp2_with (first | (go_at_call 90; refine (numeric_exp _ _ _ _ (by assumption) _).mono ?_; (try rw [HN.out]); (try rw [HQ.out]); rintro e wx ⟨rfl, hbx⟩; (first | (have HT1 := Lib.hid (HT.out.later hbx); obtain ⟨⟨⟨⟨l1, l2, l3, l4⟩, _⟩, ⟨⟨m1, m2, m3, m4⟩, _⟩, _⟩, ⟨⟨r1, r2, r3, r4⟩, g1, g2, g3, g4⟩, hsx⟩ := HT1.out) | (have HT2 := Lib.hid (HT1.out.later hbx); obtain ⟨⟨⟨⟨l1, l2, l3, l4⟩, _⟩, ⟨⟨m1, m2, m3, m4⟩, _⟩, _⟩, ⟨⟨r1, r2, r3, r4⟩, g1, g2, g3, g4⟩, hsx⟩ := HT2.out)); simp only [Nat.zero_add] at l1 l2 l3 l4 m1 m2 m3 m4 r1 r2 r3 r4 g1 g2 g3 g4; clear hbx) | (go_at_call 91; refine (whole_add _ _ _).mono ?_; rintro e w' ⟨rfl, rfl⟩) | (go_at_call 19; refine (Number_exp _ _).mono ?_; rintro e wy ⟨rfl, hby⟩; have HT3 := Lib.hid (HT2.out.later hby); obtain ⟨_, ⟨⟨r1, r2, r3, r4⟩, g1, g2, g3, g4⟩, hsx⟩ := HT3.out; simp only [Nat.zero_add] at r1 r2 r3 r4 g1 g2 g3 g4; clear hby))
    exact ret_val2 Try.results71 rfl rfl rfl (HT2.out.2.1.stored ⟨0, 0, 0, ⟨#[]⟩⟩) ⟨rfl, below_val HT2.out.below (by omega) _ _ _ _⟩
  | true =>
    rw [if_pos rfl] at hr
    by_cases h0 : k = 0
    · subst h0
      rw [if_pos rfl] at hr
      subst hr
      go_enter Try.func71, Try.ntmps71
      go_wp2_with (first | (go_at_call 90; refine (numeric_exp _ _ _ _ (by assumption) _).mono ?_; (try rw [HN.out]); (try rw [HQ.out]); rintro e wx ⟨rfl, hbx⟩; (first | (have HT1 := Lib.hid (HT.out.later hbx); obtain ⟨⟨⟨⟨l1, l2, l3, l4⟩, _⟩, ⟨⟨m1, m2, m3, m4⟩, _⟩, _⟩, ⟨⟨r1, r2, r3, r4⟩, g1, g2, g3, g4⟩, hsx⟩ := HT1.out) | (have HT2 := Lib.hid (HT1.out.later hbx); obtain ⟨⟨⟨⟨l1, l2, l3, l4⟩, _⟩, ⟨⟨m1, m2, m3, m4⟩, _⟩, _⟩, ⟨⟨r1, r2, r3, r4⟩, g1, g2, g3, g4⟩, hsx⟩ := HT2.out)); simp only [Nat.zero_add] at l1 l2 l3 l4 m1 m2 m3 m4 r1 r2 r3 r4 g1 g2 g3 g4; clear hbx) | (go_at_call 91; refine (whole_add _ _ _).mono ?_; rintro e w' ⟨rfl, rfl⟩) | (go_at_call 19; refine (Number_exp _ _).mono ?_; rintro e wy ⟨rfl, hby⟩; have HT3 := Lib.hid (HT2.out.later hby); obtain ⟨_, ⟨⟨r1, r2, r3, r4⟩, g1, g2, g3, g4⟩, hsx⟩ := HT3.out; simp only [Nat.zero_add] at r1 r2 r3 r4 g1 g2 g3 g4; clear hby))
      exact ret_val2 Try.results71 rfl rfl rfl (HT2.out.2.1.stored ⟨0, 0, 0, ⟨#[]⟩⟩) ⟨rfl, below_val HT2.out.below (by omega) _ _ _ _⟩
    · rw [if_neg h0] at hr
      have z0 : ((k : Int) == 0) = false := by simp; exact h0
      by_cases h2 : k = 2
      · subst h2
        rw [if_pos rfl] at hr
        subst hr
        go_enter Try.func71, Try.ntmps71
        go_wp2_with (first | (go_at_call 90; refine (numeric_exp _ _ _ _ (by assumption) _).mono ?_; (try rw [HN.out]); (try rw [HQ.out]); rintro e wx ⟨rfl, hbx⟩; (first | (have HT1 := Lib.hid (HT.out.later hbx); obtain ⟨⟨⟨⟨l1, l2, l3, l4⟩, _⟩, ⟨⟨m1, m2, m3, m4⟩, _⟩, _⟩, ⟨⟨r1, r2, r3, r4⟩, g1, g2, g3, g4⟩, hsx⟩ := HT1.out) | (have HT2 := Lib.hid (HT1.out.later hbx); obtain ⟨⟨⟨⟨l1, l2, l3, l4⟩, _⟩, ⟨⟨m1, m2, m3, m4⟩, _⟩, _⟩, ⟨⟨r1, r2, r3, r4⟩, g1, g2, g3, g4⟩, hsx⟩ := HT2.out)); simp only [Nat.zero_add] at l1 l2 l3 l4 m1 m2 m3 m4 r1 r2 r3 r4 g1 g2 g3 g4; clear hbx) | (go_at_call 91; refine (whole_add _ _ _).mono ?_; rintro e w' ⟨rfl, rfl⟩) | (go_at_call 19; refine (Number_exp _ _).mono ?_; rintro e wy ⟨rfl, hby⟩; have HT3 := Lib.hid (HT2.out.later hby); obtain ⟨_, ⟨⟨r1, r2, r3, r4⟩, g1, g2, g3, g4⟩, hsx⟩ := HT3.out; simp only [Nat.zero_add] at r1 r2 r3 r4 g1 g2 g3 g4; clear hby))
        exact ret_val2 Try.results71 rfl rfl rfl (HT3.out.2.1.stored ⟨2, wrap64 (n + m), 0, ⟨#[]⟩⟩) ⟨rfl, below_val HT3.out.below (by omega) _ _ _ _⟩
      · rw [if_neg h2] at hr
        have z2 : ((2 : Int) != k) = true := by simp; omega
        subst hr
        go_enter Try.func71, Try.ntmps71
        go_wp2_with (first | (go_at_call 90; refine (numeric_exp _ _ _ _ (by assumption) _).mono ?_; (try rw [HN.out]); (try rw [HQ.out]); rintro e wx ⟨rfl, hbx⟩; (first | (have HT1 := Lib.hid (HT.out.later hbx); obtain ⟨⟨⟨⟨l1, l2, l3, l4⟩, _⟩, ⟨⟨m1, m2, m3, m4⟩, _⟩, _⟩, ⟨⟨r1, r2, r3, r4⟩, g1, g2, g3, g4⟩, hsx⟩ := HT1.out) | (have HT2 := Lib.hid (HT1.out.later hbx); obtain ⟨⟨⟨⟨l1, l2, l3, l4⟩, _⟩, ⟨⟨m1, m2, m3, m4⟩, _⟩, _⟩, ⟨⟨r1, r2, r3, r4⟩, g1, g2, g3, g4⟩, hsx⟩ := HT2.out)); simp only [Nat.zero_add] at l1 l2 l3 l4 m1 m2 m3 m4 r1 r2 r3 r4 g1 g2 g3 g4; clear hbx) | (go_at_call 91; refine (whole_add _ _ _).mono ?_; rintro e w' ⟨rfl, rfl⟩) | (go_at_call 19; refine (Number_exp _ _).mono ?_; rintro e wy ⟨rfl, hby⟩; have HT3 := Lib.hid (HT2.out.later hby); obtain ⟨_, ⟨⟨r1, r2, r3, r4⟩, g1, g2, g3, g4⟩, hsx⟩ := HT3.out; simp only [Nat.zero_add] at r1 r2 r3 r4 g1 g2 g3 g4; clear hby))
        exact ret_val2 Try.results71 rfl rfl rfl (HT2.out.2.1.stored ⟨0, 0, 0, ⟨#[]⟩⟩) ⟨rfl, below_val HT2.out.below (by omega) _ _ _ _⟩
end Go.Proofs.Ytaanejhpodbdnaa
