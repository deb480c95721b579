/- The walk of groups.Halves. -/
import Derived.Test.YtaanejhpodbdnaaVaI
namespace Go.Proofs.Ytaanejhpodbdnaa
open Go.RowKit
set_option maxRecDepth 100000
set_option linter.unusedVariables false
attribute [local go_sem] run_store_float

theorem Fold_no (kind : Int) (hk : ¬ (1 ≤ kind ∧ kind ≤ 4)) (a : Option Addr) (len cap : Nat) (w : World) : Calls Try.prog 8 #[.int .i64 kind, .slice a len cap] w
    fun e w' => e = .returned (.tuple #[Val.null.agg, .int .i64 2]) ∧ Below w.heap.size w w' := by
  have HL := Lib.hid (LiesV.new w Val.null 28)
  have HM := Lib.hid (made_no kind hk)
  clear hk
  unfold Val.null at HL
  simp only at HL
  obtain ⟨⟨r1, r2, r3, r4⟩, g1, g2, g3, g4⟩ := HL.out
  simp only [Nat.zero_add] at r1 r2 r3 r4 g1 g2 g3 g4
  go_enter Try.func8, Try.ntmps8
  go_wp2_with (go_at_call 20; refine (HM.out _).mono ?_; rintro e w1 ⟨rfl, h1⟩; rw [h1]; clear h1)
  exact ret_val2 Try.results8 rfl rfl rfl (LiesV.new w Val.null _) ⟨rfl, (Below.refl _ w).alloc (Nat.le_refl _) _⟩

theorem foldV_no (kind : Int) (hk : ¬ (1 ≤ kind ∧ kind ≤ 4)) (l : List Val) : foldV kind l = (Val.null, 2) := by
  unfold foldV
  rw [if_neg (by omega), if_neg (by omega), if_neg (by omega), if_neg (by omega)]

/-- An aggregate, of whatever kind. -/
theorem Fold_any (kind : Int) (a : Option Addr) (len cap : Nat) (l : List Val) (w : World) (h : RowV w a len cap l) : Calls Try.prog 8 #[.int .i64 kind, .slice a len cap] w
    fun e w' => e = .returned (.tuple #[.agg #[.int .i64 (foldV kind l).1.kind, .int .i64 (foldV kind l).1.int, .float .f64 (foldV kind l).1.flt, .string (foldV kind l).1.text], .int .i64 (foldV kind l).2]) ∧ Below w.heap.size w w' := by
  by_cases h1 : kind = 1
  · subst h1; exact Fold_1 a len cap l w h
  by_cases h2 : kind = 2
  · subst h2; exact Fold_2 a len cap l w h
  by_cases h3 : kind = 3
  · subst h3; exact Fold_3 a len cap l w h
  by_cases h4 : kind = 4
  · subst h4; exact Fold_4 a len cap l w h
  · rw [foldV_no kind (by omega)]
    exact Fold_no kind (by omega) a len cap w

theorem goAdd_wf : ∀ (l : List Val) (h : Val), AddI h → (goAdd h l).1.wf
  | [], h, hh => by
    rcases hh with rfl | ⟨n, rfl, hn⟩
    · exact null_wf
    · exact num_wf hn
  | v :: l, h, hh => by
    rw [goAdd_cons]
    split
    · exact goAdd_wf l h hh
    · split
      · rename_i he
        exact goAdd_wf l _ (addV_inv h v hh he)
      · exact null_wf
theorem goChoose_wf (g : Int) : ∀ (l : List Val) (h : Val), h.wf → (∀ v ∈ l, v.wf) → (goChoose g h l).wf
  | [], _, hh, _ => hh
  | v :: l, h, hh, hl => by
    rw [goChoose_cons]
    refine goChoose_wf g l _ ?_ (fun u hu => hl u (by simp [hu]))
    split
    · exact hh
    · exact chooseV_wf g h v hh (hl v (by simp))
theorem goCount_wf : ∀ (l : List Val) (n : Int), (Lit.int .i64 n).wf = true → (Lit.int .i64 (goCount n l)).wf = true
  | [], _, h => h
  | v :: l, n, h => by
    rw [goCount_cons]
    refine goCount_wf l _ ?_
    split
    · exact h
    · exact wrap_wf _
theorem foldV_wf (kind : Int) (l : List Val) (hl : ∀ v ∈ l, v.wf) : (foldV kind l).1.wf := by
  unfold foldV
  split
  · exact num_wf (goCount_wf l 0 (by decide))
  · split
    · exact goAdd_wf l _ (.inl rfl)
    · split
      · exact goChoose_wf _ l _ null_wf hl
      · split
        · exact goChoose_wf _ l _ null_wf hl
        · exact null_wf

/-- An aggregate of two lists, by those of each. -/
def halvesV (kind : Int) (a b : List Val) : Val × Int :=
  if (foldV kind a).2 ≠ 0 then (Val.null, (foldV kind a).2) else if (foldV kind b).2 ≠ 0 then (Val.null, (foldV kind b).2) else foldV (if kind = 1 then 2 else kind) [(foldV kind a).1, (foldV kind b).1]

theorem RowV.two (W : World) (x y : Val) (hx : x.wf) (hy : y.wf) (t : TypeId) : RowV (W.alloc (.cells #[.int .i64 x.kind, .int .i64 x.int, .float .f64 x.flt, .string x.text, .int .i64 y.kind, .int .i64 y.int, .float .f64 y.flt, .string y.text] t)) (some ⟨W.heap.size, 0, none⟩) 2 2 [x, y] := by
  have hb := World.alloc_heap_new W (.cells #[.int .i64 x.kind, .int .i64 x.int, .float .f64 x.flt, .string x.text, .int .i64 y.kind, .int .i64 y.int, .float .f64 y.flt, .string y.text] t)
  refine ⟨rfl, Nat.le_refl _, by unfold maxLen; omega, ?_, .inr ⟨W.heap.size, 0, rfl, by simp, fun i v hi => ?_⟩⟩
  · intro v hv
    rcases List.mem_cons.1 hv with rfl | hv
    · exact hx
    · rcases List.mem_cons.1 hv with rfl | hv
      · exact hy
      · cases hv
  · match i, hi with
    | 0, hi =>
      obtain rfl : x = v := by simpa using hi
      refine ⟨?_, ?_, ?_, ?_⟩ <;> (simp only [World.cell?]; rw [hb]; rfl)
    | 1, hi =>
      obtain rfl : y = v := by simpa using hi
      refine ⟨?_, ?_, ?_, ?_⟩ <;> (simp only [World.cell?]; rw [hb]; rfl)

/-- Halves' state: its result's box, the rows. -/
structure HalvesSt (w : World) (a a' : Option Addr) (len cap len' cap' : Nat) (l l' : List Val) (W : World) : Prop where
  below : Below w.heap.size w W
  box : LiesV W w.heap.size 0 Val.null
  lt : w.heap.size < W.heap.size
  rowA : RowV W a len cap l
  rowB : RowV W a' len' cap' l'
theorem HalvesSt.next {w W W' : World} {a a' : Option Addr} {len cap len' cap' : Nat} {l l' : List Val} (h : HalvesSt w a a' len cap len' cap' l l' W) (hb : Below W.heap.size W W') : HalvesSt w a a' len cap len' cap' l l' W' :=
  ⟨h.below.trans (hb.mono h.below.size), h.box.below hb h.lt, Nat.lt_of_lt_of_le h.lt hb.size, h.rowA.later hb, h.rowB.later hb⟩

set_option maxHeartbeats 4000000 in
theorem Halves_any (kind : Int) (a a' : Option Addr) (len cap len' cap' : Nat) (l l' : List Val) (w : World) (h : RowV w a len cap l) (h' : RowV w a' len' cap' l') : Calls Try.prog 11 #[.int .i64 kind, .slice a len cap, .slice a' len' cap'] w
    fun e w' => e = .returned (.tuple #[.agg #[.int .i64 (halvesV kind l l').1.kind, .int .i64 (halvesV kind l l').1.int, .float .f64 (halvesV kind l l').1.flt, .string (halvesV kind l l').1.text], .int .i64 (halvesV kind l l').2]) ∧ Below w.heap.size w w' := by
  have hb0 := (Below.refl w.heap.size w).alloc (Nat.le_refl _) (.cells (cellsV Val.null) 28)
  have HS0 := Lib.hid (show HalvesSt w a a' len cap len' cap' l l' (w.alloc (.cells (cellsV Val.null) 28)) from ⟨hb0, LiesV.new w Val.null 28, by simp, h.later hb0, h'.later hb0⟩)
  have hxw := foldV_wf kind l h.2.2.2.1
  have hyw := foldV_wf kind l' h'.2.2.2.1
  clear h h' hb0
  obtain ⟨⟨r, re⟩, hr⟩ : ∃ r, r = halvesV kind l l' := ⟨_, rfl⟩
  rw [← hr]
  unfold halvesV at hr
  obtain ⟨⟨x, xe⟩, hx⟩ : ∃ x, x = foldV kind l := ⟨_, rfl⟩
  obtain ⟨⟨y, ye⟩, hy⟩ : ∃ y, y = foldV kind l' := ⟨_, rfl⟩
  rw [← hx] at hr hxw
  rw [← hy] at hr hyw
  obtain ⟨xk, xn, xf, xs⟩ := x
  obtain ⟨yk, yn, yf, ys⟩ := y
  obtain ⟨rk, rn, rf, rs⟩ := r
  have HX := Lib.hid hx.symm
  have HY := Lib.hid hy.symm
  unfold cellsV Val.null at HS0
  unfold Val.null at hr
  simp only at *
  clear hx hy
  have HA0 := HS0.out.rowA
  by_cases hxe : xe = 0
  · subst hxe
    rw [if_neg (by simp)] at hr
    by_cases hye : ye = 0
    · subst hye
      rw [if_neg (by simp)] at hr
      by_cases hk : kind = 1
      · subst hk
        rw [if_pos rfl] at hr
        have HRR := Lib.hid hr.symm
        clear hr
        go_enter Try.func11, Try.ntmps11
        go_wp2_with (go_at_call 8; refine (Fold_any _ _ _ _ _ _ (by assumption)).mono ?_; (first | rw [HX.out] | rw [HY.out] | rw [HRR.out]); rintro e wx ⟨rfl, hbx⟩; (first | (have LX := Lib.hid (LiesV.new wx ⟨xk, xn, xf, xs⟩ 28); have HS1 := Lib.hid ((HS0.out.next hbx).next ((Below.refl _ _).alloc (Nat.le_refl _) (.cells #[.int .i64 xk, .int .i64 xn, .float .f64 xf, .string xs] 28))); have HB0 := HS1.out.rowB; clear HA0) | (have HS2 := Lib.hid ((HS1.out.next hbx).next ((Below.refl _ _).alloc (Nat.le_refl _) (.cells #[.int .i64 yk, .int .i64 yn, .float .f64 yf, .string ys] 28))); obtain ⟨⟨e1, e2, e3, e4⟩, _⟩ := (LX.out.below hbx (by simp)).below ((Below.refl _ wx).alloc (Nat.le_refl _) (.cells #[.int .i64 yk, .int .i64 yn, .float .f64 yf, .string ys] 28)) (Nat.lt_of_lt_of_le (by simp) hbx.size); simp only [Nat.zero_add] at e1 e2 e3 e4; have HR3 := RowV.two (wx.alloc (.cells #[.int .i64 yk, .int .i64 yn, .float .f64 yf, .string ys] 28)) ⟨xk, xn, xf, xs⟩ ⟨yk, yn, yf, ys⟩ hxw hyw 28; simp only [World.size_alloc] at HR3; clear HB0) | (have HS3 := Lib.hid ((HS2.out.next ((Below.refl _ _).alloc (Nat.le_refl _) (.cells #[.int .i64 xk, .int .i64 xn, .float .f64 xf, .string xs, .int .i64 yk, .int .i64 yn, .float .f64 yf, .string ys] 28))).next hbx); obtain ⟨⟨r1, r2, r3, r4⟩, g1, g2, g3, g4⟩ := HS3.out.box; simp only [Nat.zero_add] at r1 r2 r3 r4 g1 g2 g3 g4)); clear hbx)
        exact ret_val2 Try.results11 rfl rfl rfl (HS3.out.box.stored ⟨rk, rn, rf, rs⟩) ⟨rfl, below_val HS3.out.below (Nat.le_refl _) _ _ _ _⟩
      · have hk1 : ((kind : Int) == 1) = false := by simp; exact hk
        rw [if_neg hk] at hr
        clear hk
        have HRR := Lib.hid hr.symm
        clear hr
        go_enter Try.func11, Try.ntmps11
        go_wp2_with (go_at_call 8; refine (Fold_any _ _ _ _ _ _ (by assumption)).mono ?_; (first | rw [HX.out] | rw [HY.out] | rw [HRR.out]); rintro e wx ⟨rfl, hbx⟩; (first | (have LX := Lib.hid (LiesV.new wx ⟨xk, xn, xf, xs⟩ 28); have HS1 := Lib.hid ((HS0.out.next hbx).next ((Below.refl _ _).alloc (Nat.le_refl _) (.cells #[.int .i64 xk, .int .i64 xn, .float .f64 xf, .string xs] 28))); have HB0 := HS1.out.rowB; clear HA0) | (have HS2 := Lib.hid ((HS1.out.next hbx).next ((Below.refl _ _).alloc (Nat.le_refl _) (.cells #[.int .i64 yk, .int .i64 yn, .float .f64 yf, .string ys] 28))); obtain ⟨⟨e1, e2, e3, e4⟩, _⟩ := (LX.out.below hbx (by simp)).below ((Below.refl _ wx).alloc (Nat.le_refl _) (.cells #[.int .i64 yk, .int .i64 yn, .float .f64 yf, .string ys] 28)) (Nat.lt_of_lt_of_le (by simp) hbx.size); simp only [Nat.zero_add] at e1 e2 e3 e4; have HR3 := RowV.two (wx.alloc (.cells #[.int .i64 yk, .int .i64 yn, .float .f64 yf, .string ys] 28)) ⟨xk, xn, xf, xs⟩ ⟨yk, yn, yf, ys⟩ hxw hyw 28; simp only [World.size_alloc] at HR3; clear HB0) | (have HS3 := Lib.hid ((HS2.out.next ((Below.refl _ _).alloc (Nat.le_refl _) (.cells #[.int .i64 xk, .int .i64 xn, .float .f64 xf, .string xs, .int .i64 yk, .int .i64 yn, .float .f64 yf, .string ys] 28))).next hbx); obtain ⟨⟨r1, r2, r3, r4⟩, g1, g2, g3, g4⟩ := HS3.out.box; simp only [Nat.zero_add] at r1 r2 r3 r4 g1 g2 g3 g4)); clear hbx)
        exact ret_val2 Try.results11 rfl rfl rfl (HS3.out.box.stored ⟨rk, rn, rf, rs⟩) ⟨rfl, below_val HS3.out.below (Nat.le_refl _) _ _ _ _⟩
    · have hye1 : ((ye : Int) != 0) = true := by simp; exact hye
      rw [if_pos (by simpa using hye)] at hr
      cases hr
      clear hye
      go_enter Try.func11, Try.ntmps11
      go_wp2_with (go_at_call 8; refine (Fold_any _ _ _ _ _ _ (by assumption)).mono ?_; (first | rw [HX.out] | rw [HY.out]); rintro e wx ⟨rfl, hbx⟩; (first | (have HS1 := Lib.hid ((HS0.out.next hbx).next ((Below.refl _ _).alloc (Nat.le_refl _) (.cells #[.int .i64 xk, .int .i64 xn, .float .f64 xf, .string xs] 28))); have HB0 := HS1.out.rowB; clear HA0) | (have HS2 := Lib.hid ((HS1.out.next hbx).next ((Below.refl _ _).alloc (Nat.le_refl _) (.cells #[.int .i64 yk, .int .i64 yn, .float .f64 yf, .string ys] 28))); obtain ⟨⟨r1, r2, r3, r4⟩, g1, g2, g3, g4⟩ := HS2.out.box; simp only [Nat.zero_add] at r1 r2 r3 r4 g1 g2 g3 g4)); clear hbx)
      exact ret_val2 Try.results11 rfl rfl rfl (HS2.out.box.stored ⟨0, 0, 0, ⟨#[]⟩⟩) ⟨rfl, below_val HS2.out.below (Nat.le_refl _) _ _ _ _⟩
  · have hxe1 : ((xe : Int) != 0) = true := by simp; exact hxe
    rw [if_pos (by simpa using hxe)] at hr
    cases hr
    clear hxe
    go_enter Try.func11, Try.ntmps11
    go_wp2_with (go_at_call 8; refine (Fold_any _ _ _ _ _ _ (by assumption)).mono ?_; rw [HX.out]; rintro e wx ⟨rfl, hbx⟩; have HS1 := Lib.hid ((HS0.out.next hbx).next ((Below.refl _ _).alloc (Nat.le_refl _) (.cells #[.int .i64 xk, .int .i64 xn, .float .f64 xf, .string xs] 28))); obtain ⟨⟨r1, r2, r3, r4⟩, g1, g2, g3, g4⟩ := HS1.out.box; simp only [Nat.zero_add] at r1 r2 r3 r4 g1 g2 g3 g4; clear hbx)
    exact ret_val2 Try.results11 rfl rfl rfl (HS1.out.box.stored ⟨0, 0, 0, ⟨#[]⟩⟩) ⟨rfl, below_val HS1.out.below (Nat.le_refl _) _ _ _ _⟩
end Go.Proofs.Ytaanejhpodbdnaa
