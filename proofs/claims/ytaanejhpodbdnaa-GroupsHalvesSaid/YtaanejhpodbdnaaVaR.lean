/- The reference's Fold of whatever kind, its Halves; plain: halves alike. -/
import Derived.Test.YtaanejhpodbdnaaVaQ
import Derived.Test.YtaanejhpodbdnaaVaP
import Derived.Test.YtaanejhpodbdnaaVaJ
namespace Go.Proofs.Ytaanejhpodbdnaa
open Go.RowKit
set_option maxRecDepth 100000
set_option linter.unusedVariables false
attribute [local go_sem] run_store_float

set_option maxHeartbeats 1000000 in
theorem RFold_no (kind : Int) (hk : ¬ (1 ≤ kind ∧ kind ≤ 4)) (a : Option Addr) (len cap : Nat) (w : World) : Calls Try.prog 9 #[.int .i64 kind, .slice a len cap] w
    fun e w' => e = .returned (.tuple #[Val.null.agg, .int .i64 2]) ∧ Below w.heap.size w w' := by
  have HL := Lib.hid (LiesV.new w Val.null 28)
  unfold Val.null at HL
  simp only at HL
  obtain ⟨⟨r1, r2, r3, r4⟩, g1, g2, g3, g4⟩ := HL.out
  simp only [Nat.zero_add] at r1 r2 r3 r4 g1 g2 g3 g4
  by_cases h1 : kind < 1
  · have hd : decide (kind < 1) = true := by simp [h1]
    clear hk h1
    go_enter Try.func9, Try.ntmps9
    go_wp2
    exact ret_val2 Try.results9 rfl rfl rfl HL.out ⟨rfl, (Below.refl _ w).alloc (Nat.le_refl _) _⟩
  · have hd : decide (kind < 1) = false := by simp [h1]
    have hd4 : decide (4 < kind) = true := by simp; omega
    clear hk h1
    go_enter Try.func9, Try.ntmps9
    go_wp2
    exact ret_val2 Try.results9 rfl rfl rfl HL.out ⟨rfl, (Below.refl _ w).alloc (Nat.le_refl _) _⟩

/-- The reference's aggregate, of whatever kind. -/
theorem RFold_any (kind : Int) (a : Option Addr) (len cap : Nat) (l : List Val) (w : World) (h : RowV w a len cap l) : Calls Try.prog 9 #[.int .i64 kind, .slice a len cap] w
    fun e w' => e = .returned (.tuple #[.agg #[.int .i64 (rfoldV kind l).1.kind, .int .i64 (rfoldV kind l).1.int, .float .f64 (rfoldV kind l).1.flt, .string (rfoldV kind l).1.text], .int .i64 (rfoldV kind l).2]) ∧ Below w.heap.size w w' := by
  unfold rfoldV
  by_cases h1 : kind = 1
  · subst h1; rw [if_pos (by omega)]; exact RFold_1 a len cap l w h
  by_cases h2 : kind = 2
  · subst h2; rw [if_pos (by omega)]; exact RFold_2 a len cap l w h
  by_cases h3 : kind = 3
  · subst h3; rw [if_pos (by omega)]; exact RFold_3 a len cap l w h
  by_cases h4 : kind = 4
  · subst h4; rw [if_pos (by omega)]; exact RFold_4 a len cap l w h
  · rw [if_neg (by omega)]
    exact RFold_no kind (by omega) a len cap w

theorem rgo_wf (kind : Int) (hk : kind = 3 ∨ kind = 4) : ∀ (l : List Val) (n : Int) (h : Val), h.wf → (∀ v ∈ l, v.wf) → (rgo kind n h l).1.wf
  | [], n, h, hh, _ => by
    unfold rgo; rw [if_neg (by omega)]; exact hh
  | v :: l, n, h, hh, hl => by
    have k1 : ¬ kind = 1 := by omega
    have k2 : ¬ kind = 2 := by omega
    rw [rgo_cons]
    simp only [k1, k2, if_false]
    split
    · exact rgo_wf kind hk l n h hh (fun u hu => hl u (by simp [hu]))
    · exact rgo_wf kind hk l _ _ (chooseR_wf kind h _ hh (rplainV_wf v (hl v (by simp)))) (fun u hu => hl u (by simp [hu]))
theorem rfoldV_wf (kind : Int) (l : List Val) (hl : ∀ v ∈ l, v.wf) : (rfoldV kind l).1.wf := by
  unfold rfoldV
  by_cases h1 : kind = 1
  · subst h1; rw [if_pos (by omega), go_count]; exact num_wf (goCount_wf l 0 (by decide))
  by_cases h2 : kind = 2
  · subst h2; rw [if_pos (by omega), go_add]; exact goAdd_wf l _ (.inl rfl)
  by_cases h3 : kind = 3
  · subst h3; rw [if_pos (by omega)]; exact rgo_wf 3 (.inl rfl) l 0 _ null_wf hl
  by_cases h4 : kind = 4
  · subst h4; rw [if_pos (by omega)]; exact rgo_wf 4 (.inr rfl) l 0 _ null_wf hl
  · rw [if_neg (by omega)]; exact null_wf

/-- The reference's aggregate of two lists, by those of each. -/
def rhalvesV (kind : Int) (a b : List Val) : Val × Int :=
  if (rfoldV kind a).2 ≠ 0 then (Val.null, (rfoldV kind a).2) else if (rfoldV kind b).2 ≠ 0 then (Val.null, (rfoldV kind b).2) else if kind = 1 then (Val.num (wrap64 ((rfoldV kind a).1.int + (rfoldV kind b).1.int)), 0) else rfoldV kind [(rfoldV kind a).1, (rfoldV kind b).1]

set_option maxHeartbeats 4000000 in
theorem RHalves_any (kind : Int) (a a' : Option Addr) (len cap len' cap' : Nat) (l l' : List Val) (w : World) (h : RowV w a len cap l) (h' : RowV w a' len' cap' l') : Calls Try.prog 12 #[.int .i64 kind, .slice a len cap, .slice a' len' cap'] w
    fun e w' => e = .returned (.tuple #[.agg #[.int .i64 (rhalvesV kind l l').1.kind, .int .i64 (rhalvesV kind l l').1.int, .float .f64 (rhalvesV kind l l').1.flt, .string (rhalvesV kind l l').1.text], .int .i64 (rhalvesV kind l l').2]) ∧ Below w.heap.size w w' := by
  have hb0 := (Below.refl w.heap.size w).alloc (Nat.le_refl _) (.cells (cellsV Val.null) 28)
  have HS0 := Lib.hid (show HalvesSt w a a' len cap len' cap' l l' (w.alloc (.cells (cellsV Val.null) 28)) from ⟨hb0, LiesV.new w Val.null 28, by simp, h.later hb0, h'.later hb0⟩)
  have hxw := rfoldV_wf kind l h.2.2.2.1
  have hyw := rfoldV_wf kind l' h'.2.2.2.1
  clear h h' hb0
  obtain ⟨⟨r, re⟩, hr⟩ : ∃ r, r = rhalvesV kind l l' := ⟨_, rfl⟩
  rw [← hr]
  unfold rhalvesV at hr
  obtain ⟨⟨x, xe⟩, hx⟩ : ∃ x, x = rfoldV kind l := ⟨_, rfl⟩
  obtain ⟨⟨y, ye⟩, hy⟩ : ∃ y, y = rfoldV kind l' := ⟨_, rfl⟩
  rw [← hx] at hr hxw
  rw [← hy] at hr hyw
  obtain ⟨xk, xn, xf, xs⟩ := x
  obtain ⟨yk, yn, yf, ys⟩ := y
  obtain ⟨rk, rn, rf, rs⟩ := r
  have HX := Lib.hid hx.symm
  have HY := Lib.hid hy.symm
  unfold cellsV Val.null at HS0
  unfold Val.null Val.num at hr
  simp only at *
  clear hx hy
  have HA0 := HS0.out.rowA
  by_cases hxe : xe = 0
  · subst hxe
    rw [if_neg (by simp)] at hr
    by_cases hye : ye = 0
    · subst hye
      rw [if_neg (by simp)] at hr
      by_cases hk : kind = 1
      · subst hk
        rw [if_pos rfl] at hr
        cases hr
        go_enter Try.func12, Try.ntmps12
        go_wp2_with (go_at_call 9; refine (RFold_any _ _ _ _ _ _ (by assumption)).mono ?_; (first | rw [HX.out] | rw [HY.out]); rintro e wx ⟨rfl, hbx⟩; (first | (have LX := Lib.hid (LiesV.new wx ⟨xk, xn, xf, xs⟩ 28); have HS1 := Lib.hid ((HS0.out.next hbx).next ((Below.refl _ _).alloc (Nat.le_refl _) (.cells #[.int .i64 xk, .int .i64 xn, .float .f64 xf, .string xs] 28))); have HB0 := HS1.out.rowB; clear HA0) | (have HS2 := Lib.hid ((HS1.out.next hbx).next ((Below.refl _ _).alloc (Nat.le_refl _) (.cells #[.int .i64 yk, .int .i64 yn, .float .f64 yf, .string ys] 28))); obtain ⟨⟨e1, e2, e3, e4⟩, _⟩ := (LX.out.below hbx (by simp)).below ((Below.refl _ wx).alloc (Nat.le_refl _) (.cells #[.int .i64 yk, .int .i64 yn, .float .f64 yf, .string ys] 28)) (Nat.lt_of_lt_of_le (by simp) hbx.size); simp only [Nat.zero_add] at e1 e2 e3 e4; obtain ⟨⟨r1, r2, r3, r4⟩, g1, g2, g3, g4⟩ := HS2.out.box; simp only [Nat.zero_add] at r1 r2 r3 r4 g1 g2 g3 g4; clear HB0)); clear hbx)
        exact ret_val2 Try.results12 rfl rfl rfl (HS2.out.box.stored ⟨2, wrap64 (xn + yn), 0, ⟨#[]⟩⟩) ⟨rfl, below_val HS2.out.below (Nat.le_refl _) _ _ _ _⟩
      · have hk1 : ((kind : Int) == 1) = false := by simp; exact hk
        rw [if_neg hk] at hr
        clear hk
        have HRR := Lib.hid hr.symm
        clear hr
        go_enter Try.func12, Try.ntmps12
        go_wp2_with (go_at_call 9; refine (RFold_any _ _ _ _ _ _ (by assumption)).mono ?_; (first | rw [HX.out] | rw [HY.out] | rw [HRR.out]); rintro e wx ⟨rfl, hbx⟩; (first | (have LX := Lib.hid (LiesV.new wx ⟨xk, xn, xf, xs⟩ 28); have HS1 := Lib.hid ((HS0.out.next hbx).next ((Below.refl _ _).alloc (Nat.le_refl _) (.cells #[.int .i64 xk, .int .i64 xn, .float .f64 xf, .string xs] 28))); have HB0 := HS1.out.rowB; clear HA0) | (have HS2 := Lib.hid ((HS1.out.next hbx).next ((Below.refl _ _).alloc (Nat.le_refl _) (.cells #[.int .i64 yk, .int .i64 yn, .float .f64 yf, .string ys] 28))); obtain ⟨⟨e1, e2, e3, e4⟩, _⟩ := (LX.out.below hbx (by simp)).below ((Below.refl _ wx).alloc (Nat.le_refl _) (.cells #[.int .i64 yk, .int .i64 yn, .float .f64 yf, .string ys] 28)) (Nat.lt_of_lt_of_le (by simp) hbx.size); simp only [Nat.zero_add] at e1 e2 e3 e4; have HR3 := RowV.two (wx.alloc (.cells #[.int .i64 yk, .int .i64 yn, .float .f64 yf, .string ys] 28)) ⟨xk, xn, xf, xs⟩ ⟨yk, yn, yf, ys⟩ hxw hyw 28; simp only [World.size_alloc] at HR3; clear HB0) | (have HS3 := Lib.hid ((HS2.out.next ((Below.refl _ _).alloc (Nat.le_refl _) (.cells #[.int .i64 xk, .int .i64 xn, .float .f64 xf, .string xs, .int .i64 yk, .int .i64 yn, .float .f64 yf, .string ys] 28))).next hbx); obtain ⟨⟨r1, r2, r3, r4⟩, g1, g2, g3, g4⟩ := HS3.out.box; simp only [Nat.zero_add] at r1 r2 r3 r4 g1 g2 g3 g4)); clear hbx)
        exact ret_val2 Try.results12 rfl rfl rfl (HS3.out.box.stored ⟨rk, rn, rf, rs⟩) ⟨rfl, below_val HS3.out.below (Nat.le_refl _) _ _ _ _⟩
    · have hye1 : ((ye : Int) != 0) = true := by simp; exact hye
      rw [if_pos (by simpa using hye)] at hr
      cases hr
      clear hye
      go_enter Try.func12, Try.ntmps12
      go_wp2_with (go_at_call 9; refine (RFold_any _ _ _ _ _ _ (by assumption)).mono ?_; (first | rw [HX.out] | rw [HY.out]); rintro e wx ⟨rfl, hbx⟩; (first | (have HS1 := Lib.hid ((HS0.out.next hbx).next ((Below.refl _ _).alloc (Nat.le_refl _) (.cells #[.int .i64 xk, .int .i64 xn, .float .f64 xf, .string xs] 28))); have HB0 := HS1.out.rowB; clear HA0) | (have HS2 := Lib.hid ((HS1.out.next hbx).next ((Below.refl _ _).alloc (Nat.le_refl _) (.cells #[.int .i64 yk, .int .i64 yn, .float .f64 yf, .string ys] 28))); obtain ⟨⟨r1, r2, r3, r4⟩, g1, g2, g3, g4⟩ := HS2.out.box; simp only [Nat.zero_add] at r1 r2 r3 r4 g1 g2 g3 g4)); clear hbx)
      exact ret_val2 Try.results12 rfl rfl rfl (HS2.out.box.stored ⟨0, 0, 0, ⟨#[]⟩⟩) ⟨rfl, below_val HS2.out.below (Nat.le_refl _) _ _ _ _⟩
  · have hxe1 : ((xe : Int) != 0) = true := by simp; exact hxe
    rw [if_pos (by simpa using hxe)] at hr
    cases hr
    clear hxe
    go_enter Try.func12, Try.ntmps12
    go_wp2_with (go_at_call 9; refine (RFold_any _ _ _ _ _ _ (by assumption)).mono ?_; rw [HX.out]; rintro e wx ⟨rfl, hbx⟩; have HS1 := Lib.hid ((HS0.out.next hbx).next ((Below.refl _ _).alloc (Nat.le_refl _) (.cells #[.int .i64 xk, .int .i64 xn, .float .f64 xf, .string xs] 28))); obtain ⟨⟨r1, r2, r3, r4⟩, g1, g2, g3, g4⟩ := HS1.out.box; simp only [Nat.zero_add] at r1 r2 r3 r4 g1 g2 g3 g4; clear hbx)
    exact ret_val2 Try.results12 rfl rfl rfl (HS1.out.box.stored ⟨0, 0, 0, ⟨#[]⟩⟩) ⟨rfl, below_val HS1.out.below (Nat.le_refl _) _ _ _ _⟩

theorem right_plain (v : Val) (h : rightV v = true) : rightV (plainV v) = true := by
  by_cases hk : v.kind = 3
  · rw [(plain_flt v h hk).1, right_flt v _ hk]; exact h
  · rw [(plain_else v h hk).1]; exact h
theorem step_rel (g kind : Int) (hg : (kind = 3 ∧ g = -1) ∨ (kind = 4 ∧ g = 1)) (h h' v v' : Val) (hr : RelC h h') (hv : RelC v v') : RelC (if skipV v then h else chooseV g h v) (if (rplainV v').kind = 0 then h' else chooseR kind h' (rplainV v')) := by
  rcases hv with ⟨rfl, rfl⟩ | ⟨u, hu, hu0, rfl, rfl⟩
  · have s : skipV Val.null = true := by unfold skipV Val.null; simp
    have k : (rplainV Val.null).kind = 0 := skip_zero _ s
    rw [s, if_pos rfl, if_pos k]; exact hr
  · have hk : (rplainV u).kind ≠ 0 := by rw [rplain_kind u hu]; exact hu0
    have hs : skipV (plainV u) = false := by
      unfold skipV
      rw [right_plain u hu]
      have : (plainV u).kind ≠ 0 := by rw [plain_kind]; exact hk
      simp [this]
    rw [hs, (plain_plain u hu).2, if_neg hk]
    have : chooseV g h (plainV u) = chooseV g h u := by
      unfold chooseV cmpV
      rw [(plain_plain u hu).1]
    simp only [Bool.false_eq_true, if_false]
    rw [this]
    exact choose_rel g kind hg h h' u hr hu hu0
theorem two_choose (g kind : Int) (hg : (kind = 3 ∧ g = -1) ∨ (kind = 4 ∧ g = 1)) (x y x' y' : Val) (hx : RelC x x') (hy : RelC y y') : ∃ r, rgo kind 0 Val.null [x', y'] = (r, 0) ∧ RelC (goChoose g Val.null [x, y]) r := by
  have k1 : ¬ kind = 1 := by omega
  have k2 : ¬ kind = 2 := by omega
  have h1 := step_rel g kind hg Val.null Val.null x x' (.inl ⟨rfl, rfl⟩) hx
  have h2 := step_rel g kind hg _ _ y y' h1 hy
  refine ⟨_, ?_, h2⟩
  rw [rgo_cons]
  simp only [k1, k2, if_false]
  have e : ∀ (n : Int) (h : Val), rgo kind n h [y'] = (if (rplainV y').kind = 0 then h else chooseR kind h (rplainV y'), 0) := by
    intro n h
    rw [rgo_cons]
    simp only [k1, k2, if_false]
    unfold rgo
    simp only [k1, if_false]
    split <;> rfl
  rw [e, e]
  by_cases hz : (rplainV x').kind = 0
  · simp only [hz, if_true]
  · simp only [hz, if_false]
theorem add_two (m n : Int) (hm : (Lit.int .i64 m).wf = true) : foldV 2 [Val.num m, Val.num n] = (Val.num (wrap64 (m + n)), 0) := by
  have hw : wrap64 (0 + m) = m := by
    have := i64_bounds hm
    unfold wrap64
    omega
  have hs : ∀ k, skipV (Val.num k) = false := fun k => by unfold skipV; rw [num_right]; rfl
  have ha : ∀ (h : Val) (k : Int), addV h (Val.num k) = (Val.num (wrap64 ((if h.kind = 0 then 0 else h.int) + k)), 0) := by
    intro h k
    unfold addV calcAdd
    rw [show numV (Val.num k) = true from numV_num k]
    rfl
  unfold foldV
  rw [if_neg (by omega), if_pos rfl, goAdd_cons, hs, ha]
  simp only [Bool.false_eq_true, if_false, if_true]
  rw [goAdd_cons, hs, ha]
  simp only [Bool.false_eq_true, if_false, if_true]
  unfold goAdd Val.num Val.null
  simp only [if_true, hw]
  rfl
theorem rfold_1 (l : List Val) : rfoldV 1 l = (Val.num (goCount 0 l), 0) ∧ foldV 1 l = (Val.num (goCount 0 l), 0) := by
  unfold rfoldV foldV
  rw [if_pos (by omega), go_count, if_pos rfl]; exact ⟨rfl, rfl⟩
theorem rfold_2 (l : List Val) : rfoldV 2 l = foldV 2 l := by
  unfold rfoldV foldV
  rw [if_pos (by omega), go_add, if_neg (by omega), if_pos rfl]
theorem halves_alike (kind : Int) (a b : List Val) : Alike (halvesV kind a b).1 (rhalvesV kind a b).1 ∧ (halvesV kind a b).2 = (rhalvesV kind a b).2 := by
  have al : ∀ v, Alike v v := fun v => ⟨rfl, rfl, rfl, rfl, rfl⟩
  unfold halvesV rhalvesV
  rw [← (fold_alike kind a).2, ← (fold_alike kind b).2]
  by_cases ea : (foldV kind a).2 = 0
  · have ea' : ¬ ((foldV kind a).2 ≠ 0) := by simp [ea]
    rw [if_neg ea', if_neg ea']
    by_cases eb : (foldV kind b).2 = 0
    · have eb' : ¬ ((foldV kind b).2 ≠ 0) := by simp [eb]
      rw [if_neg eb', if_neg eb']
      by_cases h1 : kind = 1
      · subst h1
        rw [if_pos rfl, if_pos rfl, (rfold_1 a).1, (rfold_1 a).2, (rfold_1 b).1, (rfold_1 b).2]
        rw [add_two _ _ (goCount_wf a 0 (by decide))]
        exact ⟨al _, rfl⟩
      · rw [if_neg h1, if_neg h1]
        by_cases h2 : kind = 2
        · subst h2
          rw [rfold_2, rfold_2, rfold_2]; exact ⟨al _, rfl⟩
        by_cases h34 : kind = 3 ∨ kind = 4
        · have hg : ∃ g, (kind = 3 ∧ g = -1) ∨ (kind = 4 ∧ g = 1) := by
            rcases h34 with h | h
            · exact ⟨-1, .inl ⟨h, rfl⟩⟩
            · exact ⟨1, .inr ⟨h, rfl⟩⟩
          obtain ⟨g, hg⟩ := hg
          have ef : ∀ l, foldV kind l = (goChoose g Val.null l, 0) := by
            intro l
            unfold foldV
            rcases hg with ⟨rfl, rfl⟩ | ⟨rfl, rfl⟩
            · rw [if_neg (by omega), if_neg (by omega), if_pos rfl]
            · rw [if_neg (by omega), if_neg (by omega), if_neg (by omega), if_pos rfl]
          have er : ∀ l, rfoldV kind l = rgo kind 0 Val.null l := by
            intro l
            unfold rfoldV
            rw [if_pos (by omega)]
          obtain ⟨r1, e1, q1⟩ := go_choose g kind hg a 0 Val.null Val.null (.inl ⟨rfl, rfl⟩)
          obtain ⟨r2, e2, q2⟩ := go_choose g kind hg b 0 Val.null Val.null (.inl ⟨rfl, rfl⟩)
          rw [ef, ef, ef, er, er, er, e1, e2]
          obtain ⟨r, e, q⟩ := two_choose g kind hg _ _ _ _ q1 q2
          rw [e]
          exact ⟨relC_alike _ _ q, rfl⟩
        · have hn : ¬ (1 ≤ kind ∧ kind ≤ 4) := by omega
          have er : ∀ l, rfoldV kind l = (Val.null, 2) := by
            intro l
            unfold rfoldV
            rw [if_neg hn]
          rw [foldV_no kind hn, er]; exact ⟨al _, rfl⟩
    · rw [if_pos eb, if_pos eb]; exact ⟨al _, rfl⟩
  · rw [if_pos ea, if_pos ea]; exact ⟨al _, rfl⟩
end Go.Proofs.Ytaanejhpodbdnaa
