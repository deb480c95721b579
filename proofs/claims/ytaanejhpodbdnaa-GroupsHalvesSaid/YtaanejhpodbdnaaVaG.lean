/- The adder and the chooser. -/
import Derived.Test.YtaanejhpodbdnaaVaF
namespace Go.Proofs.Ytaanejhpodbdnaa
open Go.RowKit
set_option maxRecDepth 100000
attribute [local go_sem] run_store_float

/-- A value in a block of its own, behind off cells. -/
def ValAt (W : World) (b off : Nat) (h : Val) : Prop := LiesV W b off h ∧ b < W.heap.size
theorem ValAt.later {W W' : World} {b off : Nat} {h : Val} (x : ValAt W b off h) (hb : Below (b + 1) W W') : ValAt W' b off h := ⟨x.1.below hb (Nat.lt_succ_self _), Nat.lt_of_lt_of_le x.2 hb.size⟩
theorem ValAt.next {W W' : World} {b off : Nat} {h : Val} (x : ValAt W b off h) (hb : Below W.heap.size W W') : ValAt W' b off h := x.later (hb.mono x.2)
theorem ValAt.drew {W : World} {b off : Nat} {h : Val} (x : ValAt W b off h) : ValAt W.drew b off h := x.next (Below.refl _ W).drew

theorem ValAt.stored {W : World} {b : Nat} {u : Val} (x : ValAt W b 0 u) (v : Val) : ValAt ((((W.setCell ⟨b, 0, none⟩ (.int .i64 v.kind)).setCell ⟨b, 1, none⟩ (.int .i64 v.int)).setCell ⟨b, 2, none⟩ (.float .f64 v.flt)).setCell ⟨b, 3, none⟩ (.string v.text)) b 0 v :=
  ⟨x.1.stored v, by simpa using x.2⟩

/-- What an adder has becomes, and what it refuses. -/
def addV (h v : Val) : Val × Int := calcAdd (if h.kind = 0 then 0 else h.int) v

theorem CalcAdd_exp (n k m : Int) (f : Nat) (s : ByteArray) (hn : (Lit.int .i64 n).wf = true) (hb : Val.wf ⟨k, m, f, s⟩) (w : World) : Calls Try.prog 71 #[.int .i64 3, .agg #[.int .i64 2, .int .i64 n, .float .f64 0, .string ⟨#[]⟩], .agg #[.int .i64 k, .int .i64 m, .float .f64 f, .string s]] w
    fun e w' => e = .returned (.tuple #[.agg #[.int .i64 (calcAdd n ⟨k, m, f, s⟩).1.kind, .int .i64 (calcAdd n ⟨k, m, f, s⟩).1.int, .float .f64 (calcAdd n ⟨k, m, f, s⟩).1.flt, .string (calcAdd n ⟨k, m, f, s⟩).1.text], .int .i64 (calcAdd n ⟨k, m, f, s⟩).2]) ∧ Below w.heap.size w w' := CalcAdd_any n _ hn hb w

set_option maxHeartbeats 1000000 in
theorem add_take_num (b : Nat) (n : Int) (v : Val) (hn : (Lit.int .i64 n).wf = true) (hv : v.wf) (w : World) (h : ValAt w b 0 (Val.num n)) : Calls Try.prog 124 #[.pointer (some ⟨b, 0, none⟩), v.agg] w
    fun e w' => e = .returned (.int .i64 (calcAdd n v).2) ∧ ValAt w' b 0 (calcAdd n v).1 ∧ Below b w w' := by
  have hb0 := (Below.refl w.heap.size w).alloc (Nat.le_refl _) (.cells (cellsV v) 28)
  have HV := Lib.hid (And.intro (LiesV.new w v 28) (show w.heap.size < (w.alloc (.cells (cellsV v) 28)).heap.size by simp))
  have HA := Lib.hid (h.next hb0)
  have HD := Lib.hid (And.intro h.2 (And.intro (show Below b w (w.alloc (.cells (cellsV v) 28)) from hb0.mono (Nat.le_of_lt h.2)) (show b < (w.alloc (.cells (cellsV v) 28)).heap.size from Nat.lt_of_lt_of_le h.2 hb0.size)))
  clear h hb0
  skip
  obtain ⟨⟨p, pe⟩, hp⟩ : ∃ p, p = calcAdd n v := ⟨_, rfl⟩
  rw [← hp]
  obtain ⟨pk, pn, pf, ps⟩ := p
  have HP := Lib.hid hp.symm
  clear hp
  obtain ⟨k, m, f, s⟩ := v
  unfold cellsV at HA HD HV
  unfold Val.agg Val.num at *
  simp only at *
  obtain ⟨⟨⟨a1, a2, a3, a4⟩, q1, q2, q3, q4⟩, hbl⟩ := HA.out
  simp only [Nat.zero_add] at a1 a2 a3 a4 q1 q2 q3 q4
  go_enter Try.func124, Try.ntmps124
  go_upto_region 3 with fail
  obtain ⟨W3, hW3⟩ : ∃ W3, (w.alloc (.cells #[.int .i64 k, .int .i64 m, .float .f64 f, .string s] 28)) = W3 := ⟨_, rfl⟩
  have HA3 := Lib.hid (show ValAt W3 b 0 ⟨2, n, 0, ⟨#[]⟩⟩ by rw [← hW3]; exact HA.out)
  have HV3 := Lib.hid (show LiesV W3 w.heap.size 0 ⟨k, m, f, s⟩ by rw [← hW3]; exact HV.out.1)
  have HD3 := Lib.hid (show Below b w W3.drew ∧ b ≤ W3.drew.heap.size by rw [← hW3]; exact ⟨HD.out.2.1.drew, Nat.le_of_lt HD.out.2.2⟩)
  rw [hW3]
  clear hW3 a1 a2 a3 a4 q1 q2 q3 q4
  go_cut [4] from 15 to 26 (fun v W => v = .int .i64 pe ∧ ValAt W b 0 ⟨pk, pn, pf, ps⟩ ∧ Below b w W)
  case first =>
    obtain ⟨⟨v1, v2, v3, v4⟩, _⟩ := HV3.out
    obtain ⟨⟨⟨a1, a2, a3, a4⟩, q1, q2, q3, q4⟩, hbl⟩ := HA3.out
    simp only [Nat.zero_add] at v1 v2 v3 v4 a1 a2 a3 a4 q1 q2 q3 q4
    go_region_with (go_at_call 71; refine (CalcAdd_exp _ _ _ _ _ (by assumption) (by assumption) _).mono ?_; rw [HP.out]; rintro e wx ⟨rfl, hbx⟩; have HX := Lib.hid (HA3.out.drew.next hbx); have HBX := Lib.hid (HD3.out.1.trans (hbx.mono HD3.out.2)); obtain ⟨⟨⟨x1, x2, x3, x4⟩, y1, y2, y3, y4⟩, hxl⟩ := HX.out; simp only [Nat.zero_add] at x1 x2 x3 x4 y1 y2 y3 y4; clear hbx)
    all_goals go_wp2_with fail
    all_goals go_meet
    all_goals exact ⟨rfl, HX.out.stored ⟨pk, pn, pf, ps⟩, below_val HBX.out (Nat.le_refl _) _ _ _ _⟩
  case rest =>
    obtain ⟨rfl, hw⟩ := hcut
    have HW := Lib.hid hw
    clear hw
    go_wp2
    go_ret
    exact ⟨rfl, HW.out⟩

set_option maxHeartbeats 1000000 in
theorem add_take_null (b : Nat) (v : Val) (hv : v.wf) (w : World) (h : ValAt w b 0 Val.null) : Calls Try.prog 124 #[.pointer (some ⟨b, 0, none⟩), v.agg] w
    fun e w' => e = .returned (.int .i64 (calcAdd 0 v).2) ∧ ValAt w' b 0 (calcAdd 0 v).1 ∧ Below b w w' := by
  have hb0 := (Below.refl w.heap.size w).alloc (Nat.le_refl _) (.cells (cellsV v) 28)
  have HV := Lib.hid (And.intro (LiesV.new w v 28) (show w.heap.size < (w.alloc (.cells (cellsV v) 28)).heap.size by simp))
  have HA := Lib.hid (h.next hb0)
  have HD := Lib.hid (And.intro h.2 (And.intro (show Below b w (w.alloc (.cells (cellsV v) 28)) from hb0.mono (Nat.le_of_lt h.2)) (show b < (w.alloc (.cells (cellsV v) 28)).heap.size from Nat.lt_of_lt_of_le h.2 hb0.size)))
  clear h hb0
  have hn : (Lit.int .i64 0).wf = true := by decide
  obtain ⟨⟨p, pe⟩, hp⟩ : ∃ p, p = calcAdd 0 v := ⟨_, rfl⟩
  rw [← hp]
  obtain ⟨pk, pn, pf, ps⟩ := p
  have HP := Lib.hid hp.symm
  clear hp
  obtain ⟨k, m, f, s⟩ := v
  unfold cellsV at HA HD HV
  unfold Val.agg Val.null at *
  simp only at *
  obtain ⟨⟨⟨a1, a2, a3, a4⟩, q1, q2, q3, q4⟩, hbl⟩ := HA.out
  simp only [Nat.zero_add] at a1 a2 a3 a4 q1 q2 q3 q4
  go_enter Try.func124, Try.ntmps124
  go_upto_region 3 with (go_at_call 19; refine (Number_exp _ _).mono ?_; rintro e wy ⟨rfl, hby⟩; have HA2 := Lib.hid (HA.out.next hby); have HV2 := Lib.hid (And.intro (HV.out.1.below hby HV.out.2) (Nat.lt_of_lt_of_le HV.out.2 hby.size)); have HD2 := Lib.hid (And.intro HD.out.1 (And.intro (HD.out.2.1.trans (hby.mono (Nat.le_of_lt HD.out.2.2))) (Nat.lt_of_lt_of_le HD.out.2.2 hby.size))); obtain ⟨⟨⟨a1, a2, a3, a4⟩, q1, q2, q3, q4⟩, hbl⟩ := HA2.out; simp only [Nat.zero_add] at a1 a2 a3 a4 q1 q2 q3 q4; clear hby)
  obtain ⟨W3, hW3⟩ : ∃ W3, ((((wy.setCell ⟨b, 0, none⟩ (.int .i64 2)).setCell ⟨b, 1, none⟩ (.int .i64 0)).setCell ⟨b, 2, none⟩ (.float .f64 0)).setCell ⟨b, 3, none⟩ (.string ⟨#[]⟩)) = W3 := ⟨_, rfl⟩
  have HA3 := Lib.hid (show ValAt W3 b 0 ⟨2, 0, 0, ⟨#[]⟩⟩ by rw [← hW3]; exact HA2.out.stored ⟨2, 0, 0, ⟨#[]⟩⟩)
  have hne : b ≠ w.heap.size := Nat.ne_of_lt HD.out.1
  have HV3 := Lib.hid (show LiesV W3 w.heap.size 0 ⟨k, m, f, s⟩ by rw [← hW3]; exact (((HV2.out.1.other (by exact hne)).other (by exact hne)).other (by exact hne)).other (by exact hne))
  have HD3 := Lib.hid (show Below b w W3.drew ∧ b ≤ W3.drew.heap.size by rw [← hW3]; exact ⟨(below_val HD2.out.2.1 (Nat.le_refl _) _ _ _ _).drew, by have h := HD2.out.2.2; show b ≤ (World.heap _).size; simp; omega⟩)
  rw [hW3]
  clear hW3 a1 a2 a3 a4 q1 q2 q3 q4
  go_cut [4] from 15 to 26 (fun v W => v = .int .i64 pe ∧ ValAt W b 0 ⟨pk, pn, pf, ps⟩ ∧ Below b w W)
  case first =>
    obtain ⟨⟨v1, v2, v3, v4⟩, _⟩ := HV3.out
    obtain ⟨⟨⟨a1, a2, a3, a4⟩, q1, q2, q3, q4⟩, hbl⟩ := HA3.out
    simp only [Nat.zero_add] at v1 v2 v3 v4 a1 a2 a3 a4 q1 q2 q3 q4
    go_region_with (go_at_call 71; refine (CalcAdd_exp _ _ _ _ _ (by assumption) (by assumption) _).mono ?_; rw [HP.out]; rintro e wx ⟨rfl, hbx⟩; have HX := Lib.hid (HA3.out.drew.next hbx); have HBX := Lib.hid (HD3.out.1.trans (hbx.mono HD3.out.2)); obtain ⟨⟨⟨x1, x2, x3, x4⟩, y1, y2, y3, y4⟩, hxl⟩ := HX.out; simp only [Nat.zero_add] at x1 x2 x3 x4 y1 y2 y3 y4; clear hbx)
    all_goals go_wp2_with fail
    all_goals go_meet
    all_goals exact ⟨rfl, HX.out.stored ⟨pk, pn, pf, ps⟩, below_val HBX.out (Nat.le_refl _) _ _ _ _⟩
  case rest =>
    obtain ⟨rfl, hw⟩ := hcut
    have HW := Lib.hid hw
    clear hw
    go_wp2
    go_ret
    exact ⟨rfl, HW.out⟩


theorem add_told (b : Nat) (v : Val) (w : World) (h : ValAt w b 0 v) : Calls Try.prog 125 #[.pointer (some ⟨b, 0, none⟩)] w
    fun e w' => e = .returned v.agg ∧ Below w.heap.size w w' := by
  have hb := (Below.refl w.heap.size w).alloc (Nat.le_refl _) (.cells (cellsV Val.null) 28)
  have HA := Lib.hid (h.next hb)
  have HB := Lib.hid hb
  have HN := Lib.hid (LiesV.new w Val.null 28)
  unfold cellsV Val.null at HB HA
  unfold Val.null at HN
  clear hb h
  obtain ⟨k, m, f, s⟩ := v
  unfold Val.agg
  obtain ⟨⟨⟨a1, a2, a3, a4⟩, _⟩, _⟩ := HA.out
  simp only [Nat.zero_add] at a1 a2 a3 a4
  go_enter Try.func125, Try.ntmps125
  go_wp2
  exact ret_val Try.results125 rfl rfl (LiesV.new w ⟨k, m, f, s⟩ _) ⟨rfl, (Below.refl _ w).alloc (Nat.le_refl _) _⟩

/-- A chooser's block: the sign, the value. -/
def ChooseAt (W : World) (b : Nat) (g : Int) (h : Val) : Prop := W.cell? ⟨b, 0, none⟩ = some (.int .i64 g) ∧ ValAt W b 1 h
theorem ChooseAt.later {W W' : World} {b : Nat} {g : Int} {h : Val} (x : ChooseAt W b g h) (hb : Below (b + 1) W W') : ChooseAt W' b g h := ⟨(hb.cell (p := ⟨b, 0, none⟩) (Nat.lt_succ_self _)).trans x.1, x.2.later hb⟩
theorem ChooseAt.next {W W' : World} {b : Nat} {g : Int} {h : Val} (x : ChooseAt W b g h) (hb : Below W.heap.size W W') : ChooseAt W' b g h := x.later (hb.mono x.2.2)
theorem choose_told (b : Nat) (g : Int) (v : Val) (w : World) (h : ChooseAt w b g v) : Calls Try.prog 127 #[.pointer (some ⟨b, 0, none⟩)] w
    fun e w' => e = .returned v.agg ∧ Below w.heap.size w w' := by
  have hb := (Below.refl w.heap.size w).alloc (Nat.le_refl _) (.cells (cellsV Val.null) 28)
  have HA := Lib.hid (h.next hb)
  have HB := Lib.hid hb
  have HN := Lib.hid (LiesV.new w Val.null 28)
  unfold cellsV Val.null at HB HA
  unfold Val.null at HN
  clear hb h
  obtain ⟨k, m, f, s⟩ := v
  unfold Val.agg
  obtain ⟨_, ⟨⟨a1, a2, a3, a4⟩, _⟩, _⟩ := HA.out
  simp only [Nat.reduceAdd] at a1 a2 a3 a4
  go_enter Try.func127, Try.ntmps127
  go_wp2
  exact ret_val Try.results127 rfl rfl (LiesV.new w ⟨k, m, f, s⟩ _) ⟨rfl, (Below.refl _ w).alloc (Nat.le_refl _) _⟩
end Go.Proofs.Ytaanejhpodbdnaa
