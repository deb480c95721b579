/- The walks of value.Plain, cmp.Compare, value.floats. -/
import Derived.Test.YtaanejhpodbdnaaVaB
import Derived.Handy
import Derived.RangeFuncRecord
namespace Go.Proofs.Ytaanejhpodbdnaa
open Go.RowKit
set_option maxRecDepth 100000
attribute [local go_sem] run_f64bits run_f64from

theorem run_store_float (P : Program) (w : World) (a : Addr) (k : FloatKind) (b : Nat) (m : Mode) : (store a (.float k b) m).run P w = stored P w a (.float k b) m := run_store P w a _ m rfl
attribute [local go_sem] run_store_float

/-- A value in its one form. -/
def plainV (v : Val) : Val :=
  if rightV v then (if v.kind = 3 then (if nanB v.flt then { v with flt := 9221120237041090561 } else if v.flt % 9223372036854775808 = 0 then { v with flt := 0 } else v) else v) else Val.null

/-- A value that lies in four cells of a block, unfrozen. -/
def LiesV (W : World) (b off : Nat) (v : Val) : Prop :=
  (W.cell? ⟨b, off, none⟩ = some (.int .i64 v.kind) ∧ W.cell? ⟨b, off + 1, none⟩ = some (.int .i64 v.int) ∧ W.cell? ⟨b, off + 2, none⟩ = some (.float .f64 v.flt) ∧ W.cell? ⟨b, off + 3, none⟩ = some (.string v.text)) ∧
  (W.frozen? ⟨b, off, none⟩ = false ∧ W.frozen? ⟨b, off + 1, none⟩ = false ∧ W.frozen? ⟨b, off + 2, none⟩ = false ∧ W.frozen? ⟨b, off + 3, none⟩ = false)
theorem LiesV.below {B : Nat} {W W' : World} {b off : Nat} {v : Val} (h : LiesV W b off v) (hb : Below B W W') (hB : b < B) : LiesV W' b off v := by
  obtain ⟨⟨h1, h2, h3, h4⟩, f1, f2, f3, f4⟩ := h
  exact ⟨⟨(hb.cell hB).trans h1, (hb.cell hB).trans h2, (hb.cell hB).trans h3, (hb.cell hB).trans h4⟩, (hb.frozen hB).trans f1, (hb.frozen hB).trans f2, (hb.frozen hB).trans f3, (hb.frozen hB).trans f4⟩
theorem LiesV.new (W : World) (v : Val) (t : TypeId) : LiesV (W.alloc (.cells #[.int .i64 v.kind, .int .i64 v.int, .float .f64 v.flt, .string v.text] t)) W.heap.size 0 v := by
  have hb := World.alloc_heap_new W (.cells #[.int .i64 v.kind, .int .i64 v.int, .float .f64 v.flt, .string v.text] t)
  refine ⟨⟨?_, ?_, ?_, ?_⟩, ?_, ?_, ?_, ?_⟩
  all_goals (first | (simp only [World.cell?]; rw [hb]; rfl) | (simp only [World.frozen?]; rw [hb]; rfl))

theorem setCell_keep {W : World} {a b : Addr} {u v : Value} (h : W.cell? b = some v) (hne : a ≠ b) : (W.setCell a u).cell? b = some v := by
  rw [World.cell?_setCell_other W _ _ _ hne]; exact h
theorem off_ne {b x y : Nat} (h : x ≠ y) : (⟨b, x, none⟩ : Addr) ≠ ⟨b, y, none⟩ := fun e => h (by cases e; rfl)
/-- A whole value stored. -/
theorem LiesV.stored {W : World} {b off : Nat} {u : Val} (h : LiesV W b off u) (v : Val) :
    LiesV ((((W.setCell ⟨b, off, none⟩ (.int .i64 v.kind)).setCell ⟨b, off + 1, none⟩ (.int .i64 v.int)).setCell ⟨b, off + 2, none⟩ (.float .f64 v.flt)).setCell ⟨b, off + 3, none⟩ (.string v.text)) b off v := by
  obtain ⟨⟨h1, h2, h3, h4⟩, f1, f2, f3, f4⟩ := h
  have e1 := World.cell?_setCell_same W _ (.int .i64 v.kind) h1
  have e2 := World.cell?_setCell_same (W.setCell ⟨b, off, none⟩ (.int .i64 v.kind)) _ (.int .i64 v.int) (setCell_keep h2 (off_ne (by omega)))
  have e3 := World.cell?_setCell_same ((W.setCell ⟨b, off, none⟩ (.int .i64 v.kind)).setCell ⟨b, off + 1, none⟩ (.int .i64 v.int)) _ (.float .f64 v.flt) (setCell_keep (setCell_keep h3 (off_ne (by omega))) (off_ne (by omega)))
  have e4 := World.cell?_setCell_same (((W.setCell ⟨b, off, none⟩ (.int .i64 v.kind)).setCell ⟨b, off + 1, none⟩ (.int .i64 v.int)).setCell ⟨b, off + 2, none⟩ (.float .f64 v.flt)) _ (.string v.text) (setCell_keep (setCell_keep (setCell_keep h4 (off_ne (by omega))) (off_ne (by omega))) (off_ne (by omega)))
  refine ⟨⟨?_, ?_, ?_, e4⟩, by simpa using f1, by simpa using f2, by simpa using f3, by simpa using f4⟩
  · exact setCell_keep (setCell_keep (setCell_keep e1 (off_ne (by omega))) (off_ne (by omega))) (off_ne (by omega))
  · exact setCell_keep (setCell_keep e2 (off_ne (by omega))) (off_ne (by omega))
  · exact setCell_keep e3 (off_ne (by omega))
/-- One field stored. -/
theorem LiesV.storedF {W : World} {b off : Nat} {v : Val} (h : LiesV W b off v) (f : Nat) : LiesV (W.setCell ⟨b, off + 2, none⟩ (.float .f64 f)) b off { v with flt := f } := by
  obtain ⟨⟨h1, h2, h3, h4⟩, f1, f2, f3, f4⟩ := h
  exact ⟨⟨setCell_keep h1 (off_ne (by omega)), setCell_keep h2 (off_ne (by omega)), World.cell?_setCell_same W _ _ h3, setCell_keep h4 (off_ne (by omega))⟩, by simpa using f1, by simpa using f2, by simpa using f3, by simpa using f4⟩
/-- A store elsewhere. -/
theorem LiesV.other {W : World} {b off : Nat} {v : Val} (h : LiesV W b off v) {a : Addr} {u : Value} (hne : a.block ≠ b) : LiesV (W.setCell a u) b off v := by
  obtain ⟨⟨h1, h2, h3, h4⟩, f1, f2, f3, f4⟩ := h
  have hn : ∀ x, a ≠ ⟨b, x, none⟩ := fun x e => hne (by rw [e])
  exact ⟨⟨setCell_keep h1 (hn _), setCell_keep h2 (hn _), setCell_keep h3 (hn _), setCell_keep h4 (hn _)⟩, by simpa using f1, by simpa using f2, by simpa using f3, by simpa using f4⟩

theorem below_val {B : Nat} {a W : World} {b off : Nat} (h : Below B a W) (hb : B ≤ b) (x0 x1 x2 x3 : Value) : Below B a ((((W.setCell ⟨b, off, none⟩ x0).setCell ⟨b, off + 1, none⟩ x1).setCell ⟨b, off + 2, none⟩ x2).setCell ⟨b, off + 3, none⟩ x3) :=
  (((h.setCell (p := ⟨b, off, none⟩) hb x0).setCell (p := ⟨b, off + 1, none⟩) hb x1).setCell (p := ⟨b, off + 2, none⟩) hb x2).setCell (p := ⟨b, off + 3, none⟩) hb x3

theorem load_val {W : World} {b off : Nat} {v : Val} (h : LiesV W b off v) : (loadVar 28 ⟨b, off, none⟩).run Try.prog W = .ok v.agg W := by
  obtain ⟨⟨h1, h2, h3, h4⟩, _⟩ := h
  have u := Try.underlying28
  have a := Try.isAgg28
  have z := Try.sizeOf28
  unfold Val.agg
  go_simp

theorem ret_val {fn : Func} {p : Tmp} (hr : fn.results = #[.cell p 28]) {R : Ending → World → Prop} {a : Act} {W : World} {b : Nat} {v : Val} (hp : a.tmps.getD p undef = .pointer (some ⟨b, 0, none⟩)) (hd : a.defers = [])
    (hL : LiesV W b 0 v) (h : R (.returned v.agg) W) : bodyPost Try.prog fn R .ret a W := by
  refine bodyPost_ret ?_ hd h
  have hp' : a.tmps[p]?.getD undef = .pointer (some ⟨b, 0, none⟩) := by simpa using hp
  simp [results, hr, hp', asAddr, load_val hL]

set_option maxHeartbeats 1000000 in
theorem Plain_any (v : Val) (hv : v.wf) (w : World) : Calls Try.prog 42 #[v.agg] w fun e w' => e = .returned (plainV v).agg ∧ Below w.heap.size w w' := by
  have HRI := Lib.hid (fun W => Right_any v hv W)
  obtain ⟨p, hp⟩ : ∃ p, p = plainV v := ⟨_, rfl⟩
  obtain ⟨r, hr⟩ : ∃ r, r = rightV v := ⟨_, rfl⟩
  rw [← hr] at HRI
  rw [← hp]
  unfold plainV at hp
  rw [← hr] at hp
  clear hr hv
  have HL := Lib.hid (((LiesV.new w v 28).below (B := w.heap.size + 1) ((Below.refl _ _).alloc (by simp) (.cells #[.int .i64 0, .int .i64 0, .float .f64 0, .string ⟨#[]⟩] 28)) (Nat.lt_succ_self _)))
  have HN := Lib.hid (LiesV.new (w.alloc (.cells #[.int .i64 v.kind, .int .i64 v.int, .float .f64 v.flt, .string v.text] 28)) Val.null 28)
  have HB0 := Lib.hid (((Below.refl _ w).alloc (Nat.le_refl _) (.cells #[.int .i64 v.kind, .int .i64 v.int, .float .f64 v.flt, .string v.text] 28)).alloc (by simp) (.cells #[.int .i64 0, .int .i64 0, .float .f64 0, .string ⟨#[]⟩] 28))
  obtain ⟨k, n, f, s⟩ := v
  unfold Val.agg Val.null at *
  simp only at *
  have HNN := Lib.hid (isNaN_any f)
  have hoz := order_zero f
  cases r with
  | false =>
    rw [if_neg (by simp)] at hp
    subst hp
    go_enter Try.func42, Try.ntmps42
    go_wp2_with (first | (go_at_call 21; refine (HRI.out _).mono ?_; rintro e w1 ⟨rfl, hb⟩; have HB1 := Lib.hid (HB0.out.trans (hb.mono HB0.out.size)); obtain ⟨⟨r1, r2, r3, r4⟩, g1, g2, g3, g4⟩ := HN.out.below hb (by simp); obtain ⟨⟨l1, l2, l3, l4⟩, m1, m2, m3, m4⟩ := HL.out.below hb (by simp; omega); simp only [World.size_alloc, Nat.zero_add] at r1 r2 r3 r4 g1 g2 g3 g4 l1 l2 l3 l4 m1 m2 m3 m4; clear hb) | (go_at_call 58; refine (HNN.out _).mono ?_; rintro e w' ⟨rfl, rfl⟩))
    refine ret_val Try.results42 rfl rfl ((show LiesV w1 (w.heap.size + 1) 0 Val.null from ⟨⟨r1, r2, r3, r4⟩, g1, g2, g3, g4⟩).stored Val.null) ⟨rfl, ?_⟩
    exact below_val HB1.out (by omega) _ _ _ _
  | true =>
    rw [if_pos rfl] at hp
    by_cases hk : k = 3
    · subst hk
      rw [if_pos rfl] at hp
      cases hn : nanB f with
      | true =>
        rw [hn] at HNN
        rw [hn, if_pos rfl] at hp
        subst hp
        clear hoz hn
        go_enter Try.func42, Try.ntmps42
        go_wp2_with (first | (go_at_call 21; refine (HRI.out _).mono ?_; rintro e w1 ⟨rfl, hb⟩; have HB1 := Lib.hid (HB0.out.trans (hb.mono HB0.out.size)); obtain ⟨⟨r1, r2, r3, r4⟩, g1, g2, g3, g4⟩ := HN.out.below hb (by simp); obtain ⟨⟨l1, l2, l3, l4⟩, m1, m2, m3, m4⟩ := HL.out.below hb (by simp; omega); simp only [World.size_alloc, Nat.zero_add] at r1 r2 r3 r4 g1 g2 g3 g4 l1 l2 l3 l4 m1 m2 m3 m4; clear hb) | (go_at_call 58; refine (HNN.out _).mono ?_; rintro e w' ⟨rfl, rfl⟩))
        refine ret_val Try.results42 rfl rfl (((show LiesV w1 (w.heap.size + 1) 0 Val.null from ⟨⟨r1, r2, r3, r4⟩, g1, g2, g3, g4⟩).other (a := ⟨w.heap.size, 2, none⟩) (u := .float .f64 9221120237041090561) (by simp)).stored ⟨3, n, 9221120237041090561, s⟩) ⟨rfl, ?_⟩
        exact below_val (HB1.out.setCell (p := ⟨w.heap.size, 2, none⟩) (Nat.le_refl _) _) (by omega) _ _ _ _
      | false =>
        rw [hn] at HNN
        rw [hn, if_neg (by simp)] at hp
        by_cases hz : f % 9223372036854775808 = 0
        · rw [if_pos hz] at hp
          rw [decide_eq_true hz] at hoz
          subst hp
          clear hn hz
          go_enter Try.func42, Try.ntmps42
          go_wp2_with (first | (go_at_call 21; refine (HRI.out _).mono ?_; rintro e w1 ⟨rfl, hb⟩; have HB1 := Lib.hid (HB0.out.trans (hb.mono HB0.out.size)); obtain ⟨⟨r1, r2, r3, r4⟩, g1, g2, g3, g4⟩ := HN.out.below hb (by simp); obtain ⟨⟨l1, l2, l3, l4⟩, m1, m2, m3, m4⟩ := HL.out.below hb (by simp; omega); simp only [World.size_alloc, Nat.zero_add] at r1 r2 r3 r4 g1 g2 g3 g4 l1 l2 l3 l4 m1 m2 m3 m4; clear hb) | (go_at_call 58; refine (HNN.out _).mono ?_; rintro e w' ⟨rfl, rfl⟩))
          refine ret_val Try.results42 rfl rfl (((show LiesV w1 (w.heap.size + 1) 0 Val.null from ⟨⟨r1, r2, r3, r4⟩, g1, g2, g3, g4⟩).other (a := ⟨w.heap.size, 2, none⟩) (u := .float .f64 0) (by simp)).stored ⟨3, n, 0, s⟩) ⟨rfl, ?_⟩
          exact below_val (HB1.out.setCell (p := ⟨w.heap.size, 2, none⟩) (Nat.le_refl _) _) (by omega) _ _ _ _
        · rw [if_neg hz] at hp
          rw [decide_eq_false hz] at hoz
          subst hp
          clear hn hz
          go_enter Try.func42, Try.ntmps42
          go_wp2_with (first | (go_at_call 21; refine (HRI.out _).mono ?_; rintro e w1 ⟨rfl, hb⟩; have HB1 := Lib.hid (HB0.out.trans (hb.mono HB0.out.size)); obtain ⟨⟨r1, r2, r3, r4⟩, g1, g2, g3, g4⟩ := HN.out.below hb (by simp); obtain ⟨⟨l1, l2, l3, l4⟩, m1, m2, m3, m4⟩ := HL.out.below hb (by simp; omega); simp only [World.size_alloc, Nat.zero_add] at r1 r2 r3 r4 g1 g2 g3 g4 l1 l2 l3 l4 m1 m2 m3 m4; clear hb) | (go_at_call 58; refine (HNN.out _).mono ?_; rintro e w' ⟨rfl, rfl⟩))
          refine ret_val Try.results42 rfl rfl ((show LiesV w1 (w.heap.size + 1) 0 Val.null from ⟨⟨r1, r2, r3, r4⟩, g1, g2, g3, g4⟩).stored ⟨3, n, f, s⟩) ⟨rfl, ?_⟩
          exact below_val HB1.out (by omega) _ _ _ _
    · rw [if_neg hk] at hp
      have hk3 : ((k : Int) == 3) = false := by simp; exact hk
      subst hp
      clear hoz hk
      go_enter Try.func42, Try.ntmps42
      go_wp2_with (first | (go_at_call 21; refine (HRI.out _).mono ?_; rintro e w1 ⟨rfl, hb⟩; have HB1 := Lib.hid (HB0.out.trans (hb.mono HB0.out.size)); obtain ⟨⟨r1, r2, r3, r4⟩, g1, g2, g3, g4⟩ := HN.out.below hb (by simp); obtain ⟨⟨l1, l2, l3, l4⟩, m1, m2, m3, m4⟩ := HL.out.below hb (by simp; omega); simp only [World.size_alloc, Nat.zero_add] at r1 r2 r3 r4 g1 g2 g3 g4 l1 l2 l3 l4 m1 m2 m3 m4; clear hb) | (go_at_call 58; refine (HNN.out _).mono ?_; rintro e w' ⟨rfl, rfl⟩))
      refine ret_val Try.results42 rfl rfl ((show LiesV w1 (w.heap.size + 1) 0 Val.null from ⟨⟨r1, r2, r3, r4⟩, g1, g2, g3, g4⟩).stored ⟨k, n, f, s⟩) ⟨rfl, ?_⟩
      exact below_val HB1.out (by omega) _ _ _ _

/-- How two numbers stand to one another. -/
def cmpI (a b : Int) : Int := if a < b then -1 else if b < a then 1 else 0

theorem isNaNInt_any (n : Int) (w : World) : Calls Try.prog 60 #[.int .i64 n] w fun e w' => e = .returned (.bool false) ∧ w = w' := by
  go_enter Try.func60, Try.ntmps60
  go_wp2
  go_ret
  exact ⟨by simp, rfl⟩
theorem isNaNInt64_any (n : Int) (w : World) : Calls Try.prog 62 #[.int .i64 n] w fun e w' => e = .returned (.bool false) ∧ w = w' := by
  go_enter Try.func62, Try.ntmps62
  go_wp2
  go_ret
  exact ⟨by simp, rfl⟩
theorem isNaNStr_any (s : ByteArray) (w : World) : Calls Try.prog 61 #[.string s] w fun e w' => e = .returned (.bool false) ∧ w = w' := by
  go_enter Try.func61, Try.ntmps61
  go_wp2
  go_ret
  exact ⟨by simp, rfl⟩

theorem cmpInt_any (a b : Int) (w : World) : Calls Try.prog 43 #[.int .i64 a, .int .i64 b] w fun e w' => e = .returned (.int .i64 (cmpI a b)) ∧ w = w' := by
  unfold cmpI
  go_enter Try.func43, Try.ntmps43
  go_wp2_with (go_at_call 60; refine (isNaNInt_any _ _).mono ?_; rintro e w' ⟨rfl, rfl⟩)
  all_goals go_ret
  all_goals exact ⟨by simp_all <;> omega, rfl⟩
theorem cmpInt64_any (a b : Int) (w : World) : Calls Try.prog 46 #[.int .i64 a, .int .i64 b] w fun e w' => e = .returned (.int .i64 (cmpI a b)) ∧ w = w' := by
  unfold cmpI
  go_enter Try.func46, Try.ntmps46
  go_wp2_with (go_at_call 62; refine (isNaNInt64_any _ _).mono ?_; rintro e w' ⟨rfl, rfl⟩)
  all_goals go_ret
  all_goals exact ⟨by simp_all <;> omega, rfl⟩

/-- How two texts stand to one another. -/
def cmpS (a b : ByteArray) : Int := if Op.bytesLess a.toList b.toList then -1 else if a.toList == b.toList then 0 else 1

theorem cmpStr_any (a b : ByteArray) (w : World) : Calls Try.prog 45 #[.string a, .string b] w fun e w' => e = .returned (.int .i64 (cmpS a b)) ∧ w = w' := by
  unfold cmpS
  go_enter Try.func45, Try.ntmps45
  go_wp2_with (go_at_call 61; refine (isNaNStr_any _ _).mono ?_; rintro e w' ⟨rfl, rfl⟩)
  all_goals go_ret
  all_goals exact ⟨by simp_all, rfl⟩

/-- How two floats stand to one another, as values. -/
def cmpF (a b : Nat) : Int :=
  if nanB a then (if nanB b then 0 else 1) else if nanB b then -1 else if FloatKind.f64.format.order a b == some .lt then -1 else if FloatKind.f64.format.order a b == some .gt then 1 else 0

theorem floats_any (a b : Nat) (w : World) : Calls Try.prog 44 #[.float .f64 a, .float .f64 b] w fun e w' => e = .returned (.int .i64 (cmpF a b)) ∧ w = w' := by
  have HN := Lib.hid isNaN_any
  unfold cmpF
  go_enter Try.func44, Try.ntmps44
  go_wp2_with (go_at_call 58; refine (HN.out _ _).mono ?_; rintro e w' ⟨rfl, rfl⟩)
  all_goals go_ret
  all_goals exact ⟨by simp_all, rfl⟩
end Go.Proofs.Ytaanejhpodbdnaa
