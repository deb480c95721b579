/- Part of the proof. -/
import Derived.Test.YtgmolmpfihkolaaGreatProg
import Derived.WalkKit
import Derived.WalkLawsBesides
import Derived.Lib.Hide
import Derived.Below
import Derived.Handy
import Derived.RangeFuncRecord
import Derived.Deep.DeepCutAuto
import Derived.Deep.CutBlock
import Derived.Deep.RegionWith
import Derived.Laws.ResultCell
import Derived.ChangeArms
import Derived.Deep.Slices
import Derived.ProofKit
import Derived.OpenShut
namespace Go.Proofs.YtgmolmpfihkolaaGreat
open Go.RowKit
set_option linter.unusedVariables false
theorem hdq {p : Prop} (h : p) : Hid p := Lib.hid h
structure Val where
 kind : Int
 int : Int
 flt : Nat
 text : ByteArray
instance : Inhabited Val := ⟨⟨0, 0, 0, ByteArray.empty⟩⟩
def Val.null : Val := ⟨0, 0, 0, ⟨#[]⟩⟩
def Val.num (n : Int) : Val := ⟨2, n, 0, ⟨#[]⟩⟩
def Val.wf (v : Val) : Prop := (Lit.int .i64 v.kind).wf = true ∧ (Lit.int .i64 v.int).wf = true ∧ v.flt < 2 ^ 64 ∧ v.text.size ≤ maxLen
def Val.agg (v : Val) : Value := .agg #[.int .i64 v.kind, .int .i64 v.int, .float .f64 v.flt, .string v.text]
theorem i64_bounds {n : Int} (h : (Lit.int .i64 n).wf = true) : -9223372036854775808 ≤ n ∧ n < 9223372036854775808 := by
 simp [Lit.wf, IntKind.min, IntKind.max, IntKind.signed, IntKind.bits] at h
 omega
def nanB (f : Nat) : Bool := decide (9218868437227405312 < f % 9223372036854775808)
theorem read_cases (f : Nat) : (FloatKind.f64.format.read f) = if f % 9223372036854775808 < 4503599627370496 then .number (f / 9223372036854775808 % 2 == 1) (f % 9223372036854775808) (-1074)
 else if f % 9223372036854775808 < 9218868437227405312 then .number (f / 9223372036854775808 % 2 == 1) (4503599627370496 + f % 9223372036854775808 % 4503599627370496) (-1074 + ((f % 9223372036854775808 / 4503599627370496 - 1 : Nat) : Int))
 else if f % 9223372036854775808 = 9218868437227405312 then .infinity (f / 9223372036854775808 % 2 == 1)
 else .nan (f / 9223372036854775808 % 2 == 1) (f % 9223372036854775808 - 9218868437227405312) := rfl
theorem cmp_self (n : Int) : compare n n = .eq := by
 rw [Int.compare_eq_eq]
theorem signed_zero (s : Bool) (m k : Nat) : (compare (Ieee.signed s m k) 0 = .eq) ↔ m = 0 := by
 rw [Int.compare_eq_eq]
 unfold Ieee.signed
 rw [Nat.shiftLeft_eq]
 have hp : 0 < 2 ^ k := Nat.pow_pos (by omega)
 constructor
 ·intro h
  have : m * 2 ^ k = 0 := by split at h <;> omega
  rcases Nat.mul_eq_zero.1 this with h | h
  ·exact h
  ·omega
 ·intro h; subst h; simp
theorem order_self (f : Nat) : (FloatKind.f64.format.order f f == some .eq) = !nanB f := by
 unfold Ieee.Format.order nanB
 rw [read_cases]
 split
 ·rename_i h
  simp [Ieee.Datum.order]; omega
 ·split
  ·rename_i h1 h2
   simp [Ieee.Datum.order]; omega
  ·split
   ·rename_i h1 h2 h3
    simp [Ieee.Datum.order]; omega
   ·rename_i h1 h2 h3
    simp [Ieee.Datum.order]; omega
theorem read_zero : FloatKind.f64.format.read 0 = .number false 0 (-1074) := rfl
theorem order_zero (f : Nat) : (FloatKind.f64.format.order f 0 == some .eq) = decide (f % 9223372036854775808 = 0) := by
 unfold Ieee.Format.order
 rw [read_zero, read_cases]
 split
 ·rename_i h
  have := signed_zero (f / 9223372036854775808 % 2 == 1) (f % 9223372036854775808) 0
  simp only [Ieee.Datum.order]
  by_cases h0 : f % 9223372036854775808 = 0
  ·have h1 := this.2 h0
   simp [h0, Ieee.signed] at h1 ⊢
  ·have h1 : ¬ compare (Ieee.signed (f / 9223372036854775808 % 2 == 1) (f % 9223372036854775808) 0) 0 = .eq := fun e => h0 (this.1 e)
   have e0 : Ieee.signed false 0 0 = 0 := rfl
   simp [h0, e0, h1]
 ·split
  ·rename_i h1 h2
   simp only [Ieee.Datum.order]
   have e0 : ∀ k, Ieee.signed false 0 k = 0 := fun k => by simp [Ieee.signed]
   rw [e0]
   generalize (-1074 + ((f % 9223372036854775808 / 4503599627370496 - 1 : Nat) : Int) - min (-1074 + ((f % 9223372036854775808 / 4503599627370496 - 1 : Nat) : Int)) (-1074)).toNat = k
   have := signed_zero (f / 9223372036854775808 % 2 == 1) (4503599627370496 + f % 9223372036854775808 % 4503599627370496) k
   have h0 : ¬ f % 9223372036854775808 = 0 := by omega
   have h3 : ¬ compare (Ieee.signed (f / 9223372036854775808 % 2 == 1) (4503599627370496 + f % 9223372036854775808 % 4503599627370496) k) 0 = .eq := fun e => by have := this.1 e; omega
   rw [decide_eq_false h0]
   exact beq_eq_false_iff_ne.2 (fun e => h3 (Option.some.inj e))
  ·split
   ·rename_i h1 h2 h3
    have h0 : ¬ f % 9223372036854775808 = 0 := by omega
    simp only [Ieee.Datum.order, h0, decide_false]
    cases (f / 9223372036854775808 % 2 == 1) <;> rfl
   ·rename_i h1 h2 h3
    simp [Ieee.Datum.order]; omega
end Go.Proofs.YtgmolmpfihkolaaGreat
namespace Go.Proofs.YtgmolmpfihkolaaGreat
open Go.RowKit
set_option maxRecDepth 100000
def rightV (v : Val) : Bool :=
 (v.kind == 0 && (v.int == 0 && (v.flt == 0 && v.text.toList.isEmpty))) || (v.kind == 1 && ((v.int == 0 || v.int == 1) && (v.flt == 0 && v.text.toList.isEmpty))) || (v.kind == 2 && (v.flt == 0 && v.text.toList.isEmpty)) ||
 (v.kind == 3 && (v.int == 0 && v.text.toList.isEmpty)) || (v.kind == 4 && (v.int == 0 && (v.flt == 0 && decide (v.text.size ≤ 64))))
theorem isNaN_any (f : Nat) (w : World) : Calls Tryz.prog 61 #[.float .f64 f] w fun e w' => e = .returned (.bool (nanB f)) ∧ w = w' := by
 have h := order_self f
 have h' : (FloatKind.f64.format.order f f != some .eq) = nanB f := by rw [bne, h, Bool.not_not]
 clear h
 go_enter Tryz.func61, Tryz.ntmps61
 go_wp2
 go_ret
 exact ⟨rfl, rfl⟩
theorem run_f64bits (f : Nat) (w : World) : (callFunc 59 #[.float .f64 f]).run Tryz.prog w = .ok (.value (.int .u64 (f : Int))) w := by
 rw [run_callFunc_extern (e := Extern.MathFloatBits.float64bits) Tryz.func59 (by kernel_rfl) (by kernel_rfl) (by kernel_rfl) (by kernel_rfl)]; rfl
theorem run_f64from (n : Int) (w : World) : (callFunc 58 #[.int .u64 n]).run Tryz.prog w = .ok (.value (.float .f64 n.toNat)) w := by
 rw [run_callFunc_extern (e := Extern.MathFloatBits.float64frombits) Tryz.func58 (by kernel_rfl) (by kernel_rfl) (by kernel_rfl) (by kernel_rfl)]; rfl
attribute [local go_sem] run_f64bits run_f64from
theorem signbit_any (f : Nat) (hf : f < 2 ^ 64) (w : World) : Calls Tryz.prog 90 #[.float .f64 f] w fun e w' => e = .returned (.bool (decide (9223372036854775808 ≤ f))) ∧ w = w' := by
 obtain ⟨z, hz⟩ : ∃ z, z = IntKind.i64.wrap (f : Int) := ⟨_, rfl⟩
 have hb : decide (z < 0) = decide (9223372036854775808 ≤ f) := by
  rw [hz, decide_eq_decide]
  simp [IntKind.wrap, IntKind.signed, IntKind.bits]
  omega
 have hw : IntKind.i64.wrap (f : Int) = z := hz.symm
 have hw2 : wrap64 (f : Int) = z := by rw [hz]; unfold wrap64; simp [IntKind.wrap, IntKind.signed, IntKind.bits]; omega
 rw [← hb]
 clear hz hb hf
 go_enter Tryz.func90, Tryz.ntmps90
 go_wp2
 go_ret
 exact ⟨rfl, rfl⟩
set_option maxHeartbeats 1000000 in
theorem Right_any (v : Val) (hv : v.wf) (w : World) : Calls Tryz.prog 60 #[v.agg] w fun e w' => e = .returned (.bool (rightV v)) ∧ Below w.heap.size w w' := by
 obtain ⟨k, n, f, s⟩ := v
 have hz := order_zero f
 have hf : f < 2 ^ 64 := hv.2.2.1
 unfold Val.agg rightV
 simp only
 have hS := hdq (fun W => signbit_any f hf W)
 obtain ⟨q, hq⟩ : ∃ q, q = decide (f % 9223372036854775808 = 0) := ⟨_, rfl⟩
 obtain ⟨g, hg⟩ : ∃ g, g = decide (9223372036854775808 ≤ f) := ⟨_, rfl⟩
 have hfz : (f == 0) = (q && !g) := by
  rw [hq, hg, Bool.eq_iff_iff]
  simp only [beq_iff_eq, Bool.and_eq_true, decide_eq_true_eq, Bool.not_eq_true', decide_eq_false_iff_not]
  omega
 rw [← hg] at hS
 rw [← hq] at hz
 have HF := hdq hfz
 rw [hfz]
 clear hq hg hfz hf hv
 cases q
 ·go_enter Tryz.func60, Tryz.ntmps60
  go_wp2_with (go_at_call 90; refine (hS.out _).mono ?_; rintro e w' ⟨rfl, rfl⟩)
  all_goals go_ret
  all_goals refine ⟨?_, (Below.refl _ w).alloc (Nat.le_refl _) _⟩
  all_goals (simp_all <;> omega)
 ·cases g
  ·go_enter Tryz.func60, Tryz.ntmps60
   go_wp2_with (go_at_call 90; refine (hS.out _).mono ?_; rintro e w' ⟨rfl, rfl⟩)
   all_goals go_ret
   all_goals refine ⟨?_, (Below.refl _ w).alloc (Nat.le_refl _) _⟩
   all_goals (simp_all <;> omega)
  ·go_enter Tryz.func60, Tryz.ntmps60
   go_wp2_with (go_at_call 90; refine (hS.out _).mono ?_; rintro e w' ⟨rfl, rfl⟩)
   all_goals go_ret
   all_goals refine ⟨?_, (Below.refl _ w).alloc (Nat.le_refl _) _⟩
   all_goals (simp_all <;> omega)
end Go.Proofs.YtgmolmpfihkolaaGreat
namespace Go.Proofs.YtgmolmpfihkolaaGreat
open Go.RowKit
set_option maxRecDepth 100000
attribute [local go_sem] run_f64bits run_f64from
theorem run_store_float (P : Program) (w : World) (a : Addr) (k : FloatKind) (b : Nat) (m : Mode) : (store a (.float k b) m).run P w = stored P w a (.float k b) m := run_store P w a _ m rfl
attribute [local go_sem] run_store_float
def plainV (v : Val) : Val :=
 if rightV v then (if v.kind = 3 then (if nanB v.flt then { v with flt := 9221120237041090561 } else if v.flt % 9223372036854775808 = 0 then { v with flt := 0 } else v) else v) else Val.null
def LiesV (W : World) (b off : Nat) (v : Val) : Prop :=
 (W.cell? ⟨b, off, none⟩ = some (.int .i64 v.kind) ∧ W.cell? ⟨b, off + 1, none⟩ = some (.int .i64 v.int) ∧ W.cell? ⟨b, off + 2, none⟩ = some (.float .f64 v.flt) ∧ W.cell? ⟨b, off + 3, none⟩ = some (.string v.text)) ∧
 (W.frozen? ⟨b, off, none⟩ = false ∧ W.frozen? ⟨b, off + 1, none⟩ = false ∧ W.frozen? ⟨b, off + 2, none⟩ = false ∧ W.frozen? ⟨b, off + 3, none⟩ = false)
theorem LiesV.below {B : Nat} {W W' : World} {b off : Nat} {v : Val} (h : LiesV W b off v) (hb : Below B W W') (hB : b < B) : LiesV W' b off v := by
 obtain ⟨⟨h1, h2, h3, h4⟩, f1, f2, f3, f4⟩ := h
 exact ⟨⟨(hb.cell hB).trans h1, (hb.cell hB).trans h2, (hb.cell hB).trans h3, (hb.cell hB).trans h4⟩, (hb.frozen hB).trans f1, (hb.frozen hB).trans f2, (hb.frozen hB).trans f3, (hb.frozen hB).trans f4⟩
theorem LiesV.new (W : World) (v : Val) (t : TypeId) : LiesV (W.alloc (.cells #[.int .i64 v.kind, .int .i64 v.int, .float .f64 v.flt, .string v.text] t)) W.heap.size 0 v := by
 have hb := World.alloc_heap_new W (.cells #[.int .i64 v.kind, .int .i64 v.int, .float .f64 v.flt, .string v.text] t)
 refine ⟨⟨?_, ?_, ?_, ?_⟩, ?_, ?_, ?_, ?_⟩
 all_goals (first | (simp only [World.cell?]; rw [hb]; rfl) | (simp only [World.frozen?]; rw [hb]; rfl))
theorem setCell_keep {W : World} {a b : Addr} {u v : Value} (h : W.cell? b = some v) (hne : a ≠ b) : (W.setCell a u).cell? b = some v := by
 rw [World.cell?_setCell_other W _ _ _ hne]; exact h
theorem off_ne {b x y : Nat} (h : x ≠ y) : (⟨b, x, none⟩ : Addr) ≠ ⟨b, y, none⟩ := fun e => h (by cases e; rfl)
theorem LiesV.stored {W : World} {b off : Nat} {u : Val} (h : LiesV W b off u) (v : Val) :
 LiesV ((((W.setCell ⟨b, off, none⟩ (.int .i64 v.kind)).setCell ⟨b, off + 1, none⟩ (.int .i64 v.int)).setCell ⟨b, off + 2, none⟩ (.float .f64 v.flt)).setCell ⟨b, off + 3, none⟩ (.string v.text)) b off v := by
 obtain ⟨⟨h1, h2, h3, h4⟩, f1, f2, f3, f4⟩ := h
 have e1 := World.cell?_setCell_same W _ (.int .i64 v.kind) h1
 have e2 := World.cell?_setCell_same (W.setCell ⟨b, off, none⟩ (.int .i64 v.kind)) _ (.int .i64 v.int) (setCell_keep h2 (off_ne (by omega)))
 have e3 := World.cell?_setCell_same ((W.setCell ⟨b, off, none⟩ (.int .i64 v.kind)).setCell ⟨b, off + 1, none⟩ (.int .i64 v.int)) _ (.float .f64 v.flt) (setCell_keep (setCell_keep h3 (off_ne (by omega))) (off_ne (by omega)))
 have e4 := World.cell?_setCell_same (((W.setCell ⟨b, off, none⟩ (.int .i64 v.kind)).setCell ⟨b, off + 1, none⟩ (.int .i64 v.int)).setCell ⟨b, off + 2, none⟩ (.float .f64 v.flt)) _ (.string v.text) (setCell_keep (setCell_keep (setCell_keep h4 (off_ne (by omega))) (off_ne (by omega))) (off_ne (by omega)))
 refine ⟨⟨?_, ?_, ?_, e4⟩, by simpa using f1, by simpa using f2, by simpa using f3, by simpa using f4⟩
 ·exact setCell_keep (setCell_keep (setCell_keep e1 (off_ne (by omega))) (off_ne (by omega))) (off_ne (by omega))
 ·exact setCell_keep (setCell_keep e2 (off_ne (by omega))) (off_ne (by omega))
 ·exact setCell_keep e3 (off_ne (by omega))
theorem LiesV.other {W : World} {b off : Nat} {v : Val} (h : LiesV W b off v) {a : Addr} {u : Value} (hne : a.block ≠ b) : LiesV (W.setCell a u) b off v := by
 obtain ⟨⟨h1, h2, h3, h4⟩, f1, f2, f3, f4⟩ := h
 have hn : ∀ x, a ≠ ⟨b, x, none⟩ := fun x e => hne (by rw [e])
 exact ⟨⟨setCell_keep h1 (hn _), setCell_keep h2 (hn _), setCell_keep h3 (hn _), setCell_keep h4 (hn _)⟩, by simpa using f1, by simpa using f2, by simpa using f3, by simpa using f4⟩
theorem below_val {B : Nat} {a W : World} {b off : Nat} (h : Below B a W) (hb : B ≤ b) (x0 x1 x2 x3 : Value) : Below B a ((((W.setCell ⟨b, off, none⟩ x0).setCell ⟨b, off + 1, none⟩ x1).setCell ⟨b, off + 2, none⟩ x2).setCell ⟨b, off + 3, none⟩ x3) :=
 (((h.setCell (p := ⟨b, off, none⟩) hb x0).setCell (p := ⟨b, off + 1, none⟩) hb x1).setCell (p := ⟨b, off + 2, none⟩) hb x2).setCell (p := ⟨b, off + 3, none⟩) hb x3
theorem load_val {W : World} {b off : Nat} {v : Val} (h : LiesV W b off v) : (loadVar 39 ⟨b, off, none⟩).run Tryz.prog W = .ok v.agg W := by
 obtain ⟨⟨h1, h2, h3, h4⟩, _⟩ := h
 have u := Tryz.underlying39
 have a := Tryz.isAgg39
 have z := Tryz.sizeOf39
 unfold Val.agg
 go_simp
theorem ret_val {fn : Func} {p : Tmp} (hr : fn.results = #[.cell p 39]) {R : Ending → World → Prop} {a : Act} {W : World} {b : Nat} {v : Val} (hp : a.tmps.getD p undef = .pointer (some ⟨b, 0, none⟩)) (hd : a.defers = [])
 (hL : LiesV W b 0 v) (h : R (.returned v.agg) W) : bodyPost Tryz.prog fn R .ret a W := by
 refine bodyPost_ret ?_ hd h
 have hp' : a.tmps[p]?.getD undef = .pointer (some ⟨b, 0, none⟩) := by simpa using hp
 simp [results, hr, hp', asAddr, load_val hL]
set_option maxHeartbeats 1000000 in
theorem Plain_any (v : Val) (hv : v.wf) (w : World) : Calls Tryz.prog 35 #[v.agg] w fun e w' => e = .returned (plainV v).agg ∧ Below w.heap.size w w' := by
 have HRI := hdq (fun W => Right_any v hv W)
 obtain ⟨p, hp⟩ : ∃ p, p = plainV v := ⟨_, rfl⟩
 obtain ⟨r, hr⟩ : ∃ r, r = rightV v := ⟨_, rfl⟩
 rw [← hr] at HRI
 rw [← hp]
 unfold plainV at hp
 rw [← hr] at hp
 clear hr hv
 have HL := hdq (((LiesV.new w v 39).below (B := w.heap.size + 1) ((Below.refl _ _).alloc (by simp) (.cells #[.int .i64 0, .int .i64 0, .float .f64 0, .string ⟨#[]⟩] 39)) (Nat.lt_succ_self _)))
 have HN := hdq (LiesV.new (w.alloc (.cells #[.int .i64 v.kind, .int .i64 v.int, .float .f64 v.flt, .string v.text] 39)) Val.null 39)
 have HB0 := hdq (((Below.refl _ w).alloc (Nat.le_refl _) (.cells #[.int .i64 v.kind, .int .i64 v.int, .float .f64 v.flt, .string v.text] 39)).alloc (by simp) (.cells #[.int .i64 0, .int .i64 0, .float .f64 0, .string ⟨#[]⟩] 39))
 obtain ⟨k, n, f, s⟩ := v
 unfold Val.agg Val.null at *
 simp only at *
 have HNN := hdq (isNaN_any f)
 have hoz := order_zero f
 cases r with
 | false =>
  rw [if_neg (by simp)] at hp
  subst hp
  go_enter Tryz.func35, Tryz.ntmps35
  go_wp2_with (first | (go_at_call 60; refine (HRI.out _).mono ?_; rintro e w1 ⟨rfl, hb⟩; have HB1 := hdq (HB0.out.trans (hb.mono HB0.out.size)); obtain ⟨⟨r1, r2, r3, r4⟩, g1, g2, g3, g4⟩ := HN.out.below hb (by simp); obtain ⟨⟨l1, l2, l3, l4⟩, m1, m2, m3, m4⟩ := HL.out.below hb (by simp; omega); simp only [World.size_alloc, Nat.zero_add] at r1 r2 r3 r4 g1 g2 g3 g4 l1 l2 l3 l4 m1 m2 m3 m4; clear hb) | (go_at_call 61; refine (HNN.out _).mono ?_; rintro e w' ⟨rfl, rfl⟩))
  refine ret_val Tryz.results35 rfl rfl ((show LiesV w1 (w.heap.size + 1) 0 Val.null from ⟨⟨r1, r2, r3, r4⟩, g1, g2, g3, g4⟩).stored Val.null) ⟨rfl, ?_⟩
  exact below_val HB1.out (by omega) _ _ _ _
 | true =>
  rw [if_pos rfl] at hp
  by_cases hk : k = 3
  ·subst hk
   rw [if_pos rfl] at hp
   cases hn : nanB f with
   | true =>
    rw [hn] at HNN
    rw [hn, if_pos rfl] at hp
    subst hp
    clear hoz hn
    go_enter Tryz.func35, Tryz.ntmps35
    go_wp2_with (first | (go_at_call 60; refine (HRI.out _).mono ?_; rintro e w1 ⟨rfl, hb⟩; have HB1 := hdq (HB0.out.trans (hb.mono HB0.out.size)); obtain ⟨⟨r1, r2, r3, r4⟩, g1, g2, g3, g4⟩ := HN.out.below hb (by simp); obtain ⟨⟨l1, l2, l3, l4⟩, m1, m2, m3, m4⟩ := HL.out.below hb (by simp; omega); simp only [World.size_alloc, Nat.zero_add] at r1 r2 r3 r4 g1 g2 g3 g4 l1 l2 l3 l4 m1 m2 m3 m4; clear hb) | (go_at_call 61; refine (HNN.out _).mono ?_; rintro e w' ⟨rfl, rfl⟩))
    refine ret_val Tryz.results35 rfl rfl (((show LiesV w1 (w.heap.size + 1) 0 Val.null from ⟨⟨r1, r2, r3, r4⟩, g1, g2, g3, g4⟩).other (a := ⟨w.heap.size, 2, none⟩) (u := .float .f64 9221120237041090561) (by simp)).stored ⟨3, n, 9221120237041090561, s⟩) ⟨rfl, ?_⟩
    exact below_val (HB1.out.setCell (p := ⟨w.heap.size, 2, none⟩) (Nat.le_refl _) _) (by omega) _ _ _ _
   | false =>
    rw [hn] at HNN
    rw [hn, if_neg (by simp)] at hp
    by_cases hz : f % 9223372036854775808 = 0
    ·rw [if_pos hz] at hp
     rw [decide_eq_true hz] at hoz
     subst hp
     clear hn hz
     go_enter Tryz.func35, Tryz.ntmps35
     go_wp2_with (first | (go_at_call 60; refine (HRI.out _).mono ?_; rintro e w1 ⟨rfl, hb⟩; have HB1 := hdq (HB0.out.trans (hb.mono HB0.out.size)); obtain ⟨⟨r1, r2, r3, r4⟩, g1, g2, g3, g4⟩ := HN.out.below hb (by simp); obtain ⟨⟨l1, l2, l3, l4⟩, m1, m2, m3, m4⟩ := HL.out.below hb (by simp; omega); simp only [World.size_alloc, Nat.zero_add] at r1 r2 r3 r4 g1 g2 g3 g4 l1 l2 l3 l4 m1 m2 m3 m4; clear hb) | (go_at_call 61; refine (HNN.out _).mono ?_; rintro e w' ⟨rfl, rfl⟩))
     refine ret_val Tryz.results35 rfl rfl (((show LiesV w1 (w.heap.size + 1) 0 Val.null from ⟨⟨r1, r2, r3, r4⟩, g1, g2, g3, g4⟩).other (a := ⟨w.heap.size, 2, none⟩) (u := .float .f64 0) (by simp)).stored ⟨3, n, 0, s⟩) ⟨rfl, ?_⟩
     exact below_val (HB1.out.setCell (p := ⟨w.heap.size, 2, none⟩) (Nat.le_refl _) _) (by omega) _ _ _ _
    ·rw [if_neg hz] at hp
     rw [decide_eq_false hz] at hoz
     subst hp
     clear hn hz
     go_enter Tryz.func35, Tryz.ntmps35
     go_wp2_with (first | (go_at_call 60; refine (HRI.out _).mono ?_; rintro e w1 ⟨rfl, hb⟩; have HB1 := hdq (HB0.out.trans (hb.mono HB0.out.size)); obtain ⟨⟨r1, r2, r3, r4⟩, g1, g2, g3, g4⟩ := HN.out.below hb (by simp); obtain ⟨⟨l1, l2, l3, l4⟩, m1, m2, m3, m4⟩ := HL.out.below hb (by simp; omega); simp only [World.size_alloc, Nat.zero_add] at r1 r2 r3 r4 g1 g2 g3 g4 l1 l2 l3 l4 m1 m2 m3 m4; clear hb) | (go_at_call 61; refine (HNN.out _).mono ?_; rintro e w' ⟨rfl, rfl⟩))
     refine ret_val Tryz.results35 rfl rfl ((show LiesV w1 (w.heap.size + 1) 0 Val.null from ⟨⟨r1, r2, r3, r4⟩, g1, g2, g3, g4⟩).stored ⟨3, n, f, s⟩) ⟨rfl, ?_⟩
     exact below_val HB1.out (by omega) _ _ _ _
  ·rw [if_neg hk] at hp
   have hk3 : ((k : Int) == 3) = false := by simp; exact hk
   subst hp
   clear hoz hk
   go_enter Tryz.func35, Tryz.ntmps35
   go_wp2_with (first | (go_at_call 60; refine (HRI.out _).mono ?_; rintro e w1 ⟨rfl, hb⟩; have HB1 := hdq (HB0.out.trans (hb.mono HB0.out.size)); obtain ⟨⟨r1, r2, r3, r4⟩, g1, g2, g3, g4⟩ := HN.out.below hb (by simp); obtain ⟨⟨l1, l2, l3, l4⟩, m1, m2, m3, m4⟩ := HL.out.below hb (by simp; omega); simp only [World.size_alloc, Nat.zero_add] at r1 r2 r3 r4 g1 g2 g3 g4 l1 l2 l3 l4 m1 m2 m3 m4; clear hb) | (go_at_call 61; refine (HNN.out _).mono ?_; rintro e w' ⟨rfl, rfl⟩))
   refine ret_val Tryz.results35 rfl rfl ((show LiesV w1 (w.heap.size + 1) 0 Val.null from ⟨⟨r1, r2, r3, r4⟩, g1, g2, g3, g4⟩).stored ⟨k, n, f, s⟩) ⟨rfl, ?_⟩
   exact below_val HB1.out (by omega) _ _ _ _
def cmpI (a b : Int) : Int := if a < b then -1 else if b < a then 1 else 0
theorem isNaNInt_any (n : Int) (w : World) : Calls Tryz.prog 77 #[.int .i64 n] w fun e w' => e = .returned (.bool false) ∧ w = w' := by
 go_enter Tryz.func77, Tryz.ntmps77
 go_wp2
 go_ret
 exact ⟨by simp, rfl⟩
theorem isNaNInt64_any (n : Int) (w : World) : Calls Tryz.prog 119 #[.int .i64 n] w fun e w' => e = .returned (.bool false) ∧ w = w' := by
 go_enter Tryz.func119, Tryz.ntmps119
 go_wp2
 go_ret
 exact ⟨by simp, rfl⟩
theorem isNaNStr_any (s : ByteArray) (w : World) : Calls Tryz.prog 118 #[.string s] w fun e w' => e = .returned (.bool false) ∧ w = w' := by
 go_enter Tryz.func118, Tryz.ntmps118
 go_wp2
 go_ret
 exact ⟨by simp, rfl⟩
theorem cmpInt_any (a b : Int) (w : World) : Calls Tryz.prog 50 #[.int .i64 a, .int .i64 b] w fun e w' => e = .returned (.int .i64 (cmpI a b)) ∧ w = w' := by
 unfold cmpI
 go_enter Tryz.func50, Tryz.ntmps50
 go_wp2_with (go_at_call 77; refine (isNaNInt_any _ _).mono ?_; rintro e w' ⟨rfl, rfl⟩)
 all_goals go_ret
 all_goals exact ⟨by simp_all <;> omega, rfl⟩
theorem cmpInt64_any (a b : Int) (w : World) : Calls Tryz.prog 87 #[.int .i64 a, .int .i64 b] w fun e w' => e = .returned (.int .i64 (cmpI a b)) ∧ w = w' := by
 unfold cmpI
 go_enter Tryz.func87, Tryz.ntmps87
 go_wp2_with (go_at_call 119; refine (isNaNInt64_any _ _).mono ?_; rintro e w' ⟨rfl, rfl⟩)
 all_goals go_ret
 all_goals exact ⟨by simp_all <;> omega, rfl⟩
def cmpS (a b : ByteArray) : Int := if Op.bytesLess a.toList b.toList then -1 else if a.toList == b.toList then 0 else 1
theorem cmpStr_any (a b : ByteArray) (w : World) : Calls Tryz.prog 86 #[.string a, .string b] w fun e w' => e = .returned (.int .i64 (cmpS a b)) ∧ w = w' := by
 unfold cmpS
 go_enter Tryz.func86, Tryz.ntmps86
 go_wp2_with (go_at_call 118; refine (isNaNStr_any _ _).mono ?_; rintro e w' ⟨rfl, rfl⟩)
 all_goals go_ret
 all_goals exact ⟨by simp_all, rfl⟩
def cmpF (a b : Nat) : Int :=
 if nanB a then (if nanB b then 0 else 1) else if nanB b then -1 else if FloatKind.f64.format.order a b == some .lt then -1 else if FloatKind.f64.format.order a b == some .gt then 1 else 0
theorem floats_any (a b : Nat) (w : World) : Calls Tryz.prog 85 #[.float .f64 a, .float .f64 b] w fun e w' => e = .returned (.int .i64 (cmpF a b)) ∧ w = w' := by
 have HN := hdq isNaN_any
 unfold cmpF
 go_enter Tryz.func85, Tryz.ntmps85
 go_wp2_with (go_at_call 61; refine (HN.out _ _).mono ?_; rintro e w' ⟨rfl, rfl⟩)
 all_goals go_ret
 all_goals exact ⟨by simp_all, rfl⟩
end Go.Proofs.YtgmolmpfihkolaaGreat
namespace Go.Proofs.YtgmolmpfihkolaaGreat
open Go.RowKit
set_option maxRecDepth 100000
attribute [local go_sem] run_store_float
def cmpP (a b : Val) : Int := if a.kind ≠ b.kind then cmpI a.kind b.kind else if a.kind = 3 then cmpF a.flt b.flt else if a.kind = 4 then cmpS a.text b.text else cmpI a.int b.int
def cmpV (a b : Val) : Int := cmpP (plainV a) (plainV b)
theorem Plain_exp (k n : Int) (f : Nat) (s : ByteArray) (hv : Val.wf ⟨k, n, f, s⟩) (w : World) : Calls Tryz.prog 35 #[.agg #[.int .i64 k, .int .i64 n, .float .f64 f, .string s]] w
 fun e w' => e = .returned (.agg #[.int .i64 (plainV ⟨k, n, f, s⟩).kind, .int .i64 (plainV ⟨k, n, f, s⟩).int, .float .f64 (plainV ⟨k, n, f, s⟩).flt, .string (plainV ⟨k, n, f, s⟩).text]) ∧ Below w.heap.size w w' := Plain_any _ hv w
def Two (w : World) (a b : Val) (W : World) : Prop := LiesV W w.heap.size 0 a ∧ LiesV W (w.heap.size + 1) 0 b ∧ Below w.heap.size w W ∧ w.heap.size + 1 < W.heap.size
theorem Two.start (w : World) (a b : Val) (t u : TypeId) : Two w a b ((w.alloc (.cells #[.int .i64 a.kind, .int .i64 a.int, .float .f64 a.flt, .string a.text] t)).alloc (.cells #[.int .i64 b.kind, .int .i64 b.int, .float .f64 b.flt, .string b.text] u)) := by
 refine ⟨((LiesV.new w a t).below (B := w.heap.size + 1) ((Below.refl _ _).alloc (by simp) _) (Nat.lt_succ_self _)), ?_, ((Below.refl _ w).alloc (Nat.le_refl _) _).alloc (by simp) _, by simp⟩
 have := LiesV.new (w.alloc (.cells #[.int .i64 a.kind, .int .i64 a.int, .float .f64 a.flt, .string a.text] t)) b u
 rw [World.size_alloc] at this
 exact this
theorem Two.later {w W W' : World} {a b : Val} (h : Two w a b W) (hb : Below W.heap.size W W') : Two w a b W' :=
 ⟨h.1.below hb (by have := h.2.2.2; omega), h.2.1.below hb h.2.2.2, h.2.2.1.trans (hb.mono h.2.2.1.size), Nat.lt_of_lt_of_le h.2.2.2 hb.size⟩
theorem Two.drew {w W : World} {a b : Val} (h : Two w a b W) : Two w a b W.drew := h.later (Below.refl _ W).drew
theorem Two.set1 {w W : World} {a b : Val} (h : Two w a b W) (a' : Val) : Two w a' b ((((W.setCell ⟨w.heap.size, 0, none⟩ (.int .i64 a'.kind)).setCell ⟨w.heap.size, 1, none⟩ (.int .i64 a'.int)).setCell ⟨w.heap.size, 2, none⟩ (.float .f64 a'.flt)).setCell ⟨w.heap.size, 3, none⟩ (.string a'.text)) :=
 ⟨h.1.stored a', (((h.2.1.other (by simp)).other (by simp)).other (by simp)).other (by simp), below_val h.2.2.1 (Nat.le_refl _) _ _ _ _, by simpa using h.2.2.2⟩
theorem Two.set2 {w W : World} {a b : Val} (h : Two w a b W) (b' : Val) : Two w a b' ((((W.setCell ⟨w.heap.size + 1, 0, none⟩ (.int .i64 b'.kind)).setCell ⟨w.heap.size + 1, 1, none⟩ (.int .i64 b'.int)).setCell ⟨w.heap.size + 1, 2, none⟩ (.float .f64 b'.flt)).setCell ⟨w.heap.size + 1, 3, none⟩ (.string b'.text)) :=
 ⟨(((h.1.other (by simp)).other (by simp)).other (by simp)).other (by simp), h.2.1.stored b', below_val h.2.2.1 (by omega) _ _ _ _, by simpa using h.2.2.2⟩
set_option maxHeartbeats 2000000 in
theorem Cmp_any (a b : Val) (ha : a.wf) (hb : b.wf) (w : World) : Calls Tryz.prog 55 #[a.agg, b.agg] w fun e w' => e = .returned (.int .i64 (cmpV a b)) ∧ Below w.heap.size w w' := by
 have HT := hdq (Two.start w a b 39 39)
 obtain ⟨r, hr⟩ : ∃ r, r = cmpV a b := ⟨_, rfl⟩
 rw [← hr]
 unfold cmpV at hr
 obtain ⟨k, n, f, s⟩ := a
 obtain ⟨k', n', f', s'⟩ := b
 obtain ⟨p, hp⟩ : ∃ p, p = plainV ⟨k, n, f, s⟩ := ⟨_, rfl⟩
 obtain ⟨q, hq⟩ : ∃ q, q = plainV ⟨k', n', f', s'⟩ := ⟨_, rfl⟩
 rw [← hp, ← hq] at hr
 obtain ⟨pk, pn, pf, ps⟩ := p
 obtain ⟨qk, qn, qf, qs⟩ := q
 have HP := hdq hp.symm
 have HQ := hdq hq.symm
 have HR := hdq hr
 clear hp hq hr
 unfold Val.agg
 simp only
 go_enter Tryz.func55, Tryz.ntmps55
 go_upto_region 1 with fail
 go_cut [4] from 5 to 8 (fun v W => v = .int .i64 0 ∧ Two w ⟨pk, pn, pf, ps⟩ ⟨qk, qn, qf, qs⟩ W)
 case first =>
  go_region_with (go_at_call 35; refine (Plain_exp _ _ _ _ (by assumption) _).mono ?_; (try rw [HP.out]); (try rw [HQ.out]); rintro e wx ⟨rfl, hbx⟩; (first | (have HT1 := hdq (HT.out.drew.later hbx); obtain ⟨⟨⟨l1, l2, l3, l4⟩, g1, g2, g3, g4⟩, ⟨⟨m1, m2, m3, m4⟩, q1, q2, q3, q4⟩, _, hsx⟩ := HT1.out) | (have HT2 := hdq (HT1.out.later hbx); obtain ⟨⟨⟨l1, l2, l3, l4⟩, g1, g2, g3, g4⟩, ⟨⟨m1, m2, m3, m4⟩, q1, q2, q3, q4⟩, _, hsx⟩ := HT2.out)); simp only [Nat.zero_add] at l1 l2 l3 l4 g1 g2 g3 g4 m1 m2 m3 m4 q1 q2 q3 q4; clear hbx)
  all_goals go_wp2_with fail
  all_goals go_meet
  all_goals exact ⟨rfl, (HT2.out.set1 ⟨pk, pn, pf, ps⟩).set2 ⟨qk, qn, qf, qs⟩⟩
 case rest =>
  clear HT HP HQ ha hb
  obtain ⟨rfl, hcut⟩ := hcut
  obtain ⟨⟨⟨l1, l2, l3, l4⟩, _⟩, ⟨⟨m1, m2, m3, m4⟩, _⟩, hbl, _⟩ := hcut
  simp only [Nat.zero_add] at l1 l2 l3 l4 m1 m2 m3 m4
  have HBL := hdq hbl
  have HC1 := hdq cmpInt_any
  have HC2 := hdq cmpInt64_any
  have HC3 := hdq cmpStr_any
  have HC4 := hdq floats_any
  clear hbl
  go_wp2_with (first | (go_at_call 50; refine (HC1.out _ _ _).mono ?_; rintro e w' ⟨rfl, rfl⟩) | (go_at_call 87; refine (HC2.out _ _ _).mono ?_; rintro e w' ⟨rfl, rfl⟩) | (go_at_call 86; refine (HC3.out _ _ _).mono ?_; rintro e w' ⟨rfl, rfl⟩) | (go_at_call 85; refine (HC4.out _ _ _).mono ?_; rintro e w' ⟨rfl, rfl⟩))
  all_goals go_ret
  all_goals refine ⟨?_, HBL.out⟩
  all_goals rw [HR.out]
  all_goals unfold cmpP
  all_goals simp_all
def cellsV (v : Val) : Array Value := #[.int .i64 v.kind, .int .i64 v.int, .float .f64 v.flt, .string v.text]
def Boxes (w : World) (l : List Val) (W : World) : Prop := (∀ i v, l[i]? = some v → LiesV W (w.heap.size + i) 0 v) ∧ Below w.heap.size w W ∧ w.heap.size + l.length ≤ W.heap.size
theorem Boxes.nil (w : World) : Boxes w [] w := ⟨fun i v h => by simp at h, Below.refl _ _, by simp⟩
theorem Boxes.later {w W W' : World} {l : List Val} (h : Boxes w l W) (hb : Below W.heap.size W W') : Boxes w l W' :=
 ⟨fun i v hi => (h.1 i v hi).below hb (by have := (List.getElem?_eq_some_iff.1 hi).1; have := h.2.2; omega), h.2.1.trans (hb.mono h.2.1.size), Nat.le_trans h.2.2 hb.size⟩
theorem Boxes.alloc {w W : World} {l : List Val} (h : Boxes w l W) (hs : W.heap.size = w.heap.size + l.length) (v : Val) (t : TypeId) : Boxes w (l ++ [v]) (W.alloc (.cells (cellsV v) t)) := by
 have h' := h.later ((Below.refl _ W).alloc (Nat.le_refl _) (.cells (cellsV v) t))
 refine ⟨fun i u hi => ?_, h'.2.1, by simp; omega⟩
 by_cases hil : i < l.length
 ·rw [List.getElem?_append_left hil] at hi
  exact h'.1 i u hi
 ·have hlt := (List.getElem?_eq_some_iff.1 hi).1
  rw [List.length_append, List.length_singleton] at hlt
  obtain rfl : i = l.length := by omega
  have : u = v := by simpa using hi.symm
  subst this
  rw [← hs]
  exact LiesV.new W u t
theorem ret_val2 {fn : Func} {p u : Tmp} (hr : fn.results = #[.cell p 39, .tmp u]) {R : Ending → World → Prop} {a : Act} {W : World} {b : Nat} {v : Val} {x : Value} (hp : a.tmps.getD p undef = .pointer (some ⟨b, 0, none⟩)) (hu : a.tmps.getD u undef = x) (hd : a.defers = [])
 (hL : LiesV W b 0 v) (h : R (.returned (.tuple #[v.agg, x])) W) : bodyPost Tryz.prog fn R .ret a W := by
 refine bodyPost_ret ?_ hd h
 rw [results_cell_tmp hr, hp, hu]
 simp [asAddr, load_val hL, Result.andThen]
theorem Number_any (n : Int) (w : World) : Calls Tryz.prog 30 #[.int .i64 n] w fun e w' => e = .returned (Val.num n).agg ∧ Below w.heap.size w w' := by
 have HB := hdq ((Boxes.nil w).alloc (by simp) Val.null 39)
 go_enter Tryz.func30, Tryz.ntmps30
 go_wp2
 exact ret_val Tryz.results30 rfl rfl (LiesV.new w (Val.num n) _) ⟨rfl, (Below.refl _ w).alloc (Nat.le_refl _) _⟩
theorem Number_exp (n : Int) (w : World) : Calls Tryz.prog 30 #[.int .i64 n] w fun e w' => e = .returned (.agg #[.int .i64 2, .int .i64 n, .float .f64 0, .string ⟨#[]⟩]) ∧ Below w.heap.size w w' := Number_any n w
def numV (v : Val) : Bool := rightV v && (v.kind != 1 && v.kind != 4)
theorem numeric_any (v : Val) (hv : v.wf) (w : World) : Calls Tryz.prog 113 #[v.agg] w fun e w' => e = .returned (.bool (numV v)) ∧ Below w.heap.size w w' := by
 have HRI := hdq (fun W => Right_any v hv W)
 unfold numV
 obtain ⟨r, hr⟩ : ∃ r, r = rightV v := ⟨_, rfl⟩
 rw [← hr] at HRI
 rw [← hr]
 clear hr hv
 have HL := hdq (LiesV.new w v 39)
 have HB0 := hdq ((Below.refl _ w).alloc (Nat.le_refl _) (.cells #[.int .i64 v.kind, .int .i64 v.int, .float .f64 v.flt, .string v.text] 39))
 obtain ⟨k, n, f, s⟩ := v
 unfold Val.agg at *
 simp only at *
 cases r
 all_goals go_enter Tryz.func113, Tryz.ntmps113
 all_goals go_wp2_with (go_at_call 60; refine (HRI.out _).mono ?_; rintro e w1 ⟨rfl, hb⟩; have HB1 := hdq (HB0.out.trans (hb.mono HB0.out.size)); obtain ⟨⟨l1, _, _, _⟩, _⟩ := HL.out.below hb (by simp); clear hb)
 all_goals go_ret
 all_goals exact ⟨by simp_all, HB1.out⟩
theorem numeric_exp (k n : Int) (f : Nat) (s : ByteArray) (hv : Val.wf ⟨k, n, f, s⟩) (w : World) : Calls Tryz.prog 113 #[.agg #[.int .i64 k, .int .i64 n, .float .f64 f, .string s]] w
 fun e w' => e = .returned (.bool (numV ⟨k, n, f, s⟩)) ∧ Below w.heap.size w w' := numeric_any _ hv w
theorem num_wf {n : Int} (h : (Lit.int .i64 n).wf = true) : (Val.num n).wf := ⟨by show (Lit.int .i64 2).wf = true; decide, h, by show 0 < 2 ^ 64; decide, by show (⟨#[]⟩ : ByteArray).size ≤ maxLen; exact Nat.zero_le _⟩
theorem null_wf : Val.null.wf := ⟨by decide, by decide, by decide, Nat.zero_le _⟩
theorem wrap_wf (n : Int) : (Lit.int .i64 (wrap64 n)).wf = true := by
 unfold wrap64
 simp [Lit.wf, IntKind.min, IntKind.max, IntKind.signed, IntKind.bits]
 omega
def Three (w : World) (a b r : Val) (W : World) : Prop := Two w a b W ∧ LiesV W (w.heap.size + 2) 0 r ∧ w.heap.size + 2 < W.heap.size
theorem Three.start (w : World) (a b r : Val) (t u x : TypeId) : Three w a b r (((w.alloc (.cells #[.int .i64 a.kind, .int .i64 a.int, .float .f64 a.flt, .string a.text] t)).alloc (.cells #[.int .i64 b.kind, .int .i64 b.int, .float .f64 b.flt, .string b.text] u)).alloc (.cells #[.int .i64 r.kind, .int .i64 r.int, .float .f64 r.flt, .string r.text] x)) := by
 have h := Two.start w a b t u
 have hs : w.heap.size + 2 = ((w.alloc (.cells #[.int .i64 a.kind, .int .i64 a.int, .float .f64 a.flt, .string a.text] t)).alloc (.cells #[.int .i64 b.kind, .int .i64 b.int, .float .f64 b.flt, .string b.text] u)).heap.size := by simp
 have h2 := LiesV.new ((w.alloc (.cells #[.int .i64 a.kind, .int .i64 a.int, .float .f64 a.flt, .string a.text] t)).alloc (.cells #[.int .i64 b.kind, .int .i64 b.int, .float .f64 b.flt, .string b.text] u)) r x
 rw [← hs] at h2
 exact ⟨h.later ((Below.refl _ _).alloc (Nat.le_refl _) _), h2, by simp⟩
theorem Three.later {w W W' : World} {a b r : Val} (h : Three w a b r W) (hb : Below W.heap.size W W') : Three w a b r W' :=
 ⟨h.1.later hb, h.2.1.below hb h.2.2, Nat.lt_of_lt_of_le h.2.2 hb.size⟩
theorem Three.below {w W : World} {a b r : Val} (h : Three w a b r W) : Below w.heap.size w W := h.1.2.2.1
end Go.Proofs.YtgmolmpfihkolaaGreat
namespace Go.Proofs.YtgmolmpfihkolaaGreat
open Go.RowKit
set_option maxRecDepth 100000
set_option linter.unusedVariables false
attribute [local go_sem] run_store_float
def HasV (W : World) (b off : Nat) (v : Val) : Prop :=
 W.cell? ⟨b, off, none⟩ = some (.int .i64 v.kind) ∧ W.cell? ⟨b, off + 1, none⟩ = some (.int .i64 v.int) ∧ W.cell? ⟨b, off + 2, none⟩ = some (.float .f64 v.flt) ∧ W.cell? ⟨b, off + 3, none⟩ = some (.string v.text)
theorem HasV.below {B : Nat} {W W' : World} {b off : Nat} {v : Val} (h : HasV W b off v) (hb : Below B W W') (hB : b < B) : HasV W' b off v :=
 ⟨(hb.cell hB).trans h.1, (hb.cell hB).trans h.2.1, (hb.cell hB).trans h.2.2.1, (hb.cell hB).trans h.2.2.2⟩
def RowV (W : World) (a : Option Addr) (len cap : Nat) (l : List Val) : Prop :=
 l.length = len ∧ len ≤ cap ∧ len ≤ maxLen ∧ (∀ v ∈ l, v.wf) ∧ (len = 0 ∨ ∃ b off, a = some ⟨b, off, none⟩ ∧ b < W.heap.size ∧ ∀ i v, l[i]? = some v → HasV W b (off + i * 4) v)
theorem RowV.later {W W' : World} {a : Option Addr} {len cap : Nat} {l : List Val} (h : RowV W a len cap l) (hb : Below W.heap.size W W') : RowV W' a len cap l := by
 obtain ⟨h1, h2, h3, h4, h5⟩ := h
 refine ⟨h1, h2, h3, h4, ?_⟩
 rcases h5 with h5 | ⟨b, off, e, hl, hc⟩
 ·exact .inl h5
 ·exact .inr ⟨b, off, e, Nat.lt_of_lt_of_le hl hb.size, fun i v hi => (hc i v hi).below hb hl⟩
theorem Right_exp (k n : Int) (f : Nat) (s : ByteArray) (hv : Val.wf ⟨k, n, f, s⟩) (w : World) : Calls Tryz.prog 60 #[.agg #[.int .i64 k, .int .i64 n, .float .f64 f, .string s]] w
 fun e w' => e = .returned (.bool (rightV ⟨k, n, f, s⟩)) ∧ Below w.heap.size w w' := Right_any _ hv w
theorem fold_row {w W : World} {a : Option Addr} {len cap k : Nat} {l : List Val} (h : RowV w a len cap l) (hb : Below w.heap.size w W) (hk : k < len) :
 ∃ b off, a = some ⟨b, off, none⟩ ∧ ∃ v, l[k]? = some v ∧ v.wf ∧ HasV W b (off + k * 4) v ∧ l.drop k = v :: l.drop (k + 1) := by
 obtain ⟨h1, _, _, h4, h5⟩ := h
 obtain ⟨b, off, rfl, hl, hc⟩ := h5.resolve_left (by omega)
 have hk' : k < l.length := by omega
 exact ⟨b, off, rfl, l[k], List.getElem?_eq_getElem hk', h4 _ (List.getElem_mem hk'), (hc k _ (List.getElem?_eq_getElem hk')).below hb hl, List.drop_eq_getElem_cons hk'⟩
theorem Cmp_exp (k n : Int) (f : Nat) (s : ByteArray) (k' n' : Int) (f' : Nat) (s' : ByteArray) (ha : Val.wf ⟨k, n, f, s⟩) (hb : Val.wf ⟨k', n', f', s'⟩) (w : World) : Calls Tryz.prog 55 #[.agg #[.int .i64 k, .int .i64 n, .float .f64 f, .string s], .agg #[.int .i64 k', .int .i64 n', .float .f64 f', .string s']] w
 fun e w' => e = .returned (.int .i64 (cmpV ⟨k, n, f, s⟩ ⟨k', n', f', s'⟩)) ∧ Below w.heap.size w w' := Cmp_any _ _ ha hb w
structure Slc where
 a : Option Addr
 len : Nat
 cap : Nat
 l : List Val
def RowsV (W : World) (a : Option Addr) (len cap : Nat) (ll : List Slc) : Prop :=
 ll.length = len ∧ len ≤ cap ∧ len ≤ maxLen ∧ (len = 0 ∨ ∃ b off, a = some ⟨b, off, none⟩ ∧ b < W.heap.size ∧ ∀ (i : Nat) (s : Slc), ll[i]? = some s → W.cell? ⟨b, off + i, none⟩ = some (.slice s.a s.len s.cap) ∧ RowV W s.a s.len s.cap s.l)
theorem RowsV.later {W W' : World} {a : Option Addr} {len cap : Nat} {ll : List Slc} (h : RowsV W a len cap ll) (hb : Below W.heap.size W W') : RowsV W' a len cap ll := by
 obtain ⟨h1, h2, h3, h4⟩ := h
 refine ⟨h1, h2, h3, ?_⟩
 rcases h4 with h4 | ⟨b, off, e, hl, hc⟩
 ·exact .inl h4
 ·exact .inr ⟨b, off, e, Nat.lt_of_lt_of_le hl hb.size, fun i s hi => ⟨(hb.cell hl).trans (hc i s hi).1, (hc i s hi).2.later hb⟩⟩
theorem first_new (W : World) (l : List Value) (x : Value) (t : TypeId) (h : l[0]? = some x) : (W.alloc (.cells ⟨l⟩ t)).cell? ⟨W.heap.size, 0, none⟩ = some x := by
 have hb := World.alloc_heap_new W (.cells ⟨l⟩ t)
 simp only [World.cell?]; rw [hb]; simpa using h
theorem RowV.get {W : World} {a : Option Addr} {len cap k : Nat} {l : List Val} (h : RowV W a len cap l) (hk : k < len) :
 ∃ b off, a = some ⟨b, off, none⟩ ∧ b < W.heap.size ∧ ∃ v, l[k]? = some v ∧ v.wf ∧ HasV W b (off + k * 4) v := by
 obtain ⟨h1, _, _, h4, h5⟩ := h
 obtain ⟨b, off, rfl, hl, hc⟩ := h5.resolve_left (by omega)
 have hk' : k < l.length := by omega
 exact ⟨b, off, rfl, hl, l[k], List.getElem?_eq_getElem hk', h4 _ (List.getElem_mem hk'), hc k _ (List.getElem?_eq_getElem hk')⟩
theorem plainV_wf (v : Val) (h : v.wf) : (plainV v).wf := by
 unfold plainV
 split
 ·split
  ·split
   ·exact ⟨h.1, h.2.1, by show 9221120237041090561 < 2 ^ 64; decide, h.2.2.2⟩
   ·split
    ·exact ⟨h.1, h.2.1, by show 0 < 2 ^ 64; decide, h.2.2.2⟩
    ·exact h
  ·exact h
 ·exact null_wf
end Go.Proofs.YtgmolmpfihkolaaGreat
namespace Go.Proofs.YtgmolmpfihkolaaGreat
open Go.ChangeShapes Go.WideShapes Go.ChangeAt Go.RowKit
set_option linter.unusedVariables false
set_option maxRecDepth 100000
theorem cells_val : Tryz.prog.cellsOf 39 = 4 := by kernel_rfl
theorem plain_addr {W : World} {a : Addr} {v : Value} (h : W.cell? a = some v) : a = ⟨a.block, a.off, none⟩ := by
 obtain ⟨b, o, sp⟩ := a
 cases sp with
 | none => rfl
 | some q =>
  simp only [World.cell?] at h
  split at h <;> simp at h
theorem addr_add (b off k : Nat) : (⟨b, off, none⟩ : Addr).add k = ⟨b, off + k, none⟩ := by
 by_cases h : k = 0
 ·subst h; rw [Addr.add, if_pos rfl, Nat.add_zero]
 ·rw [Addr.add, if_neg h]
section
variable {H : Type} {enc : TypeId × Value → H} {W : World} {base : Nat} {spare : Nat → Bool} {held : Bool}
theorem open_i64 {t : TypeId} (ht : Tryz.prog.underlying t = some (.int .i64)) {fuel : Nat} {c : Value} {x : DataW H × List MemPlace} (h : DataW.trod enc Tryz.prog W base spare held fuel t [c] = some x) :
 ∃ n, c = .int .i64 n ∧ (Lit.int .i64 n).wf = true := by
 cases fuel with
 | zero => simp [DataW.trod] at h
 | succ n =>
  unfold DataW.trod at h
  rw [ht] at h
  cases c <;> simp at h
  obtain ⟨⟨rfl, hw⟩, _⟩ := h
  exact ⟨_, rfl, hw⟩
theorem open_f64 {fuel : Nat} {c : Value} {x : DataW H × List MemPlace} (h : DataW.trod enc Tryz.prog W base spare held fuel 37 [c] = some x) :
 ∃ n, c = .float .f64 n ∧ (Lit.float .f64 n).wf = true := by
 cases fuel with
 | zero => simp [DataW.trod] at h
 | succ n =>
  unfold DataW.trod at h
  rw [Tryz.underlying37] at h
  cases c <;> simp at h
  obtain ⟨⟨rfl, hw⟩, _⟩ := h
  exact ⟨_, rfl, hw⟩
theorem open_str {fuel : Nat} {c : Value} {x : DataW H × List MemPlace} (h : DataW.trod enc Tryz.prog W base spare held fuel 9 [c] = some x) :
 ∃ s, c = .string s ∧ s.size ≤ maxLen := by
 cases fuel with
 | zero => simp [DataW.trod] at h
 | succ n =>
  unfold DataW.trod at h
  rw [Tryz.underlying9] at h
  cases c <;> simp at h
  exact ⟨_, rfl, h.1⟩
theorem open_val {fuel : Nat} {cs : List Value} {x : DataW H × List MemPlace} (h : DataW.trod enc Tryz.prog W base spare held fuel 39 cs = some x) :
 ∃ v : Val, cs = [.int .i64 v.kind, .int .i64 v.int, .float .f64 v.flt, .string v.text] ∧ v.wf := by
 cases fuel with
 | zero => simp [DataW.trod] at h
 | succ fuel =>
  obtain ⟨xs, n, hn, _, hl, hlen, hf⟩ := DataW.trod_struct Tryz.underlying39 h
  rw [cells_val] at hl
  obtain ⟨c0, c1, c2, c3, rfl⟩ : ∃ c0 c1 c2 c3, cs = [c0, c1, c2, c3] := by
   match cs, hl with
   | [c0, c1, c2, c3], _ => exact ⟨c0, c1, c2, c3, rfl⟩
  have f0 := hf 0 _ rfl
  have f1 := hf 1 _ rfl
  have f2 := hf 2 _ rfl
  have f3 := hf 3 _ rfl
  have hxl : xs.length = 4 := hlen
  obtain ⟨x0, x1, x2, x3, rfl⟩ : ∃ x0 x1 x2 x3, xs = [x0, x1, x2, x3] := by
   match xs, hxl with
   | [x0, x1, x2, x3], _ => exact ⟨x0, x1, x2, x3, rfl⟩
  simp only [List.getElem?_cons_zero, List.getElem?_cons_succ] at f0 f1 f2 f3
  obtain ⟨k0, rfl, w0⟩ := open_i64 Tryz.underlying3 f0
  obtain ⟨k1, rfl, w1⟩ := open_i64 Tryz.underlying2 f1
  obtain ⟨k2, rfl, w2⟩ := open_f64 f2
  obtain ⟨k3, rfl, w3⟩ := open_str f3
  refine ⟨⟨k0, k1, k2, k3⟩, rfl, w0, w1, ?_, w3⟩
  simpa [Lit.wf] using w2
end
end Go.Proofs.YtgmolmpfihkolaaGreat
