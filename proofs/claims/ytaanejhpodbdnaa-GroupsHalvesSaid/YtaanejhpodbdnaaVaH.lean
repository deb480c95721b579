/- The chooser takes a value in. -/
import Derived.Test.YtaanejhpodbdnaaVaG
import Derived.Deep.QuietTactic
import Derived.BigQuiet
import Derived.Deep.RegionHeld3
namespace Go.Proofs.Ytaanejhpodbdnaa
open Go.RowKit
set_option maxRecDepth 100000
attribute [local go_sem] run_store_float

theorem Cmp_exp (k n : Int) (f : Nat) (s : ByteArray) (k' n' : Int) (f' : Nat) (s' : ByteArray) (ha : Val.wf ⟨k, n, f, s⟩) (hb : Val.wf ⟨k', n', f', s'⟩) (w : World) : Calls Try.prog 27 #[.agg #[.int .i64 k, .int .i64 n, .float .f64 f, .string s], .agg #[.int .i64 k', .int .i64 n', .float .f64 f', .string s']] w
    fun e w' => e = .returned (.int .i64 (cmpV ⟨k, n, f, s⟩ ⟨k', n', f', s'⟩)) ∧ Below w.heap.size w w' := Cmp_any _ _ ha hb w

/-- What a chooser keeps. -/
def chooseV (g : Int) (h v : Val) : Val := if h.kind = 0 then plainV v else if cmpV v h = g then plainV v else h

/-- A chooser's state at a call of take: its block, the parameter's box. -/
def ChSt (w : World) (b : Nat) (g : Int) (h v : Val) (W : World) : Prop := ChooseAt W b g h ∧ LiesV W w.heap.size 0 v ∧ Below b w W ∧ w.heap.size < W.heap.size ∧ b < w.heap.size
theorem ChSt.next {w W W' : World} {b : Nat} {g : Int} {h v : Val} (x : ChSt w b g h v W) (hb : Below W.heap.size W W') : ChSt w b g h v W' :=
  ⟨x.1.next hb, x.2.1.below hb x.2.2.2.1, x.2.2.1.trans (hb.mono (Nat.le_of_lt x.1.2.2)), Nat.lt_of_lt_of_le x.2.2.2.1 hb.size, x.2.2.2.2⟩
theorem ChSt.drew {w W : World} {b : Nat} {g : Int} {h v : Val} (x : ChSt w b g h v W) : ChSt w b g h v W.drew := x.next (Below.refl _ W).drew
theorem ChSt.start {w : World} {b : Nat} {g : Int} {h : Val} (x : ChooseAt w b g h) (v : Val) (t : TypeId) : ChSt w b g h v (w.alloc (.cells #[.int .i64 v.kind, .int .i64 v.int, .float .f64 v.flt, .string v.text] t)) := by
  have hb := (Below.refl w.heap.size w).alloc (Nat.le_refl _) (.cells #[.int .i64 v.kind, .int .i64 v.int, .float .f64 v.flt, .string v.text] t)
  exact ⟨x.next hb, LiesV.new w v t, hb.mono (Nat.le_of_lt x.2.2), by simp, x.2.2⟩
theorem ChSt.set {w W : World} {b : Nat} {g : Int} {h v : Val} (x : ChSt w b g h v W) (p : Val) :
    ChooseAt ((((W.setCell ⟨b, 1, none⟩ (.int .i64 p.kind)).setCell ⟨b, 2, none⟩ (.int .i64 p.int)).setCell ⟨b, 3, none⟩ (.float .f64 p.flt)).setCell ⟨b, 4, none⟩ (.string p.text)) b g p ∧
    Below b w ((((W.setCell ⟨b, 1, none⟩ (.int .i64 p.kind)).setCell ⟨b, 2, none⟩ (.int .i64 p.int)).setCell ⟨b, 3, none⟩ (.float .f64 p.flt)).setCell ⟨b, 4, none⟩ (.string p.text)) :=
  ⟨⟨setCell_keep (setCell_keep (setCell_keep (setCell_keep x.1.1 (off_ne (by omega))) (off_ne (by omega))) (off_ne (by omega))) (off_ne (by omega)), x.1.2.1.stored p, by simpa using x.1.2.2⟩, below_val (off := 1) x.2.2.1 (Nat.le_refl _) _ _ _ _⟩

theorem ChSt.conj {w W : World} {b : Nat} {g hk hn k m : Int} {hf f : Nat} {ht s : ByteArray} (x : ChSt w b g ⟨hk, hn, hf, ht⟩ ⟨k, m, f, s⟩ W) : W.cell? ⟨b, 0, none⟩ = some (.int .i64 g) ∧ W.cell? ⟨b, 1, none⟩ = some (.int .i64 hk) ∧ W.cell? ⟨b, 2, none⟩ = some (.int .i64 hn) ∧ W.cell? ⟨b, 3, none⟩ = some (.float .f64 hf) ∧ W.cell? ⟨b, 4, none⟩ = some (.string ht) ∧ W.cell? ⟨w.heap.size, 0, none⟩ = some (.int .i64 k) ∧ W.cell? ⟨w.heap.size, 1, none⟩ = some (.int .i64 m) ∧ W.cell? ⟨w.heap.size, 2, none⟩ = some (.float .f64 f) ∧ W.cell? ⟨w.heap.size, 3, none⟩ = some (.string s) ∧ Hid (ChSt w b g ⟨hk, hn, hf, ht⟩ ⟨k, m, f, s⟩ W) := by
  have X := Lib.hid x
  obtain ⟨⟨b0, ⟨⟨a1, a2, a3, a4⟩, _⟩, _⟩, ⟨⟨v1, v2, v3, v4⟩, _⟩, _⟩ := x
  simp only [Nat.zero_add, Nat.reduceAdd] at a1 a2 a3 a4 v1 v2 v3 v4
  exact ⟨b0, a1, a2, a3, a4, v1, v2, v3, v4, X⟩

theorem ChSt.of {w W : World} {b : Nat} {g hk hn k m : Int} {hf f : Nat} {ht s : ByteArray} (x : W.cell? ⟨b, 0, none⟩ = some (.int .i64 g) ∧ W.cell? ⟨b, 1, none⟩ = some (.int .i64 hk) ∧ W.cell? ⟨b, 2, none⟩ = some (.int .i64 hn) ∧ W.cell? ⟨b, 3, none⟩ = some (.float .f64 hf) ∧ W.cell? ⟨b, 4, none⟩ = some (.string ht) ∧ W.cell? ⟨w.heap.size, 0, none⟩ = some (.int .i64 k) ∧ W.cell? ⟨w.heap.size, 1, none⟩ = some (.int .i64 m) ∧ W.cell? ⟨w.heap.size, 2, none⟩ = some (.float .f64 f) ∧ W.cell? ⟨w.heap.size, 3, none⟩ = some (.string s) ∧ Hid (ChSt w b g ⟨hk, hn, hf, ht⟩ ⟨k, m, f, s⟩ W)) : ChSt w b g ⟨hk, hn, hf, ht⟩ ⟨k, m, f, s⟩ W := x.2.2.2.2.2.2.2.2.2.out

set_option maxHeartbeats 2000000 in
theorem choose_take (b : Nat) (g : Int) (h v : Val) (hh : h.wf) (hv : v.wf) (w : World) (x : ChooseAt w b g h) : Calls Try.prog 126 #[.pointer (some ⟨b, 0, none⟩), v.agg] w
    fun e w' => e = .returned (.int .i64 0) ∧ ChooseAt w' b g (chooseV g h v) ∧ Below b w w' := by
  have HS := Lib.hid (ChSt.start x v 28)
  clear x
  obtain ⟨c, hc⟩ : ∃ c, c = chooseV g h v := ⟨_, rfl⟩
  rw [← hc]
  unfold chooseV at hc
  obtain ⟨p, hp⟩ : ∃ p, p = plainV v := ⟨_, rfl⟩
  obtain ⟨z, hz⟩ : ∃ z, z = cmpV v h := ⟨_, rfl⟩
  rw [← hp, ← hz] at hc
  obtain ⟨hk, hn, hf, ht⟩ := h
  obtain ⟨k, m, f, s⟩ := v
  obtain ⟨pk, pn, pf, ps⟩ := p
  have HP := Lib.hid hp.symm
  have HZ := Lib.hid hz.symm
  obtain ⟨t, htt⟩ : ∃ t : Bool, t = (hk == 0 || z == g) := ⟨_, rfl⟩
  have HC := Lib.hid (show c = if t then ⟨pk, pn, pf, ps⟩ else ⟨hk, hn, hf, ht⟩ by
    rw [hc, htt]
    by_cases h1 : hk = 0
    · simp [h1]
    · by_cases h2 : z = g <;> simp [h1, h2])
  clear hp hz hc
  unfold Val.agg
  simp only at *
  obtain ⟨⟨b0, ⟨⟨a1, a2, a3, a4⟩, q1, q2, q3, q4⟩, _⟩, ⟨⟨v1, v2, v3, v4⟩, _⟩, _, _, _⟩ := HS.out
  simp only [Nat.zero_add, Nat.reduceAdd] at a1 a2 a3 a4 q1 q2 q3 q4 v1 v2 v3 v4
  go_enter Try.func126, Try.ntmps126
  go_upto_region 1 with fail
  go_cut [4, 23] from 5 to 22 (fun v t' W => v = .int .i64 0 ∧ t' = .bool t ∧ ChSt w b g ⟨hk, hn, hf, ht⟩ ⟨k, m, f, s⟩ W)
  case first =>
    by_cases h1 : hk = 0
    · have hk0 : ((hk : Int) == 0) = true := by simp; exact h1
      have : t = true := by rw [htt, hk0]; rfl
      subst this
      clear htt h1
      go_quiet (fail)
      go_wp2_with fail
      go_meet
      exact ⟨rfl, rfl, HS.out.next ⟨rfl, rfl, rfl, Nat.le_refl _, fun _ _ => rfl⟩⟩
    · have hk0 : ((hk : Int) == 0) = false := by simp; exact h1
      rw [hk0, Bool.false_or] at htt
      have HC := Lib.hid (fun (W : World) (hS : W.cell? ⟨b, 0, none⟩ = some (.int .i64 g) ∧ W.cell? ⟨b, 1, none⟩ = some (.int .i64 hk) ∧ W.cell? ⟨b, 2, none⟩ = some (.int .i64 hn) ∧ W.cell? ⟨b, 3, none⟩ = some (.float .f64 hf) ∧ W.cell? ⟨b, 4, none⟩ = some (.string ht) ∧ W.cell? ⟨w.heap.size, 0, none⟩ = some (.int .i64 k) ∧ W.cell? ⟨w.heap.size, 1, none⟩ = some (.int .i64 m) ∧ W.cell? ⟨w.heap.size, 2, none⟩ = some (.float .f64 f) ∧ W.cell? ⟨w.heap.size, 3, none⟩ = some (.string s) ∧ Hid (ChSt w b g ⟨hk, hn, hf, ht⟩ ⟨k, m, f, s⟩ W)) => (Cmp_exp k m f s hk hn hf ht hv hh W).mono (R' := fun e w' => e = .returned (.int .i64 z) ∧ (w'.cell? ⟨b, 0, none⟩ = some (.int .i64 g) ∧ w'.cell? ⟨b, 1, none⟩ = some (.int .i64 hk) ∧ w'.cell? ⟨b, 2, none⟩ = some (.int .i64 hn) ∧ w'.cell? ⟨b, 3, none⟩ = some (.float .f64 hf) ∧ w'.cell? ⟨b, 4, none⟩ = some (.string ht) ∧ w'.cell? ⟨w.heap.size, 0, none⟩ = some (.int .i64 k) ∧ w'.cell? ⟨w.heap.size, 1, none⟩ = some (.int .i64 m) ∧ w'.cell? ⟨w.heap.size, 2, none⟩ = some (.float .f64 f) ∧ w'.cell? ⟨w.heap.size, 3, none⟩ = some (.string s) ∧ Hid (ChSt w b g ⟨hk, hn, hf, ht⟩ ⟨k, m, f, s⟩ w'))) (fun e w' h => ⟨by rw [h.1, HZ.out], (hS.2.2.2.2.2.2.2.2.2.out.next h.2).conj⟩))
      go_region_held3 (fun W : World => W.cell? ⟨b, 0, none⟩ = some (.int .i64 g) ∧ W.cell? ⟨b, 1, none⟩ = some (.int .i64 hk) ∧ W.cell? ⟨b, 2, none⟩ = some (.int .i64 hn) ∧ W.cell? ⟨b, 3, none⟩ = some (.float .f64 hf) ∧ W.cell? ⟨b, 4, none⟩ = some (.string ht) ∧ W.cell? ⟨w.heap.size, 0, none⟩ = some (.int .i64 k) ∧ W.cell? ⟨w.heap.size, 1, none⟩ = some (.int .i64 m) ∧ W.cell? ⟨w.heap.size, 2, none⟩ = some (.float .f64 f) ∧ W.cell? ⟨w.heap.size, 3, none⟩ = some (.string s) ∧ Hid (ChSt w b g ⟨hk, hn, hf, ht⟩ ⟨k, m, f, s⟩ W)) (first | exact HS.out.drew.conj | assumption) (first | (go_at_call 27; refine (HC.out _ (by assumption)).mono ?_; rintro e wx ⟨rfl, hSx⟩))
      all_goals go_wp2_with fail
      all_goals go_meet
      all_goals exact ⟨rfl, by rw [htt], ChSt.of (by assumption)⟩
  case rest =>
    obtain ⟨rfl, rfl, hcut⟩ := hcut
    have HSC := Lib.hid hcut
    clear HS htt HZ a1 a2 a3 a4 q1 q2 q3 q4 v1 v2 v3 v4 b0
    obtain ⟨⟨b0, ⟨⟨a1, a2, a3, a4⟩, q1, q2, q3, q4⟩, _⟩, ⟨⟨v1, v2, v3, v4⟩, _⟩, _⟩ := hcut
    simp only [Nat.zero_add, Nat.reduceAdd] at a1 a2 a3 a4 q1 q2 q3 q4 v1 v2 v3 v4
    cases t with
    | true =>
      go_wp2_with (go_at_call 42; refine (Plain_exp _ _ _ _ (by assumption) _).mono ?_; rw [HP.out]; rintro e wx ⟨rfl, hbx⟩; have HX := Lib.hid (HSC.out.next hbx); obtain ⟨⟨b0, ⟨⟨a1, a2, a3, a4⟩, q1, q2, q3, q4⟩, _⟩, _⟩ := HX.out; simp only [Nat.reduceAdd] at a1 a2 a3 a4 q1 q2 q3 q4; clear hbx)
      go_ret
      rw [HC.out]
      exact ⟨rfl, HX.out.set ⟨pk, pn, pf, ps⟩⟩
    | false =>
      go_wp2
      go_ret
      rw [HC.out]
      exact ⟨rfl, HSC.out.1, HSC.out.2.2.1⟩
end Go.Proofs.Ytaanejhpodbdnaa
