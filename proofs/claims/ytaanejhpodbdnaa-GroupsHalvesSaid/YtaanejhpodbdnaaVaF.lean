/- The folders: what takes values in. -/
import Derived.Test.YtaanejhpodbdnaaVaE
namespace Go.Proofs.Ytaanejhpodbdnaa
open Go.RowKit
set_option maxRecDepth 100000
attribute [local go_sem] run_store_float

theorem made_1 (w : World) : Calls Try.prog 20 #[.int .i64 1] w fun e w' => e = .returned (.iface 89 (.pointer (some ⟨w.heap.size, 0, none⟩))) ∧ w' = w.alloc (.cells #[.int .i64 0] 91) := by
  go_enter Try.func20, Try.ntmps20
  go_wp2
  go_ret
  exact ⟨rfl, rfl⟩
theorem made_2 (w : World) : Calls Try.prog 20 #[.int .i64 2] w fun e w' => e = .returned (.iface 92 (.pointer (some ⟨w.heap.size, 0, none⟩))) ∧ w' = w.alloc (.cells (cellsV Val.null) 94) := by
  go_enter Try.func20, Try.ntmps20
  go_wp2
  go_ret
  exact ⟨rfl, rfl⟩
theorem made_3 (w : World) : Calls Try.prog 20 #[.int .i64 3] w fun e w' => e = .returned (.iface 95 (.pointer (some ⟨w.heap.size, 0, none⟩))) ∧ w' = w.alloc (.cells #[.int .i64 (-1), .int .i64 0, .int .i64 0, .float .f64 0, .string ⟨#[]⟩] 97) := by
  go_enter Try.func20, Try.ntmps20
  go_wp2
  go_ret
  exact ⟨rfl, rfl⟩
theorem made_4 (w : World) : Calls Try.prog 20 #[.int .i64 4] w fun e w' => e = .returned (.iface 95 (.pointer (some ⟨w.heap.size, 0, none⟩))) ∧ w' = w.alloc (.cells #[.int .i64 1, .int .i64 0, .int .i64 0, .float .f64 0, .string ⟨#[]⟩] 97) := by
  go_enter Try.func20, Try.ntmps20
  go_wp2
  go_ret
  exact ⟨rfl, rfl⟩
theorem made_no (k : Int) (hk : ¬ (1 ≤ k ∧ k ≤ 4)) (w : World) : Calls Try.prog 20 #[.int .i64 k] w fun e w' => e = .returned .nilIface ∧ w' = w := by
  have z1 : ((k : Int) == 1) = false := by simp; omega
  have z2 : ((k : Int) == 2) = false := by simp; omega
  have z3 : ((k : Int) == 3) = false := by simp; omega
  have z4 : ((k : Int) == 4) = false := by simp; omega
  clear hk
  go_enter Try.func20, Try.ntmps20
  go_wp2
  go_ret
  exact ⟨rfl, rfl⟩

/-- A counter's block. -/
def CountAt (W : World) (b : Nat) (n : Int) : Prop := W.cell? ⟨b, 0, none⟩ = some (.int .i64 n) ∧ W.frozen? ⟨b, 0, none⟩ = false ∧ b < W.heap.size
theorem CountAt.later {W W' : World} {b : Nat} {n : Int} (h : CountAt W b n) (hb : Below (b + 1) W W') : CountAt W' b n :=
  ⟨(hb.cell (p := ⟨b, 0, none⟩) (Nat.lt_succ_self _)).trans h.1, (hb.frozen (p := ⟨b, 0, none⟩) (Nat.lt_succ_self _)).trans h.2.1, Nat.lt_of_lt_of_le h.2.2 hb.size⟩
theorem CountAt.set {W : World} {b : Nat} {n : Int} (h : CountAt W b n) (m : Int) : CountAt (W.setCell ⟨b, 0, none⟩ (.int .i64 m)) b m :=
  ⟨World.cell?_setCell_same W _ _ h.1, by rw [World.frozen?_setCell]; exact h.2.1, by simpa using h.2.2⟩
theorem count_take (b : Nat) (n : Int) (v : Val) (w : World) (h : CountAt w b n) : Calls Try.prog 122 #[.pointer (some ⟨b, 0, none⟩), v.agg] w
    fun e w' => e = .returned (.int .i64 0) ∧ CountAt w' b (wrap64 (n + 1)) ∧ Below b w w' := by
  obtain ⟨h1, h2, h3⟩ := h
  have hb := (Below.refl (b + 1) w).alloc (by omega) (.cells (cellsV v) 28)
  have c1 := (hb.cell (p := ⟨b, 0, none⟩) (Nat.lt_succ_self _)).trans h1
  have c2 := (hb.frozen (p := ⟨b, 0, none⟩) (Nat.lt_succ_self _)).trans h2
  have HB := Lib.hid hb
  unfold cellsV at c1 c2 HB
  unfold Val.agg
  clear hb
  go_enter Try.func122, Try.ntmps122
  go_wp2
  go_ret
  have hs : b + 1 ≤ (w.setCell ⟨b, 0, none⟩ (.int .i64 (wrap64 (n + 1)))).heap.size := by simp; omega
  exact ⟨rfl, (CountAt.set ⟨h1, h2, h3⟩ (wrap64 (n + 1))).later ((Below.refl _ _).alloc hs _), ((Below.refl b w).setCell (p := ⟨b, 0, none⟩) (Nat.le_refl _) _).alloc (by simp; omega) _⟩
theorem count_told (b : Nat) (n : Int) (w : World) (h : CountAt w b n) : Calls Try.prog 123 #[.pointer (some ⟨b, 0, none⟩)] w
    fun e w' => e = .returned (Val.num n).agg ∧ Below w.heap.size w w' := by
  obtain ⟨h1, h2, h3⟩ := h
  have hb := (Below.refl w.heap.size w).alloc (Nat.le_refl _) (.cells (cellsV Val.null) 28)
  have c1 := (hb.cell (p := ⟨b, 0, none⟩) h3).trans h1
  have HB := Lib.hid hb
  have HN := Lib.hid (LiesV.new w Val.null 28)
  unfold cellsV Val.null at c1 HB
  unfold Val.null at HN
  clear hb
  go_enter Try.func123, Try.ntmps123
  go_wp2_with (go_at_call 19; refine (Number_exp _ _).mono ?_; rintro e wy ⟨rfl, hby⟩; have HB2 := Lib.hid (HB.out.trans (hby.mono HB.out.size)); have HL := Lib.hid (HN.out.below hby (by simp)); obtain ⟨⟨r1, r2, r3, r4⟩, g1, g2, g3, g4⟩ := HL.out; simp only [Nat.zero_add] at r1 r2 r3 r4 g1 g2 g3 g4; clear hby)
  exact ret_val Try.results123 rfl rfl (HL.out.stored (Val.num n)) ⟨rfl, below_val HB2.out (Nat.le_refl _) _ _ _ _⟩
end Go.Proofs.Ytaanejhpodbdnaa
