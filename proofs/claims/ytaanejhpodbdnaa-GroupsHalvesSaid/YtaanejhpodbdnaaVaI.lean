/- The walk of groups.Fold. -/
import Derived.Test.YtaanejhpodbdnaaVaH
namespace Go.Proofs.Ytaanejhpodbdnaa
open Go.RowKit
set_option maxRecDepth 100000
set_option linter.unusedVariables false
attribute [local go_sem] run_store_float

/-- A value's four cells, as they are read. -/
def HasV (W : World) (b off : Nat) (v : Val) : Prop :=
  W.cell? ⟨b, off, none⟩ = some (.int .i64 v.kind) ∧ W.cell? ⟨b, off + 1, none⟩ = some (.int .i64 v.int) ∧ W.cell? ⟨b, off + 2, none⟩ = some (.float .f64 v.flt) ∧ W.cell? ⟨b, off + 3, none⟩ = some (.string v.text)
theorem HasV.below {B : Nat} {W W' : World} {b off : Nat} {v : Val} (h : HasV W b off v) (hb : Below B W W') (hB : b < B) : HasV W' b off v :=
  ⟨(hb.cell hB).trans h.1, (hb.cell hB).trans h.2.1, (hb.cell hB).trans h.2.2.1, (hb.cell hB).trans h.2.2.2⟩
/-- A row of values. -/
def RowV (W : World) (a : Option Addr) (len cap : Nat) (l : List Val) : Prop :=
  l.length = len ∧ len ≤ cap ∧ cap ≤ maxLen ∧ (∀ v ∈ l, v.wf) ∧ (len = 0 ∨ ∃ b off, a = some ⟨b, off, none⟩ ∧ b < W.heap.size ∧ ∀ i v, l[i]? = some v → HasV W b (off + i * 4) v)
theorem RowV.later {W W' : World} {a : Option Addr} {len cap : Nat} {l : List Val} (h : RowV W a len cap l) (hb : Below W.heap.size W W') : RowV W' a len cap l := by
  obtain ⟨h1, h2, h3, h4, h5⟩ := h
  refine ⟨h1, h2, h3, h4, ?_⟩
  rcases h5 with h5 | ⟨b, off, e, hl, hc⟩
  · exact .inl h5
  · exact .inr ⟨b, off, e, Nat.lt_of_lt_of_le hl hb.size, fun i v hi => (hc i v hi).below hb hl⟩

def skipV (v : Val) : Bool := !rightV v || v.kind == 0
def goCount : Int → List Val → Int
  | n, [] => n
  | n, v :: l => goCount (if skipV v then n else wrap64 (n + 1)) l
def goAdd : Val → List Val → Val × Int
  | h, [] => (h, 0)
  | h, v :: l => if skipV v then goAdd h l else if (addV h v).2 = 0 then goAdd (addV h v).1 l else (Val.null, (addV h v).2)
def goChoose (g : Int) : Val → List Val → Val
  | h, [] => h
  | h, v :: l => goChoose g (if skipV v then h else chooseV g h v) l
theorem goCount_cons (n : Int) (v : Val) (l : List Val) : goCount n (v :: l) = goCount (if skipV v then n else wrap64 (n + 1)) l := rfl
theorem goAdd_cons (h v : Val) (l : List Val) : goAdd h (v :: l) = if skipV v then goAdd h l else if (addV h v).2 = 0 then goAdd (addV h v).1 l else (Val.null, (addV h v).2) := rfl
theorem goChoose_cons (g : Int) (h v : Val) (l : List Val) : goChoose g h (v :: l) = goChoose g (if skipV v then h else chooseV g h v) l := rfl
/-- An aggregate of values, and why not. -/
def foldV (kind : Int) (l : List Val) : Val × Int :=
  if kind = 1 then (Val.num (goCount 0 l), 0) else if kind = 2 then goAdd Val.null l else if kind = 3 then (goChoose (-1) Val.null l, 0) else if kind = 4 then (goChoose 1 Val.null l, 0) else (Val.null, 2)

theorem Right_exp (k n : Int) (f : Nat) (s : ByteArray) (hv : Val.wf ⟨k, n, f, s⟩) (w : World) : Calls Try.prog 21 #[.agg #[.int .i64 k, .int .i64 n, .float .f64 f, .string s]] w
    fun e w' => e = .returned (.bool (rightV ⟨k, n, f, s⟩)) ∧ Below w.heap.size w w' := Right_any _ hv w

/-- What a round of Fold stands on. -/
theorem fold_row {w W : World} {a : Option Addr} {len cap k : Nat} {l : List Val} (h : RowV w a len cap l) (hb : Below w.heap.size w W) (hk : k < len) :
    ∃ b off, a = some ⟨b, off, none⟩ ∧ ∃ v, l[k]? = some v ∧ v.wf ∧ HasV W b (off + k * 4) v ∧ l.drop k = v :: l.drop (k + 1) := by
  obtain ⟨h1, _, _, h4, h5⟩ := h
  obtain ⟨b, off, rfl, hl, hc⟩ := h5.resolve_left (by omega)
  have hk' : k < l.length := by omega
  exact ⟨b, off, rfl, l[k], List.getElem?_eq_getElem hk', h4 _ (List.getElem_mem hk'), (hc k _ (List.getElem?_eq_getElem hk')).below hb hl, List.drop_eq_getElem_cons hk'⟩

theorem count_told_exp (b : Nat) (n : Int) (w : World) (h : CountAt w b n) : Calls Try.prog 123 #[.pointer (some ⟨b, 0, none⟩)] w
    fun e w' => e = .returned (.agg #[.int .i64 2, .int .i64 n, .float .f64 0, .string ⟨#[]⟩]) ∧ Below w.heap.size w w' := count_told b n w h
theorem add_told_exp (b : Nat) (v : Val) (w : World) (h : ValAt w b 0 v) : Calls Try.prog 125 #[.pointer (some ⟨b, 0, none⟩)] w
    fun e w' => e = .returned (.agg #[.int .i64 v.kind, .int .i64 v.int, .float .f64 v.flt, .string v.text]) ∧ Below w.heap.size w w' := add_told b v w h
theorem choose_told_exp (b : Nat) (g : Int) (v : Val) (w : World) (h : ChooseAt w b g v) : Calls Try.prog 127 #[.pointer (some ⟨b, 0, none⟩)] w
    fun e w' => e = .returned (.agg #[.int .i64 v.kind, .int .i64 v.int, .float .f64 v.flt, .string v.text]) ∧ Below w.heap.size w w' := choose_told b g v w h

theorem plainV_wf (v : Val) (h : v.wf) : (plainV v).wf := by
  unfold plainV
  split
  · split
    · split
      · exact ⟨h.1, h.2.1, by show 9221120237041090561 < 2 ^ 64; decide, h.2.2.2⟩
      · split
        · exact ⟨h.1, h.2.1, by show 0 < 2 ^ 64; decide, h.2.2.2⟩
        · exact h
    · exact h
  · exact null_wf
theorem chooseV_wf (g : Int) (h v : Val) (hh : h.wf) (hv : v.wf) : (chooseV g h v).wf := by
  unfold chooseV
  split
  · exact plainV_wf v hv
  · split
    · exact plainV_wf v hv
    · exact hh

/-- What an adder has: nothing, or an Int. -/
def AddI (h : Val) : Prop := h = Val.null ∨ ∃ n, h = Val.num n ∧ (Lit.int .i64 n).wf = true
theorem addV_inv (h v : Val) (hh : AddI h) : (addV h v).2 = 0 → AddI (addV h v).1 := by
  unfold addV calcAdd
  split
  · split
    · intro _; exact .inl rfl
    · split
      · intro _; exact .inr ⟨_, rfl, wrap_wf _⟩
      · intro e; cases e
  · intro e; cases e
theorem add_take (b : Nat) (h v : Val) (hh : AddI h) (hv : v.wf) (w : World) (x : ValAt w b 0 h) : Calls Try.prog 124 #[.pointer (some ⟨b, 0, none⟩), v.agg] w
    fun e w' => e = .returned (.int .i64 (addV h v).2) ∧ ValAt w' b 0 (addV h v).1 ∧ Below b w w' := by
  rcases hh with rfl | ⟨n, rfl, hn⟩
  · exact add_take_null b v hv w x
  · exact add_take_num b n v hn hv w x

set_option maxHeartbeats 2000000 in
theorem Fold_1 (a : Option Addr) (len cap : Nat) (l : List Val) (w : World) (h : RowV w a len cap l) : Calls Try.prog 8 #[.int .i64 1, .slice a len cap] w
    fun e w' => e = .returned (.tuple #[(Val.num (goCount 0 l)).agg, .int .i64 0]) ∧ Below w.heap.size w w' := by
  have h63 : len < 2 ^ 63 := by have := h.2.1; have := h.2.2.1; unfold maxLen at this; omega
  obtain ⟨W0, hW0⟩ : ∃ W0, w.alloc (.cells (cellsV Val.null) 28) = W0 := ⟨_, rfl⟩
  have hb0 : Below w.heap.size w W0 := by rw [← hW0]; exact (Below.refl _ w).alloc (Nat.le_refl _) _
  have hs0 : W0.heap.size = w.heap.size + 1 := by rw [← hW0]; simp
  have hr0 : LiesV W0 w.heap.size 0 Val.null := by rw [← hW0]; exact LiesV.new w Val.null _
  obtain ⟨W1, hW1⟩ : ∃ W1, W0.alloc (.cells #[.int .i64 0] 91) = W1 := ⟨_, rfl⟩
  have hb1 : Below (w.heap.size + 1) W0 W1 := by rw [← hW1, ← hs0]; exact (Below.refl _ W0).alloc (Nat.le_refl _) _
  have hs1 : W1.heap.size = w.heap.size + 2 := by rw [← hW1]; simp [hs0]
  have hc1 : CountAt W1 (w.heap.size + 1) 0 := by
    rw [← hW1, ← hs0]
    have hn := World.alloc_heap_new W0 (.cells #[.int .i64 0] 91)
    exact ⟨by simp only [World.cell?]; rw [hn]; rfl, by simp only [World.frozen?]; rw [hn]; rfl, by simp⟩
  have hB1 : Below w.heap.size w W1 := hb0.trans (hb1.mono (by omega))
  have H1 := Lib.hid (And.intro hB1 (And.intro (hr0.below hb1 (by omega)) (And.intro hc1 hs1)))
  have HM := Lib.hid (made_1 W0)
  have HR := Lib.hid h
  have HLEN := Lib.hid h.1
  rw [hW1, hs0] at HM
  clear hb0 hb1 hr0 hc1 hB1 hW1 hs1 h
  unfold cellsV Val.null at hW0
  go_enter Try.func8, Try.ntmps8
  go_wp2_with (go_at_call 20; (try rw [hW0]); refine HM.out.mono ?_; rintro e w1 ⟨rfl, h1⟩; rw [h1]; clear h1)
  go_loopw [17] (fun i wr => ∃ (k : Nat) (n : Int), i = .int .i64 k ∧ k ≤ len ∧ goCount n (l.drop k) = goCount 0 l ∧ CountAt wr (w.heap.size + 1) n ∧ Below (w.heap.size + 1) W1 wr) (fun i _ => len - (intOf i).toNat)
  case atStart => exact ⟨0, 0, rfl, Nat.zero_le _, rfl, H1.out.2.2.1, Below.refl _ _⟩
  case round =>
    obtain ⟨k, n, rfl, hk, hgo, hcn, hbl⟩ := hrel
    have hbw : Below w.heap.size w wr := H1.out.1.trans (hbl.mono (by omega))
    have hsz : w.heap.size + 2 ≤ wr.heap.size := by have := hbl.size; have := H1.out.2.2.2; omega
    by_cases hlt : k < len
    · obtain ⟨b, off, rfl, v, hv, hwf, ⟨d1, d2, d3, d4⟩, hdr⟩ := fold_row HR.out hbw hlt
      rw [hdr] at hgo
      have hbx := (Below.refl wr.heap.size wr).alloc (Nat.le_refl _) (.cells (cellsV v) 28)
      have HX := Lib.hid (And.intro (show CountAt (wr.alloc (.cells (cellsV v) 28)) (w.heap.size + 1) n from hcn.later (hbx.mono hcn.2.2)) (And.intro (hbl.trans (hbx.mono (by omega))) (show wr.heap.size < (wr.alloc (.cells (cellsV v) 28)).heap.size by simp)))
      have HL := Lib.hid (LiesV.new wr v 28)
      have HT := Lib.hid (fun W (h : CountAt W (w.heap.size + 1) n) => count_take (w.heap.size + 1) n v W h)
      have hs : skipV v = (!rightV v || v.kind == 0) := rfl
      rw [goCount_cons] at hgo
      rw [hs] at hgo
      have HRI := Lib.hid (fun W => Right_any v hwf W)
      obtain ⟨r, hr⟩ : ∃ r, r = rightV v := ⟨_, rfl⟩
      rw [← hr] at hgo HRI
      obtain ⟨vk, vn, vf, vs⟩ := v
      unfold cellsV at HX
      unfold Val.agg at HRI HT
      simp only at *
      clear hr hs hbx hcn hbl hv hdr hwf
      cases r with
      | false =>
        have HG := Lib.hid hgo
        clear hgo
        go_wp2_with (first | (go_at_call 21; refine (HRI.out _).mono ?_; rintro e w5 ⟨rfl, hb5⟩; have HX5 := Lib.hid (And.intro (HX.out.1.later (hb5.mono HX.out.1.2.2)) (HX.out.2.1.trans (hb5.mono (by have := HX.out.2.2; omega)))); obtain ⟨⟨e1, e2, e3, e4⟩, _⟩ := HL.out.below hb5 (by simp); simp only [Nat.zero_add] at e1 e2 e3 e4; clear hb5))
        refine ⟨⟨k + 1, n, by go_num, by omega, by simpa using HG.out, HX5.out⟩, ?_⟩
        simp [intOf]; omega
      | true =>
        by_cases hz : vk = 0
        · have hz1 : ((vk : Int) == 0) = true := by simp; exact hz
          rw [hz1] at hgo
          have HG := Lib.hid hgo
          clear hgo hz
          go_wp2_with (first | (go_at_call 21; refine (HRI.out _).mono ?_; rintro e w5 ⟨rfl, hb5⟩; have HX5 := Lib.hid (And.intro (HX.out.1.later (hb5.mono HX.out.1.2.2)) (HX.out.2.1.trans (hb5.mono (by have := HX.out.2.2; omega)))); obtain ⟨⟨e1, e2, e3, e4⟩, _⟩ := HL.out.below hb5 (by simp); simp only [Nat.zero_add] at e1 e2 e3 e4; clear hb5))
          refine ⟨⟨k + 1, n, by go_num, by omega, by simpa using HG.out, HX5.out⟩, ?_⟩
          simp [intOf]; omega
        · have hz1 : ((vk : Int) == 0) = false := by simp; exact hz
          rw [hz1] at hgo
          clear hz
          have HG := Lib.hid hgo
          clear hgo
          go_wp2_with (first | (go_at_call 21; refine (HRI.out _).mono ?_; rintro e w5 ⟨rfl, hb5⟩; have HX5 := Lib.hid (And.intro (HX.out.1.later (hb5.mono HX.out.1.2.2)) (HX.out.2.1.trans (hb5.mono (by have := HX.out.2.2; omega)))); obtain ⟨⟨e1, e2, e3, e4⟩, _⟩ := HL.out.below hb5 (by simp); simp only [Nat.zero_add] at e1 e2 e3 e4; clear hb5) | go_invoke  | (go_at_call 122; refine (HT.out _ HX5.out.1).mono ?_; rintro e w6 ⟨rfl, hc6, hb6⟩; have HX6 := Lib.hid (And.intro hc6 (HX5.out.2.trans hb6)); clear hc6 hb6))
          refine ⟨⟨k + 1, _, by go_num, by omega, by simpa using HG.out, HX6.out⟩, ?_⟩
          simp [intOf]; omega
    · obtain rfl : k = len := by omega
      have HG := Lib.hid hgo
      have HX := Lib.hid (And.intro hcn hbl)
      clear hgo hcn hbl
      
      go_wp2_with (first | go_invoke | (go_at_call 123; refine (count_told_exp (w.heap.size + 1) (n) wr HX.out.1).mono ?_; rintro e w7 ⟨rfl, hb7⟩; have HX7 := Lib.hid (HX.out.2.trans (hb7.mono (by omega))); have HR7 := Lib.hid (H1.out.2.1.below HX7.out (Nat.lt_succ_self _)); obtain ⟨⟨r1, r2, r3, r4⟩, g1, g2, g3, g4⟩ := HR7.out; simp only [Nat.zero_add] at r1 r2 r3 r4 g1 g2 g3 g4; clear hb7))
      refine ret_val2 Try.results8 rfl rfl rfl (HR7.out.stored ⟨2, n, 0, ⟨#[]⟩⟩) ⟨?_, below_val (H1.out.1.trans (HX7.out.mono (by omega))) (Nat.le_refl _) _ _ _ _⟩
      rw [← HG.out, List.drop_of_length_le (by rw [HLEN.out]; exact Nat.le_refl _)]; rfl

set_option maxHeartbeats 2000000 in
theorem Fold_2 (a : Option Addr) (len cap : Nat) (l : List Val) (w : World) (h : RowV w a len cap l) : Calls Try.prog 8 #[.int .i64 2, .slice a len cap] w
    fun e w' => e = .returned (.tuple #[(goAdd Val.null l).1.agg, .int .i64 (goAdd Val.null l).2]) ∧ Below w.heap.size w w' := by
  have h63 : len < 2 ^ 63 := by have := h.2.1; have := h.2.2.1; unfold maxLen at this; omega
  obtain ⟨W0, hW0⟩ : ∃ W0, w.alloc (.cells (cellsV Val.null) 28) = W0 := ⟨_, rfl⟩
  have hb0 : Below w.heap.size w W0 := by rw [← hW0]; exact (Below.refl _ w).alloc (Nat.le_refl _) _
  have hs0 : W0.heap.size = w.heap.size + 1 := by rw [← hW0]; simp
  have hr0 : LiesV W0 w.heap.size 0 Val.null := by rw [← hW0]; exact LiesV.new w Val.null _
  obtain ⟨W1, hW1⟩ : ∃ W1, W0.alloc (.cells (cellsV Val.null) 94) = W1 := ⟨_, rfl⟩
  have hb1 : Below (w.heap.size + 1) W0 W1 := by rw [← hW1, ← hs0]; exact (Below.refl _ W0).alloc (Nat.le_refl _) _
  have hs1 : W1.heap.size = w.heap.size + 2 := by rw [← hW1]; simp [hs0]
  have hc1 : (ValAt W1 (w.heap.size + 1) 0 Val.null ∧ AddI Val.null) := by
    rw [← hW1, ← hs0]
    exact ⟨⟨LiesV.new W0 Val.null _, by simp⟩, .inl rfl⟩
  have hB1 : Below w.heap.size w W1 := hb0.trans (hb1.mono (by omega))
  have H1 := Lib.hid (And.intro hB1 (And.intro (hr0.below hb1 (by omega)) (And.intro hc1 hs1)))
  have HM := Lib.hid (made_2 W0)
  have HR := Lib.hid h
  have HLEN := Lib.hid h.1
  rw [hW1, hs0] at HM
  clear hb0 hb1 hr0 hc1 hB1 hW1 hs1 h
  unfold cellsV Val.null at hW0
  go_enter Try.func8, Try.ntmps8
  go_wp2_with (go_at_call 20; (try rw [hW0]); refine HM.out.mono ?_; rintro e w1 ⟨rfl, h1⟩; rw [h1]; clear h1)
  go_loopw [17] (fun i wr => ∃ (k : Nat) (n : Val), i = .int .i64 k ∧ k ≤ len ∧ goAdd n (l.drop k) = goAdd Val.null l ∧ (ValAt wr (w.heap.size + 1) 0 n ∧ AddI n) ∧ Below (w.heap.size + 1) W1 wr) (fun i _ => len - (intOf i).toNat)
  case atStart => exact ⟨0, Val.null, rfl, Nat.zero_le _, rfl, H1.out.2.2.1, Below.refl _ _⟩
  case round =>
    obtain ⟨k, n, rfl, hk, hgo, hcn, hbl⟩ := hrel
    have hbw : Below w.heap.size w wr := H1.out.1.trans (hbl.mono (by omega))
    have hsz : w.heap.size + 2 ≤ wr.heap.size := by have := hbl.size; have := H1.out.2.2.2; omega
    by_cases hlt : k < len
    · obtain ⟨b, off, rfl, v, hv, hwf, ⟨d1, d2, d3, d4⟩, hdr⟩ := fold_row HR.out hbw hlt
      rw [hdr] at hgo
      have hbx := (Below.refl wr.heap.size wr).alloc (Nat.le_refl _) (.cells (cellsV v) 28)
      have HX := Lib.hid (And.intro (show (ValAt (wr.alloc (.cells (cellsV v) 28)) (w.heap.size + 1) 0 n ∧ AddI n) from ⟨hcn.1.later (hbx.mono hcn.1.2), hcn.2⟩) (And.intro (hbl.trans (hbx.mono (by omega))) (show wr.heap.size < (wr.alloc (.cells (cellsV v) 28)).heap.size by simp)))
      have HL := Lib.hid (LiesV.new wr v 28)
      have HT := Lib.hid (fun W (h : ValAt W (w.heap.size + 1) 0 n ∧ AddI n) => add_take (w.heap.size + 1) n v h.2 hwf W h.1)
      have HCW := Lib.hid (fun (h : AddI n) => addV_inv n v h)
      have hs : skipV v = (!rightV v || v.kind == 0) := rfl
      rw [goAdd_cons] at hgo
      rw [hs] at hgo
      have HRI := Lib.hid (fun W => Right_any v hwf W)
      obtain ⟨r, hr⟩ : ∃ r, r = rightV v := ⟨_, rfl⟩
      rw [← hr] at hgo HRI
      obtain ⟨vk, vn, vf, vs⟩ := v
      unfold cellsV at HX
      unfold Val.agg at HRI HT
      simp only at *
      clear hr hs hbx hcn hbl hv hdr hwf
      cases r with
      | false =>
        have HG := Lib.hid hgo
        clear hgo
        go_wp2_with (first | (go_at_call 21; refine (HRI.out _).mono ?_; rintro e w5 ⟨rfl, hb5⟩; have HX5 := Lib.hid (And.intro (And.intro (HX.out.1.1.later (hb5.mono HX.out.1.1.2)) HX.out.1.2) (HX.out.2.1.trans (hb5.mono (by have := HX.out.2.2; omega)))); obtain ⟨⟨e1, e2, e3, e4⟩, _⟩ := HL.out.below hb5 (by simp); simp only [Nat.zero_add] at e1 e2 e3 e4; clear hb5))
        refine ⟨⟨k + 1, n, by go_num, by omega, by simpa using HG.out, HX5.out⟩, ?_⟩
        simp [intOf]; omega
      | true =>
        by_cases hz : vk = 0
        · have hz1 : ((vk : Int) == 0) = true := by simp; exact hz
          rw [hz1] at hgo
          have HG := Lib.hid hgo
          clear hgo hz
          go_wp2_with (first | (go_at_call 21; refine (HRI.out _).mono ?_; rintro e w5 ⟨rfl, hb5⟩; have HX5 := Lib.hid (And.intro (And.intro (HX.out.1.1.later (hb5.mono HX.out.1.1.2)) HX.out.1.2) (HX.out.2.1.trans (hb5.mono (by have := HX.out.2.2; omega)))); obtain ⟨⟨e1, e2, e3, e4⟩, _⟩ := HL.out.below hb5 (by simp); simp only [Nat.zero_add] at e1 e2 e3 e4; clear hb5))
          refine ⟨⟨k + 1, n, by go_num, by omega, by simpa using HG.out, HX5.out⟩, ?_⟩
          simp [intOf]; omega
        · have hz1 : ((vk : Int) == 0) = false := by simp; exact hz
          rw [hz1] at hgo
          clear hz
          obtain ⟨⟨p, pe⟩, hp⟩ : ∃ p, p = addV n ⟨vk, vn, vf, vs⟩ := ⟨_, rfl⟩
          rw [← hp] at hgo
          have HAV := Lib.hid hp.symm
          have HCI := Lib.hid (fun h => hp ▸ HCW.out h)
          clear hp
          simp only at hgo
          by_cases he : pe = 0
          · subst he
            have HG := Lib.hid hgo
            clear hgo
            go_wp2_with (first | (go_at_call 21; refine (HRI.out _).mono ?_; rintro e w5 ⟨rfl, hb5⟩; have HX5 := Lib.hid (And.intro (And.intro (HX.out.1.1.later (hb5.mono HX.out.1.1.2)) HX.out.1.2) (HX.out.2.1.trans (hb5.mono (by have := HX.out.2.2; omega)))); obtain ⟨⟨e1, e2, e3, e4⟩, _⟩ := HL.out.below hb5 (by simp); simp only [Nat.zero_add] at e1 e2 e3 e4; clear hb5) | go_invoke  | (go_at_call 124; refine (HT.out _ HX5.out.1).mono ?_; rw [HAV.out]; rintro e w6 ⟨rfl, hc6, hb6⟩; have HX6 := Lib.hid (And.intro hc6 (HX5.out.2.trans hb6)); have HR6 := Lib.hid ((H1.out.2.1.below HX6.out.2 (Nat.lt_succ_self _))); obtain ⟨⟨r1, r2, r3, r4⟩, g1, g2, g3, g4⟩ := HR6.out; simp only [Nat.zero_add] at r1 r2 r3 r4 g1 g2 g3 g4; clear hc6 hb6))
            refine ⟨⟨k + 1, p, by go_num, by omega, by simpa using HG.out, ⟨HX6.out.1, HCI.out HX5.out.1.2 (by first | rfl | trivial)⟩, HX6.out.2⟩, ?_⟩
            simp [intOf]; omega
          · have he1 : ((pe : Int) != 0) = true := by simp; exact he
            rw [if_neg (by simp), if_neg he] at hgo
            have HG := Lib.hid hgo
            clear hgo he
            go_wp2_with (first | (go_at_call 21; refine (HRI.out _).mono ?_; rintro e w5 ⟨rfl, hb5⟩; have HX5 := Lib.hid (And.intro (And.intro (HX.out.1.1.later (hb5.mono HX.out.1.1.2)) HX.out.1.2) (HX.out.2.1.trans (hb5.mono (by have := HX.out.2.2; omega)))); obtain ⟨⟨e1, e2, e3, e4⟩, _⟩ := HL.out.below hb5 (by simp); simp only [Nat.zero_add] at e1 e2 e3 e4; clear hb5) | go_invoke  | (go_at_call 124; refine (HT.out _ HX5.out.1).mono ?_; rw [HAV.out]; rintro e w6 ⟨rfl, hc6, hb6⟩; have HX6 := Lib.hid (And.intro hc6 (HX5.out.2.trans hb6)); have HR6 := Lib.hid ((H1.out.2.1.below HX6.out.2 (Nat.lt_succ_self _))); obtain ⟨⟨r1, r2, r3, r4⟩, g1, g2, g3, g4⟩ := HR6.out; simp only [Nat.zero_add] at r1 r2 r3 r4 g1 g2 g3 g4; clear hc6 hb6))
            refine ret_val2 Try.results8 rfl rfl rfl (HR6.out.stored ⟨0, 0, 0, ⟨#[]⟩⟩) ⟨?_, below_val (H1.out.1.trans (HX6.out.2.mono (by omega))) (Nat.le_refl _) _ _ _ _⟩
            rw [← HG.out]; rfl
    · obtain rfl : k = len := by omega
      have HG := Lib.hid hgo
      have HX := Lib.hid (And.intro hcn hbl)
      clear hgo hcn hbl
      obtain ⟨nk, nn, nf, ns⟩ := n
      go_wp2_with (first | go_invoke | (go_at_call 125; refine (add_told_exp (w.heap.size + 1) ⟨nk, nn, nf, ns⟩ wr HX.out.1.1).mono ?_; rintro e w7 ⟨rfl, hb7⟩; have HX7 := Lib.hid (HX.out.2.trans (hb7.mono (by omega))); have HR7 := Lib.hid (H1.out.2.1.below HX7.out (Nat.lt_succ_self _)); obtain ⟨⟨r1, r2, r3, r4⟩, g1, g2, g3, g4⟩ := HR7.out; simp only [Nat.zero_add] at r1 r2 r3 r4 g1 g2 g3 g4; clear hb7))
      refine ret_val2 Try.results8 rfl rfl rfl (HR7.out.stored ⟨nk, nn, nf, ns⟩) ⟨?_, below_val (H1.out.1.trans (HX7.out.mono (by omega))) (Nat.le_refl _) _ _ _ _⟩
      rw [← HG.out, List.drop_of_length_le (by rw [HLEN.out]; exact Nat.le_refl _)]; rfl

set_option maxHeartbeats 2000000 in
theorem Fold_3 (a : Option Addr) (len cap : Nat) (l : List Val) (w : World) (h : RowV w a len cap l) : Calls Try.prog 8 #[.int .i64 3, .slice a len cap] w
    fun e w' => e = .returned (.tuple #[(goChoose (-1) Val.null l).agg, .int .i64 0]) ∧ Below w.heap.size w w' := by
  have h63 : len < 2 ^ 63 := by have := h.2.1; have := h.2.2.1; unfold maxLen at this; omega
  obtain ⟨W0, hW0⟩ : ∃ W0, w.alloc (.cells (cellsV Val.null) 28) = W0 := ⟨_, rfl⟩
  have hb0 : Below w.heap.size w W0 := by rw [← hW0]; exact (Below.refl _ w).alloc (Nat.le_refl _) _
  have hs0 : W0.heap.size = w.heap.size + 1 := by rw [← hW0]; simp
  have hr0 : LiesV W0 w.heap.size 0 Val.null := by rw [← hW0]; exact LiesV.new w Val.null _
  obtain ⟨W1, hW1⟩ : ∃ W1, W0.alloc (.cells #[.int .i64 (-1), .int .i64 0, .int .i64 0, .float .f64 0, .string ⟨#[]⟩] 97) = W1 := ⟨_, rfl⟩
  have hb1 : Below (w.heap.size + 1) W0 W1 := by rw [← hW1, ← hs0]; exact (Below.refl _ W0).alloc (Nat.le_refl _) _
  have hs1 : W1.heap.size = w.heap.size + 2 := by rw [← hW1]; simp [hs0]
  have hc1 : (ChooseAt W1 (w.heap.size + 1) (-1) Val.null ∧ Val.null.wf) := by
    rw [← hW1, ← hs0]
    have hn := World.alloc_heap_new W0 (.cells #[.int .i64 (-1), .int .i64 0, .int .i64 0, .float .f64 0, .string ⟨#[]⟩] 97)
    refine ⟨⟨by simp only [World.cell?]; rw [hn]; rfl, ⟨⟨?_, ?_, ?_, ?_⟩, ?_, ?_, ?_, ?_⟩, by simp⟩, null_wf⟩
    all_goals (first | (simp only [World.cell?]; rw [hn]; rfl) | (simp only [World.frozen?]; rw [hn]; rfl))
  have hB1 : Below w.heap.size w W1 := hb0.trans (hb1.mono (by omega))
  have H1 := Lib.hid (And.intro hB1 (And.intro (hr0.below hb1 (by omega)) (And.intro hc1 hs1)))
  have HM := Lib.hid (made_3 W0)
  have HR := Lib.hid h
  have HLEN := Lib.hid h.1
  rw [hW1, hs0] at HM
  clear hb0 hb1 hr0 hc1 hB1 hW1 hs1 h
  unfold cellsV Val.null at hW0
  go_enter Try.func8, Try.ntmps8
  go_wp2_with (go_at_call 20; (try rw [hW0]); refine HM.out.mono ?_; rintro e w1 ⟨rfl, h1⟩; rw [h1]; clear h1)
  go_loopw [17] (fun i wr => ∃ (k : Nat) (n : Val), i = .int .i64 k ∧ k ≤ len ∧ goChoose (-1) n (l.drop k) = goChoose (-1) Val.null l ∧ (ChooseAt wr (w.heap.size + 1) (-1) n ∧ n.wf) ∧ Below (w.heap.size + 1) W1 wr) (fun i _ => len - (intOf i).toNat)
  case atStart => exact ⟨0, Val.null, rfl, Nat.zero_le _, rfl, H1.out.2.2.1, Below.refl _ _⟩
  case round =>
    obtain ⟨k, n, rfl, hk, hgo, hcn, hbl⟩ := hrel
    have hbw : Below w.heap.size w wr := H1.out.1.trans (hbl.mono (by omega))
    have hsz : w.heap.size + 2 ≤ wr.heap.size := by have := hbl.size; have := H1.out.2.2.2; omega
    by_cases hlt : k < len
    · obtain ⟨b, off, rfl, v, hv, hwf, ⟨d1, d2, d3, d4⟩, hdr⟩ := fold_row HR.out hbw hlt
      rw [hdr] at hgo
      have hbx := (Below.refl wr.heap.size wr).alloc (Nat.le_refl _) (.cells (cellsV v) 28)
      have HX := Lib.hid (And.intro (show (ChooseAt (wr.alloc (.cells (cellsV v) 28)) (w.heap.size + 1) (-1) n ∧ n.wf) from ⟨hcn.1.later (hbx.mono hcn.1.2.2), hcn.2⟩) (And.intro (hbl.trans (hbx.mono (by omega))) (show wr.heap.size < (wr.alloc (.cells (cellsV v) 28)).heap.size by simp)))
      have HL := Lib.hid (LiesV.new wr v 28)
      have HT := Lib.hid (fun W (h : ChooseAt W (w.heap.size + 1) (-1) n ∧ n.wf) => choose_take (w.heap.size + 1) (-1) n v h.2 hwf W h.1)
      have HCW := Lib.hid (fun (h : n.wf) => chooseV_wf (-1) n v h hwf)
      have hs : skipV v = (!rightV v || v.kind == 0) := rfl
      rw [goChoose_cons] at hgo
      rw [hs] at hgo
      have HRI := Lib.hid (fun W => Right_any v hwf W)
      obtain ⟨r, hr⟩ : ∃ r, r = rightV v := ⟨_, rfl⟩
      rw [← hr] at hgo HRI
      obtain ⟨vk, vn, vf, vs⟩ := v
      unfold cellsV at HX
      unfold Val.agg at HRI HT
      simp only at *
      clear hr hs hbx hcn hbl hv hdr hwf
      cases r with
      | false =>
        have HG := Lib.hid hgo
        clear hgo
        go_wp2_with (first | (go_at_call 21; refine (HRI.out _).mono ?_; rintro e w5 ⟨rfl, hb5⟩; have HX5 := Lib.hid (And.intro (And.intro (HX.out.1.1.later (hb5.mono HX.out.1.1.2.2)) HX.out.1.2) (HX.out.2.1.trans (hb5.mono (by have := HX.out.2.2; omega)))); obtain ⟨⟨e1, e2, e3, e4⟩, _⟩ := HL.out.below hb5 (by simp); simp only [Nat.zero_add] at e1 e2 e3 e4; clear hb5))
        refine ⟨⟨k + 1, n, by go_num, by omega, by simpa using HG.out, HX5.out⟩, ?_⟩
        simp [intOf]; omega
      | true =>
        by_cases hz : vk = 0
        · have hz1 : ((vk : Int) == 0) = true := by simp; exact hz
          rw [hz1] at hgo
          have HG := Lib.hid hgo
          clear hgo hz
          go_wp2_with (first | (go_at_call 21; refine (HRI.out _).mono ?_; rintro e w5 ⟨rfl, hb5⟩; have HX5 := Lib.hid (And.intro (And.intro (HX.out.1.1.later (hb5.mono HX.out.1.1.2.2)) HX.out.1.2) (HX.out.2.1.trans (hb5.mono (by have := HX.out.2.2; omega)))); obtain ⟨⟨e1, e2, e3, e4⟩, _⟩ := HL.out.below hb5 (by simp); simp only [Nat.zero_add] at e1 e2 e3 e4; clear hb5))
          refine ⟨⟨k + 1, n, by go_num, by omega, by simpa using HG.out, HX5.out⟩, ?_⟩
          simp [intOf]; omega
        · have hz1 : ((vk : Int) == 0) = false := by simp; exact hz
          rw [hz1] at hgo
          clear hz
          have HG := Lib.hid hgo
          clear hgo
          go_wp2_with (first | (go_at_call 21; refine (HRI.out _).mono ?_; rintro e w5 ⟨rfl, hb5⟩; have HX5 := Lib.hid (And.intro (And.intro (HX.out.1.1.later (hb5.mono HX.out.1.1.2.2)) HX.out.1.2) (HX.out.2.1.trans (hb5.mono (by have := HX.out.2.2; omega)))); obtain ⟨⟨e1, e2, e3, e4⟩, _⟩ := HL.out.below hb5 (by simp); simp only [Nat.zero_add] at e1 e2 e3 e4; clear hb5) | go_invoke  | (go_at_call 126; refine (HT.out _ HX5.out.1).mono ?_; rintro e w6 ⟨rfl, hc6, hb6⟩; have HX6 := Lib.hid (And.intro (And.intro hc6 (HCW.out HX5.out.1.2)) (HX5.out.2.trans hb6)); clear hc6 hb6))
          refine ⟨⟨k + 1, _, by go_num, by omega, by simpa using HG.out, HX6.out⟩, ?_⟩
          simp [intOf]; omega
    · obtain rfl : k = len := by omega
      have HG := Lib.hid hgo
      have HX := Lib.hid (And.intro hcn hbl)
      clear hgo hcn hbl
      obtain ⟨nk, nn, nf, ns⟩ := n
      go_wp2_with (first | go_invoke | (go_at_call 127; refine (choose_told_exp (w.heap.size + 1) (-1) ⟨nk, nn, nf, ns⟩ wr HX.out.1.1).mono ?_; rintro e w7 ⟨rfl, hb7⟩; have HX7 := Lib.hid (HX.out.2.trans (hb7.mono (by omega))); have HR7 := Lib.hid (H1.out.2.1.below HX7.out (Nat.lt_succ_self _)); obtain ⟨⟨r1, r2, r3, r4⟩, g1, g2, g3, g4⟩ := HR7.out; simp only [Nat.zero_add] at r1 r2 r3 r4 g1 g2 g3 g4; clear hb7))
      refine ret_val2 Try.results8 rfl rfl rfl (HR7.out.stored ⟨nk, nn, nf, ns⟩) ⟨?_, below_val (H1.out.1.trans (HX7.out.mono (by omega))) (Nat.le_refl _) _ _ _ _⟩
      rw [← HG.out, List.drop_of_length_le (by rw [HLEN.out]; exact Nat.le_refl _)]; rfl

set_option maxHeartbeats 2000000 in
theorem Fold_4 (a : Option Addr) (len cap : Nat) (l : List Val) (w : World) (h : RowV w a len cap l) : Calls Try.prog 8 #[.int .i64 4, .slice a len cap] w
    fun e w' => e = .returned (.tuple #[(goChoose 1 Val.null l).agg, .int .i64 0]) ∧ Below w.heap.size w w' := by
  have h63 : len < 2 ^ 63 := by have := h.2.1; have := h.2.2.1; unfold maxLen at this; omega
  obtain ⟨W0, hW0⟩ : ∃ W0, w.alloc (.cells (cellsV Val.null) 28) = W0 := ⟨_, rfl⟩
  have hb0 : Below w.heap.size w W0 := by rw [← hW0]; exact (Below.refl _ w).alloc (Nat.le_refl _) _
  have hs0 : W0.heap.size = w.heap.size + 1 := by rw [← hW0]; simp
  have hr0 : LiesV W0 w.heap.size 0 Val.null := by rw [← hW0]; exact LiesV.new w Val.null _
  obtain ⟨W1, hW1⟩ : ∃ W1, W0.alloc (.cells #[.int .i64 1, .int .i64 0, .int .i64 0, .float .f64 0, .string ⟨#[]⟩] 97) = W1 := ⟨_, rfl⟩
  have hb1 : Below (w.heap.size + 1) W0 W1 := by rw [← hW1, ← hs0]; exact (Below.refl _ W0).alloc (Nat.le_refl _) _
  have hs1 : W1.heap.size = w.heap.size + 2 := by rw [← hW1]; simp [hs0]
  have hc1 : (ChooseAt W1 (w.heap.size + 1) 1 Val.null ∧ Val.null.wf) := by
    rw [← hW1, ← hs0]
    have hn := World.alloc_heap_new W0 (.cells #[.int .i64 1, .int .i64 0, .int .i64 0, .float .f64 0, .string ⟨#[]⟩] 97)
    refine ⟨⟨by simp only [World.cell?]; rw [hn]; rfl, ⟨⟨?_, ?_, ?_, ?_⟩, ?_, ?_, ?_, ?_⟩, by simp⟩, null_wf⟩
    all_goals (first | (simp only [World.cell?]; rw [hn]; rfl) | (simp only [World.frozen?]; rw [hn]; rfl))
  have hB1 : Below w.heap.size w W1 := hb0.trans (hb1.mono (by omega))
  have H1 := Lib.hid (And.intro hB1 (And.intro (hr0.below hb1 (by omega)) (And.intro hc1 hs1)))
  have HM := Lib.hid (made_4 W0)
  have HR := Lib.hid h
  have HLEN := Lib.hid h.1
  rw [hW1, hs0] at HM
  clear hb0 hb1 hr0 hc1 hB1 hW1 hs1 h
  unfold cellsV Val.null at hW0
  go_enter Try.func8, Try.ntmps8
  go_wp2_with (go_at_call 20; (try rw [hW0]); refine HM.out.mono ?_; rintro e w1 ⟨rfl, h1⟩; rw [h1]; clear h1)
  go_loopw [17] (fun i wr => ∃ (k : Nat) (n : Val), i = .int .i64 k ∧ k ≤ len ∧ goChoose 1 n (l.drop k) = goChoose 1 Val.null l ∧ (ChooseAt wr (w.heap.size + 1) 1 n ∧ n.wf) ∧ Below (w.heap.size + 1) W1 wr) (fun i _ => len - (intOf i).toNat)
  case atStart => exact ⟨0, Val.null, rfl, Nat.zero_le _, rfl, H1.out.2.2.1, Below.refl _ _⟩
  case round =>
    obtain ⟨k, n, rfl, hk, hgo, hcn, hbl⟩ := hrel
    have hbw : Below w.heap.size w wr := H1.out.1.trans (hbl.mono (by omega))
    have hsz : w.heap.size + 2 ≤ wr.heap.size := by have := hbl.size; have := H1.out.2.2.2; omega
    by_cases hlt : k < len
    · obtain ⟨b, off, rfl, v, hv, hwf, ⟨d1, d2, d3, d4⟩, hdr⟩ := fold_row HR.out hbw hlt
      rw [hdr] at hgo
      have hbx := (Below.refl wr.heap.size wr).alloc (Nat.le_refl _) (.cells (cellsV v) 28)
      have HX := Lib.hid (And.intro (show (ChooseAt (wr.alloc (.cells (cellsV v) 28)) (w.heap.size + 1) 1 n ∧ n.wf) from ⟨hcn.1.later (hbx.mono hcn.1.2.2), hcn.2⟩) (And.intro (hbl.trans (hbx.mono (by omega))) (show wr.heap.size < (wr.alloc (.cells (cellsV v) 28)).heap.size by simp)))
      have HL := Lib.hid (LiesV.new wr v 28)
      have HT := Lib.hid (fun W (h : ChooseAt W (w.heap.size + 1) 1 n ∧ n.wf) => choose_take (w.heap.size + 1) 1 n v h.2 hwf W h.1)
      have HCW := Lib.hid (fun (h : n.wf) => chooseV_wf 1 n v h hwf)
      have hs : skipV v = (!rightV v || v.kind == 0) := rfl
      rw [goChoose_cons] at hgo
      rw [hs] at hgo
      have HRI := Lib.hid (fun W => Right_any v hwf W)
      obtain ⟨r, hr⟩ : ∃ r, r = rightV v := ⟨_, rfl⟩
      rw [← hr] at hgo HRI
      obtain ⟨vk, vn, vf, vs⟩ := v
      unfold cellsV at HX
      unfold Val.agg at HRI HT
      simp only at *
      clear hr hs hbx hcn hbl hv hdr hwf
      cases r with
      | false =>
        have HG := Lib.hid hgo
        clear hgo
        go_wp2_with (first | (go_at_call 21; refine (HRI.out _).mono ?_; rintro e w5 ⟨rfl, hb5⟩; have HX5 := Lib.hid (And.intro (And.intro (HX.out.1.1.later (hb5.mono HX.out.1.1.2.2)) HX.out.1.2) (HX.out.2.1.trans (hb5.mono (by have := HX.out.2.2; omega)))); obtain ⟨⟨e1, e2, e3, e4⟩, _⟩ := HL.out.below hb5 (by simp); simp only [Nat.zero_add] at e1 e2 e3 e4; clear hb5))
        refine ⟨⟨k + 1, n, by go_num, by omega, by simpa using HG.out, HX5.out⟩, ?_⟩
        simp [intOf]; omega
      | true =>
        by_cases hz : vk = 0
        · have hz1 : ((vk : Int) == 0) = true := by simp; exact hz
          rw [hz1] at hgo
          have HG := Lib.hid hgo
          clear hgo hz
          go_wp2_with (first | (go_at_call 21; refine (HRI.out _).mono ?_; rintro e w5 ⟨rfl, hb5⟩; have HX5 := Lib.hid (And.intro (And.intro (HX.out.1.1.later (hb5.mono HX.out.1.1.2.2)) HX.out.1.2) (HX.out.2.1.trans (hb5.mono (by have := HX.out.2.2; omega)))); obtain ⟨⟨e1, e2, e3, e4⟩, _⟩ := HL.out.below hb5 (by simp); simp only [Nat.zero_add] at e1 e2 e3 e4; clear hb5))
          refine ⟨⟨k + 1, n, by go_num, by omega, by simpa using HG.out, HX5.out⟩, ?_⟩
          simp [intOf]; omega
        · have hz1 : ((vk : Int) == 0) = false := by simp; exact hz
          rw [hz1] at hgo
          clear hz
          have HG := Lib.hid hgo
          clear hgo
          go_wp2_with (first | (go_at_call 21; refine (HRI.out _).mono ?_; rintro e w5 ⟨rfl, hb5⟩; have HX5 := Lib.hid (And.intro (And.intro (HX.out.1.1.later (hb5.mono HX.out.1.1.2.2)) HX.out.1.2) (HX.out.2.1.trans (hb5.mono (by have := HX.out.2.2; omega)))); obtain ⟨⟨e1, e2, e3, e4⟩, _⟩ := HL.out.below hb5 (by simp); simp only [Nat.zero_add] at e1 e2 e3 e4; clear hb5) | go_invoke  | (go_at_call 126; refine (HT.out _ HX5.out.1).mono ?_; rintro e w6 ⟨rfl, hc6, hb6⟩; have HX6 := Lib.hid (And.intro (And.intro hc6 (HCW.out HX5.out.1.2)) (HX5.out.2.trans hb6)); clear hc6 hb6))
          refine ⟨⟨k + 1, _, by go_num, by omega, by simpa using HG.out, HX6.out⟩, ?_⟩
          simp [intOf]; omega
    · obtain rfl : k = len := by omega
      have HG := Lib.hid hgo
      have HX := Lib.hid (And.intro hcn hbl)
      clear hgo hcn hbl
      obtain ⟨nk, nn, nf, ns⟩ := n
      go_wp2_with (first | go_invoke | (go_at_call 127; refine (choose_told_exp (w.heap.size + 1) 1 ⟨nk, nn, nf, ns⟩ wr HX.out.1.1).mono ?_; rintro e w7 ⟨rfl, hb7⟩; have HX7 := Lib.hid (HX.out.2.trans (hb7.mono (by omega))); have HR7 := Lib.hid (H1.out.2.1.below HX7.out (Nat.lt_succ_self _)); obtain ⟨⟨r1, r2, r3, r4⟩, g1, g2, g3, g4⟩ := HR7.out; simp only [Nat.zero_add] at r1 r2 r3 r4 g1 g2 g3 g4; clear hb7))
      refine ret_val2 Try.results8 rfl rfl rfl (HR7.out.stored ⟨nk, nn, nf, ns⟩) ⟨?_, below_val (H1.out.1.trans (HX7.out.mono (by omega))) (Nat.le_refl _) _ _ _ _⟩
      rw [← HG.out, List.drop_of_length_le (by rw [HLEN.out]; exact Nat.le_refl _)]; rfl

end Go.Proofs.Ytaanejhpodbdnaa
