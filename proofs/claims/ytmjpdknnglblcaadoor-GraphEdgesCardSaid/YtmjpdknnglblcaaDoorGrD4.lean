/- The walk of graph.Edges. -/
import Derived.Test.YtmjpdknnglblcaaDoorGrD3
namespace Go.Proofs.YtmjpdknnglblcaaDoor
open Go.RowKit
open Gr Go.Deep
set_option maxRecDepth 100000

/-- What expressions make next to relation i. -/
def rowS (n : Nat) (ts : List Tx) (i : Nat) : Nat := ofB n fun k => decide (i ≠ k) && ts.any fun t => (relsT t).testBit i && (relsT t).testBit k
theorem testBit_rowS (n : Nat) (ts : List Tx) (i k : Nat) : (rowS n ts i).testBit k = (decide (k < n) && (decide (i ≠ k) && ts.any fun t => (relsT t).testBit i && (relsT t).testBit k)) := testBit_ofB _ _ _
theorem rowS_nil (n i : Nat) : rowS n [] i = 0 := by
  apply Nat.eq_of_testBit_eq
  intro k
  rw [testBit_rowS]; simp
theorem rowS_lt (n : Nat) (ts : List Tx) (i : Nat) : rowS n ts i < 2 ^ n := ofB_lt _ _
theorem rowS_next (n : Nat) (ts : List Tx) (j i : Nat) (t : Tx) (hn : n ≤ 12) (hi : i < n) (h : ts[j]? = some t) :
    rowS n (ts.take (j + 1)) i = if (relsT t &&& (2 ^ n - 1)).testBit i then rowS n (ts.take j) i ||| dif (relsT t &&& (2 ^ n - 1)) (2 ^ i) else rowS n (ts.take j) i := by
  have hp : 2 ^ i < 4294967296 := Nat.lt_of_le_of_lt (Nat.pow_le_pow_right (by omega) (show i ≤ 12 by omega)) (by decide)
  have hS : relsT t &&& (2 ^ n - 1) < 4294967296 := Nat.lt_of_le_of_lt Nat.and_le_left (relsT_lt t)
  have hbit : ∀ k, (relsT t &&& (2 ^ n - 1)).testBit k = ((relsT t).testBit k && decide (k < n)) := fun k => by rw [Nat.testBit_and, Nat.testBit_two_pow_sub_one]
  apply Nat.eq_of_testBit_eq
  intro k
  rw [testBit_rowS, List.take_add_one, h, List.any_append]
  simp only [Option.toList_some, List.any_cons, List.any_nil, Bool.or_false]
  rw [hbit, decide_eq_true hi, Bool.and_true]
  cases hti : (relsT t).testBit i with
  | false => rw [if_neg (by simp), testBit_rowS]; simp
  | true =>
    rw [if_pos rfl, Nat.testBit_or, testBit_rowS, testBit_dif _ _ _ hS hp, hbit, Nat.testBit_two_pow]
    by_cases hik : i = k
    · subst hik; simp
    · simp only [hik, ne_eq, not_false_eq_true, decide_true, Bool.true_and, decide_false, Bool.not_false, Bool.and_true]
      cases decide (k < n) <;> cases (relsT t).testBit k <;> simp

/-- The row that the call makes. -/
def EdSt (w : World) (n : Nat) (L : Nat → Nat) (W : World) : Prop :=
  Below w.heap.size w W ∧ w.heap.size < W.heap.size ∧ ∀ i, i < n → W.cell? ⟨w.heap.size, i, none⟩ = some (.int .u32 ((L i : Nat) : Int)) ∧ W.frozen? ⟨w.heap.size, i, none⟩ = false
theorem EdSt.later {w W W' : World} {n : Nat} {L : Nat → Nat} (h : EdSt w n L W) (hb : Below (w.heap.size + 1) W W') : EdSt w n L W' :=
  ⟨h.1.trans (hb.mono (by omega)), Nat.lt_of_lt_of_le h.2.1 hb.size, fun i hi => ⟨(hb.cell (p := ⟨w.heap.size, i, none⟩) (Nat.lt_succ_self _)).trans (h.2.2 i hi).1, (hb.frozen (p := ⟨w.heap.size, i, none⟩) (Nat.lt_succ_self _)).trans (h.2.2 i hi).2⟩⟩
theorem EdSt.congr {w W : World} {n : Nat} {L L' : Nat → Nat} (h : EdSt w n L W) (e : ∀ i, i < n → L i = L' i) : EdSt w n L' W :=
  ⟨h.1, h.2.1, fun i hi => by rw [← e i hi]; exact h.2.2 i hi⟩
theorem EdSt.store {w W : World} {n x v : Nat} {L L' : Nat → Nat} (h : EdSt w n L W) (hx : x < n) (e : ∀ i, i < n → L' i = if i = x then v else L i) : EdSt w n L' (W.setCell ⟨w.heap.size, x, none⟩ (.int .u32 v)) := by
  refine ⟨h.1.trans ((Below.refl _ W).setCell (p := ⟨w.heap.size, x, none⟩) (Nat.le_refl _) _), by simpa using h.2.1, fun i hi => ⟨?_, by rw [World.frozen?_setCell]; exact (h.2.2 i hi).2⟩⟩
  rw [e i hi]
  by_cases hix : i = x
  · subst hix
    rw [World.cell?_setCell_same W _ _ (h.2.2 i hi).1, if_pos rfl]
  · rw [World.cell?_setCell_other W _ _ _ (show (⟨w.heap.size, x, none⟩ : Addr) ≠ ⟨w.heap.size, i, none⟩ by intro h'; exact hix (by cases h'; rfl)), if_neg hix]
    exact (h.2.2 i hi).1
theorem EdSt.start (w : World) (n : Nat) (t : TypeId) : EdSt w n (fun _ => 0) (w.alloc (.cells (madeCells #[.int .u32 0] n) t)) := by
  refine ⟨(Below.refl _ w).alloc (Nat.le_refl _) _, by simp, fun i hi => ?_⟩
  have hb := World.alloc_heap_new w (.cells (madeCells #[.int .u32 0] n) t)
  constructor
  · simp only [World.cell?]; rw [hb]; simp [madeCells, hi, Nat.mod_one]
  · simp only [World.frozen?]; rw [hb]; simp

attribute [local go_sem] run_store_float
set_option maxHeartbeats 1000000 in
theorem Edges_any (d : Nat) (a : Option Addr) (len cap n : Nat) (ts : List Tx) (n0 : Int) (w : World) (h : ExsAt w d a len cap ts) (hn0 : min (max n0 0) 12 = (n : Int)) :
    Calls Tryd.prog 21 #[.slice a len cap, .int .i64 n0] w fun e w' => e = .returned (.slice (some ⟨w.heap.size, 0, none⟩) n n) ∧ EdSt w n (rowS n ts) w' := by
  have hn : n ≤ 12 := by omega
  have h63 : len < 2 ^ 63 := by have := h.2.1; have := h.2.2.1; unfold maxLen at this; omega
  have hmx : ∀ (ats : Array TypeId) (ty : TypeId) (W : World), (Builtin.max_ ats ty #[.int .i64 n0, .int .i64 0]).run Tryd.prog W = .ok (.int .i64 (max n0 0)) W := by
    intro ats ty W
    simp only [Builtin.max_, List.foldlM_cons, List.foldlM_nil, Builtin.max2]
    by_cases h : n0 < 0
    · simp [h, Int.max_eq_right (Int.le_of_lt h)]
    · simp [h, Int.max_eq_left (show (0 : Int) ≤ n0 by omega)]
  have hmn : ∀ (ats : Array TypeId) (ty : TypeId) (W : World), (Builtin.min_ ats ty #[.int .i64 (max n0 0), .int .i64 12]).run Tryd.prog W = .ok (.int .i64 (n : Int)) W := by
    intro ats ty W
    rw [← hn0]
    simp only [Builtin.min_, List.foldlM_cons, List.foldlM_nil, Builtin.min2]
    by_cases h : (12 : Int) < max n0 0
    · simp [h, Int.min_eq_right (Int.le_of_lt h)]
    · simp [h, Int.min_eq_left (show max n0 0 ≤ 12 by omega)]
  generalize max n0 0 = m0 at *
  have hmkr := run_make_row' (P := Tryd.prog) 22 23 (.int .u32 0) 4 Tryd.underlying22 info23 rfl .i64 .i64 n (by omega) (by omega)
  clear hn0
  have HR := Lib.hid h
  have HL := Lib.hid (show ts.take len = ts from List.take_of_length_le (by rw [h.1]; exact Nat.le_refl _))
  clear h
  have hpn : 2 ^ n ≤ 4096 := Nat.le_trans (Nat.pow_le_pow_right (by omega) hn) (by decide)
  have hpn0 : 0 < 2 ^ n := Nat.pow_pos (by omega)
  obtain ⟨P, hP⟩ : ∃ P, P = 2 ^ n := ⟨_, rfl⟩
  have hall0 : IntKind.u32.wrap ((2 : Int) ^ n) = (P : Int) := by
    have e : (2 : Int) ^ n = ((2 ^ n : Nat) : Int) := by simp
    rw [wrap_u32', e]; omega
  have hall : IntKind.u32.wrap ((P : Int) - 1) = ((2 ^ n - 1 : Nat) : Int) := by rw [wrap_u32']; omega
  obtain ⟨M, hM⟩ : ∃ M, M = 2 ^ n - 1 := ⟨_, rfl⟩
  rw [← hM] at hall
  have hM32 : M < 4294967296 := by omega
  have HM := Lib.hid hM
  clear hM hP hpn hpn0
  go_enter Tryd.func21, Tryd.ntmps21
  go_wp2
  go_loopw [17] (fun i wr => ∃ j : Nat, i = .int .i64 j ∧ j ≤ len ∧ EdSt w n (rowS n (ts.take j)) wr) (fun i _ => len - (intOf i).toNat)
  case atStart => exact ⟨0, rfl, Nat.zero_le _, (EdSt.start w n _).congr fun i _ => by rw [List.take_zero, rowS_nil]⟩
  case round =>
    obtain ⟨j, rfl, hj, hst⟩ := hrel
    by_cases hlt : j < len
    · obtain ⟨h1, _, _, h4⟩ := HR.out
      obtain ⟨b, off, rfl, hbl, hc⟩ := h4.resolve_left (by omega)
      have hj' : j < ts.length := by omega
      obtain ⟨t, ht⟩ : ∃ t, ts[j]? = some t := ⟨_, List.getElem?_eq_getElem hj'⟩
      obtain ⟨cs, hR, hcs⟩ := hc j t ht
      obtain ⟨k0, k1, k2, k3, k4, k5, k6, ka, kl, kc, rfl⟩ := hR.cells
      have hbb := hst.1
      have d0 := (hbb.cell (p := ⟨b, off + j * 8 + 0, none⟩) hbl).trans (hcs 0 _ rfl)
      have d1 := (hbb.cell (p := ⟨b, off + j * 8 + 1, none⟩) hbl).trans (hcs 1 _ rfl)
      have d2 := (hbb.cell (p := ⟨b, off + j * 8 + 2, none⟩) hbl).trans (hcs 2 _ rfl)
      have d3 := (hbb.cell (p := ⟨b, off + j * 8 + 3, none⟩) hbl).trans (hcs 3 _ rfl)
      have d4 := (hbb.cell (p := ⟨b, off + j * 8 + 4, none⟩) hbl).trans (hcs 4 _ rfl)
      have d5 := (hbb.cell (p := ⟨b, off + j * 8 + 5, none⟩) hbl).trans (hcs 5 _ rfl)
      have d6 := (hbb.cell (p := ⟨b, off + j * 8 + 6, none⟩) hbl).trans (hcs 6 _ rfl)
      have d7 := (hbb.cell (p := ⟨b, off + j * 8 + 7, none⟩) hbl).trans (hcs 7 _ rfl)
      rw [Nat.add_zero] at d0
      have HIH := Lib.hid (fun W hb => Rels_any d _ t W (hR.later hb))
      have HNX := Lib.hid (fun i hi => rowS_next n ts j i t hn hi ht)
      have E1 := u32_and_nat (relsT t) M (relsT_lt t) hM32
      have HS32 := Lib.hid (show relsT t &&& M < 4294967296 from Nat.lt_of_le_of_lt Nat.and_le_left (relsT_lt t))
      rw [← HM.out] at HNX
      obtain ⟨S, hS⟩ : ∃ S, S = relsT t &&& M := ⟨_, rfl⟩
      rw [← hS] at E1 HNX HS32
      generalize relsT t = rt at *
      have HBB := Lib.hid hbb
      have HST := Lib.hid hst
      have hsz := hst.2.1
      clear hcs hR ht hbb hst hc h4 h1 hj' hS
      go_wp2_with (go_at_call 34; refine (HIH.out _ (HBB.out.alloc (Nat.le_of_lt hsz) _)).mono ?_; rintro e w5 ⟨rfl, hb5⟩; have HB5 := Lib.hid hb5; clear hb5)
      have HS5 := Lib.hid (HST.out.later (((Below.refl _ _).alloc hsz _).trans (HB5.out.mono (by simp; omega))))
      clear hsz d0 d1 d2 d3 d4 d5 d6 d7 HST HB5 HIH HBB
      go_loopw [30] (fun i wr => ∃ k : Nat, i = .int .i64 k ∧ k ≤ n ∧ EdSt w n (fun x => if x < k then rowS n (ts.take (j + 1)) x else rowS n (ts.take j) x) wr) (fun i _ => n - (intOf i).toNat)
      case atStart => exact ⟨0, rfl, Nat.zero_le _, HS5.out.congr fun i _ => by rw [if_neg (by omega)]⟩
      case round =>
        obtain ⟨k, rfl, hk, hst⟩ := hrel
        by_cases hlk : k < n
        · have hnx := HNX.out k hlk
          have hbs := shr_and S k HS32.out
          have hS32 := HS32.out
          have hcell := (hst.2.2 k hlk).1
          have hfro := (hst.2.2 k hlk).2
          simp only [Nat.lt_irrefl, if_false] at hcell
          have hl32 := Nat.lt_of_lt_of_le (rowS_lt n (ts.take j) k) (Nat.le_trans (Nat.pow_le_pow_right (by omega) hn) (show 2 ^ 12 ≤ 4294967296 by decide))
          have hp12 : 2 ^ k < 4294967296 := Nat.lt_of_le_of_lt (Nat.pow_le_pow_right (by omega) (show k ≤ 12 by omega)) (by decide)
          have E2 : IntKind.u32.wrap ((2 : Int) ^ k) = ((2 ^ k : Nat) : Int) := by
            have e : (2 : Int) ^ k = ((2 ^ k : Nat) : Int) := by simp
            rw [wrap_u32', e]; generalize 2 ^ k = z at *; omega
          have E3 := u32_andNot_nat S (2 ^ k) hS32 hp12
          rw [show S &&& (4294967295 - 2 ^ k) = dif S (2 ^ k) from rfl] at E3
          have hd32 : dif S (2 ^ k) < 4294967296 := Nat.lt_of_le_of_lt (dif_le _ _) hS32
          have E4 := u32_or_nat (rowS n (ts.take j) k) (dif S (2 ^ k)) hl32 hd32
          have hsd : (S : Int) / 2 ^ k = ((S / 2 ^ k : Nat) : Int) := by simp
          obtain ⟨o, ho⟩ : ∃ z, z = rowS n (ts.take j) k := ⟨_, rfl⟩
          rw [← ho] at hcell E4 hnx
          obtain ⟨dd, hdd⟩ : ∃ z, z = dif S (2 ^ k) := ⟨_, rfl⟩
          rw [← hdd] at E3 E4 hnx
          obtain ⟨o2, ho2⟩ : ∃ z, z = o ||| dd := ⟨_, rfl⟩
          rw [← ho2] at E4 hnx
          obtain ⟨p, hpp⟩ : ∃ z, z = 2 ^ k := ⟨_, rfl⟩
          rw [← hpp] at E2 E3
          obtain ⟨q, hq⟩ : ∃ z, z = S / 2 ^ k := ⟨_, rfl⟩
          rw [← hq] at hsd hbs
          have HST := Lib.hid hst
          have HO := Lib.hid ho
          clear hst hl32 hp12 hd32 ho hdd ho2 hpp hq hS32
          cases hb : S.testBit k with
          | true =>
            rw [hb] at hbs hnx
            simp only [if_true] at hbs hnx
            have HNK := Lib.hid hnx
            clear hb hnx
            go_wp2
            go_roundw
            case rel => exact ⟨k + 1, by go_num, by omega, HST.out.store hlk fun i hi => by
              by_cases e : i = k
              · subst e; rw [if_pos (by omega), if_pos rfl, HNK.out]
              · rw [if_neg e]
                by_cases h2 : i < k
                · rw [if_pos (by omega), if_pos h2]
                · rw [if_neg (by omega), if_neg h2]⟩
            case measure => simp [intOf]; omega
          | false =>
            rw [hb] at hbs hnx
            simp only [Bool.false_eq_true, if_false] at hbs hnx
            have HNK := Lib.hid hnx
            clear hb hnx
            go_wp2
            go_roundw
            case rel => exact ⟨k + 1, by go_num, by omega, HST.out.congr fun i hi => by
              by_cases e : i = k
              · subst e; rw [if_neg (by omega), if_pos (by omega), HNK.out, HO.out]
              · by_cases h2 : i < k
                · rw [if_pos (by omega), if_pos (by omega)]
                · rw [if_neg (by omega), if_neg (by omega)]⟩
            case measure => simp [intOf]; omega
        · obtain rfl : k = n := by omega
          have HST := Lib.hid hst
          clear hst
          go_wp2
          go_roundw
          case rel => exact ⟨j + 1, by go_num, by omega, HST.out.congr fun i hi => by rw [if_pos hi]⟩
          case measure => simp [intOf]; omega
    · obtain rfl : j = len := by omega
      have HST := Lib.hid hst
      clear hst
      go_wp2
      go_ret
      exact ⟨rfl, by rw [← HL.out]; exact HST.out⟩
end Go.Proofs.YtmjpdknnglblcaaDoor
