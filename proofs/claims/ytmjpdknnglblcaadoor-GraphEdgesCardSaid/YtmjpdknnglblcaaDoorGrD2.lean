/- The walks of Rels, the program's and the reference's. -/
import Derived.Test.YtmjpdknnglblcaaDoorGrD1
import Derived.Test.YtmjpdknnglblcaaDoorGrA6
namespace Go.Proofs.YtmjpdknnglblcaaDoor
open Go.RowKit
open Gr Go.Deep
set_option maxRecDepth 100000

def baseT (k r : Int) : Nat := if k = 1 ∧ 0 ≤ r ∧ r ≤ 31 then 2 ^ r.toNat else 0
mutual
/-- The relations that an expression names. -/
def relsT : Tx → Nat
  | .mk k r _ _ _ _ _ ks => baseT k r ||| relsTs ks
def relsTs : List Tx → Nat
  | [] => 0
  | t :: ts => relsT t ||| relsTs ts
end
theorem relsTs_append : ∀ (a b : List Tx), relsTs (a ++ b) = relsTs a ||| relsTs b
  | [], b => by simp [relsTs]
  | t :: a, b => by simp only [List.cons_append, relsTs, relsTs_append a b, Nat.or_assoc]
theorem relsTs_take (ts : List Tx) (k : Nat) (t : Tx) (h : ts[k]? = some t) : relsTs (ts.take (k + 1)) = relsTs (ts.take k) ||| relsT t := by
  rw [List.take_add_one, h, relsTs_append]; simp [relsTs]
theorem baseT_lt (k r : Int) : baseT k r < 4294967296 := by
  unfold baseT
  split
  · have : r.toNat < 32 := by omega
    exact Nat.lt_of_lt_of_le (Nat.pow_lt_pow_right (by omega) this) (by decide)
  · omega
mutual
theorem relsT_lt : ∀ t, relsT t < 4294967296
  | .mk k r _ _ _ _ _ ks => by
    simp only [relsT]
    exact Nat.or_lt_two_pow (n := 32) (baseT_lt k r) (relsTs_lt ks)
theorem relsTs_lt : ∀ ts, relsTs ts < 4294967296
  | [] => by simp [relsTs]
  | t :: ts => by
    simp only [relsTs]
    exact Nat.or_lt_two_pow (n := 32) (relsT_lt t) (relsTs_lt ts)
end

theorem ExAt.cells {W : World} {d : Nat} {cs : List Value} {t : Tx} (h : ExAt W d cs t) : ∃ k0 k1 k2 k3 k4 k5 k6 a len cap, cs = [.int .i64 k0, .int .i64 k1, .int .i64 k2, .int .i64 k3, .int .i64 k4, .float .f64 k5, .string k6, .slice a len cap] := by
  cases d with
  | zero => exact h.elim
  | succ d =>
    obtain ⟨⟩ := t
    obtain ⟨a, len, cap, rfl, _⟩ := h
    exact ⟨_, _, _, _, _, _, _, _, _, _, rfl⟩

theorem base_cases (kind rel : Int) : (∃ r : Nat, kind = 1 ∧ rel = (r : Int) ∧ r ≤ 31 ∧ baseT kind rel = 2 ^ r) ∨ (kind ≠ 1 ∧ baseT kind rel = 0) ∨ (kind = 1 ∧ rel < 0 ∧ baseT kind rel = 0) ∨ (kind = 1 ∧ 0 ≤ rel ∧ 31 < rel ∧ baseT kind rel = 0) := by
  unfold baseT
  by_cases h1 : kind = 1
  · by_cases h2 : 0 ≤ rel
    · by_cases h3 : rel ≤ 31
      · exact .inl ⟨rel.toNat, h1, by omega, by omega, by rw [if_pos ⟨h1, h2, h3⟩]⟩
      · exact .inr (.inr (.inr ⟨h1, h2, by omega, by rw [if_neg (fun h => h3 h.2.2)]⟩))
    · exact .inr (.inr (.inl ⟨h1, by omega, by rw [if_neg (fun h => h2 h.2.1)]⟩))
  · exact .inr (.inl ⟨h1, by rw [if_neg (fun h => h1 h.1)]⟩)

theorem bit_wrap (r : Nat) (h : r ≤ 31) : IntKind.u32.wrap ((2 : Int) ^ r) = ((2 ^ r : Nat) : Int) := by
  have e : (2 : Int) ^ r = ((2 ^ r : Nat) : Int) := by simp
  have := Nat.pow_lt_pow_right (a := 2) (by omega) (show r < 32 by omega)
  rw [wrap_u32', e]; generalize 2 ^ r = z at *; omega

theorem run_store_float (P : Program) (w : World) (a : Addr) (k : FloatKind) (b : Nat) (m : Mode) : (store a (.float k b) m).run P w = stored P w a (.float k b) m := run_store P w a _ m rfl
attribute [local go_sem] run_store_float

/-- What has been told behind so many parts. -/
def RelSt (W : World) (B : Nat) (kids : List Tx) (k o : Nat) (wr : World) : Prop := o = B ||| relsTs (kids.take k) ∧ Below (W.heap.size) W wr

set_option maxHeartbeats 1000000 in
theorem Rels_any : ∀ (d : Nat) (cs : List Value) (t : Tx) (w : World), ExAt w d cs t →
    Calls Tryd.prog 34 #[.agg cs.toArray] w fun e w' => e = .returned (.int .u32 ((relsT t : Nat) : Int)) ∧ Below w.heap.size w w'
  | 0, _, _, _, h => h.elim
  | d + 1, cs, .mk kind rel col ck ci cf ct kids, w, h => by
    obtain ⟨a, len, cap, rfl, hw, hr⟩ := h
    have ih := Lib.hid (Rels_any d)
    clear hw
    have hrels : relsT (.mk kind rel col ck ci cf ct kids) = baseT kind rel ||| relsTs (kids.take len) := by
      rw [List.take_of_length_le (by rw [hr.1]; exact Nat.le_refl _)]; simp only [relsT]
    have hb32 := baseT_lt kind rel
    have h63 : len < 2 ^ 63 := by have := hr.2.1; have := hr.2.2.1; unfold maxLen at this; omega
    obtain ⟨R, hR⟩ : ∃ R, R = relsT (.mk kind rel col ck ci cf ct kids) := ⟨_, rfl⟩
    have hcases := base_cases kind rel
    rw [← hR] at hrels ⊢
    clear hR
    obtain ⟨B, hB⟩ : ∃ B, B = baseT kind rel := ⟨_, rfl⟩
    rw [← hB] at hrels hb32 hcases
    have HR := Lib.hid hr
    have HRL := Lib.hid hrels
    have HB32 := Lib.hid hb32
    clear hrels hr hB hb32
    let W0 := w.alloc (.cells #[.int .i64 kind, .int .i64 rel, .int .i64 col, .int .i64 ck, .int .i64 ci, .float .f64 cf, .string ct, .slice a len cap] 53)
    have hb0 : Below w.heap.size w W0 := (Below.refl _ w).alloc (Nat.le_refl _) _
    have HB0 := Lib.hid hb0
    clear hb0
    rcases hcases with ⟨r, rfl, rfl, hr31, hBr⟩ | ⟨hk, hB0⟩ | ⟨rfl, hr0, hB0⟩ | ⟨rfl, hr0, hr31, hB0⟩
    · have E2 := bit_wrap r hr31
      have hr31' : ((r : Int) ≤ 31) = True := by simp; omega
      rw [← hBr] at E2
      have HB0' := Lib.hid (rfl : B = B)
      clear hBr
      go_enter Tryd.func34, Tryd.ntmps34
      go_wp2
      go_loopw [3, 26] (fun o i wr => ∃ k o' : Nat, i = .int .i64 k ∧ k ≤ len ∧ o = .int .u32 o' ∧ RelSt W0 B kids k o' wr) (fun _ i _ => len - (intOf i).toNat)
      case atStart => exact ⟨0, B, rfl, Nat.zero_le _, by first | rfl | (rw [HB0'.out]; rfl), by simp [relsTs], Below.refl _ _⟩
      case round =>
        obtain ⟨k, o, rfl, hk, rfl, ho, hb⟩ := hrel
        by_cases hlt : k < len
        · obtain ⟨h1, _, _, h4⟩ := HR.out
          obtain ⟨b, off, rfl, hbl, hc⟩ := h4.resolve_left (by omega)
          have hk' : k < kids.length := by omega
          obtain ⟨t, ht⟩ : ∃ t, kids[k]? = some t := ⟨_, List.getElem?_eq_getElem hk'⟩
          obtain ⟨cs, hR, hcs⟩ := hc k t ht
          obtain ⟨k0, k1, k2, k3, k4, k5, k6, ka, kl, kc, rfl⟩ := hR.cells
          have hbb : Below w.heap.size w wr := HB0.out.trans (hb.mono HB0.out.size)
          have d0 := (hbb.cell (p := ⟨b, off + k * 8 + 0, none⟩) hbl).trans (hcs 0 _ rfl)
          have d1 := (hbb.cell (p := ⟨b, off + k * 8 + 1, none⟩) hbl).trans (hcs 1 _ rfl)
          have d2 := (hbb.cell (p := ⟨b, off + k * 8 + 2, none⟩) hbl).trans (hcs 2 _ rfl)
          have d3 := (hbb.cell (p := ⟨b, off + k * 8 + 3, none⟩) hbl).trans (hcs 3 _ rfl)
          have d4 := (hbb.cell (p := ⟨b, off + k * 8 + 4, none⟩) hbl).trans (hcs 4 _ rfl)
          have d5 := (hbb.cell (p := ⟨b, off + k * 8 + 5, none⟩) hbl).trans (hcs 5 _ rfl)
          have d6 := (hbb.cell (p := ⟨b, off + k * 8 + 6, none⟩) hbl).trans (hcs 6 _ rfl)
          have d7 := (hbb.cell (p := ⟨b, off + k * 8 + 7, none⟩) hbl).trans (hcs 7 _ rfl)
          rw [Nat.add_zero] at d0
          have HX := Lib.hid (And.intro hR ht)
          have HBB := Lib.hid hbb
          have HBR := Lib.hid hb
          have HO := Lib.hid ho
          clear hcs hR ht hbb hb ho hc h4 h1 hk'
          have hsz := HBB.out.size
          have hlt1 := relsT_lt t
          have hlt2 : o < 4294967296 := by rw [HO.out]; exact Nat.or_lt_two_pow (n := 32) HB32.out (relsTs_lt _)
          have E4 := u32_or_nat o (relsT t) hlt2 hlt1
          have hnew := relsTs_take kids k t HX.out.2
          obtain ⟨o2, ho2⟩ : ∃ z, z = o ||| relsT t := ⟨_, rfl⟩
          rw [← ho2] at E4
          have HO2 := Lib.hid (show o2 = B ||| relsTs (kids.take (k + 1)) by rw [hnew, ho2, HO.out, Nat.or_assoc])
          have IH := Lib.hid (fun W hb => ih.out _ t W (HX.out.1.later hb))
          generalize relsT t = rt at *
          clear hnew ho2 hlt1 hlt2
          go_wp2_with (go_at_call 34; refine (IH.out _ (HBB.out.alloc hsz _)).mono ?_; rintro e w5 ⟨rfl, hb5⟩; have HB5 := Lib.hid hb5; clear hb5)
          go_roundw
          case rel => exact ⟨k + 1, o2, by go_num, by omega, rfl, HO2.out, (HBR.out.alloc HBR.out.size _).trans (HB5.out.mono (HBR.out.alloc HBR.out.size _).size)⟩
          case measure => simp [intOf]; omega
        · obtain rfl : k = len := by omega
          have HO := Lib.hid ho
          have HBR := Lib.hid hb
          clear ho hb
          go_wp2
          go_ret
          exact ⟨by rw [HRL.out, HO.out]; rfl, HB0.out.trans (HBR.out.mono HB0.out.size)⟩
    · have hk1 : ((kind : Int) == 1) = false := by simp; omega
      have HB0' := Lib.hid hB0
      clear hB0 hk
      go_enter Tryd.func34, Tryd.ntmps34
      go_wp2
      go_loopw [3, 26] (fun o i wr => ∃ k o' : Nat, i = .int .i64 k ∧ k ≤ len ∧ o = .int .u32 o' ∧ RelSt W0 B kids k o' wr) (fun _ i _ => len - (intOf i).toNat)
      case atStart => exact ⟨0, B, rfl, Nat.zero_le _, by first | rfl | (rw [HB0'.out]; rfl), by simp [relsTs], Below.refl _ _⟩
      case round =>
        obtain ⟨k, o, rfl, hk, rfl, ho, hb⟩ := hrel
        by_cases hlt : k < len
        · obtain ⟨h1, _, _, h4⟩ := HR.out
          obtain ⟨b, off, rfl, hbl, hc⟩ := h4.resolve_left (by omega)
          have hk' : k < kids.length := by omega
          obtain ⟨t, ht⟩ : ∃ t, kids[k]? = some t := ⟨_, List.getElem?_eq_getElem hk'⟩
          obtain ⟨cs, hR, hcs⟩ := hc k t ht
          obtain ⟨k0, k1, k2, k3, k4, k5, k6, ka, kl, kc, rfl⟩ := hR.cells
          have hbb : Below w.heap.size w wr := HB0.out.trans (hb.mono HB0.out.size)
          have d0 := (hbb.cell (p := ⟨b, off + k * 8 + 0, none⟩) hbl).trans (hcs 0 _ rfl)
          have d1 := (hbb.cell (p := ⟨b, off + k * 8 + 1, none⟩) hbl).trans (hcs 1 _ rfl)
          have d2 := (hbb.cell (p := ⟨b, off + k * 8 + 2, none⟩) hbl).trans (hcs 2 _ rfl)
          have d3 := (hbb.cell (p := ⟨b, off + k * 8 + 3, none⟩) hbl).trans (hcs 3 _ rfl)
          have d4 := (hbb.cell (p := ⟨b, off + k * 8 + 4, none⟩) hbl).trans (hcs 4 _ rfl)
          have d5 := (hbb.cell (p := ⟨b, off + k * 8 + 5, none⟩) hbl).trans (hcs 5 _ rfl)
          have d6 := (hbb.cell (p := ⟨b, off + k * 8 + 6, none⟩) hbl).trans (hcs 6 _ rfl)
          have d7 := (hbb.cell (p := ⟨b, off + k * 8 + 7, none⟩) hbl).trans (hcs 7 _ rfl)
          rw [Nat.add_zero] at d0
          have HX := Lib.hid (And.intro hR ht)
          have HBB := Lib.hid hbb
          have HBR := Lib.hid hb
          have HO := Lib.hid ho
          clear hcs hR ht hbb hb ho hc h4 h1 hk'
          have hsz := HBB.out.size
          have hlt1 := relsT_lt t
          have hlt2 : o < 4294967296 := by rw [HO.out]; exact Nat.or_lt_two_pow (n := 32) HB32.out (relsTs_lt _)
          have E4 := u32_or_nat o (relsT t) hlt2 hlt1
          have hnew := relsTs_take kids k t HX.out.2
          obtain ⟨o2, ho2⟩ : ∃ z, z = o ||| relsT t := ⟨_, rfl⟩
          rw [← ho2] at E4
          have HO2 := Lib.hid (show o2 = B ||| relsTs (kids.take (k + 1)) by rw [hnew, ho2, HO.out, Nat.or_assoc])
          have IH := Lib.hid (fun W hb => ih.out _ t W (HX.out.1.later hb))
          generalize relsT t = rt at *
          clear hnew ho2 hlt1 hlt2
          go_wp2_with (go_at_call 34; refine (IH.out _ (HBB.out.alloc hsz _)).mono ?_; rintro e w5 ⟨rfl, hb5⟩; have HB5 := Lib.hid hb5; clear hb5)
          go_roundw
          case rel => exact ⟨k + 1, o2, by go_num, by omega, rfl, HO2.out, (HBR.out.alloc HBR.out.size _).trans (HB5.out.mono (HBR.out.alloc HBR.out.size _).size)⟩
          case measure => simp [intOf]; omega
        · obtain rfl : k = len := by omega
          have HO := Lib.hid ho
          have HBR := Lib.hid hb
          clear ho hb
          go_wp2
          go_ret
          exact ⟨by rw [HRL.out, HO.out]; rfl, HB0.out.trans (HBR.out.mono HB0.out.size)⟩
    · have hk1 : ((0 : Int) ≤ rel) = False := by simp; omega
      have HB0' := Lib.hid hB0
      clear hB0 hr0
      go_enter Tryd.func34, Tryd.ntmps34
      go_wp2
      go_loopw [3, 26] (fun o i wr => ∃ k o' : Nat, i = .int .i64 k ∧ k ≤ len ∧ o = .int .u32 o' ∧ RelSt W0 B kids k o' wr) (fun _ i _ => len - (intOf i).toNat)
      case atStart => exact ⟨0, B, rfl, Nat.zero_le _, by first | rfl | (rw [HB0'.out]; rfl), by simp [relsTs], Below.refl _ _⟩
      case round =>
        obtain ⟨k, o, rfl, hk, rfl, ho, hb⟩ := hrel
        by_cases hlt : k < len
        · obtain ⟨h1, _, _, h4⟩ := HR.out
          obtain ⟨b, off, rfl, hbl, hc⟩ := h4.resolve_left (by omega)
          have hk' : k < kids.length := by omega
          obtain ⟨t, ht⟩ : ∃ t, kids[k]? = some t := ⟨_, List.getElem?_eq_getElem hk'⟩
          obtain ⟨cs, hR, hcs⟩ := hc k t ht
          obtain ⟨k0, k1, k2, k3, k4, k5, k6, ka, kl, kc, rfl⟩ := hR.cells
          have hbb : Below w.heap.size w wr := HB0.out.trans (hb.mono HB0.out.size)
          have d0 := (hbb.cell (p := ⟨b, off + k * 8 + 0, none⟩) hbl).trans (hcs 0 _ rfl)
          have d1 := (hbb.cell (p := ⟨b, off + k * 8 + 1, none⟩) hbl).trans (hcs 1 _ rfl)
          have d2 := (hbb.cell (p := ⟨b, off + k * 8 + 2, none⟩) hbl).trans (hcs 2 _ rfl)
          have d3 := (hbb.cell (p := ⟨b, off + k * 8 + 3, none⟩) hbl).trans (hcs 3 _ rfl)
          have d4 := (hbb.cell (p := ⟨b, off + k * 8 + 4, none⟩) hbl).trans (hcs 4 _ rfl)
          have d5 := (hbb.cell (p := ⟨b, off + k * 8 + 5, none⟩) hbl).trans (hcs 5 _ rfl)
          have d6 := (hbb.cell (p := ⟨b, off + k * 8 + 6, none⟩) hbl).trans (hcs 6 _ rfl)
          have d7 := (hbb.cell (p := ⟨b, off + k * 8 + 7, none⟩) hbl).trans (hcs 7 _ rfl)
          rw [Nat.add_zero] at d0
          have HX := Lib.hid (And.intro hR ht)
          have HBB := Lib.hid hbb
          have HBR := Lib.hid hb
          have HO := Lib.hid ho
          clear hcs hR ht hbb hb ho hc h4 h1 hk'
          have hsz := HBB.out.size
          have hlt1 := relsT_lt t
          have hlt2 : o < 4294967296 := by rw [HO.out]; exact Nat.or_lt_two_pow (n := 32) HB32.out (relsTs_lt _)
          have E4 := u32_or_nat o (relsT t) hlt2 hlt1
          have hnew := relsTs_take kids k t HX.out.2
          obtain ⟨o2, ho2⟩ : ∃ z, z = o ||| relsT t := ⟨_, rfl⟩
          rw [← ho2] at E4
          have HO2 := Lib.hid (show o2 = B ||| relsTs (kids.take (k + 1)) by rw [hnew, ho2, HO.out, Nat.or_assoc])
          have IH := Lib.hid (fun W hb => ih.out _ t W (HX.out.1.later hb))
          generalize relsT t = rt at *
          clear hnew ho2 hlt1 hlt2
          go_wp2_with (go_at_call 34; refine (IH.out _ (HBB.out.alloc hsz _)).mono ?_; rintro e w5 ⟨rfl, hb5⟩; have HB5 := Lib.hid hb5; clear hb5)
          go_roundw
          case rel => exact ⟨k + 1, o2, by go_num, by omega, rfl, HO2.out, (HBR.out.alloc HBR.out.size _).trans (HB5.out.mono (HBR.out.alloc HBR.out.size _).size)⟩
          case measure => simp [intOf]; omega
        · obtain rfl : k = len := by omega
          have HO := Lib.hid ho
          have HBR := Lib.hid hb
          clear ho hb
          go_wp2
          go_ret
          exact ⟨by rw [HRL.out, HO.out]; rfl, HB0.out.trans (HBR.out.mono HB0.out.size)⟩
    · have hk1 : ((0 : Int) ≤ rel) = True := by simp; omega
      have hk2 : ((rel : Int) ≤ 31) = False := by simp; omega
      have HB0' := Lib.hid hB0
      clear hB0 hr0 hr31
      go_enter Tryd.func34, Tryd.ntmps34
      go_wp2
      go_loopw [3, 26] (fun o i wr => ∃ k o' : Nat, i = .int .i64 k ∧ k ≤ len ∧ o = .int .u32 o' ∧ RelSt W0 B kids k o' wr) (fun _ i _ => len - (intOf i).toNat)
      case atStart => exact ⟨0, B, rfl, Nat.zero_le _, by first | rfl | (rw [HB0'.out]; rfl), by simp [relsTs], Below.refl _ _⟩
      case round =>
        obtain ⟨k, o, rfl, hk, rfl, ho, hb⟩ := hrel
        by_cases hlt : k < len
        · obtain ⟨h1, _, _, h4⟩ := HR.out
          obtain ⟨b, off, rfl, hbl, hc⟩ := h4.resolve_left (by omega)
          have hk' : k < kids.length := by omega
          obtain ⟨t, ht⟩ : ∃ t, kids[k]? = some t := ⟨_, List.getElem?_eq_getElem hk'⟩
          obtain ⟨cs, hR, hcs⟩ := hc k t ht
          obtain ⟨k0, k1, k2, k3, k4, k5, k6, ka, kl, kc, rfl⟩ := hR.cells
          have hbb : Below w.heap.size w wr := HB0.out.trans (hb.mono HB0.out.size)
          have d0 := (hbb.cell (p := ⟨b, off + k * 8 + 0, none⟩) hbl).trans (hcs 0 _ rfl)
          have d1 := (hbb.cell (p := ⟨b, off + k * 8 + 1, none⟩) hbl).trans (hcs 1 _ rfl)
          have d2 := (hbb.cell (p := ⟨b, off + k * 8 + 2, none⟩) hbl).trans (hcs 2 _ rfl)
          have d3 := (hbb.cell (p := ⟨b, off + k * 8 + 3, none⟩) hbl).trans (hcs 3 _ rfl)
          have d4 := (hbb.cell (p := ⟨b, off + k * 8 + 4, none⟩) hbl).trans (hcs 4 _ rfl)
          have d5 := (hbb.cell (p := ⟨b, off + k * 8 + 5, none⟩) hbl).trans (hcs 5 _ rfl)
          have d6 := (hbb.cell (p := ⟨b, off + k * 8 + 6, none⟩) hbl).trans (hcs 6 _ rfl)
          have d7 := (hbb.cell (p := ⟨b, off + k * 8 + 7, none⟩) hbl).trans (hcs 7 _ rfl)
          rw [Nat.add_zero] at d0
          have HX := Lib.hid (And.intro hR ht)
          have HBB := Lib.hid hbb
          have HBR := Lib.hid hb
          have HO := Lib.hid ho
          clear hcs hR ht hbb hb ho hc h4 h1 hk'
          have hsz := HBB.out.size
          have hlt1 := relsT_lt t
          have hlt2 : o < 4294967296 := by rw [HO.out]; exact Nat.or_lt_two_pow (n := 32) HB32.out (relsTs_lt _)
          have E4 := u32_or_nat o (relsT t) hlt2 hlt1
          have hnew := relsTs_take kids k t HX.out.2
          obtain ⟨o2, ho2⟩ : ∃ z, z = o ||| relsT t := ⟨_, rfl⟩
          rw [← ho2] at E4
          have HO2 := Lib.hid (show o2 = B ||| relsTs (kids.take (k + 1)) by rw [hnew, ho2, HO.out, Nat.or_assoc])
          have IH := Lib.hid (fun W hb => ih.out _ t W (HX.out.1.later hb))
          generalize relsT t = rt at *
          clear hnew ho2 hlt1 hlt2
          go_wp2_with (go_at_call 34; refine (IH.out _ (HBB.out.alloc hsz _)).mono ?_; rintro e w5 ⟨rfl, hb5⟩; have HB5 := Lib.hid hb5; clear hb5)
          go_roundw
          case rel => exact ⟨k + 1, o2, by go_num, by omega, rfl, HO2.out, (HBR.out.alloc HBR.out.size _).trans (HB5.out.mono (HBR.out.alloc HBR.out.size _).size)⟩
          case measure => simp [intOf]; omega
        · obtain rfl : k = len := by omega
          have HO := Lib.hid ho
          have HBR := Lib.hid hb
          clear ho hb
          go_wp2
          go_ret
          exact ⟨by rw [HRL.out, HO.out]; rfl, HB0.out.trans (HBR.out.mono HB0.out.size)⟩
set_option maxHeartbeats 1000000 in
theorem RRels_any : ∀ (d : Nat) (cs : List Value) (t : Tx) (w : World), ExAt w d cs t →
    Calls Tryd.prog 35 #[.agg cs.toArray] w fun e w' => e = .returned (.int .u32 ((relsT t : Nat) : Int)) ∧ Below w.heap.size w w'
  | 0, _, _, _, h => h.elim
  | d + 1, cs, .mk kind rel col ck ci cf ct kids, w, h => by
    obtain ⟨a, len, cap, rfl, hw, hr⟩ := h
    have ih := Lib.hid (RRels_any d)
    clear hw
    have hrels : relsT (.mk kind rel col ck ci cf ct kids) = baseT kind rel ||| relsTs (kids.take len) := by
      rw [List.take_of_length_le (by rw [hr.1]; exact Nat.le_refl _)]; simp only [relsT]
    have hb32 := baseT_lt kind rel
    have h63 : len < 2 ^ 63 := by have := hr.2.1; have := hr.2.2.1; unfold maxLen at this; omega
    obtain ⟨R, hR⟩ : ∃ R, R = relsT (.mk kind rel col ck ci cf ct kids) := ⟨_, rfl⟩
    have hcases := base_cases kind rel
    rw [← hR] at hrels ⊢
    clear hR
    obtain ⟨B, hB⟩ : ∃ B, B = baseT kind rel := ⟨_, rfl⟩
    rw [← hB] at hrels hb32 hcases
    have HR := Lib.hid hr
    have HRL := Lib.hid hrels
    have HB32 := Lib.hid hb32
    clear hrels hr hB hb32
    let W0 := w.alloc (.cells #[.int .i64 kind, .int .i64 rel, .int .i64 col, .int .i64 ck, .int .i64 ci, .float .f64 cf, .string ct, .slice a len cap] 53)
    have hb0 : Below w.heap.size w W0 := (Below.refl _ w).alloc (Nat.le_refl _) _
    have HB0 := Lib.hid hb0
    have h7 : W0.cell? ⟨w.heap.size, 7, none⟩ = some (.slice a len cap) := by
      simp only [W0, World.cell?]; rw [World.alloc_heap_new]; rfl
    have h7' : w.heap.size < W0.heap.size := by simp [W0]
    have E7 := Lib.hid (And.intro h7 h7')
    clear h7 h7'
    clear hb0
    rcases hcases with ⟨r, rfl, rfl, hr31, hBr⟩ | ⟨hk, hB0⟩ | ⟨rfl, hr0, hB0⟩ | ⟨rfl, hr0, hr31, hB0⟩
    · have E2 := bit_wrap r hr31
      have hr31' : ((r : Int) ≤ 31) = True := by simp; omega
      rw [← hBr] at E2
      have HB0' := Lib.hid (rfl : B = B)
      clear hBr
      go_enter Tryd.func35, Tryd.ntmps35
      go_wp2
      go_loopw [3, 4] (fun o i wr => ∃ k o' : Nat, i = .int .i64 k ∧ k ≤ len ∧ o = .int .u32 o' ∧ RelSt W0 B kids k o' wr) (fun _ i _ => len - (intOf i).toNat)
      case atStart => exact ⟨0, B, rfl, Nat.zero_le _, by first | rfl | (rw [HB0'.out]; rfl), by simp [relsTs], Below.refl _ _⟩
      case round =>
        obtain ⟨k, o, rfl, hk, rfl, ho, hb⟩ := hrel
        have f7 := (hb.cell (p := ⟨w.heap.size, 7, none⟩) E7.out.2).trans E7.out.1
        by_cases hlt : k < len
        · obtain ⟨h1, _, _, h4⟩ := HR.out
          obtain ⟨b, off, rfl, hbl, hc⟩ := h4.resolve_left (by omega)
          have hk' : k < kids.length := by omega
          obtain ⟨t, ht⟩ : ∃ t, kids[k]? = some t := ⟨_, List.getElem?_eq_getElem hk'⟩
          obtain ⟨cs, hR, hcs⟩ := hc k t ht
          obtain ⟨k0, k1, k2, k3, k4, k5, k6, ka, kl, kc, rfl⟩ := hR.cells
          have hbb : Below w.heap.size w wr := HB0.out.trans (hb.mono HB0.out.size)
          have d0 := (hbb.cell (p := ⟨b, off + k * 8 + 0, none⟩) hbl).trans (hcs 0 _ rfl)
          have d1 := (hbb.cell (p := ⟨b, off + k * 8 + 1, none⟩) hbl).trans (hcs 1 _ rfl)
          have d2 := (hbb.cell (p := ⟨b, off + k * 8 + 2, none⟩) hbl).trans (hcs 2 _ rfl)
          have d3 := (hbb.cell (p := ⟨b, off + k * 8 + 3, none⟩) hbl).trans (hcs 3 _ rfl)
          have d4 := (hbb.cell (p := ⟨b, off + k * 8 + 4, none⟩) hbl).trans (hcs 4 _ rfl)
          have d5 := (hbb.cell (p := ⟨b, off + k * 8 + 5, none⟩) hbl).trans (hcs 5 _ rfl)
          have d6 := (hbb.cell (p := ⟨b, off + k * 8 + 6, none⟩) hbl).trans (hcs 6 _ rfl)
          have d7 := (hbb.cell (p := ⟨b, off + k * 8 + 7, none⟩) hbl).trans (hcs 7 _ rfl)
          rw [Nat.add_zero] at d0
          have HX := Lib.hid (And.intro hR ht)
          have HBB := Lib.hid hbb
          have HBR := Lib.hid hb
          have HO := Lib.hid ho
          clear hcs hR ht hbb hb ho hc h4 h1 hk'
          have hsz := HBB.out.size
          have hlt1 := relsT_lt t
          have hlt2 : o < 4294967296 := by rw [HO.out]; exact Nat.or_lt_two_pow (n := 32) HB32.out (relsTs_lt _)
          have E4 := u32_or_nat o (relsT t) hlt2 hlt1
          have hnew := relsTs_take kids k t HX.out.2
          obtain ⟨o2, ho2⟩ : ∃ z, z = o ||| relsT t := ⟨_, rfl⟩
          rw [← ho2] at E4
          have HO2 := Lib.hid (show o2 = B ||| relsTs (kids.take (k + 1)) by rw [hnew, ho2, HO.out, Nat.or_assoc])
          have IH := Lib.hid (fun W hb => ih.out _ t W (HX.out.1.later hb))
          generalize relsT t = rt at *
          clear hnew ho2 hlt1 hlt2
          go_wp2_with (go_at_call 35; refine (IH.out _ HBB.out).mono ?_; rintro e w5 ⟨rfl, hb5⟩; have HB5 := Lib.hid hb5; clear hb5)
          go_roundw
          case rel => exact ⟨k + 1, o2, by go_num, by omega, rfl, HO2.out, HBR.out.trans (HB5.out.mono HBR.out.size)⟩
          case measure => simp [intOf]; omega
        · obtain rfl : k = len := by omega
          have HO := Lib.hid ho
          have HBR := Lib.hid hb
          clear ho hb
          go_wp2
          go_ret
          exact ⟨by rw [HRL.out, HO.out]; rfl, HB0.out.trans (HBR.out.mono HB0.out.size)⟩
    · have hk1 : ((kind : Int) == 1) = false := by simp; omega
      have HB0' := Lib.hid hB0
      clear hB0 hk
      go_enter Tryd.func35, Tryd.ntmps35
      go_wp2
      go_loopw [3, 4] (fun o i wr => ∃ k o' : Nat, i = .int .i64 k ∧ k ≤ len ∧ o = .int .u32 o' ∧ RelSt W0 B kids k o' wr) (fun _ i _ => len - (intOf i).toNat)
      case atStart => exact ⟨0, B, rfl, Nat.zero_le _, by first | rfl | (rw [HB0'.out]; rfl), by simp [relsTs], Below.refl _ _⟩
      case round =>
        obtain ⟨k, o, rfl, hk, rfl, ho, hb⟩ := hrel
        have f7 := (hb.cell (p := ⟨w.heap.size, 7, none⟩) E7.out.2).trans E7.out.1
        by_cases hlt : k < len
        · obtain ⟨h1, _, _, h4⟩ := HR.out
          obtain ⟨b, off, rfl, hbl, hc⟩ := h4.resolve_left (by omega)
          have hk' : k < kids.length := by omega
          obtain ⟨t, ht⟩ : ∃ t, kids[k]? = some t := ⟨_, List.getElem?_eq_getElem hk'⟩
          obtain ⟨cs, hR, hcs⟩ := hc k t ht
          obtain ⟨k0, k1, k2, k3, k4, k5, k6, ka, kl, kc, rfl⟩ := hR.cells
          have hbb : Below w.heap.size w wr := HB0.out.trans (hb.mono HB0.out.size)
          have d0 := (hbb.cell (p := ⟨b, off + k * 8 + 0, none⟩) hbl).trans (hcs 0 _ rfl)
          have d1 := (hbb.cell (p := ⟨b, off + k * 8 + 1, none⟩) hbl).trans (hcs 1 _ rfl)
          have d2 := (hbb.cell (p := ⟨b, off + k * 8 + 2, none⟩) hbl).trans (hcs 2 _ rfl)
          have d3 := (hbb.cell (p := ⟨b, off + k * 8 + 3, none⟩) hbl).trans (hcs 3 _ rfl)
          have d4 := (hbb.cell (p := ⟨b, off + k * 8 + 4, none⟩) hbl).trans (hcs 4 _ rfl)
          have d5 := (hbb.cell (p := ⟨b, off + k * 8 + 5, none⟩) hbl).trans (hcs 5 _ rfl)
          have d6 := (hbb.cell (p := ⟨b, off + k * 8 + 6, none⟩) hbl).trans (hcs 6 _ rfl)
          have d7 := (hbb.cell (p := ⟨b, off + k * 8 + 7, none⟩) hbl).trans (hcs 7 _ rfl)
          rw [Nat.add_zero] at d0
          have HX := Lib.hid (And.intro hR ht)
          have HBB := Lib.hid hbb
          have HBR := Lib.hid hb
          have HO := Lib.hid ho
          clear hcs hR ht hbb hb ho hc h4 h1 hk'
          have hsz := HBB.out.size
          have hlt1 := relsT_lt t
          have hlt2 : o < 4294967296 := by rw [HO.out]; exact Nat.or_lt_two_pow (n := 32) HB32.out (relsTs_lt _)
          have E4 := u32_or_nat o (relsT t) hlt2 hlt1
          have hnew := relsTs_take kids k t HX.out.2
          obtain ⟨o2, ho2⟩ : ∃ z, z = o ||| relsT t := ⟨_, rfl⟩
          rw [← ho2] at E4
          have HO2 := Lib.hid (show o2 = B ||| relsTs (kids.take (k + 1)) by rw [hnew, ho2, HO.out, Nat.or_assoc])
          have IH := Lib.hid (fun W hb => ih.out _ t W (HX.out.1.later hb))
          generalize relsT t = rt at *
          clear hnew ho2 hlt1 hlt2
          go_wp2_with (go_at_call 35; refine (IH.out _ HBB.out).mono ?_; rintro e w5 ⟨rfl, hb5⟩; have HB5 := Lib.hid hb5; clear hb5)
          go_roundw
          case rel => exact ⟨k + 1, o2, by go_num, by omega, rfl, HO2.out, HBR.out.trans (HB5.out.mono HBR.out.size)⟩
          case measure => simp [intOf]; omega
        · obtain rfl : k = len := by omega
          have HO := Lib.hid ho
          have HBR := Lib.hid hb
          clear ho hb
          go_wp2
          go_ret
          exact ⟨by rw [HRL.out, HO.out]; rfl, HB0.out.trans (HBR.out.mono HB0.out.size)⟩
    · have hk1 : ((0 : Int) ≤ rel) = False := by simp; omega
      have HB0' := Lib.hid hB0
      clear hB0 hr0
      go_enter Tryd.func35, Tryd.ntmps35
      go_wp2
      go_loopw [3, 4] (fun o i wr => ∃ k o' : Nat, i = .int .i64 k ∧ k ≤ len ∧ o = .int .u32 o' ∧ RelSt W0 B kids k o' wr) (fun _ i _ => len - (intOf i).toNat)
      case atStart => exact ⟨0, B, rfl, Nat.zero_le _, by first | rfl | (rw [HB0'.out]; rfl), by simp [relsTs], Below.refl _ _⟩
      case round =>
        obtain ⟨k, o, rfl, hk, rfl, ho, hb⟩ := hrel
        have f7 := (hb.cell (p := ⟨w.heap.size, 7, none⟩) E7.out.2).trans E7.out.1
        by_cases hlt : k < len
        · obtain ⟨h1, _, _, h4⟩ := HR.out
          obtain ⟨b, off, rfl, hbl, hc⟩ := h4.resolve_left (by omega)
          have hk' : k < kids.length := by omega
          obtain ⟨t, ht⟩ : ∃ t, kids[k]? = some t := ⟨_, List.getElem?_eq_getElem hk'⟩
          obtain ⟨cs, hR, hcs⟩ := hc k t ht
          obtain ⟨k0, k1, k2, k3, k4, k5, k6, ka, kl, kc, rfl⟩ := hR.cells
          have hbb : Below w.heap.size w wr := HB0.out.trans (hb.mono HB0.out.size)
          have d0 := (hbb.cell (p := ⟨b, off + k * 8 + 0, none⟩) hbl).trans (hcs 0 _ rfl)
          have d1 := (hbb.cell (p := ⟨b, off + k * 8 + 1, none⟩) hbl).trans (hcs 1 _ rfl)
          have d2 := (hbb.cell (p := ⟨b, off + k * 8 + 2, none⟩) hbl).trans (hcs 2 _ rfl)
          have d3 := (hbb.cell (p := ⟨b, off + k * 8 + 3, none⟩) hbl).trans (hcs 3 _ rfl)
          have d4 := (hbb.cell (p := ⟨b, off + k * 8 + 4, none⟩) hbl).trans (hcs 4 _ rfl)
          have d5 := (hbb.cell (p := ⟨b, off + k * 8 + 5, none⟩) hbl).trans (hcs 5 _ rfl)
          have d6 := (hbb.cell (p := ⟨b, off + k * 8 + 6, none⟩) hbl).trans (hcs 6 _ rfl)
          have d7 := (hbb.cell (p := ⟨b, off + k * 8 + 7, none⟩) hbl).trans (hcs 7 _ rfl)
          rw [Nat.add_zero] at d0
          have HX := Lib.hid (And.intro hR ht)
          have HBB := Lib.hid hbb
          have HBR := Lib.hid hb
          have HO := Lib.hid ho
          clear hcs hR ht hbb hb ho hc h4 h1 hk'
          have hsz := HBB.out.size
          have hlt1 := relsT_lt t
          have hlt2 : o < 4294967296 := by rw [HO.out]; exact Nat.or_lt_two_pow (n := 32) HB32.out (relsTs_lt _)
          have E4 := u32_or_nat o (relsT t) hlt2 hlt1
          have hnew := relsTs_take kids k t HX.out.2
          obtain ⟨o2, ho2⟩ : ∃ z, z = o ||| relsT t := ⟨_, rfl⟩
          rw [← ho2] at E4
          have HO2 := Lib.hid (show o2 = B ||| relsTs (kids.take (k + 1)) by rw [hnew, ho2, HO.out, Nat.or_assoc])
          have IH := Lib.hid (fun W hb => ih.out _ t W (HX.out.1.later hb))
          generalize relsT t = rt at *
          clear hnew ho2 hlt1 hlt2
          go_wp2_with (go_at_call 35; refine (IH.out _ HBB.out).mono ?_; rintro e w5 ⟨rfl, hb5⟩; have HB5 := Lib.hid hb5; clear hb5)
          go_roundw
          case rel => exact ⟨k + 1, o2, by go_num, by omega, rfl, HO2.out, HBR.out.trans (HB5.out.mono HBR.out.size)⟩
          case measure => simp [intOf]; omega
        · obtain rfl : k = len := by omega
          have HO := Lib.hid ho
          have HBR := Lib.hid hb
          clear ho hb
          go_wp2
          go_ret
          exact ⟨by rw [HRL.out, HO.out]; rfl, HB0.out.trans (HBR.out.mono HB0.out.size)⟩
    · have hk1 : ((0 : Int) ≤ rel) = True := by simp; omega
      have hk2 : ((rel : Int) ≤ 31) = False := by simp; omega
      have HB0' := Lib.hid hB0
      clear hB0 hr0 hr31
      go_enter Tryd.func35, Tryd.ntmps35
      go_wp2
      go_loopw [3, 4] (fun o i wr => ∃ k o' : Nat, i = .int .i64 k ∧ k ≤ len ∧ o = .int .u32 o' ∧ RelSt W0 B kids k o' wr) (fun _ i _ => len - (intOf i).toNat)
      case atStart => exact ⟨0, B, rfl, Nat.zero_le _, by first | rfl | (rw [HB0'.out]; rfl), by simp [relsTs], Below.refl _ _⟩
      case round =>
        obtain ⟨k, o, rfl, hk, rfl, ho, hb⟩ := hrel
        have f7 := (hb.cell (p := ⟨w.heap.size, 7, none⟩) E7.out.2).trans E7.out.1
        by_cases hlt : k < len
        · obtain ⟨h1, _, _, h4⟩ := HR.out
          obtain ⟨b, off, rfl, hbl, hc⟩ := h4.resolve_left (by omega)
          have hk' : k < kids.length := by omega
          obtain ⟨t, ht⟩ : ∃ t, kids[k]? = some t := ⟨_, List.getElem?_eq_getElem hk'⟩
          obtain ⟨cs, hR, hcs⟩ := hc k t ht
          obtain ⟨k0, k1, k2, k3, k4, k5, k6, ka, kl, kc, rfl⟩ := hR.cells
          have hbb : Below w.heap.size w wr := HB0.out.trans (hb.mono HB0.out.size)
          have d0 := (hbb.cell (p := ⟨b, off + k * 8 + 0, none⟩) hbl).trans (hcs 0 _ rfl)
          have d1 := (hbb.cell (p := ⟨b, off + k * 8 + 1, none⟩) hbl).trans (hcs 1 _ rfl)
          have d2 := (hbb.cell (p := ⟨b, off + k * 8 + 2, none⟩) hbl).trans (hcs 2 _ rfl)
          have d3 := (hbb.cell (p := ⟨b, off + k * 8 + 3, none⟩) hbl).trans (hcs 3 _ rfl)
          have d4 := (hbb.cell (p := ⟨b, off + k * 8 + 4, none⟩) hbl).trans (hcs 4 _ rfl)
          have d5 := (hbb.cell (p := ⟨b, off + k * 8 + 5, none⟩) hbl).trans (hcs 5 _ rfl)
          have d6 := (hbb.cell (p := ⟨b, off + k * 8 + 6, none⟩) hbl).trans (hcs 6 _ rfl)
          have d7 := (hbb.cell (p := ⟨b, off + k * 8 + 7, none⟩) hbl).trans (hcs 7 _ rfl)
          rw [Nat.add_zero] at d0
          have HX := Lib.hid (And.intro hR ht)
          have HBB := Lib.hid hbb
          have HBR := Lib.hid hb
          have HO := Lib.hid ho
          clear hcs hR ht hbb hb ho hc h4 h1 hk'
          have hsz := HBB.out.size
          have hlt1 := relsT_lt t
          have hlt2 : o < 4294967296 := by rw [HO.out]; exact Nat.or_lt_two_pow (n := 32) HB32.out (relsTs_lt _)
          have E4 := u32_or_nat o (relsT t) hlt2 hlt1
          have hnew := relsTs_take kids k t HX.out.2
          obtain ⟨o2, ho2⟩ : ∃ z, z = o ||| relsT t := ⟨_, rfl⟩
          rw [← ho2] at E4
          have HO2 := Lib.hid (show o2 = B ||| relsTs (kids.take (k + 1)) by rw [hnew, ho2, HO.out, Nat.or_assoc])
          have IH := Lib.hid (fun W hb => ih.out _ t W (HX.out.1.later hb))
          generalize relsT t = rt at *
          clear hnew ho2 hlt1 hlt2
          go_wp2_with (go_at_call 35; refine (IH.out _ HBB.out).mono ?_; rintro e w5 ⟨rfl, hb5⟩; have HB5 := Lib.hid hb5; clear hb5)
          go_roundw
          case rel => exact ⟨k + 1, o2, by go_num, by omega, rfl, HO2.out, HBR.out.trans (HB5.out.mono HBR.out.size)⟩
          case measure => simp [intOf]; omega
        · obtain rfl : k = len := by omega
          have HO := Lib.hid ho
          have HBR := Lib.hid hb
          clear ho hb
          go_wp2
          go_ret
          exact ⟨by rw [HRL.out, HO.out]; rfl, HB0.out.trans (HBR.out.mono HB0.out.size)⟩
end Go.Proofs.YtmjpdknnglblcaaDoor
