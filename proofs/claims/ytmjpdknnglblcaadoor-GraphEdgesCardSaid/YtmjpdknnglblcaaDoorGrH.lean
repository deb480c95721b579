/- The walk of tabularylaw33.GraphParts. -/
import Derived.Test.YtmjpdknnglblcaaDoorGrY
import Derived.Test.YtmjpdknnglblcaaDoorGrG
import Derived.Test.YtmjpdknnglblcaaDoorGrO
namespace Go.Proofs.YtmjpdknnglblcaaDoor
open Go.RowKit
open Gr Go.Deep
set_option maxRecDepth 100000

theorem adj_symm (es : List Nat) (n a b : Nat) : adj es n a b = adj es n b a := Bool.or_comm _ _
theorem low_and (x : Nat) (hx : x < 4294967296) (hx0 : x ≠ 0) : bits BinOp.and IntKind.u32 (x : Int) (-(x : Int) % 4294967296) = ((2 ^ lowB x : Nat) : Int) := by
  obtain ⟨hlow, hk⟩ := Lib.lowest_bit 32 x hx0 hx
  have e1 : -(x : Int) % 4294967296 = ((4294967296 - x : Nat) : Int) := by omega
  rw [e1, and32 x _ hx (by omega)]
  exact congrArg (fun n : Nat => (n : Int)) hlow

theorem ownsRow_shape {w : World} {b : Nat} {e : TypeId} {size : Nat} {v : Value} {n : Nat} {xs : List Value} (h : w.ownsRow b e size v n xs) :
    ∃ ad cap, v = .slice ad n cap ∧ (n = 0 ∨ ∃ g, ad = some ⟨g, 0, none⟩ ∧ g < w.heap.size ∧ b ≤ g ∧ n ≤ cap ∧ cap ≤ maxLen ∧ ∀ j x, xs[j]? = some x → w.cell? ⟨g, j, none⟩ = some x) := by
  by_cases hn : n = 0
  · obtain ⟨h1, ⟨h2, _⟩ | ⟨g, cap, cur, h3, _⟩⟩ := h
    · exact ⟨_, _, by rw [h2, hn], .inl hn⟩
    · exact ⟨_, _, h3, .inl hn⟩
  · obtain ⟨g, cap, h1, h2, h3, h4, h5, h6⟩ := ownsRow_cells h hn
    exact ⟨_, _, h1, .inr ⟨g, rfl, h3, h2, h4, h5, h6⟩⟩

/-- What stands ahead of a component, in the walk. -/
def PartSt (w2 : World) (n : Nat) (A : Nat → Nat → Bool) (t0 k se la : Nat) (wr : World) : Prop :=
  ∃ (t : Nat) (pre : List Nat), Below w2.heap.size w2 wr ∧ PartI n A t0 t se la ∧ pre ++ compsL n A t = compsL n A t0 ∧ pre.length = k

set_option maxHeartbeats 1000000 in
theorem GraphParts_any (a : Option Addr) (len cap s : Nat) (es : List Nat) (w : World) (h : EdgesAt w a len cap es) (hT : TabAt w) (hs : s < 4294967296) :
    Calls Tryd.prog 5 #[.slice a len cap, .int .u32 s] w fun e w' => e = .returned (.bool true) ∧ Below w.heap.size w w' := by
  have hn := h.le12
  have HW := Lib.hid (works_any w hT)
  have HCo := Lib.hid (fun W hb => Components_any a len cap s es W (h.later hb) (hT.later hb) hs)
  have HN := Lib.hid (fun x W hb hx => Near_any a len cap x es W (h.later hb) (hT.later hb) hx)
  have HC := Lib.hid (fun x W hb hx => Connected_any a len cap x es W (h.later hb) (hT.later hb) hx)
  have hlen := h.2.2.1
  obtain ⟨n, hn'⟩ : ∃ n, n = es.length := ⟨_, rfl⟩
  rw [← hn'] at HCo HN HC hn hlen
  have hsym := adj_symm es n
  clear h hn' hT
  generalize adj es n = A at *
  have hmin : min (len : Int) 12 = (n : Int) := by omega
  have hmn : ∀ (ats : Array TypeId) (ty : TypeId) (W : World), (Builtin.min_ ats ty #[.int .i64 (len : Int), .int .i64 12]).run Tryd.prog W = .ok (.int .i64 (n : Int)) W := by
    intro ats ty W
    rw [← hmin]
    simp only [Builtin.min_, List.foldlM_cons, List.foldlM_nil, Builtin.min2]
    by_cases h : (12 : Int) < (len : Int)
    · simp [h, Int.min_eq_right (Int.le_of_lt h)]
    · simp [h, Int.min_eq_left (show (len : Int) ≤ 12 by omega)]
  have hpn : 2 ^ n ≤ 4096 := Nat.le_trans (Nat.pow_le_pow_right (by omega) hn) (by decide)
  have hpn0 : 0 < 2 ^ n := Nat.pow_pos (by omega)
  obtain ⟨t0, ht0⟩ : ∃ t, t = s % 2 ^ n := ⟨_, rfl⟩
  have ht0lt : t0 < 2 ^ n := by rw [ht0]; exact Nat.mod_lt _ hpn0
  obtain ⟨P, hP⟩ : ∃ P, P = 2 ^ n := ⟨_, rfl⟩
  have hall0 : IntKind.u32.wrap ((2 : Int) ^ n) = (P : Int) := by
    have e : (2 : Int) ^ n = ((2 ^ n : Nat) : Int) := by simp
    rw [wrap_u32', e]; omega
  have hall : IntKind.u32.wrap ((P : Int) - 1) = ((P - 1 : Nat) : Int) := by rw [wrap_u32']; omega
  have hand := and32 s (P - 1) hs (by omega)
  rw [show s &&& (P - 1) = t0 by rw [ht0, hP, Nat.and_two_pow_sub_one_eq_mod]] at hand
  obtain ⟨M, hM⟩ : ∃ M, M = P - 1 := ⟨_, rfl⟩
  rw [← hM] at hall hand
  rw [← ht0] at HCo
  have HT0 := Lib.hid (And.intro ht0lt (And.intro hpn hsym))
  clear hpn hpn0 ht0 hP hM ht0lt hs hmin hsym hlen
  go_enter Tryd.func5, Tryd.ntmps5
  go_wp2_with (first | (go_at_call 7; refine HW.out.mono ?_; rintro e w1 ⟨rfl, hb⟩; have HB := Lib.hid hb; clear hb; by_cases hl : (40 : Int) < (len : Int)) | (go_at_call 14; refine (HCo.out _ HB.out).mono ?_; rintro e w2 ⟨v, rfl, hown, hb⟩; have HB2 := Lib.hid (HB.out.trans (hb.mono HB.out.size)); obtain ⟨ad, cap', rfl, hsh⟩ := ownsRow_shape hown; have HS := Lib.hid hsh; clear hown hb hsh))
  · go_ret
    exact ⟨rfl, HB.out⟩
  · obtain ⟨L, hL⟩ : ∃ L, L = (compsL n A t0).length := ⟨_, rfl⟩
    rw [← hL] at HS ⊢
    have HL := Lib.hid hL
    clear hL
    go_loopw [7, 8, 29] (fun se la i wr => ∃ k se' la' : Nat, i = .int .i64 k ∧ se = .int .u32 se' ∧ la = .int .u32 la' ∧ PartSt w2 n A t0 k se' la' wr) (fun _ _ i _ => L - (intOf i).toNat)
    case atStart => exact ⟨0, 0, 0, rfl, rfl, rfl, t0, [], Below.refl _ _, PartI.start _ _ _, rfl, rfl⟩
    case round =>
      obtain ⟨k, se, la, rfl, rfl, rfl, t, pre, hb, hp, hpre, hk⟩ := hrel
      obtain ⟨ht0, hpn, hsym⟩ := HT0.out
      by_cases h0 : t = 0
      · subst h0
        rw [compsL_zero, List.append_nil] at hpre
        have hse := hp.done
        subst hse
        have hkL : k = L := by rw [HL.out, ← hpre, hk]
        subst hkL
        have hco := conn_one n A se hn ht0
        rw [← HL.out] at hco
        have HB3 := Lib.hid (HB2.out.trans (hb.mono HB2.out.size))
        have hse32 : se < 4294967296 := by omega
        clear hb hp hpre ht0 hpn hsym hk
        by_cases hk1 : k = 1
        · subst hk1
          rw [decide_eq_true rfl] at hco
          go_wp2_with (first | (go_at_call 9; refine (HC.out se _ HB3.out hse32).mono ?_; rw [hco]; rintro e w4 ⟨rfl, hb⟩; have HB4 := Lib.hid (HB3.out.trans (hb.mono HB3.out.size)); clear hb) | (go_at_call 14; refine (HCo.out _ HB4.out).mono ?_; rw [← HL.out]; rintro e w5 ⟨v, rfl, hown, hb⟩; have HB5 := Lib.hid (HB4.out.trans (hb.mono HB4.out.size)); obtain ⟨ad5, cap5, rfl, hsh⟩ := ownsRow_shape hown; clear hown hb hsh))
          go_ret
          exact ⟨rfl, HB5.out⟩
        · have hk2 : ((k : Int) == 1) = false := by simp; omega
          rw [decide_eq_false hk1] at hco
          go_wp2_with (first | (go_at_call 9; refine (HC.out se _ HB3.out hse32).mono ?_; rw [hco]; rintro e w4 ⟨rfl, hb⟩; have HB4 := Lib.hid (HB3.out.trans (hb.mono HB3.out.size)); clear hb) | (go_at_call 14; refine (HCo.out _ HB4.out).mono ?_; rw [← HL.out]; rintro e w5 ⟨v, rfl, hown, hb⟩; have HB5 := Lib.hid (HB4.out.trans (hb.mono HB4.out.size)); obtain ⟨ad5, cap5, rfl, hsh⟩ := ownsRow_shape hown; clear hown hb hsh))
          go_ret
          exact ⟨rfl, HB5.out⟩
      · obtain ⟨c, hc⟩ : ∃ c, c = growB n A t (lowB t) := ⟨_, rfl⟩
        have hst := hp.step hn hsym ht0 h0 c hc
        obtain ⟨q1, q2, q3, q4, q5, q6, q7, q8⟩ := hst
        rw [compsL_step n A t hn h0 q8, ← hc] at hpre
        have hkL : k < L := by rw [HL.out, ← hpre, ← hk]; simp
        obtain ⟨g, rfl, g1, g2, g3, g4, g5⟩ := HS.out.resolve_left (by omega)
        unfold maxLen at g4
        have hcell := (hb.cell (p := ⟨g, k, none⟩) g1).trans (g5 k (U32 c) (by rw [← hpre, ← hk]; simp))
        have hc32 : c < 4294967296 := by omega
        have hse32 : se < 4294967296 := by
          have : se ≤ t0 := testBit_ext_le _ _ (fun i hi => by rw [hp.told] at hi; simp at hi; exact hi.1)
          omega
        have E1 := and32 c se hc32 hse32
        rw [q1] at E1
        have hnb := Nat.lt_of_lt_of_le (nearB_lt n A c) (show 2 ^ n ≤ 4294967296 by omega)
        have E2 := and32 (nearB n A c) t0 hnb (by omega)
        rw [q3] at E2
        have E3 := low_and c hc32 q7
        have E4 := u32_or_nat se c hse32 hc32
        obtain ⟨nb, hnb'⟩ : ∃ z, z = nearB n A c := ⟨_, rfl⟩
        have hcn := HC.out c
        have hnn := HN.out c
        rw [q2] at hcn
        rw [← hnb'] at E2 hnn
        obtain ⟨lo, hlo⟩ : ∃ z, z = 2 ^ lowB c := ⟨_, rfl⟩
        rw [← hlo] at E3 q4 q5
        obtain ⟨se2, hse2⟩ : ∃ z, z = se ||| c := ⟨_, rfl⟩
        rw [← hse2] at E4 q5
        have E5 : ((lo : Int) ≤ (la : Int)) = False := by simp; omega
        have HQ := Lib.hid (And.intro q5 (And.intro hpre hk))
        have HCN := Lib.hid hcn
        have HNN := Lib.hid hnn
        have HB3 := Lib.hid (HB2.out.trans (hb.mono HB2.out.size))
        have HB3' := Lib.hid hb
        unfold U32 at hcell
        clear hb hp hpre ht0 hpn hsym hk hc q1 q2 q3 q5 q6 q7 q8 g5 hnb hnb' hcn hnn hlo hse2 hse32
        go_wp2_with (first | (go_at_call 9; refine (HCN.out _ HB3.out hc32).mono ?_; rintro e w4 ⟨rfl, hb⟩; have HB4 := Lib.hid (HB3.out.trans (hb.mono HB3.out.size)); have HB4' := Lib.hid (HB3'.out.trans (hb.mono HB3'.out.size)); clear hb) | (go_at_call 10; refine (HNN.out _ HB4.out hc32).mono ?_; rintro e w5 ⟨rfl, hb⟩; have HB5 := Lib.hid (HB4.out.trans (hb.mono HB4.out.size)); have HB5' := Lib.hid (HB4'.out.trans (hb.mono HB4'.out.size)); clear hb))
        go_roundw
        case rel =>
          obtain ⟨p1, p2, p3⟩ := HQ.out
          refine ⟨k + 1, se2, lo, ?_, rfl, rfl, dif t c, pre ++ [c], HB5'.out, p1, by rw [List.append_assoc]; exact p2, by rw [List.length_append, p3]; rfl⟩
          first | rfl | (congr 1; omega) | simp
        case measure =>
          simp [intOf]; omega
end Go.Proofs.YtmjpdknnglblcaaDoor
