/- The walk of graph.even. -/
import Derived.Test.YtmjpdknnglblcaaDoorGrF
import Derived.Test.YtmjpdknnglblcaaDoorGrB
import Derived.Deep.OwnRows
namespace Go.Proofs.YtmjpdknnglblcaaDoor
open Go.RowKit
open Gr Go.Deep
set_option maxRecDepth 100000
attribute [local go_sem] Oper.semAt_some

theorem ev_start (w : World) (es : List Nat) (n : Nat) (t1 t2 : TypeId) :
    EvSt w es n 0 ((w.alloc (.cells (madeCells #[.int .u32 0] n) t1)).alloc (.cells #[.slice (some ⟨w.heap.size, 0, none⟩) n n] t2)) := by
  have hc : ∀ i, i < n → (w.alloc (.cells (madeCells #[.int .u32 0] n) t1)).cell? ⟨w.heap.size, 0 + i, none⟩ = some (.int .u32 0) ∧ (w.alloc (.cells (madeCells #[.int .u32 0] n) t1)).frozen? ⟨w.heap.size, 0 + i, none⟩ = false := by
    intro i hi
    have hb := World.alloc_heap_new w (.cells (madeCells #[.int .u32 0] n) t1)
    constructor
    · simp only [World.cell?]; rw [hb]; simp [madeCells, hi, Nat.mod_one]
    · simp only [World.frozen?]; rw [hb]; simp
  have hb1 : Below (w.heap.size + 1) (w.alloc (.cells (madeCells #[.int .u32 0] n) t1)) ((w.alloc (.cells (madeCells #[.int .u32 0] n) t1)).alloc (.cells #[.slice (some ⟨w.heap.size, 0, none⟩) n n] t2)) := (Below.refl _ _).alloc (by simp) _
  refine ⟨((Below.refl _ w).alloc (Nat.le_refl _) _).alloc (by simp) _, by simp, ?_, ?_, ?_⟩
  · have hb := World.alloc_heap_new (w.alloc (.cells (madeCells #[.int .u32 0] n) t1)) (.cells #[.slice (some ⟨w.heap.size, 0, none⟩) n n] t2)
    rw [World.size_alloc] at hb
    simp only [World.cell?]; rw [hb]; simp
  · intro i hi
    rw [listOf_length] at hi
    rw [listOf_getD _ _ _ hi]
    have e : ofB n (fillC es n 0 i) = 0 := by
      have := ofB_congr n (fillC es n 0 i) (fun _ => false) (fun b _ => fillC_zero es n i b)
      rw [this]
      apply Nat.eq_of_testBit_eq
      intro j; rw [testBit_ofB]; simp
    rw [e]
    exact (hb1.cell (p := ⟨w.heap.size, 0 + i, none⟩) (by simp)).trans (hc i hi).1
  · intro i hi
    exact (hb1.frozen (p := ⟨w.heap.size, 0 + i, none⟩) (by simp)).trans (hc i hi).2

theorem getD_mem' (l : List Nat) (k : Nat) (h : k < l.length) : l.getD k 0 ∈ l := by simp [List.getD, h]
theorem block_lt {w : World} {a : Addr} {v : Value} (h : w.cell? a = some v) : a.block < w.heap.size := by
  unfold World.cell? at h
  cases ho : w.heap[a.block]? with
  | none => simp [ho] at h
  | some o => exact (Array.getElem?_eq_some_iff.1 ho).1

/-- Row k made clean, as the code makes it. -/
theorem clean_row (es : List Nat) (n k : Nat) (hn : n ≤ 12) (hk : k < n) (he : es.getD k 0 < 4294967296) :
    dif (es.getD k 0 &&& (2 ^ n - 1)) (2 ^ k) = ofB n (rowE es n k) := by
  have hp : 2 ^ k < 4294967296 := Nat.lt_of_le_of_lt (Nat.pow_le_pow_right (by omega) (show k ≤ 12 by omega)) (by decide)
  apply Nat.eq_of_testBit_eq
  intro j
  rw [testBit_dif _ _ _ (Nat.lt_of_le_of_lt Nat.and_le_left he) hp, testBit_ofB, Nat.testBit_and, Nat.testBit_two_pow_sub_one, Nat.testBit_two_pow]
  unfold rowE
  by_cases hkj : k = j
  · subst hkj; simp
  · simp only [hkj, decide_false, Bool.not_false, Bool.and_true, ne_eq, not_false_eq_true, decide_true, Bool.true_and]
    cases decide (j < n) <;> cases (es.getD k 0).testBit j <;> rfl

theorem info23 : (Tryd.prog.info? 23).map (fun i => (i.zero, i.size, i.bytes)) = some (some (.int .u32 0), 1, 4) := by kernel_rfl

set_option maxHeartbeats 1000000 in
theorem even_in (b off len cap n : Nat) (es : List Nat) (w : World) (hr : Row32 w b off es) (hn : n = min len 12) (hl : es.length = n) (hn0 : 0 < n) (hlc : len ≤ cap) (hcap : cap ≤ maxLen) (hT : TabAt w) (hes : ∀ x ∈ es, x < 4294967296) :
    CallsIn Fence.wide 9 Tryd.prog 23 #[.slice (some ⟨b, off, none⟩) len cap] w fun e w' => ∃ B, e = .returned (.slice (some ⟨B, 0, none⟩) n n) ∧ w.heap.size ≤ B ∧ Row32 w' B 0 (listOf n (adj es n)) ∧ Below w.heap.size w w' := by
  unfold maxLen at hcap
  have hT0 : 0 < w.heap.size := block_lt (hT 0 (by decide))
  have hn12 : n ≤ 12 := by omega
  have hnl : n ≤ len := by omega
  have hmin : min (len : Int) 12 = (n : Int) := by omega
  have hmn : ∀ (ats : Array TypeId) (ty : TypeId) (W : World), (Builtin.min_ ats ty #[.int .i64 (len : Int), .int .i64 12]).run Tryd.prog W = .ok (.int .i64 (n : Int)) W := by
    intro ats ty W
    rw [← hmin]
    simp only [Builtin.min_, List.foldlM_cons, List.foldlM_nil, Builtin.min2]
    by_cases h : (12 : Int) < (len : Int)
    · simp [h, Int.min_eq_right (Int.le_of_lt h)]
    · simp [h, Int.min_eq_left (show (len : Int) ≤ 12 by omega)]
  have hmkr := run_make_row' (P := Tryd.prog) 22 23 (.int .u32 0) 4 Tryd.underlying22 info23 rfl .i64 .i64 n (by omega) (by omega)
  have hpn : 2 ^ n ≤ 4096 := Nat.le_trans (Nat.pow_le_pow_right (by omega) hn12) (by decide)
  have hpn0 : 0 < 2 ^ n := Nat.pow_pos (by omega)
  obtain ⟨P, hP⟩ : ∃ P, P = 2 ^ n := ⟨_, rfl⟩
  have hall0 : IntKind.u32.wrap ((2 : Int) ^ n) = (P : Int) := by
    rw [wrap_u32']
    have e : (2 : Int) ^ n = ((2 ^ n : Nat) : Int) := by simp
    rw [e]; omega
  have hall : IntKind.u32.wrap ((P : Int) - 1) = ((2 ^ n - 1 : Nat) : Int) := by rw [wrap_u32']; omega
  obtain ⟨M, hM⟩ : ∃ M, M = 2 ^ n - 1 := ⟨_, rfl⟩
  rw [← hM] at hall
  have HM := Lib.hid hM
  clear hM hP hpn hpn0
  have HN := Lib.hid (And.intro hn hmin)
  clear hn hmin
  refine callsIn_of_wp_marks Tryd.func23 rfl trivial ?_ rfl
  simp only [Tryd.ntmps23, List.size_toArray, List.length_cons, List.length_nil, Nat.reduceAdd, Nat.reduceSub, Array.replicate_succ, Array.replicate_zero, List.push_toArray, List.append_toArray, List.nil_append, List.cons_append]
  gi_wp2
  refine wpIn_loop (fun a W => ∃ (k : Nat) (u5 u6 u7 u24 u25 u26 u27 u28 u29 u30 u31 u32 u33 u34 u35 u36 u37 u38 u39 u40 u41 u42 u43 u44 u45 u46 u47 u48 u49 u50 u51 u52 u53 u54 : Value) (ds : List Deferred), a = { tmps := #[.slice (some ⟨b, off, none⟩) n cap, undef, .slice none 0 0, .int .u32 M, .pointer (some ⟨w.heap.size + 1, 0, none⟩), u5, u6, u7, .slice (some ⟨b, off, none⟩) len cap, .slice (some ⟨b, off, none⟩) len cap, .int .i64 len, .int .i64 n, .slice (some ⟨b, off, none⟩) n cap, .slice (some ⟨b, off, none⟩) n cap, .int .i64 n, .int .u64 n, .int .u32 P, .int .u32 M, .slice (some ⟨b, off, none⟩) n cap, .int .i64 n, .slice (some ⟨w.heap.size, 0, none⟩) n n, .slice (some ⟨b, off, none⟩) n cap, .int .i64 n, .int .i64 k, u24, u25, u26, u27, u28, u29, u30, u31, u32, u33, u34, u35, u36, u37, u38, u39, u40, u41, u42, u43, u44, u45, u46, u47, u48, u49, u50, u51, u52, u53, u54, undef], defers := ds } ∧ k ≤ n ∧ EvSt w es n k W ∧ Marks (w.heap.size + 1) W.heap.size ds W) (fun a _ => n - (intOf (a.tmps.getD 23 undef)).toNat) ?_ ?_
  · exact ⟨0, _, _, _, _, _, _, _, _, _, _, _, _, _, _, _, _, _, _, _, _, _, _, _, _, _, _, _, _, _, _, _, _, _, _, [], rfl, by omega, ev_start w es n _ _, trivial⟩
  · rintro a W ⟨k, u5, u6, u7, u24, u25, u26, u27, u28, u29, u30, u31, u32, u33, u34, u35, u36, u37, u38, u39, u40, u41, u42, u43, u44, u45, u46, u47, u48, u49, u50, u51, u52, u53, u54, ds, rfl, hk, hst, hmk⟩
    obtain ⟨hB, hsz, hbox, hrow, hfz⟩ := hst
    have hwx : w.heap.size + 1 < W.heap.size := hsz
    have hwy : w.heap.size < W.heap.size := by omega
    have hne1 : ¬ w.heap.size = W.heap.size := by omega
    have hne2 : ¬ w.heap.size + 1 = W.heap.size := by omega
    by_cases hlt : k < n
    · have hek := hes _ (getD_mem' es k (by omega))
      have hbl : b < w.heap.size := block_lt (hr 0 (by omega))
      have hce := (hB.cell (p := ⟨b, off + k, none⟩) hbl).trans (hr k (by omega))
      have hrk := hrow k (by rw [listOf_length]; exact hlt)
      have hfk := hfz k hlt
      rw [listOf_getD _ _ _ hlt, Nat.zero_add] at hrk
      rw [Nat.zero_add] at hfk
      have hp12 : 2 ^ k < 4294967296 := Nat.lt_of_le_of_lt (Nat.pow_le_pow_right (by omega) (show k ≤ 12 by omega)) (by decide)
      have hMlt : M < 4294967296 := by
        rw [HM.out]
        have : 2 ^ n ≤ 2 ^ 12 := Nat.pow_le_pow_right (by omega) hn12
        omega
      have E1 := u32_and_nat (es.getD k 0) M hek hMlt
      have E2 : IntKind.u32.wrap ((2 : Int) ^ k) = ((2 ^ k : Nat) : Int) := by
        have e : (2 : Int) ^ k = ((2 ^ k : Nat) : Int) := by simp
        rw [wrap_u32', e]; generalize 2 ^ k = z at *; omega
      have E3 := u32_andNot_nat (es.getD k 0 &&& M) (2 ^ k) (Nat.lt_of_le_of_lt Nat.and_le_left hek) hp12
      have hcl := clean_row es n k hn12 hlt hek
      rw [← HM.out] at hcl
      rw [show (es.getD k 0 &&& M) &&& (4294967295 - 2 ^ k) = ofB n (rowE es n k) from hcl] at E3
      have hn32 : ∀ p, ofB n p < 4294967296 := fun p => Nat.lt_of_lt_of_le (ofB_lt n p) (show 2 ^ n ≤ 2 ^ 32 from Nat.pow_le_pow_right (by omega) (by omega))
      have E4 := u32_or_nat (ofB n (fillC es n k k)) (ofB n (rowE es n k)) (hn32 _) (hn32 _)
      obtain ⟨x1, hx1⟩ : ∃ x, x = es.getD k 0 &&& M := ⟨_, rfl⟩
      obtain ⟨p2, hp2⟩ : ∃ x, x = 2 ^ k := ⟨_, rfl⟩
      obtain ⟨ek, hek2⟩ : ∃ x, x = ofB n (rowE es n k) := ⟨_, rfl⟩
      obtain ⟨ck, hck⟩ : ∃ x, x = ofB n (fillC es n k k) := ⟨_, rfl⟩
      obtain ⟨nk, hnk⟩ : ∃ x, x = ck ||| ek := ⟨_, rfl⟩
      obtain ⟨e0, he0⟩ : ∃ x, x = es.getD k 0 := ⟨_, rfl⟩
      rw [← he0] at E1 E3 hce
      rw [← he0] at hx1
      rw [← hx1] at E1 E3
      rw [← hp2] at E2 E3
      rw [← hek2] at E3 E4
      rw [← hck] at E4 hrk
      rw [← hnk] at E4
      have HR := Lib.hid (And.intro hek2 (And.intro hck hnk))
      have HS := Lib.hid (And.intro hB (And.intro hrow (And.intro hfz hn32)))
      have HE := Lib.hid hes
      clear hek hx1 hp2 hek2 hck hnk he0 hB hrow hfz hn32 hcl hMlt hp12 hbl hes hr
      gi_wp2_with (refine ⟨trivial, ?_⟩; refine (ones_in _ _ _).mono ?_; rintro e w' ⟨rfl, rfl⟩)
      obtain ⟨W2, hW2⟩ : ∃ W2, ((W.setCell ⟨w.heap.size, k, none⟩ (.int .u32 nk)).alloc (.cells #[.int .i64 k] 3)).alloc (.cells #[.int .u32 ek] 23) = W2 := ⟨_, rfl⟩
      have hmid : EvMid w es n k W.heap.size ds ek W2 ∧ AtOnes (W.heap.size + 1) ek W2 ∧ W2.heap.size = W.heap.size + 2 := by
        rw [← hW2]
        exact EvMid.begin HS.out.1 hsz hbox HS.out.2.1 HS.out.2.2.1 hmk hlt hn12 HR.out.1 (by rw [HR.out.2.2, HR.out.2.1]) hT
      rw [hW2]
      have HW2 := Lib.hid hW2
      clear hW2
      refine wpIn_rangeOnes (n := 9) (Bs := W.heap.size + 1) (e := ek) (by omega) rfl (fun s W' => EvMid w es n k W.heap.size ds s W') (fun s W' => EvMid w es n k W.heap.size ds (s &&& (s - 1)) W')
        (by rw [hmid.2.2]; exact EvMid.own (by omega)) (by rw [hmid.2.2]; exact ⟨fun o h => (EvMid.own (by omega)).alloc o h, fun o' h hl hc hB => (EvMid.own (by omega)).putObj o' h hl hc hB⟩) hmid.1 hmid.2.1
        (fun x => { tmps := #[.slice (some ⟨b, off, none⟩) n cap, undef, .slice none 0 0, .int .u32 M, .pointer (some ⟨w.heap.size + 1, 0, none⟩), .pointer (some ⟨W.heap.size, 0, none⟩), .int .u32 ek, .int .i64 x, .slice (some ⟨b, off, none⟩) len cap, .slice (some ⟨b, off, none⟩) len cap, .int .i64 len, .int .i64 n, .slice (some ⟨b, off, none⟩) n cap, .slice (some ⟨b, off, none⟩) n cap, .int .i64 n, .int .u64 n, .int .u32 P, .int .u32 M, .slice (some ⟨b, off, none⟩) n cap, .int .i64 n, .slice (some ⟨w.heap.size, 0, none⟩) n n, .slice (some ⟨b, off, none⟩) n cap, .int .i64 n, .int .i64 k, .bool true, .int .i64 k, .pointer (some ⟨b, off + k, none⟩), .int .u32 e0, .int .u32 e0, .int .u32 M, .int .u32 x1, .int .i64 k, .int .u64 k, .int .u32 p2, .int .u32 ek, .slice (some ⟨w.heap.size, 0, none⟩) n n, .int .i64 k, .pointer (some ⟨w.heap.size, k, none⟩), .int .u32 ck, .int .u32 ek, .int .u32 nk, .pointer (some ⟨w.heap.size, k, none⟩), .int .u32 ek, .func (.func 38) #[] #[.pointer (some ⟨W.heap.size + 1, 0, none⟩)], .int .i64 x, u45, u46, u47, u48, u49, u50, u51, u52, u53, u54, undef], defers := [] }) ?assign ?body ?step ?done
      case assign =>
        intro l x W' K hK
        gi_wp2
        exact hK
      case body =>
        rintro l s W' h0 hm hA
        obtain ⟨a1, a2, a3, a4⟩ := hA
        obtain ⟨m1, m2, m3, m4, m5, m6, m7, m8⟩ := hm
        have hbit := m8 _ (testBit_at s h0 a1)
        have hx : Lib.ctz 32 s < n := by
          unfold rowE at hbit; simp at hbit; exact hbit.1
        have htold := fun v hv => EvMid.told (v := v) ⟨m1, m2, m3, m4, m5, m6, m7, m8⟩ hlt h0 a1 hx hv
        have hcx := m5 (Lib.ctz 32 s) (by rw [listOf_length]; exact hx)
        rw [listOf_getD _ _ _ hx, Nat.zero_add] at hcx
        have hfx := m6 _ hx
        rw [Nat.zero_add] at hfx
        have hn32 := HS.out.2.2.2
        have hp12 : 2 ^ k < 4294967296 := Nat.lt_of_le_of_lt (Nat.pow_le_pow_right (by omega) (show k ≤ 12 by omega)) (by decide)
        have E5 := u32_or_nat (ofB n (fillD es n k s (Lib.ctz 32 s))) (2 ^ k) (hn32 _) hp12
        obtain ⟨v, hv⟩ : ∃ v, v = ofB n (fillD es n k s (Lib.ctz 32 s)) ||| 2 ^ k := ⟨_, rfl⟩
        rw [← hv] at E5
        have hstore := htold v hv
        obtain ⟨cx, hcx2⟩ : ∃ x, x = ofB n (fillD es n k s (Lib.ctz 32 s)) := ⟨_, rfl⟩
        obtain ⟨q2, hq2⟩ : ∃ x, x = 2 ^ k := ⟨_, rfl⟩
        rw [← hcx2] at E5 hcx
        rw [← hq2] at E5
        have E6 : IntKind.u32.wrap ((2 : Int) ^ k) = (q2 : Int) := by
          have e : (2 : Int) ^ k = ((2 ^ k : Nat) : Int) := by simp
          rw [wrap_u32', e, hq2]; generalize 2 ^ k = z at *; omega
        obtain ⟨x, hxx⟩ : ∃ x, x = Lib.ctz 32 s := ⟨_, rfl⟩
        rw [← hxx] at hcx hfx hx hstore
        have HM2 := Lib.hid (And.intro m1 (And.intro m2 (And.intro m3 (And.intro m4 (And.intro m6 (And.intro m7 m8))))))
        have HMM := Lib.hid (show EvMid w es n k W.heap.size ds s W' from ⟨m1, m2, m3, m4, m5, m6, m7, m8⟩)
        have HA2 := Lib.hid (show AtOnes (W.heap.size + 1) s W' from ⟨a1, a2, a3, a4⟩)
        have _HA3 := Lib.hid (And.intro a1 (And.intro a2 (And.intro a3 a4)))
        have HST := Lib.hid hstore
        clear htold hbit hn32 hv hcx2 hq2 hstore a1 a2 a3 a4 m1 m5 m6 m7 m8 hp12 HM HN HR HS HE hall0 hall E1 E2 E3 E4 hce hrk hfk hmk hmid
        rw [← hxx]
        clear hxx
        have mixed : Tryd.prog.follows Departure.mixedOrders = true := by kernel_rfl
        have E7 : IntKind.u64.wrap (k : Int) = (k : Int) := by rw [show IntKind.u64.wrap (k : Int) = (k : Int) % 18446744073709551616 by simp [IntKind.wrap, IntKind.signed, IntKind.bits]]; omega
        have hk32 : min k 32 = k := by omega
        have m4b := m4
        clear hmn hbox HW2 hlc hcap hT hnl hn0 hl hsz hk
        gi_wp2
        refine wpIn_region_plain_tail 9 mixed (by kernel_rfl) (by kernel_rfl) (fun _ => trivial) (by rintro ⟨_, _, h⟩; exact h) ?_
        simp only [List.take_succ_cons, List.take_zero, List.drop_succ_cons, List.drop_zero]
        repeat still_step
        try refine wpStill_nil ?_
        change wpList _ _ _ _ _ W'.drew
        go_wp2
        exact EvMid.body_end HMM.out HA2.out h0 (by omega) HST.out hT0
      case step =>
        intro s W' h hA
        exact EvMid.step_end h hA (by omega)
      case done =>
        intro D W3 hD hI hK
        have hnext := Lib.hid (EvMid.next hI hmk hsz (by rw [← hD, hmid.2.2]) hK)
        clear hI hK hmid hmk
        have ek1 : ((k + 1 : Nat) : Int) = (k : Int) + 1 := by omega
        gi_wp2
        rw [← ek1]
        refine ⟨⟨k + 1, ?_⟩, ?_⟩
        · repeat apply Exists.intro
          exact ⟨rfl, by omega, hnext.out.1, hnext.out.2⟩
        · simp [intOf]; omega
    · obtain rfl : k = n := by omega
      clear hmn hall0 hall hmkr
      have hadj := listOf_congr k (fillC es k k) (adj es k) (fun j c hj hc => fillC_full es k j c hj hc)
      rw [hadj] at hrow
      have HROW := Lib.hid (And.intro hrow hB)
      clear hrow hB hfz hadj
      gi_wp2
      refine leaves_marks ds W hmk (by omega) (fun W' hb => ?_)
      exact ⟨_, results_tmp rfl _ _ _, w.heap.size, rfl, Nat.le_refl _, HROW.out.1.below hb (by omega), HROW.out.2.trans (hb.mono (by omega))⟩
end Go.Proofs.YtmjpdknnglblcaaDoor
