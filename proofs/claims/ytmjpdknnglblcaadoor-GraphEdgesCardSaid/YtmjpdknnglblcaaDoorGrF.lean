/- What stands in the midst of a row of graph.even. -/
import Derived.Test.YtmjpdknnglblcaaDoorGrQ
import Derived.Test.YtmjpdknnglblcaaDoorGrN
import Derived.Deep.OwnRows
namespace Go.Proofs.YtmjpdknnglblcaaDoor
open Go.RowKit
open Gr
set_option maxRecDepth 100000

/-- The marks of the rounds' blocks: each block is there, from B on and below C, none twice. -/
def Marks (B C : Nat) : List Deferred → World → Prop
  | [], _ => True
  | d :: ds, W => (∃ D, d = { target := .collected D, args := #[] } ∧ B ≤ D ∧ D < C ∧ W.heap[D]? = some (.deferred (some [])) ∧ (∀ d' ∈ ds, ∀ D', d' = { target := .collected D', args := #[] } → D' ≠ D)) ∧ Marks B C ds W
theorem Marks.keeps {B C : Nat} {W W' : World} : ∀ {ds : List Deferred}, Marks B C ds W → KeepsOthers W W' → Marks B C ds W'
  | [], _, _ => trivial
  | _ :: _, ⟨⟨D, h1, h2, h3, h4, h5⟩, h6⟩, hk => ⟨⟨D, h1, h2, h3, hk.same _ _ h4 rfl, h5⟩, h6.keeps hk⟩
theorem Marks.below {B C : Nat} {W W' : World} : ∀ {ds : List Deferred}, Marks B C ds W → Below C W W' → Marks B C ds W'
  | [], _, _ => trivial
  | _ :: _, ⟨⟨D, h1, h2, h3, h4, h5⟩, h6⟩, hk => ⟨⟨D, h1, h2, h3, (hk.block D h3).trans h4, h5⟩, h6.below hk⟩
theorem Marks.wider {B C C' : Nat} {W : World} : ∀ {ds : List Deferred}, Marks B C ds W → C ≤ C' → Marks B C' ds W
  | [], _, _ => trivial
  | _ :: _, ⟨⟨D, h1, h2, h3, h4, h5⟩, h6⟩, hc => ⟨⟨D, h1, h2, Nat.lt_of_lt_of_le h3 hc, h4, h5⟩, h6.wider hc⟩
theorem Marks.lt {B C : Nat} {W : World} : ∀ {ds : List Deferred}, Marks B C ds W → ∀ d' ∈ ds, ∀ D', d' = { target := .collected D', args := #[] } → D' < C
  | [], _, _, h, _, _ => by cases h
  | _ :: _, ⟨⟨D, h1, h2, h3, h4, h5⟩, h6⟩, d', hd, D', he => by
    rcases List.mem_cons.1 hd with e | e
    · rw [e, h1] at he; cases he; exact h3
    · exact h6.lt d' e D' he

def EvMid (w : World) (es : List Nat) (n k Bi : Nat) (ds : List Deferred) (s : Nat) (W : World) : Prop :=
  Below w.heap.size w W ∧ Bi + 1 < W.heap.size ∧ W.cell? ⟨w.heap.size + 1, 0, none⟩ = some (.slice (some ⟨w.heap.size, 0, none⟩) n n) ∧ W.cell? ⟨Bi, 0, none⟩ = some (.int .i64 k) ∧
  Row32 W w.heap.size 0 (listOf n (fillD es n k s)) ∧ (∀ i, i < n → W.frozen? ⟨w.heap.size, 0 + i, none⟩ = false) ∧ Marks (w.heap.size + 1) Bi ds W ∧ ∀ x, s.testBit x = true → rowE es n k x = true

theorem EvMid.below {w : World} {es : List Nat} {n k Bi : Nat} {ds : List Deferred} {s C : Nat} {W W' : World} (h : EvMid w es n k Bi ds s W) (hb : Below C W W') (hC : Bi < C) (hBi : w.heap.size + 1 < Bi) : EvMid w es n k Bi ds s W' := by
  obtain ⟨h1, h2, h3, h4, h5, h6, h7, h8⟩ := h
  refine ⟨h1.trans (hb.mono (by omega)), Nat.lt_of_lt_of_le h2 hb.size, (hb.cell (p := ⟨w.heap.size + 1, 0, none⟩) (by simp; omega)).trans h3, (hb.cell (p := ⟨Bi, 0, none⟩) hC).trans h4, h5.below hb (by omega),
    fun i hi => (hb.frozen (p := ⟨w.heap.size, 0 + i, none⟩) (by simp; omega)).trans (h6 i hi), h7.below (hb.mono (by omega)), h8⟩

theorem EvMid.own {w : World} {es : List Nat} {n k Bi : Nat} {ds : List Deferred} (hBi : w.heap.size + 1 < Bi) : OwnAt (Bi + 2) (fun s W => EvMid w es n k Bi ds s W) where
  alloc := fun o h => h.below (C := Bi + 1) ((Below.refl _ _).alloc (by have := h.2.1; omega) o) (by omega) hBi
  putObj := fun o' h hl _ hB => h.below (C := Bi + 1) ((Below.refl _ _).grown (grownBy_putObj' _ _ o') (by have := h.2.1; omega) (fun k e => by cases e; omega)) (by omega) hBi

/-- One number of a row is written. -/
theorem Row32.set {W : World} {b x v : Nat} {zs : List Nat} (h : Row32 W b 0 zs) (hx : x < zs.length) : Row32 (W.setCell ⟨b, x, none⟩ (.int .u32 v)) b 0 (zs.set x v) := by
  intro i hi
  rw [List.length_set] at hi
  by_cases e : x = i
  · subst e
    have hc := h x hx
    rw [Nat.zero_add] at hc ⊢
    rw [World.cell?_setCell_same' _ _ _ (by rw [hc]; rfl)]
    simp [List.getD, hx]
  · rw [Nat.zero_add]
    rw [World.cell?_setCell_other W _ _ _ (show (⟨b, x, none⟩ : Addr) ≠ ⟨b, i, none⟩ by intro h'; exact e (by cases h'; rfl))]
    have hc := h i hi
    rw [Nat.zero_add] at hc
    rw [hc]
    simp [List.getD, e]

/-- Behind a round of the inner loop: the lowest relation of s has been told. -/
theorem EvMid.told {w : World} {es : List Nat} {n k Bi : Nat} {ds : List Deferred} {s v : Nat} {W : World} (h : EvMid w es n k Bi ds s W) (hk : k < n) (h0 : s ≠ 0) (hs : s < 4294967296) (hx : Lib.ctz 32 s < n)
    (hv : v = ofB n (fillD es n k s (Lib.ctz 32 s)) ||| 2 ^ k) :
    Row32 (W.setCell ⟨w.heap.size, Lib.ctz 32 s, none⟩ (.int .u32 v)) w.heap.size 0 (listOf n (fillD es n k (s &&& (s - 1)))) := by
  obtain ⟨h1, h2, h3, h4, h5, h6, h7, h8⟩ := h
  have hset := Row32.set (v := v) h5 (by rw [listOf_length]; exact hx)
  have hvlt : v < 2 ^ n := by
    rw [hv]; exact Nat.or_lt_two_pow (ofB_lt n _) (Nat.pow_lt_pow_right (by omega) hk)
  rw [listOf_set n (fillD es n k s) (fillD es n k (s &&& (s - 1))) (Lib.ctz 32 s) v hx hvlt] at hset
  · exact hset
  · intro j b hj hb
    rw [fillD_step es n k s j b h0 hs h8]
    by_cases e : j = Lib.ctz 32 s
    · rw [if_pos e, if_pos e, hv, Nat.testBit_or, testBit_ofB, Nat.testBit_two_pow, ← e]
      have e2 : decide (b = k) = decide (k = b) := by rw [decide_eq_decide]; exact eq_comm
      simp [hb, e2]
    · rw [if_neg e, if_neg e]

theorem EvMid.body_end {w : World} {es : List Nat} {n k Bi x v : Nat} {ds : List Deferred} {s : Nat} {W : World} (h : EvMid w es n k Bi ds s W) (ha : AtOnes (Bi + 1) s W) (h0 : s ≠ 0) (hBi : w.heap.size + 1 < Bi)
    (hst : Row32 (W.setCell ⟨w.heap.size, x, none⟩ (.int .u32 v)) w.heap.size 0 (listOf n (fillD es n k (s &&& (s - 1))))) (hT0 : 0 < w.heap.size) :
    KeepsOthers W (W.setCell ⟨w.heap.size, x, none⟩ (.int .u32 v)).drew ∧ EvMid w es n k Bi ds (s &&& (s - 1)) (W.setCell ⟨w.heap.size, x, none⟩ (.int .u32 v)).drew ∧ AtOnes (Bi + 1) s (W.setCell ⟨w.heap.size, x, none⟩ (.int .u32 v)).drew := by
  obtain ⟨m1, m2, m3, m4, m5, m6, m7, m8⟩ := h
  obtain ⟨a1, a2, a3, a4⟩ := ha
  have hk := KeepsOthers.setCell W ⟨w.heap.size, x, none⟩ (.int .u32 v)
  have hk' : KeepsOthers W (W.setCell ⟨w.heap.size, x, none⟩ (.int .u32 v)).drew := ⟨hk.size, hk.same⟩
  have hb : Below w.heap.size W (W.setCell ⟨w.heap.size, x, none⟩ (.int .u32 v)).drew := ((Below.refl _ W).setCell (p := ⟨w.heap.size, x, none⟩) (Nat.le_refl _) _).drew
  have hoth : ∀ b o, b ≠ w.heap.size → (W.setCell ⟨w.heap.size, x, none⟩ (.int .u32 v)).drew.cell? ⟨b, o, none⟩ = W.cell? ⟨b, o, none⟩ := fun b o hne => by
    show (W.setCell ⟨w.heap.size, x, none⟩ (.int .u32 v)).cell? ⟨b, o, none⟩ = W.cell? ⟨b, o, none⟩
    exact World.cell?_setCell_other W _ _ _ (by intro h'; cases h'; exact hne rfl)
  have hfr : ∀ a, (W.setCell ⟨w.heap.size, x, none⟩ (.int .u32 v)).drew.frozen? a = W.frozen? a := fun a => by
    show (W.setCell ⟨w.heap.size, x, none⟩ (.int .u32 v)).frozen? a = W.frozen? a
    exact World.frozen?_setCell W _ _ _
  refine ⟨hk', ⟨m1.trans hb, Nat.lt_of_lt_of_le m2 hb.size, (hoth _ _ (by omega)).trans m3, (hoth _ _ (by omega)).trans m4, hst, fun i hi => (hfr _).trans (m6 i hi), m7.keeps hk', fun y hy => ?_⟩, a1, (hoth _ _ (by omega)).trans a2, (hfr _).trans a3, a4.below hb hT0⟩
  rw [testBit_strike s y h0 a1] at hy
  simp at hy
  exact m8 y hy.1

theorem EvMid.step_end {w : World} {es : List Nat} {n k Bi : Nat} {ds : List Deferred} {s q : Nat} {W : World} {v : Value} (h : EvMid w es n k Bi ds q W) (ha : AtOnes (Bi + 1) s W) (hBi : w.heap.size + 1 < Bi) :
    EvMid w es n k Bi ds q (W.setCell ⟨Bi + 1, 0, none⟩ v) ∧ TabAt (W.setCell ⟨Bi + 1, 0, none⟩ v) := by
  have hb : Below (Bi + 1) W (W.setCell ⟨Bi + 1, 0, none⟩ v) := (Below.refl _ W).setCell (p := ⟨Bi + 1, 0, none⟩) (Nat.le_refl _) _
  exact ⟨h.below hb (by omega) hBi, ha.2.2.2.below hb (by omega)⟩

/-- Where the row begins to be told: behind 'out[i] |= e', the two boxes laid. -/
theorem EvMid.begin {w : World} {es : List Nat} {n k : Nat} {ds : List Deferred} {ek nk : Nat} {W : World} {t1 t2 : TypeId} (hB : Below w.heap.size w W) (hsz : w.heap.size + 1 < W.heap.size)
    (hbox : W.cell? ⟨w.heap.size + 1, 0, none⟩ = some (.slice (some ⟨w.heap.size, 0, none⟩) n n)) (hrow : Row32 W w.heap.size 0 (listOf n (fillC es n k))) (hfz : ∀ i, i < n → W.frozen? ⟨w.heap.size, 0 + i, none⟩ = false)
    (hm : Marks (w.heap.size + 1) W.heap.size ds W) (hk : k < n) (hn : n ≤ 12) (hek : ek = ofB n (rowE es n k)) (hnk : nk = ofB n (fillC es n k k) ||| ek) (hT : TabAt w) :
    let W2 := ((W.setCell ⟨w.heap.size, k, none⟩ (.int .u32 nk)).alloc (.cells #[.int .i64 k] t1)).alloc (.cells #[.int .u32 ek] t2)
    EvMid w es n k W.heap.size ds ek W2 ∧ AtOnes (W.heap.size + 1) ek W2 ∧ W2.heap.size = W.heap.size + 2 := by
  intro W2
  have hT0 : 0 < w.heap.size := by
    have := hT 0 (by decide)
    unfold World.cell? at this
    cases ho : w.heap[0]? with
    | none => simp [ho] at this
    | some o => exact (Array.getElem?_eq_some_iff.1 ho).1
  have hlt : nk < 2 ^ n := by rw [hnk, hek]; exact Nat.or_lt_two_pow (ofB_lt n _) (ofB_lt n _)
  have hset := Row32.set (v := nk) hrow (by rw [listOf_length]; exact hk)
  rw [listOf_set n (fillC es n k) (fillD es n k ek) k nk hk hlt (by
    intro j b hj hb
    rw [hek, fillD_start es n k j b hj]
    by_cases e : j = k
    · subst e
      rw [if_pos rfl, hnk, Nat.testBit_or, testBit_ofB, hek, testBit_ofB]; simp [hb]
    · rw [if_neg e]; simp [e])] at hset
  have hs1 : (W.setCell ⟨w.heap.size, k, none⟩ (.int .u32 nk)).heap.size = W.heap.size := by simp
  have hb1 : Below w.heap.size W (W.setCell ⟨w.heap.size, k, none⟩ (.int .u32 nk)) := (Below.refl _ W).setCell (p := ⟨w.heap.size, k, none⟩) (Nat.le_refl _) _
  have hb2 : Below W.heap.size (W.setCell ⟨w.heap.size, k, none⟩ (.int .u32 nk)) W2 := ((Below.refl _ _).alloc (by rw [hs1]; exact Nat.le_refl _) _).alloc (by simp) _
  have hoth : ∀ b o, b ≠ w.heap.size → (W.setCell ⟨w.heap.size, k, none⟩ (.int .u32 nk)).cell? ⟨b, o, none⟩ = W.cell? ⟨b, o, none⟩ := fun b o hne =>
    World.cell?_setCell_other W _ _ _ (by intro h'; cases h'; exact hne rfl)
  have hz : W2.heap.size = W.heap.size + 2 := by simp [W2]
  have hbi : W2.cell? ⟨W.heap.size, 0, none⟩ = some (.int .i64 k) := by
    have h1 := World.alloc_heap_new (W.setCell ⟨w.heap.size, k, none⟩ (.int .u32 nk)) (.cells #[.int .i64 k] t1)
    have h2 : W2.heap[W.heap.size]? = some (.cells #[.int .i64 k] t1) := by
      rw [hs1] at h1
      exact (Below.heap_alloc _ _ _ (by simp)).trans h1
    simp only [World.cell?]; rw [h2]; simp
  have hbs : W2.heap[W.heap.size + 1]? = some (.cells #[.int .u32 ek] t2) := by
    have h1 := World.alloc_heap_new ((W.setCell ⟨w.heap.size, k, none⟩ (.int .u32 nk)).alloc (.cells #[.int .i64 k] t1)) (.cells #[.int .u32 ek] t2)
    rw [World.size_alloc, hs1] at h1
    exact h1
  refine ⟨⟨hB.trans (hb1.trans (hb2.mono (by omega))), by rw [hz]; omega, ?_, hbi, ?_, ?_, ?_, ?_⟩, ⟨?_, ?_, ?_, ?_⟩, hz⟩
  · exact (hb2.cell (p := ⟨w.heap.size + 1, 0, none⟩) hsz).trans ((hoth _ _ (by omega)).trans hbox)
  · exact hset.below hb2 (by omega)
  · intro i hi
    exact (hb2.frozen (p := ⟨w.heap.size, 0 + i, none⟩) (by simp; omega)).trans ((World.frozen?_setCell W _ _ _).trans (hfz i hi))
  · exact (hm.keeps (KeepsOthers.setCell W _ _)).below hb2
  · intro x hx
    rw [hek, testBit_ofB] at hx
    simp at hx; exact hx.2
  · rw [hek]; exact Nat.lt_of_lt_of_le (ofB_lt n _) (show 2 ^ n ≤ 2 ^ 32 from Nat.pow_le_pow_right (by omega) (by omega))
  · simp only [World.cell?]; rw [hbs]; simp
  · simp only [World.frozen?]; rw [hbs]; simp
  · exact hT.below (hB.trans (hb1.trans (hb2.mono (by omega)))) hT0

theorem Marks.put {B C D : Nat} {W : World} {o : Obj} : ∀ {ds : List Deferred}, Marks B C ds W → (∀ d' ∈ ds, ∀ D', d' = { target := .collected D', args := #[] } → D' ≠ D) → Marks B C ds (W.putObj D o)
  | [], _, _ => trivial
  | d :: _, ⟨⟨E, h1, h2, h3, h4, h5⟩, h6⟩, hd => ⟨⟨E, h1, h2, h3, (World.putObj_heap_other (hd d (by simp) E h1)).trans h4, h5⟩, h6.put (fun d' hd' D' he => hd d' (by simp [hd']) D' he)⟩

/-- A function leaves with its marks: each block is shut, and nothing else turns. -/
theorem leaves_marks {n B C : Nat} {fn : Func} {tmps : Array Value} {R : Ending → World → Prop} : ∀ (ds : List Deferred) (W : World), Marks B C ds W → B ≤ W.heap.size →
    (∀ W', Below B W W' → LeavesIn Fence.wide n Tryd.prog fn tmps R [] .returning W') → LeavesInM Fence.wide n Tryd.prog fn tmps R ds .returning W
  | [], W, _, _, hb => hb W (Below.refl _ _)
  | d :: ds, W, ⟨⟨D, h1, h2, h3, h4, h5⟩, h6⟩, hB, hb => by
    have hbl : Below B W (W.putObj D (.deferred none)) := (Below.refl _ _).grown (grownBy_putObj' W D _) hB (fun k e => by cases e; exact h2)
    refine ⟨by simp, .inl ⟨D, _, by rw [h1], run_takeDeferred h4, leaves_marks ds _ (h6.put h5) (Nat.le_trans hB hbl.size) (fun W' h => hb W' (hbl.trans h))⟩⟩

/-- What stands ahead of row k. -/
def EvSt (w : World) (es : List Nat) (n k : Nat) (W : World) : Prop :=
  Below w.heap.size w W ∧ w.heap.size + 1 < W.heap.size ∧ W.cell? ⟨w.heap.size + 1, 0, none⟩ = some (.slice (some ⟨w.heap.size, 0, none⟩) n n) ∧
  Row32 W w.heap.size 0 (listOf n (fillC es n k)) ∧ ∀ i, i < n → W.frozen? ⟨w.heap.size, 0 + i, none⟩ = false

/-- Behind the inner loop: the next row. -/
theorem EvMid.next {w : World} {es : List Nat} {n k : Nat} {ds : List Deferred} {W W3 : World} {D : Nat} (h : EvMid w es n k W.heap.size ds 0 W3) (hm : Marks (w.heap.size + 1) W.heap.size ds W) (hB : w.heap.size + 1 < W.heap.size) (hD : D = W.heap.size + 2) (hK : W3.heap[D]? = some (.deferred (some []))) :
    EvSt w es n (k + 1) W3 ∧ Marks (w.heap.size + 1) W3.heap.size ({ target := .collected D, args := #[] } :: ds) W3 := by
  obtain ⟨m1, m2, m3, m4, m5, m6, m7, m8⟩ := h
  rw [listOf_congr n (fillD es n k 0) (fillC es n (k + 1)) (fun j b _ _ => fillD_end es n k j b)] at m5
  refine ⟨⟨m1, by omega, m3, m5, m6⟩, ⟨D, rfl, by omega, (Array.getElem?_eq_some_iff.1 hK).1, hK, fun d' hd D' he => ?_⟩, m7.wider (by omega)⟩
  have := hm.lt d' hd D' he
  omega
end Go.Proofs.YtmjpdknnglblcaaDoor
