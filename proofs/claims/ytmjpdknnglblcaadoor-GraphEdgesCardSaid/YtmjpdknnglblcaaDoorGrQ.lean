/- A range over 'ones': the law of the statement. -/
import Derived.Test.YtmjpdknnglblcaaDoorGrR
namespace Go.Proofs.YtmjpdknnglblcaaDoor
open Go.RowKit
open Gr
set_option maxRecDepth 100000

/-- What the iterator's cell holds. -/
def AtOnes (Bs s : Nat) (W : World) : Prop := s < 4294967296 ∧ W.cell? ⟨Bs, 0, none⟩ = some (.int .u32 s) ∧ W.frozen? ⟨Bs, 0, none⟩ = false ∧ TabAt W

theorem AtOnes.own (Bs : Nat) : Own (AtOnes Bs) := by
  rintro s A B row ⟨h1, h2, h3, h4⟩ hg hr
  refine ⟨h1, cell_kept h2 hg hr, (frozen_kept h2 hg hr).trans h3, fun j hj => cell_kept (h4 j hj) hg hr⟩

/-- What abides new blocks, and the turn of a block beyond B that holds no cells. -/
structure OwnAt (B : Nat) (I : Nat → World → Prop) : Prop where
  alloc : ∀ {s : Nat} {W : World} (o : Obj), I s W → I s (W.alloc o)
  putObj : ∀ {s : Nat} {W : World} {l : Nat} {o : Obj} (o' : Obj), I s W → W.heap[l]? = some o → o.isCells = false → B ≤ l → I s (W.putObj l o')

theorem zip1 (p : Tmp) (v : Value) (t : Array Value) : ((#[p] : Array Tmp).zip #[v]).foldl (fun t (p, v) => t.setIfInBounds p v) t = t.setIfInBounds p v := by
  simp [Array.zip]

set_option maxHeartbeats 1000000 in
/-- THE STATEMENT 'for k := range ones(e) { body }', the body never left early: I: ahead of a round, what is left being s; I': behind the round's body. -/
theorem wpIn_rangeOnes {g : Operand} {p : Tmp} {assign body : Code} {Q : Exit → Act → World → Prop} {a : Act} {w : World} {n Bs e : Nat} (hn : 5 ≤ n)
    (hg : a.eval g = .func (.func 38) #[] #[.pointer (some ⟨Bs, 0, none⟩)])
    (I I' : Nat → World → Prop) (hI : OwnAt w.heap.size I) (hI' : OwnAt w.heap.size I') (h0 : I e w) (hA : AtOnes Bs e w)
    (a₁ : Nat → Act)
    (hassign : ∀ (l x : Nat) (W : World) (K : Act → World → Prop), K (a₁ x) W →
      assign.wpIn (Fence.wide.inRound l) (n - 1 - 1) Tryd.prog (Exit.then K (fun _ _ _ => False)) { tmps := a.tmps.setIfInBounds p (.int .i64 x), defers := [] } W)
    (hbody : ∀ (l s : Nat) (W : World), s ≠ 0 → I s W → AtOnes Bs s W →
      body.wpIn (Fence.wide.inRound l) (n - 1 - 1) Tryd.prog (Exit.then (fun _ W' => KeepsOthers W W' ∧ I' s W' ∧ AtOnes Bs s W') (fun _ _ _ => False)) (a₁ (Lib.ctz 32 s)) W)
    (hstep : ∀ (s : Nat) (W : World), I' s W → AtOnes Bs s W → I (s &&& (s - 1)) (W.setCell ⟨Bs, 0, none⟩ (.int .u32 ((s &&& (s - 1) : Nat) : Int))) ∧ TabAt (W.setCell ⟨Bs, 0, none⟩ (.int .u32 ((s &&& (s - 1) : Nat) : Int))))
    (hdone : ∀ (D : Nat) (W : World), w.heap.size = D → I 0 W → W.heap[D]? = some (.deferred (some [])) → Q .normal { a with defers := { target := .collected D, args := #[] } :: a.defers } W) :
    (Code.rangeFunc g #[p] assign body).wpIn Fence.wide n Tryd.prog Q a w := by
  refine wpIn_rangeFunc ?_
  intro fn hfn
  obtain ⟨rec, hrec⟩ : ∃ rec : LoopState → Option Code → Loop, rec = fun st pe => { state := st, pending := pe, fn, tmps := a.tmps, params := #[p], assign, body, defers := w.heap.size } := ⟨_, rfl⟩
  obtain ⟨W1, hW1⟩ : ∃ W1, (w.alloc (.deferred (some []))).alloc (.loop (rec .ready none)) = W1 := ⟨_, rfl⟩
  have hL1 : W1.heap[w.heap.size + 1]? = some (.loop (rec .ready none)) := by
    rw [← hW1]; have := World.alloc_heap_new (w.alloc (.deferred (some []))) (.loop (rec .ready none)); rwa [World.size_alloc] at this
  have hK1 : W1.heap[w.heap.size]? = some (.deferred (some [])) := by
    rw [← hW1]; exact (Below.heap_alloc _ _ _ (by simp)).trans (World.alloc_heap_new w _)
  have hI1 : I e W1 := by rw [← hW1]; exact hI.alloc _ (hI.alloc _ h0)
  have hA1 : AtOnes Bs e W1 := by rw [← hW1]; exact (AtOnes.own Bs).alloc _ ((AtOnes.own Bs).alloc _ hA)
  refine ⟨w.heap.size + 1, [{ target := .collected w.heap.size, args := #[] }], W1, { target := .fn (.func 38) #[.pointer (some ⟨Bs, 0, none⟩)], args := #[.func (.yield (w.heap.size + 1)) #[] #[]] }, W1, 38,
    #[.func (.yield (w.heap.size + 1)) #[] #[], .pointer (some ⟨Bs, 0, none⟩)], W1, ?_, ?_, ?_, ?_, fun _ => by omega, ?_⟩
  · rw [← hW1, hrec]; exact run_enterLoop_outer _ _ _ _ _
  · simp only [resolve, hg]
    simp [go_sem]
  · intro f' hf'; trivial
  · have eg : ∀ args w, (callFunc 38 args).run Tryd.prog w = .ok (.enter 38 args) w := enters_of Tryd.func38 (by kernel_rfl) rfl
    simp [invoke, go_sem, eg]
  · refine (ones1_in (w.heap.size + 1) Bs e (n - 1) (by omega)
      (fun s W => (I s W ∧ AtOnes Bs s W) ∧ W.heap[w.heap.size + 1]? = some (.loop (rec .ready none)) ∧ W.heap[w.heap.size]? = some (.deferred (some [])))
      (fun s W => (I' s W ∧ AtOnes Bs s W) ∧ W.heap[w.heap.size + 1]? = some (.loop (rec .ready none)) ∧ W.heap[w.heap.size]? = some (.deferred (some [])))
      (fun s W h => h.1.2) ?_ ?_ W1 ⟨⟨hI1, hA1⟩, hL1, hK1⟩).mono ?_
    · rintro s W hs0 ⟨⟨hi, ha⟩, hl, hk⟩
      have hlt : w.heap.size + 1 < W.heap.size := (Array.getElem?_eq_some_iff.1 hl).1
      have hy := run_yield (P := Tryd.prog) (args := #[.int .i64 (Lib.ctz 32 s : Int)]) hl (by rw [hrec]; rfl)
      rw [hrec] at hy
      refine ⟨fn, _, assign, body, hy, roundIn_of_wpIn hfn ?_⟩
      have hz := zip1 p (.int .i64 (Lib.ctz 32 s : Int)) a.tmps
      refine (show _ from hz ▸ hassign _ (Lib.ctz 32 s) W _ ?_)
      refine ⟨_, run_beginRound hl (by rw [hrec]), ?_⟩
      have hl2 : (W.putObj (w.heap.size + 1) (.loop { rec .ready none with state := .busy })).heap[w.heap.size + 1]? = some (.loop { rec .ready none with state := .busy }) := World.putObj_heap_same hlt
      have hk2 : (W.putObj (w.heap.size + 1) (.loop { rec .ready none with state := .busy })).heap[w.heap.size]? = some (.deferred (some [])) := (World.putObj_heap_other (by omega)).trans hk
      refine wpIn_mono (hbody _ s _ hs0 (hI.putObj _ hi hl rfl (by omega)) ((AtOnes.own Bs).putObj _ ha hl rfl)) ?_
      rintro x a3 W3 hp
      cases x with
      | normal =>
        obtain ⟨hk3, hi3, ha3⟩ := hp
        have hl3 := hk3.same _ _ hl2 rfl
        have hend := run_endRound (P := Tryd.prog) none hl3
        rw [hrec] at hend
        refine ⟨_, _, hend, rfl, ⟨⟨hI'.putObj _ hi3 hl3 rfl (by omega), (AtOnes.own Bs).putObj _ ha3 hl3 rfl⟩, ?_, ?_⟩⟩
        · rw [World.putObj_heap_same (Array.getElem?_eq_some_iff.1 hl3).1, hrec]; rfl
        · exact (World.putObj_heap_other (by omega)).trans (hk3.same _ _ hk2 rfl)
      | ret => exact hp.elim
      | exit id => exact hp.elim
      | goto t => exact hp.elim
      | panic ch => exact hp.elim
      | outgrown => exact hp.elim
    · rintro s W ⟨⟨hi, ha⟩, hl, hk⟩
      obtain ⟨hst, htb⟩ := hstep s W hi ha
      obtain ⟨h1, h2, h3, h4⟩ := ha
      refine ⟨h1, h2, h3, ⟨hst, Nat.lt_of_le_of_lt Nat.and_le_left h1, ?_, ?_, htb⟩, ?_, ?_⟩
      · exact World.cell?_setCell_same' _ _ _ (by rw [h2]; rfl)
      · rw [World.frozen?_setCell]; exact h3
      · exact (KeepsOthers.setCell W _ _).same _ _ hl rfl
      · exact (KeepsOthers.setCell W _ _).same _ _ hk rfl
    · rintro x W2 ⟨⟨v, rfl⟩, ⟨hi, ha⟩, hl, hk⟩
      have hend := run_endLoop (P := Tryd.prog) hl (by rw [hrec]; simp)
      rw [hrec] at hend
      exact ⟨none, _, hend, hdone _ _ rfl (hI.putObj _ hi hl rfl (by omega)) ((World.putObj_heap_other (by omega)).trans hk)⟩
end Go.Proofs.YtmjpdknnglblcaaDoor
