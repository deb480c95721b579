/- The iterator 'parts', and a range over it. -/
import Derived.Test.YtmjpdknnglblcaaDoorGrT
import Derived.Test.YtmjpdknnglblcaaDoorGrS
namespace Go.Proofs.YtmjpdknnglblcaaDoor
open Go.RowKit
open Gr
theorem u32_sub_nat (x y : Nat) (hx : x < 4294967296) (hy : y < 4294967296) : IntKind.u32.wrap ((x : Int) - (y : Int)) = (((x + 4294967296 - y) % 4294967296 : Nat) : Int) := by
  rw [wrap_u32']; omega

theorem nxt_eq (r s d : Nat) (h : d = (s + 4294967296 - r) % 4294967296) : nxt r s = d &&& r := by
  rw [h, nxt]
theorem nxt_wraps (s rest : Nat) (hs : s < 4294967296) (hr : rest < 4294967296) : ∃ d : Nat, IntKind.u32.wrap ((s : Int) - (rest : Int)) = (d : Int) ∧ bits .and .u32 (d : Int) (rest : Int) = ((nxt rest s : Nat) : Int) := by
  obtain ⟨d, hd⟩ : ∃ d, d = (s + 4294967296 - rest) % 4294967296 := ⟨_, rfl⟩
  have h1 := u32_sub_nat s rest hs hr
  have h2 : d < 4294967296 := by omega
  rw [← hd] at h1
  exact ⟨d, h1, by rw [nxt_eq rest s d hd]; exact u32_and_nat d rest h2 hr⟩
set_option maxRecDepth 100000
attribute [local go_sem] Oper.semAt_some

theorem parts_in (n e : Nat) (w : World) :
    CallsIn Fence.wide n Tryd.prog 25 #[.int .u32 e] w fun r w' => r = .returned (.func (.func 37) #[] #[.pointer (some ⟨w.heap.size, 0, none⟩)]) ∧ w' = w.alloc (.cells #[.int .u32 e] 23) := by
  refine callsIn_of_wp Tryd.func25 rfl trivial ?_ rfl
  simp only [Tryd.ntmps25, List.size_toArray, List.length_cons, List.length_nil, Nat.reduceAdd, Nat.reduceSub, Array.replicate_succ, Array.replicate_zero, List.push_toArray, List.append_toArray, List.nil_append, List.cons_append]
  gi_wp2
  go_ret
  exact ⟨rfl, rfl⟩

/-- What the iterator's cell holds. -/
def AtParts (Bs e : Nat) (W : World) : Prop := W.cell? ⟨Bs, 0, none⟩ = some (.int .u32 e) ∧ W.frozen? ⟨Bs, 0, none⟩ = false

theorem AtParts.own (Bs e : Nat) : Own (fun (_ : Nat) W => AtParts Bs e W) := by
  rintro s A B row ⟨h1, h2⟩ hg hr
  exact ⟨cell_kept h1 hg hr, (frozen_kept h1 hg hr).trans h2⟩

theorem less_left (s q rest : Nat) (h : s < q) (h2 : q ≤ rest) : rest - (intOf (.int .u32 (q : Int))).toNat < rest - (intOf (.int .u32 (s : Int))).toNat := by
  simp only [intOf, Int.toNat_natCast]; omega

theorem nxt_le (r s : Nat) : nxt r s ≤ r := Nat.and_le_right

set_option maxHeartbeats 1000000 in
theorem parts1_in (l Bs e n : Nat) (hn : 3 ≤ n) (he0 : e ≠ 0) (he : e < 256) (J : Nat → World → Prop)
    (hJ : ∀ s W, J s W → AtParts Bs e W)
    (hY : ∀ s W, s &&& dif e (2 ^ lowB e) = s → s ≠ dif e (2 ^ lowB e) → J s W → YieldAt Fence.wide (n - 1) Tryd.prog l #[.int .u32 ((s ||| 2 ^ lowB e : Nat) : Int)] W fun r W' => r = .returned (.bool true) ∧ J (nxt (dif e (2 ^ lowB e)) s) W')
    (W : World) (h0 : J 0 W) :
    CallsIn Fence.wide n Tryd.prog 37 #[.func (.yield l) #[] #[], .pointer (some ⟨Bs, 0, none⟩)] W fun r W' => (∃ v, r = .returned v) ∧ J (dif e (2 ^ lowB e)) W' := by
  have HL := Lib.hid (fun W => lowest_any e W (by omega) he0)
  have hlow : 2 ^ lowB e < 256 := by
    have := low_lt' e 8 he0 (by omega) (by omega)
    have := Nat.pow_lt_pow_right (a := 2) (by omega) this
    simpa using this
  have hdif := u32_andNot_nat e (2 ^ lowB e) (by omega) (by omega)
  obtain ⟨hc, hf⟩ := hJ 0 W h0
  have hrest : dif e (2 ^ lowB e) < 256 := Nat.lt_of_le_of_lt (dif_le _ _) he
  obtain ⟨lo, hlo⟩ : ∃ lo, lo = 2 ^ lowB e := ⟨_, rfl⟩
  have hlo32 : lo < 256 := by omega
  rw [← hlo] at HL hdif hY hrest ⊢
  rw [show e &&& (4294967295 - lo) = dif e lo from rfl] at hdif
  obtain ⟨rest, hre⟩ : ∃ rest, rest = dif e lo := ⟨_, rfl⟩
  rw [← hre] at hdif hY hrest ⊢
  have HY := Lib.hid hY
  clear hY hJ hlow hlo hre he0 he
  refine callsIn_of_wp Tryd.func37 rfl trivial ?_ rfl
  simp only [Tryd.ntmps37, List.size_toArray, List.length_cons, List.length_nil, Nat.reduceAdd, Nat.reduceSub, Array.replicate_succ, Array.replicate_zero, List.push_toArray, List.append_toArray, List.nil_append, List.cons_append]
  gi_wp2_with (refine ⟨trivial, fun _ => by omega, ?_⟩; refine (callsIn_wide.2 (HL.out _)).mono ?_; rintro e w' ⟨rfl, rfl⟩)
  clear HL hc hf
  gi_loopw [5] (fun p wr => ∃ s : Nat, p = .int .u32 s ∧ s &&& rest = s ∧ Hid (J s wr)) (fun p wr => rest - (intOf p).toNat)
  case atStart => exact ⟨0, rfl, by simp, Lib.hid h0⟩
  case round =>
    obtain ⟨s, rfl, hs, hj⟩ := hrel
    have hsr : s ≤ rest := by rw [← hs]; exact Nat.and_le_right
    by_cases h0 : s = rest
    · subst h0
      clear hs hsr
      gi_wp2
      go_end0
      exact ⟨⟨_, rfl⟩, hj.out⟩
    · have hz : ((s : Int) != (rest : Int)) = true := by simp; omega
      obtain ⟨fn, tmps, assign, body, hy, hR⟩ := HY.out s wr hs h0 hj.out
      have E1 := u32_or_nat s lo (by omega) (by omega)
      obtain ⟨p, hp⟩ : ∃ p, p = s ||| lo := ⟨_, rfl⟩
      rw [← hp] at E1 hy
      have HR := Lib.hid hR
      have hnx := nxt_spec rest s hrest hs h0
      obtain ⟨d, E2, E3⟩ := nxt_wraps s rest (by omega) (by omega)
      have HP := Lib.hid (And.intro hnx.1 (And.intro hnx.2.1 (And.intro hsr (nxt_le rest s))))
      generalize nxt rest s = q at *
      clear hnx hp hR hrest hlo32
      gi_wp2
      refine ⟨fun _ => by omega, HR.out.mono ?_⟩
      rintro e W2 ⟨rfl, hJ2⟩
      have HJ2 := Lib.hid hJ2
      clear hJ2
      gi_wp2
      go_roundw
      case rel => exact ⟨q, rfl, HP.out.2.1, HJ2⟩
      case measure => exact less_left s q rest HP.out.1 HP.out.2.2.2

set_option maxHeartbeats 1000000 in
/-- THE STATEMENT 'for p := range parts(e) { body }', the body never left early. -/
theorem wpIn_rangeParts {g : Operand} {p : Tmp} {assign body : Code} {Q : Exit → Act → World → Prop} {a : Act} {w : World} {n Bs e : Nat} (hn : 5 ≤ n) (he0 : e ≠ 0) (he : e < 256)
    (hg : a.eval g = .func (.func 37) #[] #[.pointer (some ⟨Bs, 0, none⟩)])
    (I : Nat → World → Prop) (hI : OwnAt w.heap.size I) (h0 : I 0 w) (hA : AtParts Bs e w)
    (a₁ : Nat → Act)
    (hassign : ∀ (l x : Nat) (W : World) (K : Act → World → Prop), K (a₁ x) W →
      assign.wpIn (Fence.wide.inRound l) (n - 1 - 1) Tryd.prog (Exit.then K (fun _ _ _ => False)) { tmps := a.tmps.setIfInBounds p (.int .u32 x), defers := [] } W)
    (hbody : ∀ (l s : Nat) (W : World), s &&& dif e (2 ^ lowB e) = s → s ≠ dif e (2 ^ lowB e) → I s W → AtParts Bs e W →
      body.wpIn (Fence.wide.inRound l) (n - 1 - 1) Tryd.prog (Exit.then (fun _ W' => KeepsOthers W W' ∧ I (nxt (dif e (2 ^ lowB e)) s) W' ∧ AtParts Bs e W') (fun _ _ _ => False)) (a₁ (s ||| 2 ^ lowB e)) W)
    (hdone : ∀ (D : Nat) (W : World), w.heap.size = D → I (dif e (2 ^ lowB e)) W → W.heap[D]? = some (.deferred (some [])) → Q .normal { a with defers := { target := .collected D, args := #[] } :: a.defers } W) :
    (Code.rangeFunc g #[p] assign body).wpIn Fence.wide n Tryd.prog Q a w := by
  refine wpIn_rangeFunc ?_
  intro fn hfn
  obtain ⟨rec, hrec⟩ : ∃ rec : LoopState → Option Code → Loop, rec = fun st pe => { state := st, pending := pe, fn, tmps := a.tmps, params := #[p], assign, body, defers := w.heap.size } := ⟨_, rfl⟩
  obtain ⟨W1, hW1⟩ : ∃ W1, (w.alloc (.deferred (some []))).alloc (.loop (rec .ready none)) = W1 := ⟨_, rfl⟩
  have hL1 : W1.heap[w.heap.size + 1]? = some (.loop (rec .ready none)) := by
    rw [← hW1]; have := World.alloc_heap_new (w.alloc (.deferred (some []))) (.loop (rec .ready none)); rwa [World.size_alloc] at this
  have hK1 : W1.heap[w.heap.size]? = some (.deferred (some [])) := by
    rw [← hW1]; exact (Below.heap_alloc _ _ _ (by simp)).trans (World.alloc_heap_new w _)
  have hI1 : I 0 W1 := by rw [← hW1]; exact hI.alloc _ (hI.alloc _ h0)
  have hA1 : AtParts Bs e W1 := by rw [← hW1]; exact (AtParts.own Bs e).alloc (s := 0) _ ((AtParts.own Bs e).alloc (s := 0) _ hA)
  refine ⟨w.heap.size + 1, [{ target := .collected w.heap.size, args := #[] }], W1, { target := .fn (.func 37) #[.pointer (some ⟨Bs, 0, none⟩)], args := #[.func (.yield (w.heap.size + 1)) #[] #[]] }, W1, 37,
    #[.func (.yield (w.heap.size + 1)) #[] #[], .pointer (some ⟨Bs, 0, none⟩)], W1, ?_, ?_, ?_, ?_, fun _ => by omega, ?_⟩
  · rw [← hW1, hrec]; exact run_enterLoop_outer _ _ _ _ _
  · simp only [resolve, hg]
    simp [go_sem]
  · intro f' hf'; trivial
  · have eg : ∀ args w, (callFunc 37 args).run Tryd.prog w = .ok (.enter 37 args) w := enters_of Tryd.func37 (by kernel_rfl) rfl
    simp [invoke, go_sem, eg]
  · refine (parts1_in (w.heap.size + 1) Bs e (n - 1) (by omega) he0 he
      (fun s W => (I s W ∧ AtParts Bs e W) ∧ W.heap[w.heap.size + 1]? = some (.loop (rec .ready none)) ∧ W.heap[w.heap.size]? = some (.deferred (some [])))
      (fun s W h => h.1.2) ?_ W1 ⟨⟨hI1, hA1⟩, hL1, hK1⟩).mono ?_
    · rintro s W hs1 hs2 ⟨⟨hi, ha⟩, hl, hk⟩
      have hlt : w.heap.size + 1 < W.heap.size := (Array.getElem?_eq_some_iff.1 hl).1
      have hy := run_yield (P := Tryd.prog) (args := #[.int .u32 ((s ||| 2 ^ lowB e : Nat) : Int)]) hl (by rw [hrec]; rfl)
      rw [hrec] at hy
      refine ⟨fn, _, assign, body, hy, roundIn_of_wpIn hfn ?_⟩
      have hz := zip1 p (.int .u32 ((s ||| 2 ^ lowB e : Nat) : Int)) a.tmps
      refine (show _ from hz ▸ hassign _ (s ||| 2 ^ lowB e) W _ ?_)
      refine ⟨_, run_beginRound hl (by rw [hrec]), ?_⟩
      have hl2 : (W.putObj (w.heap.size + 1) (.loop { rec .ready none with state := .busy })).heap[w.heap.size + 1]? = some (.loop { rec .ready none with state := .busy }) := World.putObj_heap_same hlt
      have hk2 : (W.putObj (w.heap.size + 1) (.loop { rec .ready none with state := .busy })).heap[w.heap.size]? = some (.deferred (some [])) := (World.putObj_heap_other (by omega)).trans hk
      refine wpIn_mono (hbody _ s _ hs1 hs2 (hI.putObj _ hi hl rfl (by omega)) ((AtParts.own Bs e).putObj (s := 0) _ ha hl rfl)) ?_
      rintro x a3 W3 hp
      cases x with
      | normal =>
        obtain ⟨hk3, hi3, ha3⟩ := hp
        have hl3 := hk3.same _ _ hl2 rfl
        have hend := run_endRound (P := Tryd.prog) none hl3
        rw [hrec] at hend
        refine ⟨_, _, hend, rfl, ⟨⟨hI.putObj _ hi3 hl3 rfl (by omega), (AtParts.own Bs e).putObj (s := 0) _ ha3 hl3 rfl⟩, ?_, ?_⟩⟩
        · rw [World.putObj_heap_same (Array.getElem?_eq_some_iff.1 hl3).1, hrec]; rfl
        · exact (World.putObj_heap_other (by omega)).trans (hk3.same _ _ hk2 rfl)
      | ret => exact hp.elim
      | exit id => exact hp.elim
      | goto t => exact hp.elim
      | panic ch => exact hp.elim
      | outgrown => exact hp.elim
    · rintro x W2 ⟨⟨v, rfl⟩, ⟨hi, ha⟩, hl, hk⟩
      have hend := run_endLoop (P := Tryd.prog) hl (by rw [hrec]; simp)
      rw [hrec] at hend
      exact ⟨none, _, hend, hdone _ _ rfl (hI.putObj _ hi hl rfl (by omega)) ((World.putObj_heap_other (by omega)).trans hk)⟩
end Go.Proofs.YtmjpdknnglblcaaDoor
