/- A region of plain operations that draws its order, in a round: by the walk outside every fence. -/
import Derived.StillTailTactics
import Derived.OrdersIn
namespace Go.Proofs.YtmjpdknnglblcaaDoor
open Go

/-- An operation that calls nothing, makes nothing, defers nothing. -/
def plainOp (o : Oper) : Bool := match o.op with
  | .move _ => true
  | .assign _ => true
  | .load .. => true
  | .store .. => true
  | .binOp .. => true
  | .convert .. => true
  | .indexAddr .. => true
  | _ => false

theorem plain_sem (o : Oper) (h : plainOp o = true) (ro : Option Nat) (ρ : Operand → Value) : o.semAt ro ρ = execOp ρ o :=
  Oper.semAt_eq ro ρ o (fun c hc => by unfold plainOp at h; rw [hc] at h; cases h)

theorem plain_run (P : Program) (o : Oper) (h : plainOp o = true) (ρ : Operand → Value) (w : World) :
    (∃ v w', (execOp ρ o).run P w = .ok (.value v) w') ∨ (∃ w', (execOp ρ o).run P w = .ok .skip w') ∨ (∃ x w', (execOp ρ o).run P w = .halt x w') := by
  have hv : ∀ s : Sem Value, (∃ v w', (do let x ← s; pure (Next.value x) : Sem Next).run P w = .ok (.value v) w') ∨ (∃ w', (do let x ← s; pure (Next.value x) : Sem Next).run P w = .ok .skip w') ∨ (∃ x w', (do let x ← s; pure (Next.value x) : Sem Next).run P w = .halt x w') := by
    intro s
    simp only [Sem.run_bind, Sem.run_pure]
    cases s.run P w with
    | ok v w' => exact .inl ⟨v, w', rfl⟩
    | halt x w' => exact .inr (.inr ⟨x, w', rfl⟩)
  have hu : ∀ s : Sem Unit, (∃ v w', (do s; pure Next.skip : Sem Next).run P w = .ok (.value v) w') ∨ (∃ w', (do s; pure Next.skip : Sem Next).run P w = .ok .skip w') ∨ (∃ x w', (do s; pure Next.skip : Sem Next).run P w = .halt x w') := by
    intro s
    simp only [Sem.run_bind, Sem.run_pure]
    cases s.run P w with
    | ok v w' => exact .inr (.inl ⟨w', rfl⟩)
    | halt x w' => exact .inr (.inr ⟨x, w', rfl⟩)
  obtain ⟨dst, op, type, pos, after, guard⟩ := o
  cases op <;> first | (cases h; done) | exact .inl ⟨_, _, rfl⟩ | exact hv _ | exact hu _

theorem plain_wpIn {P : Program} {F : Fence} {n : Nat} {o : Oper} (h : plainOp o = true) (hF : ∀ f, F.fn f) {a : Act} {w : World} {K : Act → World → Prop} {Q : Exit → Act → World → Prop} (hh : o.wp P a w K Q) : o.wpIn F n P a w K Q := by
  refine ⟨fun f _ => hF f, ?_⟩
  rw [plain_sem o h]
  unfold Oper.wp at hh
  rcases plain_run P o h a.eval w with ⟨v, w', e⟩ | ⟨w', e⟩ | ⟨x, w', e⟩
  · rw [e] at hh ⊢; exact hh
  · rw [e] at hh ⊢; exact hh
  · rw [e] at hh ⊢; cases x <;> exact hh

theorem plain_any {P : Program} {F : Fence} {n : Nat} {ops : Array Oper} {md : Region.Mode} {Q : Exit → Act → World → Prop} (hp : ∀ (i : Nat) (o : Oper), ops[i]? = some o → plainOp o = true) (hF : ∀ f, F.fn f) (hQ : ¬ LetsOut Q) :
    ∀ (fuel : Nat) (listed : Array Bool) (a : Act) (w : World), wpAny P md ops Q fuel listed a w → wpAnyIn F n P md ops Q fuel listed a w
  | 0, _, _, _, h => h
  | fuel + 1, listed, a, w, ⟨h0, h1⟩ => by
    refine ⟨h0, fun i hi => ?_⟩
    have hh := h1 i hi
    unfold wpOp at hh
    unfold wpOpIn
    split
    · rename_i ho
      rw [ho] at hh
      exact plain_any hp hF hQ fuel _ _ _ hh
    · rename_i o ho
      rw [ho] at hh
      simp only at hh ⊢
      split
      · rename_i hw
        rw [if_pos hw] at hh
        rcases hh with hh | ⟨_, hl⟩
        · exact plain_wpIn (hp i o ho) hF (Oper.wp_mono (fun a w h => plain_any hp hF hQ fuel _ a w h) hh)
        · exact absurd hl hQ
      · rename_i hw
        rw [if_neg hw] at hh
        exact ⟨fun f _ => hF f, plain_any hp hF hQ fuel _ _ _ hh⟩

/-- A region of plain operations that draws its order, n of them reading ahead of a forced tail: in a round, too. -/
theorem wpIn_region_plain_tail {P : Program} {F : Fence} {m id : Nat} {Q : Exit → Act → World → Prop} {a : Act} {w : World} {l : List Oper} (n : Nat) (hm : P.follows .mixedOrders = true) (hB : Region.lexTailB .any l.toArray n = true)
    (hp : l.all plainOp = true) (hF : ∀ f, F.fn f) (hQ : ¬ LetsOut Q)
    (h : wpStill P l.toArray { w with drawn := w.drawn + 1 } (fun a' => wpList P l.toArray Q (l.drop n) a' { w with drawn := w.drawn + 1 }) (l.take n) a) : (Code.region id l.toArray true).wpIn F m P Q a w := by
  simp only [Region.lexTailB, Bool.and_eq_true, decide_eq_true_eq] at hB
  obtain ⟨⟨⟨⟨hsel, hn⟩, hs⟩, hc⟩, hlex⟩ := hB
  have hn' : n < l.length := by simpa using hn
  have htl : (l.take n).length = n := by simp; omega
  have hdl : (l.drop n).length = l.toArray.size - n := by simp
  have inv0 : HeadInv .any l.toArray n (Array.replicate l.toArray.size false) :=
    ⟨by simp, fun j oj _ hl => (by rw [getD_replicate_false] at hl; cases hl), fun t _ ht => getD_in (by simpa using ht) (getD_replicate_false _ _)⟩
  have H := wpAnyL_lex (md := .any) (g := l.toArray.size - n) hsel hs hc hn (l.take n) 0 _ a (fun j hj => by
    have hj' : j < n := by rw [htl] at hj; exact hj
    simp [hj']) (by simpa using htl) inv0 (by rw [htl]; exact hlex) h
  refine wpIn_region_any hm ?_
  have := wpAny_of_head (Q' := Q) (g := l.toArray.size - n) (fun listed a' hL => by
    have := wpAny_of_seq (md := .any) (Q' := Q) (l.drop n) n listed a' { w with drawn := w.drawn + 1 } (fun j => by simp [List.getElem?_drop]) (by rw [hdl]; exact hL.1) hL.2
    rwa [hdl] at this) _ _ _ H
  rw [htl, show n + (l.toArray.size - n) = l.toArray.size by omega] at this
  refine plain_any (fun i o ho => ?_) hF hQ _ _ _ _ this
  have : o ∈ l := by
    have ho' : l[i]? = some o := by simpa using ho
    exact List.mem_of_getElem? ho'
  exact List.all_eq_true.1 hp o this
end Go.Proofs.YtmjpdknnglblcaaDoor
