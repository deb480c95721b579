/- Expressions that came in: plain trees, and how they lie in memory. -/
import Derived.Test.YtmjpdknnglblcaaDoorGrI
import Derived.ChangeArms
import Derived.Deep.Slices
namespace Go.Proofs.YtmjpdknnglblcaaDoor
open Go.ChangeShapes Go.WideShapes Go.ChangeAt Go.RowKit
set_option linter.unusedVariables false

/-- An expression as a tree: its kind, relation, column; its constant's kind, number, float's bits, text; its parts. -/
inductive Tx where
  | mk (kind rel col ck ci : Int) (cf : Nat) (ct : ByteArray) (kids : List Tx)
instance : Inhabited Tx := ⟨.mk 0 0 0 0 0 0 ByteArray.empty []⟩

def Tx.kind : Tx → Int | .mk k _ _ _ _ _ _ _ => k
def Tx.rel : Tx → Int | .mk _ r _ _ _ _ _ _ => r
def Tx.kids : Tx → List Tx | .mk _ _ _ _ _ _ _ ks => ks
def Tx.text : Tx → ByteArray | .mk _ _ _ _ _ _ s _ => s

/-- A row of expressions in memory, each as R says. -/
def RowWith (W : World) (R : List Value → Tx → Prop) (a : Option Addr) (len cap : Nat) (ts : List Tx) : Prop :=
  ts.length = len ∧ len ≤ cap ∧ cap ≤ maxLen ∧ (len = 0 ∨ ∃ b off, a = some ⟨b, off, none⟩ ∧ b < W.heap.size ∧
    ∀ i t, ts[i]? = some t → ∃ cs, R cs t ∧ ∀ j c, cs[j]? = some c → W.cell? ⟨b, off + i * 8 + j, none⟩ = some c)

/-- The eight cells of an expression, so deep. -/
def ExAt (W : World) : Nat → List Value → Tx → Prop
  | 0, _, _ => False
  | d + 1, cs, .mk kind rel col ck ci cf ct kids => ∃ a len cap,
      cs = [.int .i64 kind, .int .i64 rel, .int .i64 col, .int .i64 ck, .int .i64 ci, .float .f64 cf, .string ct, .slice a len cap] ∧
      ((Lit.int .i64 kind).wf = true ∧ (Lit.int .i64 rel).wf = true ∧ (Lit.int .i64 col).wf = true ∧ (Lit.int .i64 ck).wf = true ∧ (Lit.int .i64 ci).wf = true ∧ (Lit.float .f64 cf).wf = true ∧ ct.size ≤ maxLen) ∧
      RowWith W (ExAt W d) a len cap kids

theorem RowWith.mono {W : World} {R R' : List Value → Tx → Prop} {a : Option Addr} {len cap : Nat} {ts : List Tx} (h : RowWith W R a len cap ts) (hR : ∀ cs t, t ∈ ts → R cs t → R' cs t) : RowWith W R' a len cap ts := by
  obtain ⟨h1, h2, h3, h4⟩ := h
  refine ⟨h1, h2, h3, ?_⟩
  rcases h4 with h4 | ⟨b, off, e, hb, hc⟩
  · exact .inl h4
  · refine .inr ⟨b, off, e, hb, fun i t ht => ?_⟩
    obtain ⟨cs, hr, hc'⟩ := hc i t ht
    exact ⟨cs, hR cs t (List.mem_of_getElem? ht) hr, hc'⟩

theorem ExAt.more {W : World} : ∀ {d : Nat} {cs : List Value} {t : Tx}, ExAt W d cs t → ExAt W (d + 1) cs t
  | 0, _, _, h => h.elim
  | d + 1, cs, .mk kind rel col ck ci cf ct kids, h => by
    obtain ⟨a, len, cap, e, hw, hr⟩ := h
    exact ⟨a, len, cap, e, hw, hr.mono fun cs t _ h => ExAt.more h⟩

theorem RowWith.later {W W' : World} {R R' : List Value → Tx → Prop} {a : Option Addr} {len cap : Nat} {ts : List Tx} (h : RowWith W R a len cap ts) (hb : Below W.heap.size W W') (hR : ∀ cs t, R cs t → R' cs t) : RowWith W' R' a len cap ts := by
  obtain ⟨h1, h2, h3, h4⟩ := h
  refine ⟨h1, h2, h3, ?_⟩
  rcases h4 with h4 | ⟨b, off, e, hl, hc⟩
  · exact .inl h4
  · refine .inr ⟨b, off, e, Nat.lt_of_lt_of_le hl hb.size, fun i t ht => ?_⟩
    obtain ⟨cs, hr, hc'⟩ := hc i t ht
    exact ⟨cs, hR cs t hr, fun j c hj => (hb.cell hl).trans (hc' j c hj)⟩

theorem ExAt.later {W W' : World} (hb : Below W.heap.size W W') : ∀ {d : Nat} {cs : List Value} {t : Tx}, ExAt W d cs t → ExAt W' d cs t
  | 0, _, _, h => h.elim
  | d + 1, cs, .mk kind rel col ck ci cf ct kids, h => by
    obtain ⟨a, len, cap, e, hw, hr⟩ := h
    exact ⟨a, len, cap, e, hw, hr.later hb fun cs t h => ExAt.later hb h⟩

/-- A row of expressions, each so deep. -/
abbrev ExsAt (W : World) (d : Nat) (a : Option Addr) (len cap : Nat) (ts : List Tx) : Prop := RowWith W (ExAt W d) a len cap ts
theorem ExsAt.later' {W W' : World} {d : Nat} {a : Option Addr} {len cap : Nat} {ts : List Tx} (h : ExsAt W d a len cap ts) (hb : Below W.heap.size W W') : ExsAt W' d a len cap ts := RowWith.later h hb fun _ _ h => ExAt.later hb h

theorem cellsOf53 : Tryd.prog.cellsOf 53 = 8 := by kernel_rfl

theorem plain_addr {W : World} {a : Addr} {v : Value} (h : W.cell? a = some v) : a = ⟨a.block, a.off, none⟩ := by
  obtain ⟨b, o, sp⟩ := a
  cases sp with
  | none => rfl
  | some q =>
    simp only [World.cell?] at h
    split at h <;> simp at h
theorem addr_add (b off k : Nat) : (⟨b, off, none⟩ : Addr).add k = ⟨b, off + k, none⟩ := by
  by_cases h : k = 0
  · subst h; rw [Addr.add, if_pos rfl, Nat.add_zero]
  · rw [Addr.add, if_neg h]

section
variable {H : Type} {enc : TypeId × Value → H} {W : World} {base : Nat} {spare : Nat → Bool} {held : Bool}

theorem open_i64 {t : TypeId} (ht : Tryd.prog.underlying t = some (.int .i64)) {fuel : Nat} {c : Value} {x : DataW H × List MemPlace} (h : DataW.trod enc Tryd.prog W base spare held fuel t [c] = some x) :
    ∃ n, c = .int .i64 n ∧ (Lit.int .i64 n).wf = true := by
  cases fuel with
  | zero => simp [DataW.trod] at h
  | succ n =>
    unfold DataW.trod at h
    rw [ht] at h
    cases c <;> simp at h
    obtain ⟨⟨rfl, hw⟩, _⟩ := h
    exact ⟨_, rfl, hw⟩
theorem open_f64 {fuel : Nat} {c : Value} {x : DataW H × List MemPlace} (h : DataW.trod enc Tryd.prog W base spare held fuel 49 [c] = some x) :
    ∃ n, c = .float .f64 n ∧ (Lit.float .f64 n).wf = true := by
  cases fuel with
  | zero => simp [DataW.trod] at h
  | succ n =>
    unfold DataW.trod at h
    rw [Tryd.underlying49] at h
    cases c <;> simp at h
    obtain ⟨⟨rfl, hw⟩, _⟩ := h
    exact ⟨_, rfl, hw⟩
theorem open_str {fuel : Nat} {c : Value} {x : DataW H × List MemPlace} (h : DataW.trod enc Tryd.prog W base spare held fuel 9 [c] = some x) :
    ∃ s, c = .string s ∧ s.size ≤ maxLen := by
  cases fuel with
  | zero => simp [DataW.trod] at h
  | succ n =>
    unfold DataW.trod at h
    rw [Tryd.underlying9] at h
    cases c <;> simp at h
    exact ⟨_, rfl, h.1⟩

theorem list8 {α : Type} {cs : List α} (h : cs.length = 8) : ∃ c0 c1 c2 c3 c4 c5 c6 c7, cs = [c0, c1, c2, c3, c4, c5, c6, c7] := by
  match cs, h with
  | [c0, c1, c2, c3, c4, c5, c6, c7], _ => exact ⟨c0, c1, c2, c3, c4, c5, c6, c7, rfl⟩

theorem open_ex : ∀ (fuel : Nat), (∀ (cs : List Value) (x : DataW H × List MemPlace), DataW.trod enc Tryd.prog W base spare held fuel 53 cs = some x → ∃ t, ExAt W fuel cs t) ∧
    (∀ (cs : List Value) (x : DataW H × List MemPlace), DataW.trod enc Tryd.prog W base spare held fuel 35 cs = some x → ∃ a len cap ts, cs = [.slice a len cap] ∧ (a = none → len = 0 ∧ cap = 0) ∧ ExsAt W fuel a len cap ts)
  | 0 => ⟨fun _ _ h => by simp [DataW.trod] at h, fun _ _ h => by simp [DataW.trod] at h⟩
  | fuel + 1 => by
    obtain ⟨ihE, ihS⟩ := open_ex fuel
    constructor
    · intro cs x h
      obtain ⟨xs, n, hn, _, hl, hlen, hf⟩ := DataW.trod_struct Tryd.underlying53 h
      cases hn
      rw [cellsOf53] at hl
      obtain ⟨c0, c1, c2, c3, c4, c5, c6, c7, rfl⟩ := list8 hl
      have f0 := hf 0 _ rfl
      have f1 := hf 1 _ rfl
      have f2 := hf 2 _ rfl
      have f3 := hf 3 _ rfl
      have f4 := hf 4 _ rfl
      have hxl : xs.length = 5 := hlen
      obtain ⟨x0, x1, x2, x3, x4, rfl⟩ : ∃ x0 x1 x2 x3 x4, xs = [x0, x1, x2, x3, x4] := by
        match xs, hxl with
        | [x0, x1, x2, x3, x4], _ => exact ⟨x0, x1, x2, x3, x4, rfl⟩
      simp only [List.getElem?_cons_zero, List.getElem?_cons_succ] at f0 f1 f2 f3 f4
      obtain ⟨k0, rfl, w0⟩ := open_i64 Tryd.underlying3 f0
      obtain ⟨k1, rfl, w1⟩ := open_i64 Tryd.underlying3 f1
      obtain ⟨k2, rfl, w2⟩ := open_i64 Tryd.underlying3 f2
      obtain ⟨a, len, cap, ts, e, hnn, hr⟩ := ihS _ _ f4
      obtain ⟨xs', m, hm, _, _, hlen', hf'⟩ := DataW.trod_struct Tryd.underlying51 f3
      have g0 := hf' 0 _ rfl
      have g1 := hf' 1 _ rfl
      have g2 := hf' 2 _ rfl
      have g3 := hf' 3 _ rfl
      have hxl' : xs'.length = 4 := hlen'
      obtain ⟨y0, y1, y2, y3, rfl⟩ : ∃ x0 x1 x2 x3, xs' = [x0, x1, x2, x3] := by
        match xs', hxl' with
        | [x0, x1, x2, x3], _ => exact ⟨x0, x1, x2, x3, rfl⟩
      simp only [List.getElem?_cons_zero, List.getElem?_cons_succ] at g0 g1 g2 g3
      obtain ⟨k3, rfl, w3⟩ := open_i64 Tryd.underlying3 g0
      obtain ⟨k4, rfl, w4⟩ := open_i64 Tryd.underlying2 g1
      obtain ⟨k5, rfl, w5⟩ := open_f64 g2
      obtain ⟨k6, rfl, w6⟩ := open_str g3
      cases e
      exact ⟨.mk k0 k1 k2 k3 k4 k5 k6 ts, a, len, cap, rfl, ⟨w0, w1, w2, w3, w4, w5, w6⟩, hr⟩
    · intro cs x h
      rcases DataW.trod_slice Tryd.underlying35 h with ⟨rfl, _⟩ | ⟨a, len, cap, elems, rest, n, hn, rfl, _, hb, hl, hm, hlen, hel, _, _⟩
      · exact ⟨none, 0, 0, [], rfl, fun _ => ⟨rfl, rfl⟩, rfl, Nat.le_refl _, by unfold maxLen; omega, .inl rfl⟩
      · cases hn
        have each : ∀ i, i < len → ∃ t, ∃ cs', W.cells? base (a.add (i * 8)) 8 = some cs' ∧ ExAt W (fuel + 1) cs' t := by
          intro i hi
          have := hel i hi
          rw [cellsOf53] at this
          have hi' : i < elems.length := by omega
          rw [List.getElem?_eq_getElem hi', Option.bind_eq_some_iff] at this
          obtain ⟨cs', h1, h2⟩ := this
          obtain ⟨t, ht⟩ := ihE cs' _ h2
          exact ⟨t, cs', h1, ht.more⟩
        obtain ⟨f, hf⟩ := Go.Deep.choose_lt each
        refine ⟨some a, len, cap, (List.range len).map f, rfl, (fun e => by cases e), by simp, hl, hm, ?_⟩
        by_cases h0 : len = 0
        · exact .inl h0
        · obtain ⟨cs0, hc0, _⟩ := hf 0 (by omega)
          obtain ⟨_, hl0, he0⟩ := World.cells?_some hc0
          have h00 := he0 0 (by omega)
          rw [Nat.zero_mul, Addr.add, if_pos rfl, Addr.add, if_pos rfl, List.getElem?_eq_getElem (by omega)] at h00
          have ha := plain_addr h00
          have hlt := block_lt h00
          refine .inr ⟨a.block, a.off, by rw [← ha], hlt, fun i t ht => ?_⟩
          have hi : i < len := by
            have := (List.getElem?_eq_some_iff.1 ht).1
            rw [List.length_map, List.length_range] at this; exact this
          have hft : f i = t := by
            rw [List.getElem?_map, List.getElem?_range hi] at ht
            simpa using ht
          obtain ⟨cs', h1, h2⟩ := hf i hi
          rw [hft] at h2
          obtain ⟨_, hl1, he1⟩ := World.cells?_some h1
          refine ⟨cs', h2, fun j c hj => ?_⟩
          have hj8 := (List.getElem?_eq_some_iff.1 hj).1
          have := he1 j (by omega)
          rw [hj, Go.Deep.add_add, ha, addr_add] at this
          rw [← this, Nat.add_assoc]
end
end Go.Proofs.YtmjpdknnglblcaaDoor
