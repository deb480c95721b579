/- Values that came in: from a reading to a plain row. -/
import Derived.Test.YtaanejhpodbdnaaVaI
import Derived.ChangeArms
import Derived.Deep.Slices
import Derived.WalkKit
import Derived.ProofKit
import Derived.OpenShut
namespace Go.Proofs.Ytaanejhpodbdnaa
open Go.ChangeShapes Go.WideShapes Go.ChangeAt Go.RowKit
set_option linter.unusedVariables false
set_option maxRecDepth 100000

theorem cells_val : Try.prog.cellsOf 28 = 4 := by kernel_rfl
theorem plain_addr {W : World} {a : Addr} {v : Value} (h : W.cell? a = some v) : a = ⟨a.block, a.off, none⟩ := by
  obtain ⟨b, o, sp⟩ := a
  cases sp with
  | none => rfl
  | some q =>
    simp only [World.cell?] at h
    split at h <;> simp at h
theorem addr_add (b off k : Nat) : (⟨b, off, none⟩ : Addr).add k = ⟨b, off + k, none⟩ := by
  by_cases h : k = 0
  · subst h; rw [Addr.add, if_pos rfl, Nat.add_zero]
  · rw [Addr.add, if_neg h]

section
variable {H : Type} {enc : TypeId × Value → H} {W : World} {base : Nat} {spare : Nat → Bool} {held : Bool}

theorem open_i64 {t : TypeId} (ht : Try.prog.underlying t = some (.int .i64)) {fuel : Nat} {c : Value} {x : DataW H × List MemPlace} (h : DataW.trod enc Try.prog W base spare held fuel t [c] = some x) :
    ∃ n, c = .int .i64 n ∧ (Lit.int .i64 n).wf = true := by
  cases fuel with
  | zero => simp [DataW.trod] at h
  | succ n =>
    unfold DataW.trod at h
    rw [ht] at h
    cases c <;> simp at h
    obtain ⟨⟨rfl, hw⟩, _⟩ := h
    exact ⟨_, rfl, hw⟩
theorem open_f64 {fuel : Nat} {c : Value} {x : DataW H × List MemPlace} (h : DataW.trod enc Try.prog W base spare held fuel 26 [c] = some x) :
    ∃ n, c = .float .f64 n ∧ (Lit.float .f64 n).wf = true := by
  cases fuel with
  | zero => simp [DataW.trod] at h
  | succ n =>
    unfold DataW.trod at h
    rw [Try.underlying26] at h
    cases c <;> simp at h
    obtain ⟨⟨rfl, hw⟩, _⟩ := h
    exact ⟨_, rfl, hw⟩
theorem open_str {fuel : Nat} {c : Value} {x : DataW H × List MemPlace} (h : DataW.trod enc Try.prog W base spare held fuel 9 [c] = some x) :
    ∃ s, c = .string s ∧ s.size ≤ maxLen := by
  cases fuel with
  | zero => simp [DataW.trod] at h
  | succ n =>
    unfold DataW.trod at h
    rw [Try.underlying9] at h
    cases c <;> simp at h
    exact ⟨_, rfl, h.1⟩

theorem open_val {fuel : Nat} {cs : List Value} {x : DataW H × List MemPlace} (h : DataW.trod enc Try.prog W base spare held fuel 28 cs = some x) :
    ∃ v : Val, cs = [.int .i64 v.kind, .int .i64 v.int, .float .f64 v.flt, .string v.text] ∧ v.wf := by
  cases fuel with
  | zero => simp [DataW.trod] at h
  | succ fuel =>
    obtain ⟨xs, n, hn, _, hl, hlen, hf⟩ := DataW.trod_struct Try.underlying28 h
    rw [cells_val] at hl
    obtain ⟨c0, c1, c2, c3, rfl⟩ : ∃ c0 c1 c2 c3, cs = [c0, c1, c2, c3] := by
      match cs, hl with
      | [c0, c1, c2, c3], _ => exact ⟨c0, c1, c2, c3, rfl⟩
    have f0 := hf 0 _ rfl
    have f1 := hf 1 _ rfl
    have f2 := hf 2 _ rfl
    have f3 := hf 3 _ rfl
    have hxl : xs.length = 4 := hlen
    obtain ⟨x0, x1, x2, x3, rfl⟩ : ∃ x0 x1 x2 x3, xs = [x0, x1, x2, x3] := by
      match xs, hxl with
      | [x0, x1, x2, x3], _ => exact ⟨x0, x1, x2, x3, rfl⟩
    simp only [List.getElem?_cons_zero, List.getElem?_cons_succ] at f0 f1 f2 f3
    obtain ⟨k0, rfl, w0⟩ := open_i64 Try.underlying3 f0
    obtain ⟨k1, rfl, w1⟩ := open_i64 Try.underlying2 f1
    obtain ⟨k2, rfl, w2⟩ := open_f64 f2
    obtain ⟨k3, rfl, w3⟩ := open_str f3
    refine ⟨⟨k0, k1, k2, k3⟩, rfl, w0, w1, ?_, w3⟩
    simpa [Lit.wf] using w2

theorem open_row {fuel : Nat} {cs : List Value} {x : DataW H × List MemPlace} (h : DataW.trod enc Try.prog W base spare held fuel 22 cs = some x) :
    ∃ a len cap l, cs = [.slice a len cap] ∧ RowV W a len cap l := by
  cases fuel with
  | zero => simp [DataW.trod] at h
  | succ fuel =>
    rcases DataW.trod_slice Try.underlying22 h with ⟨rfl, _⟩ | ⟨a, len, cap, elems, rest, n, hn, rfl, _, hb, hl, hm, hlen, hel, _, _⟩
    · exact ⟨none, 0, 0, [], rfl, rfl, Nat.le_refl _, by unfold maxLen; omega, fun v hv => (by cases hv), .inl rfl⟩
    · have each : ∀ i, i < len → ∃ t : Val, ∃ cs', W.cells? base (a.add (i * 4)) 4 = some cs' ∧ cs' = [.int .i64 t.kind, .int .i64 t.int, .float .f64 t.flt, .string t.text] ∧ t.wf := by
        intro i hi
        have := hel i hi
        rw [cells_val] at this
        have hi' : i < elems.length := by omega
        rw [List.getElem?_eq_getElem hi', Option.bind_eq_some_iff] at this
        obtain ⟨cs', h1, h2⟩ := this
        obtain ⟨t, ht, hw⟩ := open_val h2
        exact ⟨t, cs', h1, ht, hw⟩
      obtain ⟨f, hf⟩ := Go.Deep.choose_lt each
      refine ⟨some a, len, cap, (List.range len).map f, rfl, by simp, hl, hm, ?_, ?_⟩
      · intro v hv
        obtain ⟨i, hi, rfl⟩ := List.mem_map.1 hv
        obtain ⟨_, _, _, hw⟩ := hf i (List.mem_range.1 hi)
        exact hw
      · by_cases h0 : len = 0
        · exact .inl h0
        · obtain ⟨cs0, hc0, _⟩ := hf 0 (by omega)
          obtain ⟨_, hl0, he0⟩ := World.cells?_some hc0
          have h00 := he0 0 (by omega)
          rw [Nat.zero_mul, Addr.add, if_pos rfl, Addr.add, if_pos rfl, List.getElem?_eq_getElem (by omega)] at h00
          have ha := plain_addr h00
          have hlt : a.block < W.heap.size := by
            rw [ha] at h00
            simp only [World.cell?] at h00
            by_cases hh : a.block < W.heap.size
            · exact hh
            · rw [Array.getElem?_eq_none (by omega)] at h00; simp at h00
          refine .inr ⟨a.block, a.off, by rw [← ha], hlt, fun i t ht => ?_⟩
          have hi : i < len := by
            have := (List.getElem?_eq_some_iff.1 ht).1
            rw [List.length_map, List.length_range] at this; exact this
          have hft : f i = t := by
            rw [List.getElem?_map, List.getElem?_range hi] at ht
            simpa using ht
          obtain ⟨cs', h1, h2, _⟩ := hf i hi
          rw [hft] at h2
          obtain ⟨_, hl1, he1⟩ := World.cells?_some h1
          have each : ∀ j c, cs'[j]? = some c → W.cell? ⟨a.block, a.off + i * 4 + j, none⟩ = some c := by
            intro j c hj
            have hj8 := (List.getElem?_eq_some_iff.1 hj).1
            have := he1 j (by omega)
            rw [hj, Go.Deep.add_add, ha, addr_add] at this
            rw [← this, Nat.add_assoc]
          subst h2
          exact ⟨each 0 _ rfl, each 1 _ rfl, each 2 _ rfl, each 3 _ rfl⟩
end
end Go.Proofs.Ytaanejhpodbdnaa
