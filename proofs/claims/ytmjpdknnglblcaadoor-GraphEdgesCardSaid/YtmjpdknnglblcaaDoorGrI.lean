/- What comes in: a row of edges; the table. -/
import Derived.Test.YtmjpdknnglblcaaDoorGrH
import Derived.Test.YtmjpdknnglblcaaDoorCards
import Derived.Test.YtmjpdknnglblcaaDoorTie
import Derived.WalkKit
import Derived.ProofKit
import Derived.OpenShut
import Derived.ShutString
import Derived.ChangeOld
import Derived.Below
import Derived.Deep.DeepHandedRow
import Derived.Lib.LaidTab
namespace Go.Proofs.YtmjpdknnglblcaaDoor
open Go.ChangeShapes Go.WideShapes Go.ChangeAt Go.RowKit
open Gr
set_option linter.unusedVariables false

theorem own : ownKnob Tryd.prog.godebug = none := by kernel_rfl
theorem laidOut : laidOutB Tryd.prog = true := by kernel_rfl
theorem gTab : Tryd.prog.globalNamed "math/bits.deBruijn32tab" = some 0 := by kernel_rfl

/-- WHAT THE WALK IS TOLD OF A SLICE OF INTEGERS THAT CAME IN. -/
def IsRow (k : IntKind) (w : World) (a : Option Addr) (len cap : Nat) (zs : List Int) : Prop :=
  (a = none ∧ len = 0 ∧ cap = 0 ∧ zs = []) ∨
  ∃ x, a = some x ∧ len ≤ cap ∧ cap ≤ maxLen ∧ zs.length = cap ∧ (∀ i, i < zs.length → w.cell? (x.add i) = some (.int k (zs.getD i 0))) ∧ ∀ n ∈ zs, (Lit.int k n).wf = true

theorem wf32 (n : Int) (h : (Lit.int .u32 n).wf = true) : 0 ≤ n ∧ n < 4294967296 := by
  simp [Lit.wf, IntKind.min, IntKind.max, IntKind.signed, IntKind.bits] at h
  omega

def edgesOf (k : Nat) (zs : List Int) : List Nat := (zs.take k).map Int.toNat
theorem edgesOf_length (k : Nat) (zs : List Int) (h : k ≤ zs.length) : (edgesOf k zs).length = k := by simp [edgesOf]; omega
theorem edgesOf_getD (k : Nat) (zs : List Int) (i : Nat) (hi : i < k) (h : k ≤ zs.length) (hp : ∀ n ∈ zs, 0 ≤ n) : ((edgesOf k zs).getD i 0 : Int) = zs.getD i 0 := by
  have hi2 : i < zs.length := by omega
  have h0 := hp _ (List.getElem_mem hi2)
  unfold edgesOf
  simp [List.getD, hi, hi2]
  omega

theorem IsRow.edges {w : World} {a : Option Addr} {len cap : Nat} {zs : List Int} (h : IsRow .u32 w a len cap zs) : EdgesAt w a len cap (edgesOf (min len 12) zs) := by
  rcases h with ⟨rfl, rfl, rfl, rfl⟩ | ⟨x, rfl, h1, h2, h3, h4, h5⟩
  · exact ⟨Nat.le_refl _, by unfold maxLen; omega, rfl, by intro x hx; simp [edgesOf] at hx, .inl rfl⟩
  · have hlen : (edgesOf (min len 12) zs).length = min len 12 := edgesOf_length _ _ (by omega)
    refine ⟨h1, h2, hlen, ?_, ?_⟩
    · intro y hy
      unfold edgesOf at hy
      obtain ⟨z, hz, rfl⟩ := List.mem_map.1 hy
      have := wf32 z (h5 z (List.mem_of_mem_take hz))
      omega
    · by_cases h0 : len = 0
      · exact .inl h0
      · have hc := h4 0 (by omega)
        have hx : x = ⟨x.block, x.off, none⟩ := by
          obtain ⟨b, o, sp⟩ := x
          cases sp with
          | none => rfl
          | some q =>
            simp only [Addr.add, if_pos, World.cell?] at hc
            split at hc <;> simp at hc
        refine .inr ⟨x.block, x.off, by rw [← hx], fun i hi => ?_⟩
        rw [hlen] at hi
        have hci := h4 i (by omega)
        rw [edgesOf_getD _ _ _ hi (by omega) (fun n hn => (wf32 n (h5 n hn)).1)]
        rw [← hci]
        congr 1
        by_cases hi0 : i = 0
        · subst hi0; rw [Addr.add, if_pos rfl, Nat.add_zero, ← hx]
        · rw [Addr.add, if_neg hi0]

/-- WHAT THE ROW's LIST GIVES: the table's cells. -/
theorem table {W : World} (h : laidMetH Tryd.prog Rows.graphPartsRow.laid W) : TabAt W := by
  have ht : Lib.TabIs Tryd.prog W "math/bits.deBruijn32tab" .u8 (Lib.deBruijn32tab.map Int.ofNat) :=
    Lib.tabIs_of_head (rest := []) gTab (by kernel_rfl) Tryd.underlying60 Tryd.underlying5 (by kernel_rfl) (by kernel_rfl) h
  intro j hj
  have := ht.cell gTab j (by rw [List.length_map]; exact hj)
  rw [this]
  simp [List.getD, hj]
end Go.Proofs.YtmjpdknnglblcaaDoor
