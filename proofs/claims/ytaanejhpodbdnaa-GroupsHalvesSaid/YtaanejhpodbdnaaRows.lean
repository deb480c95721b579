/-
  NARROWER THAN 'FOR EVERY INPUT', by the rows' own cells (each row's printed sentence says how): GroupsDenote: loops.
  DERIVED. THE GIVEN ROWS OF THIS SEAT. 3 by the template 'for every input the law returns true; each argument reads behind the call as it read before'; 0 by the template 'total and deterministic' (their statements: YtaanejhpodbdnaaTotals.lean).
  GIVEN WITH THE SEED: the statements are not yours to turn. If you find one false, say at which input.
  Laid BY PROGRAM, IN A SANDBOX (cutbox-rows.mjs): the forced cells as the released guide's own fill.sh prints them over the translation 06af21bc72e8d85f… (all of the seat's roots in one cut). By AI agents, Wed Nov 11 2026. No macro, syntax, notation, axiom, sorry.
-/
import Derived.Test.YtaanejhpodbdnaaChecked
import GoSem.Claim
import GoSem.ClaimJoined
import GoSem.ClaimMapViews
import Derived.JoinedTies
import Derived.KernelRfl
namespace Go.Proofs.Ytaanejhpodbdnaa
/- THE CELL 'sum', in the pinned program and in every row, IS THE sha256 OF THE DUMP (.gsa) THAT YtaanejhpodbdnaaProg.lean LOADS. Nothing in Lean hashes anything: it is a label: what it is worth is what the hold of that sum in a sandbox is worth. -/
noncomputable def Try.pinned : Pinned := { name := "ytaanejhpodbdnaa", sum := "06af21bc72e8d85f6222361620600224f6d6a59912fe7a31a875a51ee5ebe038", checked := Try.checked }
namespace Rows
def none {H : Type} : Left H := { results := [], args := [] }

/-- 'tabularylaw28.GroupsFolds': WHATEVER THE INPUT: true; the input reads as it did. -/
def groupsFoldsSpec : ChangeSpec := { name := "groupsFolds", fn := fun _ => fun
  | [d1, d2, d3] => { results := [.lit (.bool true)], args := [d1, d2, d3] }
  | _ => none }
def groupsFoldsRow : OpenClaim := { program := "ytaanejhpodbdnaa", sum := "06af21bc72e8d85f6222361620600224f6d6a59912fe7a31a875a51ee5ebe038", func := "tabulary/tabularylaw28.GroupsFolds", spec := "groupsFolds", inPlace := ["math.Float64bits", "math.Float64frombits"], unfollowed := true, recurses := true, apart := false }
def GroupsFoldsSaid : Prop := groupsFoldsRow.holds Try.pinned (OpenSpec.ofChange groupsFoldsSpec)

/-- ITS FALSE NEIGHBOUR: 'it returns false'. Refute it at one input. -/
def groupsFoldsWrong : ChangeSpec := { name := "groupsFolds", fn := fun _ => fun
  | [d1, d2, d3] => { results := [.lit (.bool false)], args := [d1, d2, d3] }
  | _ => none }
def GroupsFoldsWrongFalsely : Prop := groupsFoldsRow.holds Try.pinned (OpenSpec.ofChange groupsFoldsWrong)

/-- 'tabularylaw28.GroupsHalves': WHATEVER THE INPUT: true; the input reads as it did. -/
def groupsHalvesSpec : ChangeSpec := { name := "groupsHalves", fn := fun _ => fun
  | [d1, d2, d3] => { results := [.lit (.bool true)], args := [d1, d2, d3] }
  | _ => none }
def groupsHalvesRow : OpenClaim := { program := "ytaanejhpodbdnaa", sum := "06af21bc72e8d85f6222361620600224f6d6a59912fe7a31a875a51ee5ebe038", func := "tabulary/tabularylaw28.GroupsHalves", spec := "groupsHalves", inPlace := ["math.Float64bits", "math.Float64frombits"], unfollowed := true, recurses := true, apart := false }
def GroupsHalvesSaid : Prop := groupsHalvesRow.holds Try.pinned (OpenSpec.ofChange groupsHalvesSpec)

/-- ITS FALSE NEIGHBOUR: 'it returns false'. Refute it at one input. -/
def groupsHalvesWrong : ChangeSpec := { name := "groupsHalves", fn := fun _ => fun
  | [d1, d2, d3] => { results := [.lit (.bool false)], args := [d1, d2, d3] }
  | _ => none }
def GroupsHalvesWrongFalsely : Prop := groupsHalvesRow.holds Try.pinned (OpenSpec.ofChange groupsHalvesWrong)

/-- 'tabularylaw28.GroupsDenote': WHATEVER THE INPUT: true; the input reads as it did. -/
def groupsDenoteSpec : ChangeSpec := { name := "groupsDenote", fn := fun _ => fun
  | [d1, d2, d3] => { results := [.lit (.bool true)], args := [d1, d2, d3] }
  | _ => none }
def groupsDenoteRow : OpenClaim := { program := "ytaanejhpodbdnaa", sum := "06af21bc72e8d85f6222361620600224f6d6a59912fe7a31a875a51ee5ebe038", func := "tabulary/tabularylaw28.GroupsDenote", spec := "groupsDenote", inPlace := ["math.Float64bits", "math.Float64frombits"], unfollowed := true, recurses := true, loops := true, apart := false }
def GroupsDenoteSaid : Prop := groupsDenoteRow.holds Try.pinned (OpenSpec.ofChange groupsDenoteSpec)

/-- ITS FALSE NEIGHBOUR: 'it returns false'. Refute it at one input. -/
def groupsDenoteWrong : ChangeSpec := { name := "groupsDenote", fn := fun _ => fun
  | [d1, d2, d3] => { results := [.lit (.bool false)], args := [d1, d2, d3] }
  | _ => none }
def GroupsDenoteWrongFalsely : Prop := groupsDenoteRow.holds Try.pinned (OpenSpec.ofChange groupsDenoteWrong)

/- THE SECOND FORM. 'bulk': how many values and letters a reading holds, each counted each time it is reached (what is shared counts as often as it is met; a slice's spare places count too). A statement '..UptoSaid' is the law's where the arguments, and the package variables that the reading takes, are together of bulk at most 1048576: NARROWER than '..Said'. Prove '..Said' where nothing that the law and all that it calls make is longer than what came in: it says more and counts as full. Else prove '..UptoSaid'. A law counts once. -/
mutual
def uptoBulk {H : Type} : DataW H → Nat
  | .lit (.string bytes) => bytes.length + 1
  | .lit _ => 1
  | .nil => 1
  | .ptr d => uptoBulk d + 1
  | .slice elems spare => uptoBulkAll elems + uptoBulkAll spare + 1
  | .agg parts => uptoBulkAll parts + 1
  | .iface _ d => uptoBulk d + 1
  | .map entries => uptoBulkEntries entries + 1
  | .held _ => 1
def uptoBulkAll {H : Type} : List (DataW H) → Nat
  | [] => 0
  | d :: r => uptoBulk d + uptoBulkAll r
def uptoBulkEntries {H : Type} : List (Lit × DataW H) → Nat
  | [] => 0
  | x :: r => uptoBulkEntry x + uptoBulkEntries r
def uptoBulkEntry {H : Type} : Lit × DataW H → Nat
  | (.string bytes, d) => bytes.length + uptoBulk d + 1
  | (_, d) => uptoBulk d + 1
 end
def uptoSmall : (H : Type) → List (DataW H) → Bool := fun _ ds => decide (uptoBulkAll ds ≤ 1048576)
def OpenSpec.upto (s : _root_.Go.ChangeSpec) : _root_.Go.OpenSpec := { _root_.Go.OpenSpec.ofChange s with cond := some uptoSmall }

/-- 'tabularylaw28.GroupsFolds', WHERE WHAT IT READS IS OF BULK AT MOST 1048576: true; the input reads as it did. -/
def groupsFoldsUptoRow : OpenClaim := { program := "ytaanejhpodbdnaa", sum := "06af21bc72e8d85f6222361620600224f6d6a59912fe7a31a875a51ee5ebe038", func := "tabulary/tabularylaw28.GroupsFolds", spec := "groupsFolds", inPlace := ["math.Float64bits", "math.Float64frombits"], unfollowed := true, recurses := true, apart := false, narrowed := true }
def GroupsFoldsUptoSaid : Prop := groupsFoldsUptoRow.holds Try.pinned (OpenSpec.upto groupsFoldsSpec)

/-- 'tabularylaw28.GroupsHalves', WHERE WHAT IT READS IS OF BULK AT MOST 1048576: true; the input reads as it did. -/
def groupsHalvesUptoRow : OpenClaim := { program := "ytaanejhpodbdnaa", sum := "06af21bc72e8d85f6222361620600224f6d6a59912fe7a31a875a51ee5ebe038", func := "tabulary/tabularylaw28.GroupsHalves", spec := "groupsHalves", inPlace := ["math.Float64bits", "math.Float64frombits"], unfollowed := true, recurses := true, apart := false, narrowed := true }
def GroupsHalvesUptoSaid : Prop := groupsHalvesUptoRow.holds Try.pinned (OpenSpec.upto groupsHalvesSpec)

/-- 'tabularylaw28.GroupsDenote', WHERE WHAT IT READS IS OF BULK AT MOST 1048576: true; the input reads as it did. -/
def groupsDenoteUptoRow : OpenClaim := { program := "ytaanejhpodbdnaa", sum := "06af21bc72e8d85f6222361620600224f6d6a59912fe7a31a875a51ee5ebe038", func := "tabulary/tabularylaw28.GroupsDenote", spec := "groupsDenote", inPlace := ["math.Float64bits", "math.Float64frombits"], unfollowed := true, recurses := true, loops := true, apart := false, narrowed := true }
def GroupsDenoteUptoSaid : Prop := groupsDenoteUptoRow.holds Try.pinned (OpenSpec.upto groupsDenoteSpec)

end Rows
end Go.Proofs.Ytaanejhpodbdnaa
