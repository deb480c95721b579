/-
  NARROWER THAN 'FOR EVERY INPUT', by the rows' own cells (each row's printed sentence says how): JoinsParts: loops · JoinsTell: loops · JoinsAlike: loops · JoinsTurn: loops.
  DERIVED. THE GIVEN ROWS OF THIS SEAT. 4 by the template 'for every input the law returns true; each argument reads behind the call as it read before'; 0 by the template 'total and deterministic' (their statements: YtgmolmpfihkolaaGreatTotals.lean).
  GIVEN WITH THE SEED: the statements are not yours to turn. If you find one false, say at which input.
  Laid BY PROGRAM, IN A SANDBOX (cutbox-rows.mjs): the forced cells as the released guide's own fill.sh prints them over the translation ab5c00512c3f1278… (all of the seat's roots in one cut). By AI agents, Wed Nov 11 2026. No macro, syntax, notation, axiom, sorry.
-/
import Derived.Test.YtgmolmpfihkolaaGreatChecked
import GoSem.Claim
import GoSem.ClaimJoined
import GoSem.ClaimMapViews
import Derived.JoinedTies
import Derived.KernelRfl
namespace Go.Proofs.YtgmolmpfihkolaaGreat
/- THE CELL 'sum', in the pinned program and in every row, IS THE sha256 OF THE DUMP (.gsa) THAT YtgmolmpfihkolaaGreatProg.lean LOADS. Nothing in Lean hashes anything: it is a label: what it is worth is what the hold of that sum in a sandbox is worth. -/
noncomputable def Tryz.pinned : Pinned := { name := "ytgmolmpfihkolaagreat", sum := "ab5c00512c3f12788eb9446d5dba4b1e0a06fb92d551c8c9fa84627492d20a80", checked := Tryz.checked }
namespace Rows
def none {H : Type} : Left H := { results := [], args := [] }

/-- 'tabularylaw27.JoinsParts': WHATEVER THE INPUT: true; the input reads as it did. -/
def joinsPartsSpec : ChangeSpec := { name := "joinsParts", fn := fun _ => fun
  | [d1, d2, d3] => { results := [.lit (.bool true)], args := [d1, d2, d3] }
  | _ => none }
def joinsPartsRow : OpenClaim := { program := "ytgmolmpfihkolaagreat", sum := "ab5c00512c3f12788eb9446d5dba4b1e0a06fb92d551c8c9fa84627492d20a80", func := "tabulary/tabularylaw27.JoinsParts", spec := "joinsParts", inPlace := ["math.Float64bits", "math.Float64frombits"], unfollowed := true, recurses := true, loops := true, apart := false }
def JoinsPartsSaid : Prop := joinsPartsRow.holds Tryz.pinned (OpenSpec.ofChange joinsPartsSpec)

/-- ITS FALSE NEIGHBOUR: 'it returns false'. Refute it at one input. -/
def joinsPartsWrong : ChangeSpec := { name := "joinsParts", fn := fun _ => fun
  | [d1, d2, d3] => { results := [.lit (.bool false)], args := [d1, d2, d3] }
  | _ => none }
def JoinsPartsWrongFalsely : Prop := joinsPartsRow.holds Tryz.pinned (OpenSpec.ofChange joinsPartsWrong)

/-- 'tabularylaw27.JoinsTell': WHATEVER THE INPUT: true; the input reads as it did. -/
def joinsTellSpec : ChangeSpec := { name := "joinsTell", fn := fun _ => fun
  | [d1, d2, d3, d4, d5] => { results := [.lit (.bool true)], args := [d1, d2, d3, d4, d5] }
  | _ => none }
def joinsTellRow : OpenClaim := { program := "ytgmolmpfihkolaagreat", sum := "ab5c00512c3f12788eb9446d5dba4b1e0a06fb92d551c8c9fa84627492d20a80", func := "tabulary/tabularylaw27.JoinsTell", spec := "joinsTell", inPlace := ["math.Float64bits", "math.Float64frombits"], unfollowed := true, recurses := true, loops := true, apart := false }
def JoinsTellSaid : Prop := joinsTellRow.holds Tryz.pinned (OpenSpec.ofChange joinsTellSpec)

/-- ITS FALSE NEIGHBOUR: 'it returns false'. Refute it at one input. -/
def joinsTellWrong : ChangeSpec := { name := "joinsTell", fn := fun _ => fun
  | [d1, d2, d3, d4, d5] => { results := [.lit (.bool false)], args := [d1, d2, d3, d4, d5] }
  | _ => none }
def JoinsTellWrongFalsely : Prop := joinsTellRow.holds Tryz.pinned (OpenSpec.ofChange joinsTellWrong)

/-- 'tabularylaw27.JoinsAlike': WHATEVER THE INPUT: true; the input reads as it did. -/
def joinsAlikeSpec : ChangeSpec := { name := "joinsAlike", fn := fun _ => fun
  | [d1, d2, d3, d4, d5] => { results := [.lit (.bool true)], args := [d1, d2, d3, d4, d5] }
  | _ => none }
def joinsAlikeRow : OpenClaim := { program := "ytgmolmpfihkolaagreat", sum := "ab5c00512c3f12788eb9446d5dba4b1e0a06fb92d551c8c9fa84627492d20a80", func := "tabulary/tabularylaw27.JoinsAlike", spec := "joinsAlike", inPlace := ["math.Float64bits", "math.Float64frombits"], unfollowed := true, recurses := true, loops := true, apart := false }
def JoinsAlikeSaid : Prop := joinsAlikeRow.holds Tryz.pinned (OpenSpec.ofChange joinsAlikeSpec)

/-- ITS FALSE NEIGHBOUR: 'it returns false'. Refute it at one input. -/
def joinsAlikeWrong : ChangeSpec := { name := "joinsAlike", fn := fun _ => fun
  | [d1, d2, d3, d4, d5] => { results := [.lit (.bool false)], args := [d1, d2, d3, d4, d5] }
  | _ => none }
def JoinsAlikeWrongFalsely : Prop := joinsAlikeRow.holds Tryz.pinned (OpenSpec.ofChange joinsAlikeWrong)

/-- 'tabularylaw27.JoinsTurn': WHATEVER THE INPUT: true; the input reads as it did. -/
def joinsTurnSpec : ChangeSpec := { name := "joinsTurn", fn := fun _ => fun
  | [d1, d2, d3, d4, d5] => { results := [.lit (.bool true)], args := [d1, d2, d3, d4, d5] }
  | _ => none }
def joinsTurnRow : OpenClaim := { program := "ytgmolmpfihkolaagreat", sum := "ab5c00512c3f12788eb9446d5dba4b1e0a06fb92d551c8c9fa84627492d20a80", func := "tabulary/tabularylaw27.JoinsTurn", spec := "joinsTurn", inPlace := ["math.Float64bits", "math.Float64frombits"], unfollowed := true, recurses := true, loops := true, apart := false }
def JoinsTurnSaid : Prop := joinsTurnRow.holds Tryz.pinned (OpenSpec.ofChange joinsTurnSpec)

/-- ITS FALSE NEIGHBOUR: 'it returns false'. Refute it at one input. -/
def joinsTurnWrong : ChangeSpec := { name := "joinsTurn", fn := fun _ => fun
  | [d1, d2, d3, d4, d5] => { results := [.lit (.bool false)], args := [d1, d2, d3, d4, d5] }
  | _ => none }
def JoinsTurnWrongFalsely : Prop := joinsTurnRow.holds Tryz.pinned (OpenSpec.ofChange joinsTurnWrong)

/- THE SECOND FORM. 'bulk': how many values and letters a reading holds, each counted each time it is reached (what is shared counts as often as it is met; a slice's spare places count too). A statement '..UptoSaid' is the law's where the arguments, and the package variables that the reading takes, are together of bulk at most 1048576: NARROWER than '..Said'. Prove '..Said' where nothing that the law and all that it calls make is longer than what came in: it says more and counts as full. Else prove '..UptoSaid'. A law counts once. -/
mutual
def uptoBulk {H : Type} : DataW H → Nat
  | .lit (.string bytes) => bytes.length + 1
  | .lit _ => 1
  | .nil => 1
  | .ptr d => uptoBulk d + 1
  | .slice elems spare => uptoBulkAll elems + uptoBulkAll spare + 1
  | .agg parts => uptoBulkAll parts + 1
  | .iface _ d => uptoBulk d + 1
  | .map entries => uptoBulkEntries entries + 1
  | .held _ => 1
def uptoBulkAll {H : Type} : List (DataW H) → Nat
  | [] => 0
  | d :: r => uptoBulk d + uptoBulkAll r
def uptoBulkEntries {H : Type} : List (Lit × DataW H) → Nat
  | [] => 0
  | x :: r => uptoBulkEntry x + uptoBulkEntries r
def uptoBulkEntry {H : Type} : Lit × DataW H → Nat
  | (.string bytes, d) => bytes.length + uptoBulk d + 1
  | (_, d) => uptoBulk d + 1
 end
def uptoSmall : (H : Type) → List (DataW H) → Bool := fun _ ds => decide (uptoBulkAll ds ≤ 1048576)
def OpenSpec.upto (s : _root_.Go.ChangeSpec) : _root_.Go.OpenSpec := { _root_.Go.OpenSpec.ofChange s with cond := some uptoSmall }

/-- 'tabularylaw27.JoinsParts', WHERE WHAT IT READS IS OF BULK AT MOST 1048576: true; the input reads as it did. -/
def joinsPartsUptoRow : OpenClaim := { program := "ytgmolmpfihkolaagreat", sum := "ab5c00512c3f12788eb9446d5dba4b1e0a06fb92d551c8c9fa84627492d20a80", func := "tabulary/tabularylaw27.JoinsParts", spec := "joinsParts", inPlace := ["math.Float64bits", "math.Float64frombits"], unfollowed := true, recurses := true, loops := true, apart := false, narrowed := true }
def JoinsPartsUptoSaid : Prop := joinsPartsUptoRow.holds Tryz.pinned (OpenSpec.upto joinsPartsSpec)

/-- 'tabularylaw27.JoinsTell', WHERE WHAT IT READS IS OF BULK AT MOST 1048576: true; the input reads as it did. -/
def joinsTellUptoRow : OpenClaim := { program := "ytgmolmpfihkolaagreat", sum := "ab5c00512c3f12788eb9446d5dba4b1e0a06fb92d551c8c9fa84627492d20a80", func := "tabulary/tabularylaw27.JoinsTell", spec := "joinsTell", inPlace := ["math.Float64bits", "math.Float64frombits"], unfollowed := true, recurses := true, loops := true, apart := false, narrowed := true }
def JoinsTellUptoSaid : Prop := joinsTellUptoRow.holds Tryz.pinned (OpenSpec.upto joinsTellSpec)

/-- 'tabularylaw27.JoinsAlike', WHERE WHAT IT READS IS OF BULK AT MOST 1048576: true; the input reads as it did. -/
def joinsAlikeUptoRow : OpenClaim := { program := "ytgmolmpfihkolaagreat", sum := "ab5c00512c3f12788eb9446d5dba4b1e0a06fb92d551c8c9fa84627492d20a80", func := "tabulary/tabularylaw27.JoinsAlike", spec := "joinsAlike", inPlace := ["math.Float64bits", "math.Float64frombits"], unfollowed := true, recurses := true, loops := true, apart := false, narrowed := true }
def JoinsAlikeUptoSaid : Prop := joinsAlikeUptoRow.holds Tryz.pinned (OpenSpec.upto joinsAlikeSpec)

/-- 'tabularylaw27.JoinsTurn', WHERE WHAT IT READS IS OF BULK AT MOST 1048576: true; the input reads as it did. -/
def joinsTurnUptoRow : OpenClaim := { program := "ytgmolmpfihkolaagreat", sum := "ab5c00512c3f12788eb9446d5dba4b1e0a06fb92d551c8c9fa84627492d20a80", func := "tabulary/tabularylaw27.JoinsTurn", spec := "joinsTurn", inPlace := ["math.Float64bits", "math.Float64frombits"], unfollowed := true, recurses := true, loops := true, apart := false, narrowed := true }
def JoinsTurnUptoSaid : Prop := joinsTurnUptoRow.holds Tryz.pinned (OpenSpec.upto joinsTurnSpec)

end Rows
end Go.Proofs.YtgmolmpfihkolaaGreat
