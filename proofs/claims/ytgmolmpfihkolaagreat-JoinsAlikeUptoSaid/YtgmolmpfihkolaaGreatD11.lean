/- Part of the proof. -/
import Derived.Test.YtgmolmpfihkolaaGreatD10
namespace Go.Proofs.YtgmolmpfihkolaaGreat
open Go.RowKit
set_option linter.unusedVariables false
set_option maxRecDepth 100000
attribute [local go_sem] run_store_float
end Go.Proofs.YtgmolmpfihkolaaGreat
