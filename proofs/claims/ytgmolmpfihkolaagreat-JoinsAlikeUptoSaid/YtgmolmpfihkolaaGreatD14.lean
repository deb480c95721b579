/- Part of the proof. -/
import Derived.Test.YtgmolmpfihkolaaGreatD11
import Derived.Test.YtgmolmpfihkolaaGreatD13
namespace Go.Proofs.YtgmolmpfihkolaaGreat
open Go.RowKit
open Go.Deep
set_option linter.unusedVariables false
set_option maxRecDepth 100000
attribute [local go_sem] run_store_float
end Go.Proofs.YtgmolmpfihkolaaGreat
