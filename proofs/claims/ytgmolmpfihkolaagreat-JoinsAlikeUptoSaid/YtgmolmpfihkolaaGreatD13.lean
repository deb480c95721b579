/- Part of the proof. -/
import Derived.Test.YtgmolmpfihkolaaGreatD12
namespace Go.Proofs.YtgmolmpfihkolaaGreat
open Go.RowKit
open Go.Deep
set_option linter.unusedVariables false
set_option maxRecDepth 100000
set_option linter.unusedSimpArgs false
attribute [local go_sem] run_store_float
attribute [local go_sem] undef_is
end Go.Proofs.YtgmolmpfihkolaaGreat
