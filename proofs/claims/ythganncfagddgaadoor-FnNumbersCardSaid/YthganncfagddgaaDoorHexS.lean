/- Contract of the reference's Hex. -/
import Derived.Test.YthganncfagddgaaDoorHex
namespace Go.Proofs.YthganncfagddgaaDoor
set_option linter.unusedSimpArgs false
set_option linter.unusedVariables false
open Go.RowKit
attribute [local go_sem ↓] Go.wp_at_zero Go.wp_at_succ

end Go.Proofs.YthganncfagddgaaDoor
