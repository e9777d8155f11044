/- Contracts of Join (the reference). -/
import Derived.Test.YtkcchceoljlnaaaDoorJoinN
import Derived.Test.YtkcchceoljlnaaaDoorRegionG
import Derived.Deep.AppendLies
namespace Go.Proofs.YtkcchceoljlnaaaDoor
set_option linter.unusedSimpArgs false
set_option linter.unusedVariables false
open Go.RowKit
attribute [local go_sem ↓] Go.wp_at_zero Go.wp_at_succ

end Go.Proofs.YtkcchceoljlnaaaDoor
