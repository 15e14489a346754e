/- sluicewaylaw2: the walk of DyadOnes. Printed by wip/mk_L2E.py. -/
import Derived.Test.YteodljieiloebaaDoorL2Cx
import Derived.Test.YteodljieiloebaaDoorRfHx
namespace Go.Proofs.YteodljieiloebaaDoor
open Go.RowKit Pl
attribute [local go_sem ↓] Go.wp_at_zero Go.wp_at_succ

end Go.Proofs.YteodljieiloebaaDoor
