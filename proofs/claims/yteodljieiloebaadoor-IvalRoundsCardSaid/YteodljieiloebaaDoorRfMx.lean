/- Contracts of the document's answer sluicewayref1, part M: Norm. -/
import Derived.Test.YteodljieiloebaaDoorRfLx
import Derived.Test.YteodljieiloebaaDoorL2Ex
namespace Go.Proofs.YteodljieiloebaaDoor
open Go.RowKit Pl
attribute [local go_sem ↓] Go.wp_at_zero Go.wp_at_succ

end Go.Proofs.YteodljieiloebaaDoor
