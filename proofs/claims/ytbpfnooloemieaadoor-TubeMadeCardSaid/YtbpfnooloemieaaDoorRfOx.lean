/- Contracts of the document's answer sluicewayref1, part O: AddDyad. Printed by wip/mk_RfO.py. -/
import Derived.Test.YtbpfnooloemieaaDoorRfNx
import Derived.Test.YtbpfnooloemieaaDoorRfMx
namespace Go.Proofs.YtbpfnooloemieaaDoor
open Go.RowKit Pl
attribute [local go_sem ↓] Go.wp_at_zero Go.wp_at_succ

end Go.Proofs.YtbpfnooloemieaaDoor
