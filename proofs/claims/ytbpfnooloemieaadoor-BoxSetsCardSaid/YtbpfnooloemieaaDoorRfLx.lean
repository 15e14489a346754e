/- Contracts of the document's answer sluicewayref1, part L: SameDyad, NegDyad, Small, great. -/
import Derived.Test.YtbpfnooloemieaaDoorL2Ax
import Derived.Test.YtbpfnooloemieaaDoorRfHx
namespace Go.Proofs.YtbpfnooloemieaaDoor
open Go.RowKit Pl
attribute [local go_sem ↓] Go.wp_at_zero Go.wp_at_succ

end Go.Proofs.YtbpfnooloemieaaDoor
