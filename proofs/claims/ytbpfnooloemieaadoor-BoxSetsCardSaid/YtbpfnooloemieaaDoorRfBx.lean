/- Contracts of the document's answer sluicewayref1, part B: May, MayDyad, Sign. -/
import Derived.Test.YtbpfnooloemieaaDoorKitBx
import Derived.Test.YtbpfnooloemieaaDoorDyFx
namespace Go.Proofs.YtbpfnooloemieaaDoor
open Go.RowKit Pl
attribute [local go_sem ↓] Go.wp_at_zero Go.wp_at_succ

end Go.Proofs.YtbpfnooloemieaaDoor
