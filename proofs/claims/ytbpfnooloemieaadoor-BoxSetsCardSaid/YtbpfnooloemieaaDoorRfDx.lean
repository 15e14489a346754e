/- Contracts of the document's answer sluicewayref1, part D: Of, size, CmpDyad. Contracts of the document's answer sluicewayref1, part E: CmpDyad, Less. -/
import Derived.Test.YtbpfnooloemieaaDoorRfBx
import Derived.Test.YtbpfnooloemieaaDoorKitBx
namespace Go.Proofs.YtbpfnooloemieaaDoor
open Go.RowKit Pl
attribute [local go_sem ↓] Go.wp_at_zero Go.wp_at_succ

end Go.Proofs.YtbpfnooloemieaaDoor
namespace Go.Proofs.YtbpfnooloemieaaDoor
open Go.RowKit Pl
attribute [local go_sem ↓] Go.wp_at_zero Go.wp_at_succ

end Go.Proofs.YtbpfnooloemieaaDoor
