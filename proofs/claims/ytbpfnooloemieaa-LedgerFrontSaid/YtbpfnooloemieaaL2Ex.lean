/- sluicewaylaw2: the walk of DyadOnes. Printed by wip/mk_L2E.py. -/
import Derived.Test.YtbpfnooloemieaaL2Cx
import Derived.Lib.LazyBuf
import Derived.Test.YtbpfnooloemieaaRfBx
import Derived.BigRegion
namespace Go.Proofs.Ytbpfnooloemieaa
open Go.RowKit Pl
attribute [local go_sem ↓] Go.wp_at_zero Go.wp_at_succ

end Go.Proofs.Ytbpfnooloemieaa
