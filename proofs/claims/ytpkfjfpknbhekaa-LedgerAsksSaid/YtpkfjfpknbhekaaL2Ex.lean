/- sluicewaylaw2: the walk of DyadOnes. Printed by wip/mk_L2E.py. -/
import Derived.Test.YtpkfjfpknbhekaaL2Cx
import Derived.Lib.LazyBuf
import Derived.Test.YtpkfjfpknbhekaaRfDx
import Derived.BigRegion
namespace Go.Proofs.Ytpkfjfpknbhekaa
open Go.RowKit Pl
attribute [local go_sem ↓] Go.wp_at_zero Go.wp_at_succ

end Go.Proofs.Ytpkfjfpknbhekaa
