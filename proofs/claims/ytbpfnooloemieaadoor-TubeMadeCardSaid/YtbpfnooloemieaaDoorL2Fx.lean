/- sluicewayref1.SubDyad, sluicewaylaw2.same, and the walk of DyadAsks, by their trees. Printed by wip/mk_L2F.py. -/
import Derived.Test.YtbpfnooloemieaaDoorSxGx
import Derived.Test.YtbpfnooloemieaaDoorRfOx
import Derived.Test.YtbpfnooloemieaaDoorRfDx
import Derived.Test.YtbpfnooloemieaaDoorL2Ax
namespace Go.Proofs.YtbpfnooloemieaaDoor
open Go.RowKit Pl
open Sx (sat_call sat_chk sat_prim sat_ite sat_true sat_false sat_trueP sat_falseP sat_ret all_nil all_cons okB okS okI)

end Go.Proofs.YtbpfnooloemieaaDoor
