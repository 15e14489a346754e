/- Contracts of package round: what goes up, the face. Printed by wip/mk_RnA.py. -/
import Derived.Test.YtbpfnooloemieaaDoorDyBx
namespace Go.Proofs.YtbpfnooloemieaaDoor
open Go.RowKit Pl
end Go.Proofs.YtbpfnooloemieaaDoor
