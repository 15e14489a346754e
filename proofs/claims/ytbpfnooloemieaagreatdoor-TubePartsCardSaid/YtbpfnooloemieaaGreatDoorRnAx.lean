/- Contracts of package round: what goes up, the face. Printed by wip/mk_RnA.py. -/
import Derived.Test.YtbpfnooloemieaaGreatDoorDyBx
namespace Go.Proofs.YtbpfnooloemieaaGreatDoor
open Go.RowKit Pl
end Go.Proofs.YtbpfnooloemieaaGreatDoor
