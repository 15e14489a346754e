/- Contracts of the document's answer sluicewayref1, part J: Mul. -/
import Derived.Test.YtbpfnooloemieaaGreatDoorRfHx
import Derived.Test.YtbpfnooloemieaaGreatDoorNatDx
namespace Go.Proofs.YtbpfnooloemieaaGreatDoor
open Go.RowKit Pl

end Go.Proofs.YtbpfnooloemieaaGreatDoor
