/- Contracts of the document's answer sluicewayref1, part J: Mul. -/
import Derived.Test.YtbpfnooloemieaaDoorRfHx
import Derived.Test.YtbpfnooloemieaaDoorNatDx
namespace Go.Proofs.YtbpfnooloemieaaDoor
open Go.RowKit Pl

end Go.Proofs.YtbpfnooloemieaaDoor
