/- Contracts of the document's answer sluicewayref1, part J: Mul. -/
import Derived.Test.YteodljieiloebaaDoorRfHx
import Derived.Test.YteodljieiloebaaDoorNatDx
namespace Go.Proofs.YteodljieiloebaaDoor
open Go.RowKit Pl

end Go.Proofs.YteodljieiloebaaDoor
