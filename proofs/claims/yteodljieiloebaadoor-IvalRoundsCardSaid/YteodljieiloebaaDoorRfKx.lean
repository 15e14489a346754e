/- Contracts of the document's answer sluicewayref1, part K: Div, Root. Printed by wip/mk_RfK.py. -/
import Derived.Test.YteodljieiloebaaDoorRfJx
import Derived.Test.YteodljieiloebaaDoorSqAx
namespace Go.Proofs.YteodljieiloebaaDoor
open Go.RowKit Pl

section
variable (u : Value) (X : Nat) (w : World) (h : R16 w u X) (hX : blen X ≤ 1500000)
end
end Go.Proofs.YteodljieiloebaaDoor
