/- A plain seat: no tied table. -/
import Derived.Test.YtbpfnooloemieaaRows
import Derived.Test.YtbpfnooloemieaaBitsx
import Derived.ProofKit
import Derived.OpenShut
import Derived.LaidMore
import Derived.Lay
import Derived.SevenTiedAt
import Derived.Stop.Joined
namespace Go.Proofs.Ytbpfnooloemieaa
open Go.ChangeShapes Go.WideShapes Go.ChangeAt Go.RowKit

theorem own : ownKnob Try.prog.godebug = none := by kernel_rfl
end Go.Proofs.Ytbpfnooloemieaa
