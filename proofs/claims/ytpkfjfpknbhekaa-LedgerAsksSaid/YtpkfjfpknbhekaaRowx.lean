/- A plain seat: no tied table. -/
import Derived.Test.YtpkfjfpknbhekaaRows
import Derived.Test.YtpkfjfpknbhekaaBitsx
import Derived.ProofKit
import Derived.OpenShut
import Derived.LaidMore
import Derived.Lay
import Derived.SevenTiedAt
import Derived.Stop.Joined
namespace Go.Proofs.Ytpkfjfpknbhekaa
open Go.ChangeShapes Go.WideShapes Go.ChangeAt Go.RowKit

theorem own : ownKnob Try.prog.godebug = none := by kernel_rfl
end Go.Proofs.Ytpkfjfpknbhekaa
