/- Contracts of the document's answer sluicewayref1, part L: SameDyad, NegDyad, Small, great. -/
import Derived.Test.YtpkfjfpknbhekaaDyMx
import Derived.Test.YtpkfjfpknbhekaaRfIx
namespace Go.Proofs.Ytpkfjfpknbhekaa
open Go.RowKit Pl
attribute [local go_sem ↓] Go.wp_at_zero Go.wp_at_succ

end Go.Proofs.Ytpkfjfpknbhekaa
