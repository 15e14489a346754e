/- Counts as the laws take them: 1 + int(uint(p) % k). -/
import Derived.Test.YtbpfnooloemieaaGreatDoorSxGx
namespace Go.Proofs.YtbpfnooloemieaaGreatDoor
open Go.RowKit
end Go.Proofs.YtbpfnooloemieaaGreatDoor
