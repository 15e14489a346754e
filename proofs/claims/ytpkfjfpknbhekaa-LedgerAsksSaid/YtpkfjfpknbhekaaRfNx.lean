/- Contracts of the document's answer sluicewayref1, part N: MulDyad, AddDyad, SubDyad. Printed by wip/mk_RfN.py. -/
import Derived.Test.YtpkfjfpknbhekaaRfMx
import Derived.Lib.LazyBuf
namespace Go.Proofs.Ytpkfjfpknbhekaa
open Go.RowKit Pl
attribute [local go_sem ↓] Go.wp_at_zero Go.wp_at_succ

theorem DyTup.val {w' : World} {e : Ending} {r s : Dy × Int} (h : DyTup w' e r) (hr : r = s) : DyTup w' e s := by rw [← hr]; exact h
end Go.Proofs.Ytpkfjfpknbhekaa
