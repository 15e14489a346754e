/- sluicewaylaw5.told and the walk of IvalAsks, by their trees. Printed by wip/mk_IvC.py. -/
import Derived.Test.YtpkfjfpknbhekaaIvBx
import Derived.Test.YtpkfjfpknbhekaaSxGx
namespace Go.Proofs.Ytpkfjfpknbhekaa
open Go.RowKit Pl
open Sx (sat_call sat_chk sat_prim sat_ite sat_true sat_false sat_trueP sat_falseP sat_ret sat_row all_nil all_cons okB okS okI)

def D1 : Dy := ⟨false, [1], 0⟩
theorem lim_D1 : Lim BB D1.m := Lim.cons BB_gt1 Lim.nil
end Go.Proofs.Ytpkfjfpknbhekaa
