/- round.may, of any number of Dyads, by its tree. Printed by wip/mk_RnD.py. -/
import Derived.Test.YtpkfjfpknbhekaaRnBx
import Derived.Test.YtpkfjfpknbhekaaSxGx
namespace Go.Proofs.Ytpkfjfpknbhekaa
open Go.RowKit Pl
open Sx (sat_call sat_chk sat_prim sat_ite sat_true sat_false sat_trueP sat_falseP sat_ret sat_row sat_callP sat_loop sat_back sat_idx sat_el sat_elf sat_load sat_rowN rows_one rows_two all_nil all_cons okB okS okI)

theorem lt_of {i n : Nat} (h : decide ((i : Int) < (n : Int)) = true) : i < n := by have := of_decide_eq_true h; omega

end Go.Proofs.Ytpkfjfpknbhekaa
