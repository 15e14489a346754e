/- round.cut, by its tree. Printed by wip/mk_RnB.py. -/
import Derived.Test.YtpkfjfpknbhekaaSxGx
import Derived.Test.YtpkfjfpknbhekaaDyMx
namespace Go.Proofs.Ytpkfjfpknbhekaa
open Go.RowKit Pl
open Sx (sat_call sat_chk sat_prim sat_ite sat_true sat_false sat_trueP sat_falseP sat_ret sat_row sat_callP all_nil all_cons okB okS okI)

theorem slc {w : World} {e : Ending} {Y : Nat} (h : ∃ z, e = .returned z ∧ R64 w z Y) : ∃ A n c, e = .returned (.slice A n c) ∧ R64 w (.slice A n c) Y := by
  obtain ⟨z, he, hz⟩ := h
  have h2 := hz
  obtain ⟨A, n, c, rfl, _⟩ := hz
  exact ⟨A, n, c, he, h2⟩
end Go.Proofs.Ytpkfjfpknbhekaa
