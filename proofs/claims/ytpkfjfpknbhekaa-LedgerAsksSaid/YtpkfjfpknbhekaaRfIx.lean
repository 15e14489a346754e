/- Contracts of the document's answer sluicewayref1, part I: Add, Sub. Printed by wip/mk_RfI.py. -/
import Derived.Lib.LazyBuf
import Derived.Test.YtpkfjfpknbhekaaRfDx
import Derived.BigRegion
namespace Go.Proofs.Ytpkfjfpknbhekaa
open Go.RowKit Pl

/-- Digits that lie in memory of the call's own. -/
def New16 (w : World) (B : Nat) (v : Value) (X : Nat) : Prop := ∃ A n c, v = .slice A n c ∧ RdN .u32 w A n c (limbs DD X) ∧ (0 < n → ∀ b, A = some b → B ≤ b.block)
theorem New16.rd {w : World} {B X : Nat} {v : Value} (h : New16 w B v X) : R16 w v X := by
  obtain ⟨A, n, c, hv, hr, _⟩ := h
  exact ⟨A, n, c, hv, hr⟩

end Go.Proofs.Ytpkfjfpknbhekaa
