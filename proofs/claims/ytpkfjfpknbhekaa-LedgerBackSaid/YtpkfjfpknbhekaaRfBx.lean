/- Contracts of the document's answer sluicewayref1, part B: May, MayDyad, Sign. Contracts of the document's answer sluicewayref1, part D: Of, size, CmpDyad. Contracts of the document's answer sluicewayref1, part E: CmpDyad, Less. -/
import Derived.Test.YtpkfjfpknbhekaaDyFx
namespace Go.Proofs.Ytpkfjfpknbhekaa
open Go.RowKit Pl
attribute [local go_sem ↓] Go.wp_at_zero Go.wp_at_succ

end Go.Proofs.Ytpkfjfpknbhekaa
namespace Go.Proofs.Ytpkfjfpknbhekaa
open Go.RowKit Pl
attribute [local go_sem ↓] Go.wp_at_zero Go.wp_at_succ

/-- A value that reads as a number of the document's answer: sign, natural, exponent. -/
def RdR (w : World) (v : Value) (neg : Bool) (X : Nat) (e : Int) : Prop := ∃ A n c, v = .agg #[.bool neg, .slice A n c, .int .i64 e] ∧ RdN .u32 w A n c (limbs DD X)
theorem RdR.below {w w' : World} {v : Value} {neg : Bool} {X : Nat} {e : Int} (h : RdR w v neg X e) (hb : Below w.heap.size w w') : RdR w' v neg X e := by
  obtain ⟨A, n, c, hv, hr⟩ := h; exact ⟨A, n, c, hv, hr.below hb⟩
end Go.Proofs.Ytpkfjfpknbhekaa
namespace Go.Proofs.Ytpkfjfpknbhekaa
open Go.RowKit Pl
attribute [local go_sem ↓] Go.wp_at_zero Go.wp_at_succ

end Go.Proofs.Ytpkfjfpknbhekaa
