/- The plain laws of boxes: rows, corners, hulls, meets. -/
import Derived.Test.YtpkfjfpknbhekaaBxPx
namespace Go.Proofs.Ytpkfjfpknbhekaa
open Go.RowKit Pl

/-- A box of intervals that may be. -/
def OkB (a : List Iv) : Prop := ∀ (i : Nat) (x : Iv), a[i]? = some x → mayI x = true ∧ GI x ∧ ZD x.lo ≤ ZD x.hi
theorem OkB.may {a : List Iv} (h : OkB a) : mayB a = true := by
  unfold mayB
  rw [List.all_eq_true]
  intro x hx
  obtain ⟨i, hi⟩ := List.mem_iff_getElem?.1 hx
  exact (h i x hi).1
end Go.Proofs.Ytpkfjfpknbhekaa
