/- Contracts of the document's answer sluicewayref1, part M: Norm. Words for a region that draws its order and makes two variables of three cells beside its calls. -/
import Derived.Test.YtbpfnooloemieaaDoorRfLx
import Derived.Test.YtbpfnooloemieaaDoorL2Ex
namespace Go.Proofs.YtbpfnooloemieaaDoor
open Go.RowKit Pl
attribute [local go_sem ↓] Go.wp_at_zero Go.wp_at_succ

end Go.Proofs.YtbpfnooloemieaaDoor
namespace Go.Proofs.YtbpfnooloemieaaDoor
open Go.RowKit Pl

theorem Box.type {w : World} {b : Nat} {vs us : List Value} {t s : TypeId} (h : Box w b vs t) (k : Box w b us s) : t = s := by
  unfold Box at h k
  rw [h] at k
  injection k with k
  injection k
section
variable {w w' : World} {B g g' : Nat} {t : TypeId}
end

/-! The same, the alloc behind a letter: the walk's own laws on allocs and stores do not see it then. -/
section
variable {N : World → World} {w w' : World} {B g : Nat} {t : TypeId} (hN : ∀ w : World, w.alloc (.cells #[.bool false, .slice none 0 0, .int .i64 0] t) = N w)
include hN
end

end Go.Proofs.YtbpfnooloemieaaDoor
