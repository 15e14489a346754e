/- Contracts of the document's answer sluicewayref1, part M: Norm. Words for a region that draws its order and makes two variables of three cells beside its calls. -/
import Derived.Test.YtpkfjfpknbhekaaRfLx
import Derived.Test.YtpkfjfpknbhekaaL2Ex
namespace Go.Proofs.Ytpkfjfpknbhekaa
open Go.RowKit Pl
attribute [local go_sem ↓] Go.wp_at_zero Go.wp_at_succ

end Go.Proofs.Ytpkfjfpknbhekaa
namespace Go.Proofs.Ytpkfjfpknbhekaa
open Go.RowKit Pl

theorem Box.type {w : World} {b : Nat} {vs us : List Value} {t s : TypeId} (h : Box w b vs t) (k : Box w b us s) : t = s := by
  unfold Box at h k
  rw [h] at k
  injection k with k
  injection k
/-- Two new variables. -/
structure TwoBox (W : World) (B g g' : Nat) (t : TypeId) : Prop where
  a : Box W g [.bool false, .slice none 0 0, .int .i64 0] t
  b : Box W g' [.bool false, .slice none 0 0, .int .i64 0] t
  ne : g ≠ g'
  la : B ≤ g
  lb : B ≤ g'
section
variable {w w' : World} {B g g' : Nat} {t : TypeId}
theorem TwoBox.keep (h : TwoBox w B g g' t) (hb : Below w.heap.size w w') : TwoBox w' B g g' t := ⟨h.a.keep hb, h.b.keep hb, h.ne, h.la, h.lb⟩
end

/-! The same, the alloc behind a letter: the walk's own laws on allocs and stores do not see it then. -/
section
variable {N : World → World} {w w' : World} {B g : Nat} {t : TypeId} (hN : ∀ w : World, w.alloc (.cells #[.bool false, .slice none 0 0, .int .i64 0] t) = N w)
include hN
end

end Go.Proofs.Ytpkfjfpknbhekaa
