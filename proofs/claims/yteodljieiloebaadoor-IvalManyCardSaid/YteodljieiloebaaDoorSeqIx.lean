/- Rows of intervals, tubes, as data. -/
import Derived.Test.YteodljieiloebaaDoorSxGx
import Derived.Test.YteodljieiloebaaDoorIvAx
namespace Go.Proofs.YteodljieiloebaaDoor
open Go.RowKit Pl
namespace Sx
/-- Intervals as elements. -/
def kI : Kind Iv where
  sz := 6
  El _ w cs a := ∃ A n c B m d, cs = [.bool a.lo.neg, .slice A n c, .int .i64 a.lo.e, .bool a.hi.neg, .slice B m d, .int .i64 a.hi.e] ∧ RdD w (.agg #[.bool a.lo.neg, .slice A n c, .int .i64 a.lo.e]) a.lo ∧ RdD w (.agg #[.bool a.hi.neg, .slice B m d, .int .i64 a.hi.e]) a.hi
  len := by rintro _ _ _ _ ⟨A, n, c, B, m, d, rfl, _⟩; rfl
  mv := by
    rintro _ _ _ _ _ _ m ⟨A, n, c, B, k, d, rfl, ⟨A', n', c', h1, h2, h3⟩, ⟨B', k', d', i1, i2, i3⟩⟩
    exact ⟨A, n, c, B, k, d, rfl, ⟨A', n', c', h1, m.rd (by decide) h2, h3⟩, ⟨B', k', d', i1, m.rd (by decide) i2, i3⟩⟩
  okc := by
    rintro _ _ _ _ ⟨A, n, c, B, m, d, rfl, _⟩ u hu
    simp only [List.mem_cons, List.not_mem_nil, or_false] at hu
    rcases hu with rfl | rfl | rfl | rfl | rfl | rfl
    · exact okB _
    · exact okS _ _ _
    · exact okI _
    · exact okB _
    · exact okS _ _ _
    · exact okI _
end Sx
namespace Sx
end Sx
end Go.Proofs.YteodljieiloebaaDoor
