/- sluicewayref1.Shift and the walk of DyadNorm, by their trees. Printed by wip/mk_L2G.py. -/
import Derived.Test.YteodljieiloebaaDoorSxGx
import Derived.Test.YteodljieiloebaaDoorRfMx
import Derived.Test.YteodljieiloebaaDoorRfDx
import Derived.Test.YteodljieiloebaaDoorL2Ax
namespace Go.Proofs.YteodljieiloebaaDoor
open Go.RowKit Pl
open Sx (sat_call sat_chk sat_prim sat_ite sat_true sat_false sat_trueP sat_falseP sat_ret sat_row all_nil all_cons okB okS okI)

theorem RdD.length {w : World} {d : Dy} {A : Option Addr} {n c : Nat} (h : RdD w (.agg #[.bool d.neg, .slice A n c, .int .i64 d.e]) d) : d.m.length = n ∧ RdN .u64 w A n c d.m := by
  obtain ⟨A', n', c', e, hr, _⟩ := h
  injection e with e
  have := congrArg Array.toList e
  simp only [List.cons.injEq, Value.slice.injEq, and_true, true_and] at this
  obtain ⟨rfl, rfl, rfl⟩ := this
  exact ⟨hr.len, hr⟩

end Go.Proofs.YteodljieiloebaaDoor
