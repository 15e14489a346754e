/- Contracts of package ival, by their trees. Printed by wip/mk_IvA.py. -/
import Derived.Test.YteodljieiloebaaDoorSxGx
import Derived.Test.YteodljieiloebaaDoorL2Ax
namespace Go.Proofs.YteodljieiloebaaDoor
open Go.RowKit Pl
open Sx (sat_call sat_chk sat_prim sat_ite sat_true sat_false sat_trueP sat_falseP sat_ret all_nil all_cons okB okS okI)

/-- An interval as data. -/
structure Iv where
  lo : Dy
  hi : Dy
def Iv.zero : Iv := ⟨Dy.zero, Dy.zero⟩
/-- An interval and its mark, as a function returns them. -/
def IvTup (w : World) (e : Ending) (r : Iv × Int) : Prop := ∃ (l h : Dy) (x : Int) (A : Option Addr) (n c : Nat) (B : Option Addr) (m d : Nat), Hid ((⟨l, h⟩, x) = r) ∧
  e = .returned (.tuple #[.agg #[.bool l.neg, .slice A n c, .int .i64 l.e, .bool h.neg, .slice B m d, .int .i64 h.e], .int .i64 x]) ∧ RdD w (.agg #[.bool l.neg, .slice A n c, .int .i64 l.e]) l ∧ RdD w (.agg #[.bool h.neg, .slice B m d, .int .i64 h.e]) h
theorem IvTup.zero {w : World} {k : Int} {r : Iv × Int} (h : (Iv.zero, k) = r) : IvTup w (.returned (.tuple #[.agg #[.bool false, .slice none 0 0, .int .i64 0, .bool false, .slice none 0 0, .int .i64 0], .int .i64 k])) r :=
  ⟨Dy.zero, Dy.zero, k, none, 0, 0, none, 0, 0, hide h, rfl, RdD.zero _, RdD.zero _⟩
def mayI (a : Iv) : Bool := mayD a.lo && mayD a.hi && decide (cmpD a.lo a.hi ≤ 0)
def sameI (a b : Iv) : Bool := sameD a.lo b.lo && sameD a.hi b.hi
end Go.Proofs.YteodljieiloebaaDoor
