/- sluicewayref1: Cut, Parted, wide, Round, Quot, Sqrt, by their trees. Printed by wip/mk_RfP.py. Plain law: quotients and roots are what the document says. -/
import Derived.Test.YteodljieiloebaaDoorRfKx
import Derived.Test.YteodljieiloebaaDoorRfMx
import Derived.Test.YteodljieiloebaaDoorRfLx
import Derived.Test.YteodljieiloebaaDoorSxGx
import Derived.Test.YteodljieiloebaaDoorRnEx
namespace Go.Proofs.YteodljieiloebaaDoor
open Go.RowKit Pl
open Sx (sat_call sat_chk sat_prim sat_ite sat_true sat_false sat_trueP sat_falseP sat_ret sat_row sat_callP all_nil all_cons okB okS okI)

section
variable {u v : Value} {X Y : Nat} {w : World} (h : R16 w u X) (k : R16 w v Y) (hX : blen X ≤ 1500000) (hY : blen Y ≤ 1500000)
end
theorem R16.len {w : World} {A : Option Addr} {n c X : Nat} (h : R16 w (.slice A n c) X) : (limbs DD X).length = n := by
  obtain ⟨A', n', c', e, hr⟩ := h
  injection e with e1 e2 e3
  subst e1 e2 e3
  exact hr.len
theorem DyTup.zero {w : World} {k : Int} {r : Dy × Int} (h : (Dy.zero, k) = r) : DyTup w (.returned (.tuple #[.agg #[.bool false, .slice none 0 0, .int .i64 0], .int .i64 k])) r := ⟨Dy.zero, k, none, 0, 0, hide h, rfl, RdD.zero _⟩

end Go.Proofs.YteodljieiloebaaDoor
namespace Go.Proofs.YteodljieiloebaaDoor
open Go.RowKit Pl

/-- What is cut of a quotient: the quotient by more. -/
theorem cutS_rat {neg : Bool} {A B : Nat} {e : Int} {P : Nat} {up : Bool} (hB : 0 < B) :
    cutS neg (A / B) e (decide (A % B ≠ 0)) P up = fitS neg (A / (B * 2 ^ (blen (A / B) - P)) + (bif decide (A % (B * 2 ^ (blen (A / B) - P)) ≠ 0) && (!(up == neg)) then 1 else 0)) (e + ((blen (A / B) - P : Nat) : Int)) := by
  unfold cutS
  generalize blen (A / B) - P = n
  rw [Nat.div_div_eq_div_mul]
  have h : (decide (A % B ≠ 0) || decide (A / B % 2 ^ n ≠ 0)) = decide (A % (B * 2 ^ n) ≠ 0) := by
    rw [Nat.mod_mul, ← Bool.decide_or, decide_eq_decide]
    have : B * (A / B % 2 ^ n) = 0 ↔ A / B % 2 ^ n = 0 := by rw [Nat.mul_eq_zero]; omega
    omega
  rw [h]
/-! Roots. -/
end Go.Proofs.YteodljieiloebaaDoor
