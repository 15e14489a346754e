/- Plain order laws of intervals: hulls, meets, what lies within, inside. -/
import Derived.Test.YtpkfjfpknbhekaaIvAx
import Derived.Test.YtpkfjfpknbhekaaRfBx
import Derived.Test.YtpkfjfpknbhekaaRfLx
import Derived.Test.YtpkfjfpknbhekaaL2Cx
namespace Go.Proofs.Ytpkfjfpknbhekaa
open Go.RowKit Pl

section
variable {a b : Dy}
theorem cmpI_le (x y : Int) : (cmpI x y ≤ 0) ↔ x ≤ y := by unfold cmpI; split <;> (try split) <;> omega
/-- A number that may be, of limbs below the base. -/
structure GD (a : Dy) : Prop where
  may : mayD a = true
  lim : Lim BB a.m
theorem GD.le (A : GD a) (B : GD b) : (cmpD a b ≤ 0) ↔ ZD a ≤ ZD b := by rw [cmpD_Z A.may A.lim B.may B.lim]; exact cmpI_le _ _
end
section
variable {a b : Iv} {d : Dy}
structure GI (a : Iv) : Prop where
  lo : GD a.lo
  hi : GD a.hi
theorem GI.may (A : GI a) : mayI a = true ↔ ZD a.lo ≤ ZD a.hi := by
  unfold mayI
  rw [A.lo.may, A.hi.may]
  simp only [Bool.and_self, Bool.true_and, decide_eq_true_eq]
  exact A.lo.le A.hi
theorem GI.has (A : GI a) (D : GD d) : hasI a d = true ↔ ZD a.lo ≤ ZD a.hi ∧ ZD a.lo ≤ ZD d ∧ ZD d ≤ ZD a.hi := by
  unfold hasI
  simp only [Bool.and_eq_true, decide_eq_true_eq, A.may, D.may, A.lo.le D, D.le A.hi, and_true, and_assoc]
/-- Two intervals and a number that may be. -/
structure G5 (a b : Iv) (d : Dy) : Prop where
  A : GI a
  B : GI b
  D : GD d
  ma : mayI a = true
  mb : mayI b = true
variable (G : G5 a b d)
include G
end
end Go.Proofs.Ytpkfjfpknbhekaa
