/- Contracts of package ival, part B, of the document's answer sluicewayref5, and of sluicewaylaw5's own small functions, by their trees. Printed by wip/mk_IvB.py. Plain order laws of intervals: hulls, meets, what lies within, inside. -/
import Derived.Test.YteodljieiloebaaDoorIvAx
import Derived.Test.YteodljieiloebaaDoorRfDx
import Derived.Test.YteodljieiloebaaDoorRfLx
import Derived.Test.YteodljieiloebaaDoorL2Cx
namespace Go.Proofs.YteodljieiloebaaDoor
open Go.RowKit Pl
open Sx (sat_call sat_chk sat_prim sat_ite sat_true sat_false sat_trueP sat_falseP sat_ret all_nil all_cons okB okS okI)

theorem mayI_parts {a : Iv} (h : mayI a = true) : mayD a.lo = true ∧ mayD a.hi = true ∧ cmpD a.lo a.hi ≤ 0 := by
  unfold mayI at h
  simp only [Bool.and_eq_true, decide_eq_true_eq] at h
  exact ⟨h.1.1, h.1.2, h.2⟩
end Go.Proofs.YteodljieiloebaaDoor
namespace Go.Proofs.YteodljieiloebaaDoor
open Go.RowKit Pl

section
variable {a b : Dy}
theorem cmpI_le (x y : Int) : (cmpI x y ≤ 0) ↔ x ≤ y := by unfold cmpI; split <;> (try split) <;> omega
theorem cmpI_ge (x y : Int) : (0 ≤ cmpI x y) ↔ y ≤ x := by unfold cmpI; split <;> (try split) <;> omega
/-- A number that may be, of limbs below the base. -/
structure GD (a : Dy) : Prop where
  may : mayD a = true
  lim : Lim BB a.m
theorem GD.le (A : GD a) (B : GD b) : (cmpD a b ≤ 0) ↔ ZD a ≤ ZD b := by rw [cmpD_Z A.may A.lim B.may B.lim]; exact cmpI_le _ _
theorem GD.ge (A : GD a) (B : GD b) : (0 ≤ cmpD a b) ↔ ZD b ≤ ZD a := by rw [cmpD_Z A.may A.lim B.may B.lim]; exact cmpI_ge _ _
theorem GD.same (A : GD a) (B : GD b) : sameD a b = decide (ZD a = ZD b) := sameD_Z A.may A.lim B.may B.lim
end
section
variable {a b : Iv} {d : Dy}
structure GI (a : Iv) : Prop where
  lo : GD a.lo
  hi : GD a.hi
theorem GI.may (A : GI a) : mayI a = true ↔ ZD a.lo ≤ ZD a.hi := by
  unfold mayI
  rw [A.lo.may, A.hi.may]
  simp only [Bool.and_self, Bool.true_and, decide_eq_true_eq]
  exact A.lo.le A.hi
theorem GI.same (A : GI a) (B : GI b) : sameI a b = true ↔ ZD a.lo = ZD b.lo ∧ ZD a.hi = ZD b.hi := by
  unfold sameI
  rw [A.lo.same B.lo, A.hi.same B.hi]
  simp only [Bool.and_eq_true, decide_eq_true_eq]
/-- Two intervals and a number that may be. -/
structure G5 (a b : Iv) (d : Dy) : Prop where
  A : GI a
  B : GI b
  D : GD d
  ma : mayI a = true
  mb : mayI b = true
theorem G5.mk' (ha : mayI a = true) (hb : mayI b = true) (hd : mayD d = true) (l1 : Lim BB a.lo.m) (l2 : Lim BB a.hi.m) (l3 : Lim BB b.lo.m) (l4 : Lim BB b.hi.m) (l5 : Lim BB d.m) : G5 a b d := by
  obtain ⟨x1, x2, _⟩ := mayI_parts ha
  obtain ⟨y1, y2, _⟩ := mayI_parts hb
  exact ⟨⟨⟨x1, l1⟩, ⟨x2, l2⟩⟩, ⟨⟨y1, l3⟩, ⟨y2, l4⟩⟩, ⟨hd, l5⟩, ha, hb⟩
variable (G : G5 a b d)
include G
end
end Go.Proofs.YteodljieiloebaaDoor
