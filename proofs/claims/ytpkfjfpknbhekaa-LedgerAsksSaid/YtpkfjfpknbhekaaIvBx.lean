/- Contracts of package ival, part B, of the document's answer sluicewayref5, and of sluicewaylaw5's own small functions, by their trees. Printed by wip/mk_IvB.py. Plain order laws of intervals: hulls, meets, what lies within, inside. -/
import Derived.Test.YtpkfjfpknbhekaaIvAx
import Derived.Test.YtpkfjfpknbhekaaRfDx
import Derived.Test.YtpkfjfpknbhekaaRfLx
import Derived.Test.YtpkfjfpknbhekaaL2Cx
namespace Go.Proofs.Ytpkfjfpknbhekaa
open Go.RowKit Pl
open Sx (sat_call sat_chk sat_prim sat_ite sat_true sat_false sat_trueP sat_falseP sat_ret all_nil all_cons okB okS okI)

theorem lt_ge (a b : Dy) : decide (cmpD a b < 0) = !(decide (0 ≤ cmpD a b)) := by
  rw [Bool.eq_iff_iff]; simp
def tr_rimay : Sx.Tree := .chk [.lf 0, .lf 1, .lf 2, .lf 3, .lf 4, .lf 5] (.call 19 [.ag [.lf 0, .lf 1, .lf 2]] .one (.ite (.lf 6) (.call 19 [.ag [.lf 3, .lf 4, .lf 5]] .one (.ite (.lf 7) (.call 87 [.ag [.lf 0, .lf 1, .lf 2], .ag [.lf 3, .lf 4, .lf 5]] .one (.prim (.bin .leq) [.lf 8, .num .i64 0] (.ret (.one (.lf 9))))) (.ret (.one (.bit false))))) (.ret (.one (.bit false)))))
theorem tr_rimay_eq : Sx.treeOf Try.prog 74 = some tr_rimay := by kernel_rfl

theorem rmayI_any (v_a : Value) (a : Iv) (w : World) (h_a : RdI w v_a a) :
    Calls Try.prog 74 #[v_a] w fun e w' => e = .returned (.bool (mayD a.lo && mayD a.hi && decide (cmpD a.lo a.hi ≤ 0))) ∧ Below w.heap.size w w' := by
  obtain ⟨A_a, n_a, c_a, B_a, m_a, k_a, rfl, r_al, r_ah⟩ := h_a
  refine (Sx.run (ls := [.bool a.lo.neg, .slice A_a n_a c_a, .int .i64 a.lo.e, .bool a.hi.neg, .slice B_a m_a k_a, .int .i64 a.hi.e]) (shs := [(true, 6)]) (R := fun v _ => v = .bool (mayD a.lo && mayD a.hi && decide (cmpD a.lo a.hi ≤ 0))) (by kernel_rfl) tr_rimay_eq rfl (by decide) ?_).mono (fun e w' ⟨v, he, hv, hb⟩ => ⟨by rw [he, hv], hb⟩)
  unfold tr_rimay
  refine sat_chk (all_cons (okB _) (all_cons (okS _ _ _) (all_cons (okI _) (all_cons (okB _) (all_cons (okS _ _ _) (all_cons (okI _) (all_nil))))))) ?_
  refine sat_call #[.agg #[.bool a.lo.neg, .slice A_a n_a c_a, .int .i64 a.lo.e]] (by kernel_rfl) fun w1 h1 => ?_
  refine (rmayD_any _ (a.lo) _ (h1.rdD r_al)).mono ?_
  rintro e v1 ⟨rfl, hb1⟩
  refine ⟨hb1, [.bool (mayD a.lo)], _, rfl, by kernel_rfl, by kernel_rfl, fun g1 => ?_⟩
  replace r_al := g1.rdD r_al; replace r_ah := g1.rdD r_ah
  clear h1 hb1
  cases hE2 : (mayD a.lo)
  · refine sat_false (by kernel_rfl) ?_
    exact sat_ret (.bool false) (by kernel_rfl) fun w9 h9 => rfl
  · refine sat_true (by kernel_rfl) ?_
    refine sat_call #[.agg #[.bool a.hi.neg, .slice B_a m_a k_a, .int .i64 a.hi.e]] (by kernel_rfl) fun w3 h3 => ?_
    refine (rmayD_any _ (a.hi) _ (h3.rdD r_ah)).mono ?_
    rintro e v3 ⟨rfl, hb3⟩
    refine ⟨hb3, [.bool (mayD a.hi)], _, rfl, by kernel_rfl, by kernel_rfl, fun g3 => ?_⟩
    replace r_al := g3.rdD r_al; replace r_ah := g3.rdD r_ah
    clear h3 hb3
    cases hE4 : (mayD a.hi)
    · refine sat_false (by kernel_rfl) ?_
      exact sat_ret (.bool false) (by kernel_rfl) fun w9 h9 => rfl
    · refine sat_true (by kernel_rfl) ?_
      refine sat_call #[.agg #[.bool a.lo.neg, .slice A_a n_a c_a, .int .i64 a.lo.e], .agg #[.bool a.hi.neg, .slice B_a m_a k_a, .int .i64 a.hi.e]] (by kernel_rfl) fun w5 h5 => ?_
      refine (rcmpD_any _ _ (a.lo) (a.hi) _ (h5.rdD r_al) (h5.rdD r_ah)).mono ?_
      rintro e v5 ⟨rfl, hb5⟩
      refine ⟨hb5, [.int .i64 (cmpD a.lo a.hi)], _, rfl, by kernel_rfl, by kernel_rfl, fun g5 => ?_⟩
      replace r_al := g5.rdD r_al; replace r_ah := g5.rdD r_ah
      clear h5 hb5
      refine sat_prim (v := .bool (decide (((cmpD a.lo a.hi) : Int) ≤ 0))) (by kernel_rfl) ?_
      exact sat_ret (.bool (decide (((cmpD a.lo a.hi) : Int) ≤ 0))) (by kernel_rfl) fun w9 h9 => rfl

def tr_risame : Sx.Tree := .chk [.lf 0, .lf 1, .lf 2, .lf 3, .lf 4, .lf 5] (.chk [.lf 6, .lf 7, .lf 8, .lf 9, .lf 10, .lf 11] (.call 60 [.ag [.lf 0, .lf 1, .lf 2], .ag [.lf 6, .lf 7, .lf 8]] .one (.ite (.lf 12) (.call 60 [.ag [.lf 3, .lf 4, .lf 5], .ag [.lf 9, .lf 10, .lf 11]] .one (.ret (.one (.lf 13)))) (.ret (.one (.bit false))))))
theorem tr_risame_eq : Sx.treeOf Try.prog 84 = some tr_risame := by kernel_rfl

theorem rsameI_any (v_a : Value) (v_b : Value) (a : Iv) (b : Iv) (w : World) (h_a : RdI w v_a a) (h_b : RdI w v_b b) :
    Calls Try.prog 84 #[v_a, v_b] w fun e w' => e = .returned (.bool (sameD a.lo b.lo && sameD a.hi b.hi)) ∧ Below w.heap.size w w' := by
  obtain ⟨A_a, n_a, c_a, B_a, m_a, k_a, rfl, r_al, r_ah⟩ := h_a
  obtain ⟨A_b, n_b, c_b, B_b, m_b, k_b, rfl, r_bl, r_bh⟩ := h_b
  refine (Sx.run (ls := [.bool a.lo.neg, .slice A_a n_a c_a, .int .i64 a.lo.e, .bool a.hi.neg, .slice B_a m_a k_a, .int .i64 a.hi.e, .bool b.lo.neg, .slice A_b n_b c_b, .int .i64 b.lo.e, .bool b.hi.neg, .slice B_b m_b k_b, .int .i64 b.hi.e]) (shs := [(true, 6), (true, 6)]) (R := fun v _ => v = .bool (sameD a.lo b.lo && sameD a.hi b.hi)) (by kernel_rfl) tr_risame_eq rfl (by decide) ?_).mono (fun e w' ⟨v, he, hv, hb⟩ => ⟨by rw [he, hv], hb⟩)
  unfold tr_risame
  refine sat_chk (all_cons (okB _) (all_cons (okS _ _ _) (all_cons (okI _) (all_cons (okB _) (all_cons (okS _ _ _) (all_cons (okI _) (all_nil))))))) ?_
  refine sat_chk (all_cons (okB _) (all_cons (okS _ _ _) (all_cons (okI _) (all_cons (okB _) (all_cons (okS _ _ _) (all_cons (okI _) (all_nil))))))) ?_
  refine sat_call #[.agg #[.bool a.lo.neg, .slice A_a n_a c_a, .int .i64 a.lo.e], .agg #[.bool b.lo.neg, .slice A_b n_b c_b, .int .i64 b.lo.e]] (by kernel_rfl) fun w1 h1 => ?_
  refine (rsame_any _ _ (a.lo) (b.lo) _ (h1.rdD r_al) (h1.rdD r_bl)).mono ?_
  rintro e v1 ⟨rfl, hb1⟩
  refine ⟨hb1, [.bool (sameD a.lo b.lo)], _, rfl, by kernel_rfl, by kernel_rfl, fun g1 => ?_⟩
  replace r_al := g1.rdD r_al; replace r_ah := g1.rdD r_ah; replace r_bl := g1.rdD r_bl; replace r_bh := g1.rdD r_bh
  clear h1 hb1
  cases hE2 : (sameD a.lo b.lo)
  · refine sat_false (by kernel_rfl) ?_
    exact sat_ret (.bool false) (by kernel_rfl) fun w9 h9 => rfl
  · refine sat_true (by kernel_rfl) ?_
    refine sat_call #[.agg #[.bool a.hi.neg, .slice B_a m_a k_a, .int .i64 a.hi.e], .agg #[.bool b.hi.neg, .slice B_b m_b k_b, .int .i64 b.hi.e]] (by kernel_rfl) fun w3 h3 => ?_
    refine (rsame_any _ _ (a.hi) (b.hi) _ (h3.rdD r_ah) (h3.rdD r_bh)).mono ?_
    rintro e v3 ⟨rfl, hb3⟩
    refine ⟨hb3, [.bool (sameD a.hi b.hi)], _, rfl, by kernel_rfl, by kernel_rfl, fun g3 => ?_⟩
    replace r_al := g3.rdD r_al; replace r_ah := g3.rdD r_ah; replace r_bl := g3.rdD r_bl; replace r_bh := g3.rdD r_bh
    clear h3 hb3
    exact sat_ret (.bool (sameD a.hi b.hi)) (by kernel_rfl) fun w9 h9 => rfl

end Go.Proofs.Ytpkfjfpknbhekaa
namespace Go.Proofs.Ytpkfjfpknbhekaa
open Go.RowKit Pl

section
variable {a b : Dy}
theorem cmpI_le (x y : Int) : (cmpI x y ≤ 0) ↔ x ≤ y := by unfold cmpI; split <;> (try split) <;> omega
/-- A number that may be, of limbs below the base. -/
structure GD (a : Dy) : Prop where
  may : mayD a = true
  lim : Lim BB a.m
theorem GD.le (A : GD a) (B : GD b) : (cmpD a b ≤ 0) ↔ ZD a ≤ ZD b := by rw [cmpD_Z A.may A.lim B.may B.lim]; exact cmpI_le _ _
end
section
variable {a b : Iv} {d : Dy}
structure GI (a : Iv) : Prop where
  lo : GD a.lo
  hi : GD a.hi
theorem GI.may (A : GI a) : mayI a = true ↔ ZD a.lo ≤ ZD a.hi := by
  unfold mayI
  rw [A.lo.may, A.hi.may]
  simp only [Bool.and_self, Bool.true_and, decide_eq_true_eq]
  exact A.lo.le A.hi
theorem GI.has (A : GI a) (D : GD d) : hasI a d = true ↔ ZD a.lo ≤ ZD a.hi ∧ ZD a.lo ≤ ZD d ∧ ZD d ≤ ZD a.hi := by
  unfold hasI
  simp only [Bool.and_eq_true, decide_eq_true_eq, A.may, D.may, A.lo.le D, D.le A.hi, and_true, and_assoc]
/-- Two intervals and a number that may be. -/
structure G5 (a b : Iv) (d : Dy) : Prop where
  A : GI a
  B : GI b
  D : GD d
  ma : mayI a = true
  mb : mayI b = true
variable (G : G5 a b d)
include G
end
end Go.Proofs.Ytpkfjfpknbhekaa
