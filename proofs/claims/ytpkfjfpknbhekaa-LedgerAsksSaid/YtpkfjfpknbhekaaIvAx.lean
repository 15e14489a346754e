/- Contracts of package ival, by their trees. Printed by wip/mk_IvA.py. -/
import Derived.Test.YtpkfjfpknbhekaaSxGx
import Derived.Test.YtpkfjfpknbhekaaDyMx
namespace Go.Proofs.Ytpkfjfpknbhekaa
open Go.RowKit Pl
open Sx (sat_call sat_chk sat_prim sat_ite sat_true sat_false sat_trueP sat_falseP sat_ret all_nil all_cons okB okS okI)

/-- An interval as data. -/
structure Iv where
  lo : Dy
  hi : Dy
def Iv.zero : Iv := ⟨Dy.zero, Dy.zero⟩
/-- A value that reads as an interval. -/
def RdI (w : World) (v : Value) (a : Iv) : Prop := ∃ A n c B m d, v = .agg #[.bool a.lo.neg, .slice A n c, .int .i64 a.lo.e, .bool a.hi.neg, .slice B m d, .int .i64 a.hi.e] ∧
  RdD w (.agg #[.bool a.lo.neg, .slice A n c, .int .i64 a.lo.e]) a.lo ∧ RdD w (.agg #[.bool a.hi.neg, .slice B m d, .int .i64 a.hi.e]) a.hi
theorem mkI {w : World} {l h : Dy} {A : Option Addr} {n c : Nat} {B : Option Addr} {m d : Nat} (hl : RdD w (.agg #[.bool l.neg, .slice A n c, .int .i64 l.e]) l) (hh : RdD w (.agg #[.bool h.neg, .slice B m d, .int .i64 h.e]) h) :
    RdI w (.agg #[.bool l.neg, .slice A n c, .int .i64 l.e, .bool h.neg, .slice B m d, .int .i64 h.e]) ⟨l, h⟩ := ⟨A, n, c, B, m, d, rfl, hl, hh⟩
theorem RdI.below {w w' : World} {v : Value} {a : Iv} (h : RdI w v a) (hb : Below w.heap.size w w') : RdI w' v a := by
  obtain ⟨A, n, c, B, m, d, e, h1, h2⟩ := h
  exact ⟨A, n, c, B, m, d, e, h1.below hb, h2.below hb⟩
/-- An interval and its mark, as a function returns them. -/
def IvTup (w : World) (e : Ending) (r : Iv × Int) : Prop := ∃ (l h : Dy) (x : Int) (A : Option Addr) (n c : Nat) (B : Option Addr) (m d : Nat), Hid ((⟨l, h⟩, x) = r) ∧
  e = .returned (.tuple #[.agg #[.bool l.neg, .slice A n c, .int .i64 l.e, .bool h.neg, .slice B m d, .int .i64 h.e], .int .i64 x]) ∧ RdD w (.agg #[.bool l.neg, .slice A n c, .int .i64 l.e]) l ∧ RdD w (.agg #[.bool h.neg, .slice B m d, .int .i64 h.e]) h
theorem IvTup.zero {w : World} {k : Int} {r : Iv × Int} (h : (Iv.zero, k) = r) : IvTup w (.returned (.tuple #[.agg #[.bool false, .slice none 0 0, .int .i64 0, .bool false, .slice none 0 0, .int .i64 0], .int .i64 k])) r :=
  ⟨Dy.zero, Dy.zero, k, none, 0, 0, none, 0, 0, hide h, rfl, RdD.zero _, RdD.zero _⟩
def mayI (a : Iv) : Bool := mayD a.lo && mayD a.hi && decide (cmpD a.lo a.hi ≤ 0)
def hasI (a : Iv) (d : Dy) : Bool := mayI a && mayD d && decide (cmpD a.lo d ≤ 0) && decide (cmpD d a.hi ≤ 0)
def sameI (a b : Iv) : Bool := sameD a.lo b.lo && sameD a.hi b.hi
def tr_imay : Sx.Tree := .chk [.lf 0, .lf 1, .lf 2, .lf 3, .lf 4, .lf 5] (.call 32 [.ag [.lf 0, .lf 1, .lf 2]] .one (.ite (.lf 6) (.call 32 [.ag [.lf 3, .lf 4, .lf 5]] .one (.ite (.lf 7) (.call 78 [.ag [.lf 0, .lf 1, .lf 2], .ag [.lf 3, .lf 4, .lf 5]] .one (.prim (.bin .leq) [.lf 8, .num .i64 0] (.ret (.one (.lf 9))))) (.ret (.one (.bit false))))) (.ret (.one (.bit false)))))
theorem tr_imay_eq : Sx.treeOf Try.prog 35 = some tr_imay := by kernel_rfl

theorem mayI_any (v_a : Value) (a : Iv) (w : World) (h_a : RdI w v_a a) :
    Calls Try.prog 35 #[v_a] w fun e w' => e = .returned (.bool (mayD a.lo && mayD a.hi && decide (cmpD a.lo a.hi ≤ 0))) ∧ Below w.heap.size w w' := by
  obtain ⟨A_a, n_a, c_a, B_a, m_a, k_a, rfl, r_al, r_ah⟩ := h_a
  refine (Sx.run (ls := [.bool a.lo.neg, .slice A_a n_a c_a, .int .i64 a.lo.e, .bool a.hi.neg, .slice B_a m_a k_a, .int .i64 a.hi.e]) (shs := [(true, 6)]) (R := fun v _ => v = .bool (mayD a.lo && mayD a.hi && decide (cmpD a.lo a.hi ≤ 0))) (by kernel_rfl) tr_imay_eq rfl (by decide) ?_).mono (fun e w' ⟨v, he, hv, hb⟩ => ⟨by rw [he, hv], hb⟩)
  unfold tr_imay
  refine sat_chk (all_cons (okB _) (all_cons (okS _ _ _) (all_cons (okI _) (all_cons (okB _) (all_cons (okS _ _ _) (all_cons (okI _) (all_nil))))))) ?_
  refine sat_call #[.agg #[.bool a.lo.neg, .slice A_a n_a c_a, .int .i64 a.lo.e]] (by kernel_rfl) fun w1 h1 => ?_
  refine (mayD_any _ (a.lo) _ (h1.rdD r_al)).mono ?_
  rintro e v1 ⟨rfl, hb1⟩
  refine ⟨hb1, [.bool (mayD a.lo)], _, rfl, by kernel_rfl, by kernel_rfl, fun g1 => ?_⟩
  replace r_al := g1.rdD r_al; replace r_ah := g1.rdD r_ah
  clear h1 hb1
  cases hE2 : (mayD a.lo)
  · refine sat_false (by kernel_rfl) ?_
    exact sat_ret (.bool false) (by kernel_rfl) fun w9 h9 => rfl
  · refine sat_true (by kernel_rfl) ?_
    refine sat_call #[.agg #[.bool a.hi.neg, .slice B_a m_a k_a, .int .i64 a.hi.e]] (by kernel_rfl) fun w3 h3 => ?_
    refine (mayD_any _ (a.hi) _ (h3.rdD r_ah)).mono ?_
    rintro e v3 ⟨rfl, hb3⟩
    refine ⟨hb3, [.bool (mayD a.hi)], _, rfl, by kernel_rfl, by kernel_rfl, fun g3 => ?_⟩
    replace r_al := g3.rdD r_al; replace r_ah := g3.rdD r_ah
    clear h3 hb3
    cases hE4 : (mayD a.hi)
    · refine sat_false (by kernel_rfl) ?_
      exact sat_ret (.bool false) (by kernel_rfl) fun w9 h9 => rfl
    · refine sat_true (by kernel_rfl) ?_
      refine sat_call #[.agg #[.bool a.lo.neg, .slice A_a n_a c_a, .int .i64 a.lo.e], .agg #[.bool a.hi.neg, .slice B_a m_a k_a, .int .i64 a.hi.e]] (by kernel_rfl) fun w5 h5 => ?_
      refine (cmpD_any _ _ (a.lo) (a.hi) _ (h5.rdD r_al) (h5.rdD r_ah)).mono ?_
      rintro e v5 ⟨rfl, hb5⟩
      refine ⟨hb5, [.int .i64 (cmpD a.lo a.hi)], _, rfl, by kernel_rfl, by kernel_rfl, fun g5 => ?_⟩
      replace r_al := g5.rdD r_al; replace r_ah := g5.rdD r_ah
      clear h5 hb5
      refine sat_prim (v := .bool (decide (((cmpD a.lo a.hi) : Int) ≤ 0))) (by kernel_rfl) ?_
      exact sat_ret (.bool (decide (((cmpD a.lo a.hi) : Int) ≤ 0))) (by kernel_rfl) fun w9 h9 => rfl

def tr_isame : Sx.Tree := .chk [.lf 0, .lf 1, .lf 2, .lf 3, .lf 4, .lf 5] (.chk [.lf 6, .lf 7, .lf 8, .lf 9, .lf 10, .lf 11] (.call 71 [.ag [.lf 0, .lf 1, .lf 2], .ag [.lf 6, .lf 7, .lf 8]] .one (.ite (.lf 12) (.call 71 [.ag [.lf 3, .lf 4, .lf 5], .ag [.lf 9, .lf 10, .lf 11]] .one (.ret (.one (.lf 13)))) (.ret (.one (.bit false))))))
theorem tr_isame_eq : Sx.treeOf Try.prog 66 = some tr_isame := by kernel_rfl

theorem sameI_any (v_a : Value) (v_b : Value) (a : Iv) (b : Iv) (w : World) (h_a : RdI w v_a a) (h_b : RdI w v_b b) :
    Calls Try.prog 66 #[v_a, v_b] w fun e w' => e = .returned (.bool (sameD a.lo b.lo && sameD a.hi b.hi)) ∧ Below w.heap.size w w' := by
  obtain ⟨A_a, n_a, c_a, B_a, m_a, k_a, rfl, r_al, r_ah⟩ := h_a
  obtain ⟨A_b, n_b, c_b, B_b, m_b, k_b, rfl, r_bl, r_bh⟩ := h_b
  refine (Sx.run (ls := [.bool a.lo.neg, .slice A_a n_a c_a, .int .i64 a.lo.e, .bool a.hi.neg, .slice B_a m_a k_a, .int .i64 a.hi.e, .bool b.lo.neg, .slice A_b n_b c_b, .int .i64 b.lo.e, .bool b.hi.neg, .slice B_b m_b k_b, .int .i64 b.hi.e]) (shs := [(true, 6), (true, 6)]) (R := fun v _ => v = .bool (sameD a.lo b.lo && sameD a.hi b.hi)) (by kernel_rfl) tr_isame_eq rfl (by decide) ?_).mono (fun e w' ⟨v, he, hv, hb⟩ => ⟨by rw [he, hv], hb⟩)
  unfold tr_isame
  refine sat_chk (all_cons (okB _) (all_cons (okS _ _ _) (all_cons (okI _) (all_cons (okB _) (all_cons (okS _ _ _) (all_cons (okI _) (all_nil))))))) ?_
  refine sat_chk (all_cons (okB _) (all_cons (okS _ _ _) (all_cons (okI _) (all_cons (okB _) (all_cons (okS _ _ _) (all_cons (okI _) (all_nil))))))) ?_
  refine sat_call #[.agg #[.bool a.lo.neg, .slice A_a n_a c_a, .int .i64 a.lo.e], .agg #[.bool b.lo.neg, .slice A_b n_b c_b, .int .i64 b.lo.e]] (by kernel_rfl) fun w1 h1 => ?_
  refine (sameD_any _ _ (a.lo) (b.lo) _ (h1.rdD r_al) (h1.rdD r_bl)).mono ?_
  rintro e v1 ⟨rfl, hb1⟩
  refine ⟨hb1, [.bool (sameD a.lo b.lo)], _, rfl, by kernel_rfl, by kernel_rfl, fun g1 => ?_⟩
  replace r_al := g1.rdD r_al; replace r_ah := g1.rdD r_ah; replace r_bl := g1.rdD r_bl; replace r_bh := g1.rdD r_bh
  clear h1 hb1
  cases hE2 : (sameD a.lo b.lo)
  · refine sat_false (by kernel_rfl) ?_
    exact sat_ret (.bool false) (by kernel_rfl) fun w9 h9 => rfl
  · refine sat_true (by kernel_rfl) ?_
    refine sat_call #[.agg #[.bool a.hi.neg, .slice B_a m_a k_a, .int .i64 a.hi.e], .agg #[.bool b.hi.neg, .slice B_b m_b k_b, .int .i64 b.hi.e]] (by kernel_rfl) fun w3 h3 => ?_
    refine (sameD_any _ _ (a.hi) (b.hi) _ (h3.rdD r_ah) (h3.rdD r_bh)).mono ?_
    rintro e v3 ⟨rfl, hb3⟩
    refine ⟨hb3, [.bool (sameD a.hi b.hi)], _, rfl, by kernel_rfl, by kernel_rfl, fun g3 => ?_⟩
    replace r_al := g3.rdD r_al; replace r_ah := g3.rdD r_ah; replace r_bl := g3.rdD r_bl; replace r_bh := g3.rdD r_bh
    clear h3 hb3
    exact sat_ret (.bool (sameD a.hi b.hi)) (by kernel_rfl) fun w9 h9 => rfl

end Go.Proofs.Ytpkfjfpknbhekaa
