/- Contracts of package ival, by their trees. Printed by wip/mk_IvA.py. -/
import Derived.Test.YtbpfnooloemieaaGreatDoorSxGx
import Derived.Test.YtbpfnooloemieaaGreatDoorL2Ax
namespace Go.Proofs.YtbpfnooloemieaaGreatDoor
open Go.RowKit Pl
open Sx (sat_call sat_chk sat_prim sat_ite sat_true sat_false sat_trueP sat_falseP sat_ret all_nil all_cons okB okS okI)

/-- An interval as data. -/
structure Iv where
  lo : Dy
  hi : Dy
def Iv.zero : Iv := ⟨Dy.zero, Dy.zero⟩
/-- A value that reads as an interval. -/
def RdI (w : World) (v : Value) (a : Iv) : Prop := ∃ A n c B m d, v = .agg #[.bool a.lo.neg, .slice A n c, .int .i64 a.lo.e, .bool a.hi.neg, .slice B m d, .int .i64 a.hi.e] ∧
  RdD w (.agg #[.bool a.lo.neg, .slice A n c, .int .i64 a.lo.e]) a.lo ∧ RdD w (.agg #[.bool a.hi.neg, .slice B m d, .int .i64 a.hi.e]) a.hi
theorem mkI {w : World} {l h : Dy} {A : Option Addr} {n c : Nat} {B : Option Addr} {m d : Nat} (hl : RdD w (.agg #[.bool l.neg, .slice A n c, .int .i64 l.e]) l) (hh : RdD w (.agg #[.bool h.neg, .slice B m d, .int .i64 h.e]) h) :
    RdI w (.agg #[.bool l.neg, .slice A n c, .int .i64 l.e, .bool h.neg, .slice B m d, .int .i64 h.e]) ⟨l, h⟩ := ⟨A, n, c, B, m, d, rfl, hl, hh⟩
theorem RdI.below {w w' : World} {v : Value} {a : Iv} (h : RdI w v a) (hb : Below w.heap.size w w') : RdI w' v a := by
  obtain ⟨A, n, c, B, m, d, e, h1, h2⟩ := h
  exact ⟨A, n, c, B, m, d, e, h1.below hb, h2.below hb⟩
/-- An interval and its mark, as a function returns them. -/
def IvTup (w : World) (e : Ending) (r : Iv × Int) : Prop := ∃ (l h : Dy) (x : Int) (A : Option Addr) (n c : Nat) (B : Option Addr) (m d : Nat), Hid ((⟨l, h⟩, x) = r) ∧
  e = .returned (.tuple #[.agg #[.bool l.neg, .slice A n c, .int .i64 l.e, .bool h.neg, .slice B m d, .int .i64 h.e], .int .i64 x]) ∧ RdD w (.agg #[.bool l.neg, .slice A n c, .int .i64 l.e]) l ∧ RdD w (.agg #[.bool h.neg, .slice B m d, .int .i64 h.e]) h
theorem IvTup.zero {w : World} {k : Int} {r : Iv × Int} (h : (Iv.zero, k) = r) : IvTup w (.returned (.tuple #[.agg #[.bool false, .slice none 0 0, .int .i64 0, .bool false, .slice none 0 0, .int .i64 0], .int .i64 k])) r :=
  ⟨Dy.zero, Dy.zero, k, none, 0, 0, none, 0, 0, hide h, rfl, RdD.zero _, RdD.zero _⟩
def mayI (a : Iv) : Bool := mayD a.lo && mayD a.hi && decide (cmpD a.lo a.hi ≤ 0)
def hasI (a : Iv) (d : Dy) : Bool := mayI a && mayD d && decide (cmpD a.lo d ≤ 0) && decide (cmpD d a.hi ≤ 0)
def withinI (a b : Iv) : Bool := mayI a && mayI b && decide (0 ≤ cmpD a.lo b.lo) && decide (0 ≤ cmpD b.hi a.hi)
def insideI (a b : Iv) : Bool := mayI a && mayI b && decide (0 < cmpD a.lo b.lo) && decide (0 < cmpD b.hi a.hi)
def leastD (a b : Dy) : Dy := bif decide (cmpD a b ≤ 0) then a else b
def greatestD (a b : Dy) : Dy := bif decide (0 ≤ cmpD a b) then a else b
def hullI (a b : Iv) : Iv × Int := bif mayI a && mayI b then (⟨leastD a.lo b.lo, greatestD a.hi b.hi⟩, 0) else (Iv.zero, 1)
def meetI (a b : Iv) : Iv × Int := bif mayI a && mayI b then (bif mayI ⟨greatestD a.lo b.lo, leastD a.hi b.hi⟩ then (⟨greatestD a.lo b.lo, leastD a.hi b.hi⟩, 0) else (Iv.zero, 5)) else (Iv.zero, 1)
def sameI (a b : Iv) : Bool := sameD a.lo b.lo && sameD a.hi b.hi
def tr_imay : Sx.Tree := .chk [.lf 0, .lf 1, .lf 2, .lf 3, .lf 4, .lf 5] (.call 71 [.ag [.lf 0, .lf 1, .lf 2]] .one (.ite (.lf 6) (.call 71 [.ag [.lf 3, .lf 4, .lf 5]] .one (.ite (.lf 7) (.call 47 [.ag [.lf 0, .lf 1, .lf 2], .ag [.lf 3, .lf 4, .lf 5]] .one (.prim (.bin .leq) [.lf 8, .num .i64 0] (.ret (.one (.lf 9))))) (.ret (.one (.bit false))))) (.ret (.one (.bit false)))))
theorem tr_imay_eq : Sx.treeOf Tryz.prog 52 = some tr_imay := by kernel_rfl

theorem mayI_any (v_a : Value) (a : Iv) (w : World) (h_a : RdI w v_a a) :
    Calls Tryz.prog 52 #[v_a] w fun e w' => e = .returned (.bool (mayD a.lo && mayD a.hi && decide (cmpD a.lo a.hi ≤ 0))) ∧ Below w.heap.size w w' := by
  obtain ⟨A_a, n_a, c_a, B_a, m_a, k_a, rfl, r_al, r_ah⟩ := h_a
  refine (Sx.run (ls := [.bool a.lo.neg, .slice A_a n_a c_a, .int .i64 a.lo.e, .bool a.hi.neg, .slice B_a m_a k_a, .int .i64 a.hi.e]) (shs := [(true, 6)]) (R := fun v _ => v = .bool (mayD a.lo && mayD a.hi && decide (cmpD a.lo a.hi ≤ 0))) (by kernel_rfl) tr_imay_eq rfl (by decide) ?_).mono (fun e w' ⟨v, he, hv, hb⟩ => ⟨by rw [he, hv], hb⟩)
  unfold tr_imay
  refine sat_chk (all_cons (okB _) (all_cons (okS _ _ _) (all_cons (okI _) (all_cons (okB _) (all_cons (okS _ _ _) (all_cons (okI _) (all_nil))))))) ?_
  refine sat_call #[.agg #[.bool a.lo.neg, .slice A_a n_a c_a, .int .i64 a.lo.e]] (by kernel_rfl) fun w1 h1 => ?_
  refine (mayD_any _ (a.lo) _ (h1.rdD r_al)).mono ?_
  rintro e v1 ⟨rfl, hb1⟩
  refine ⟨hb1, [.bool (mayD a.lo)], _, rfl, by kernel_rfl, by kernel_rfl, fun g1 => ?_⟩
  replace r_al := g1.rdD r_al; replace r_ah := g1.rdD r_ah
  clear h1 hb1
  cases hE2 : (mayD a.lo)
  · refine sat_false (by kernel_rfl) ?_
    exact sat_ret (.bool false) (by kernel_rfl) fun w9 h9 => rfl
  · refine sat_true (by kernel_rfl) ?_
    refine sat_call #[.agg #[.bool a.hi.neg, .slice B_a m_a k_a, .int .i64 a.hi.e]] (by kernel_rfl) fun w3 h3 => ?_
    refine (mayD_any _ (a.hi) _ (h3.rdD r_ah)).mono ?_
    rintro e v3 ⟨rfl, hb3⟩
    refine ⟨hb3, [.bool (mayD a.hi)], _, rfl, by kernel_rfl, by kernel_rfl, fun g3 => ?_⟩
    replace r_al := g3.rdD r_al; replace r_ah := g3.rdD r_ah
    clear h3 hb3
    cases hE4 : (mayD a.hi)
    · refine sat_false (by kernel_rfl) ?_
      exact sat_ret (.bool false) (by kernel_rfl) fun w9 h9 => rfl
    · refine sat_true (by kernel_rfl) ?_
      refine sat_call #[.agg #[.bool a.lo.neg, .slice A_a n_a c_a, .int .i64 a.lo.e], .agg #[.bool a.hi.neg, .slice B_a m_a k_a, .int .i64 a.hi.e]] (by kernel_rfl) fun w5 h5 => ?_
      refine (cmpD_any _ _ (a.lo) (a.hi) _ (h5.rdD r_al) (h5.rdD r_ah)).mono ?_
      rintro e v5 ⟨rfl, hb5⟩
      refine ⟨hb5, [.int .i64 (cmpD a.lo a.hi)], _, rfl, by kernel_rfl, by kernel_rfl, fun g5 => ?_⟩
      replace r_al := g5.rdD r_al; replace r_ah := g5.rdD r_ah
      clear h5 hb5
      refine sat_prim (v := .bool (decide (((cmpD a.lo a.hi) : Int) ≤ 0))) (by kernel_rfl) ?_
      exact sat_ret (.bool (decide (((cmpD a.lo a.hi) : Int) ≤ 0))) (by kernel_rfl) fun w9 h9 => rfl

def tr_ileast : Sx.Tree := .chk [.lf 0, .lf 1, .lf 2] (.chk [.lf 3, .lf 4, .lf 5] (.call 47 [.ag [.lf 0, .lf 1, .lf 2], .ag [.lf 3, .lf 4, .lf 5]] .one (.prim (.bin .leq) [.lf 6, .num .i64 0] (.ite (.lf 7) (.chk [.lf 0, .lf 1, .lf 2] (.ret (.ag [.lf 0, .lf 1, .lf 2]))) (.chk [.lf 3, .lf 4, .lf 5] (.ret (.ag [.lf 3, .lf 4, .lf 5])))))))
theorem tr_ileast_eq : Sx.treeOf Tryz.prog 79 = some tr_ileast := by kernel_rfl

theorem least_any (v_a : Value) (v_b : Value) (a : Dy) (b : Dy) (w : World) (h_a : RdD w v_a a) (h_b : RdD w v_b b) :
    Calls Tryz.prog 79 #[v_a, v_b] w fun e w' => DyRet w' e (leastD a b) ∧ Below w.heap.size w w' := by
  have r_a := h_a
  obtain ⟨A_a, n_a, c_a, rfl, _⟩ := h_a
  have r_b := h_b
  obtain ⟨A_b, n_b, c_b, rfl, _⟩ := h_b
  refine (Sx.run (ls := [.bool a.neg, .slice A_a n_a c_a, .int .i64 a.e, .bool b.neg, .slice A_b n_b c_b, .int .i64 b.e]) (shs := [(true, 3), (true, 3)]) (R := fun v w' => DyRet w' (.returned v) (leastD a b)) (by kernel_rfl) tr_ileast_eq rfl (by decide) ?_).mono (fun e w' ⟨v, he, hv, hb⟩ => ⟨by rw [he]; exact hv, hb⟩)
  unfold tr_ileast
  refine sat_chk (all_cons (okB _) (all_cons (okS _ _ _) (all_cons (okI _) (all_nil)))) ?_
  refine sat_chk (all_cons (okB _) (all_cons (okS _ _ _) (all_cons (okI _) (all_nil)))) ?_
  refine sat_call #[.agg #[.bool a.neg, .slice A_a n_a c_a, .int .i64 a.e], .agg #[.bool b.neg, .slice A_b n_b c_b, .int .i64 b.e]] (by kernel_rfl) fun w1 h1 => ?_
  refine (cmpD_any _ _ (a) (b) _ (h1.rdD r_a) (h1.rdD r_b)).mono ?_
  rintro e v1 ⟨rfl, hb1⟩
  refine ⟨hb1, [.int .i64 (cmpD a b)], _, rfl, by kernel_rfl, by kernel_rfl, fun g1 => ?_⟩
  replace r_a := g1.rdD r_a; replace r_b := g1.rdD r_b
  clear h1 hb1
  refine sat_prim (v := .bool (decide (((cmpD a b) : Int) ≤ 0))) (by kernel_rfl) ?_
  cases hE2 : (decide (((cmpD a b) : Int) ≤ 0))
  · refine sat_false (by kernel_rfl) ?_
    refine sat_chk (all_cons (okB _) (all_cons (okS _ _ _) (all_cons (okI _) (all_nil)))) ?_
    exact sat_ret (.agg #[.bool b.neg, .slice A_b n_b c_b, .int .i64 b.e]) (by kernel_rfl) fun w9 h9 => ⟨A_b, n_b, c_b, by rw [show leastD a b = b by unfold leastD; simp only [hE2]; rfl], by rw [show leastD a b = b by unfold leastD; simp only [hE2]; rfl]; exact h9.rdD r_b⟩
  · refine sat_true (by kernel_rfl) ?_
    refine sat_chk (all_cons (okB _) (all_cons (okS _ _ _) (all_cons (okI _) (all_nil)))) ?_
    exact sat_ret (.agg #[.bool a.neg, .slice A_a n_a c_a, .int .i64 a.e]) (by kernel_rfl) fun w9 h9 => ⟨A_a, n_a, c_a, by rw [show leastD a b = a by unfold leastD; simp only [hE2]; rfl], by rw [show leastD a b = a by unfold leastD; simp only [hE2]; rfl]; exact h9.rdD r_a⟩

def tr_igreatest : Sx.Tree := .chk [.lf 0, .lf 1, .lf 2] (.chk [.lf 3, .lf 4, .lf 5] (.call 47 [.ag [.lf 0, .lf 1, .lf 2], .ag [.lf 3, .lf 4, .lf 5]] .one (.prim (.bin .geq) [.lf 6, .num .i64 0] (.ite (.lf 7) (.chk [.lf 0, .lf 1, .lf 2] (.ret (.ag [.lf 0, .lf 1, .lf 2]))) (.chk [.lf 3, .lf 4, .lf 5] (.ret (.ag [.lf 3, .lf 4, .lf 5])))))))
theorem tr_igreatest_eq : Sx.treeOf Tryz.prog 80 = some tr_igreatest := by kernel_rfl

theorem greatest_any (v_a : Value) (v_b : Value) (a : Dy) (b : Dy) (w : World) (h_a : RdD w v_a a) (h_b : RdD w v_b b) :
    Calls Tryz.prog 80 #[v_a, v_b] w fun e w' => DyRet w' e (greatestD a b) ∧ Below w.heap.size w w' := by
  have r_a := h_a
  obtain ⟨A_a, n_a, c_a, rfl, _⟩ := h_a
  have r_b := h_b
  obtain ⟨A_b, n_b, c_b, rfl, _⟩ := h_b
  refine (Sx.run (ls := [.bool a.neg, .slice A_a n_a c_a, .int .i64 a.e, .bool b.neg, .slice A_b n_b c_b, .int .i64 b.e]) (shs := [(true, 3), (true, 3)]) (R := fun v w' => DyRet w' (.returned v) (greatestD a b)) (by kernel_rfl) tr_igreatest_eq rfl (by decide) ?_).mono (fun e w' ⟨v, he, hv, hb⟩ => ⟨by rw [he]; exact hv, hb⟩)
  unfold tr_igreatest
  refine sat_chk (all_cons (okB _) (all_cons (okS _ _ _) (all_cons (okI _) (all_nil)))) ?_
  refine sat_chk (all_cons (okB _) (all_cons (okS _ _ _) (all_cons (okI _) (all_nil)))) ?_
  refine sat_call #[.agg #[.bool a.neg, .slice A_a n_a c_a, .int .i64 a.e], .agg #[.bool b.neg, .slice A_b n_b c_b, .int .i64 b.e]] (by kernel_rfl) fun w1 h1 => ?_
  refine (cmpD_any _ _ (a) (b) _ (h1.rdD r_a) (h1.rdD r_b)).mono ?_
  rintro e v1 ⟨rfl, hb1⟩
  refine ⟨hb1, [.int .i64 (cmpD a b)], _, rfl, by kernel_rfl, by kernel_rfl, fun g1 => ?_⟩
  replace r_a := g1.rdD r_a; replace r_b := g1.rdD r_b
  clear h1 hb1
  refine sat_prim (v := .bool (decide ((0 : Int) ≤ (cmpD a b)))) (by kernel_rfl) ?_
  cases hE2 : (decide ((0 : Int) ≤ (cmpD a b)))
  · refine sat_false (by kernel_rfl) ?_
    refine sat_chk (all_cons (okB _) (all_cons (okS _ _ _) (all_cons (okI _) (all_nil)))) ?_
    exact sat_ret (.agg #[.bool b.neg, .slice A_b n_b c_b, .int .i64 b.e]) (by kernel_rfl) fun w9 h9 => ⟨A_b, n_b, c_b, by rw [show greatestD a b = b by unfold greatestD; simp only [hE2]; rfl], by rw [show greatestD a b = b by unfold greatestD; simp only [hE2]; rfl]; exact h9.rdD r_b⟩
  · refine sat_true (by kernel_rfl) ?_
    refine sat_chk (all_cons (okB _) (all_cons (okS _ _ _) (all_cons (okI _) (all_nil)))) ?_
    exact sat_ret (.agg #[.bool a.neg, .slice A_a n_a c_a, .int .i64 a.e]) (by kernel_rfl) fun w9 h9 => ⟨A_a, n_a, c_a, by rw [show greatestD a b = a by unfold greatestD; simp only [hE2]; rfl], by rw [show greatestD a b = a by unfold greatestD; simp only [hE2]; rfl]; exact h9.rdD r_a⟩

def tr_ihull : Sx.Tree := .chk [.lf 0, .lf 1, .lf 2, .lf 3, .lf 4, .lf 5] (.chk [.lf 6, .lf 7, .lf 8, .lf 9, .lf 10, .lf 11] (.call 52 [.ag [.lf 0, .lf 1, .lf 2, .lf 3, .lf 4, .lf 5]] .one (.prim .not [.lf 12] (.ite (.lf 13) (.ret (.tup [(true, [.bit false, .nil, .num .i64 0, .bit false, .nil, .num .i64 0]), (false, [.num .i64 1])])) (.call 52 [.ag [.lf 6, .lf 7, .lf 8, .lf 9, .lf 10, .lf 11]] .one (.prim .not [.lf 14] (.ite (.lf 15) (.ret (.tup [(true, [.bit false, .nil, .num .i64 0, .bit false, .nil, .num .i64 0]), (false, [.num .i64 1])])) (.call 79 [.ag [.lf 0, .lf 1, .lf 2], .ag [.lf 6, .lf 7, .lf 8]] (.ag 3) (.call 80 [.ag [.lf 3, .lf 4, .lf 5], .ag [.lf 9, .lf 10, .lf 11]] (.ag 3) (.chk [.lf 16, .lf 17, .lf 18, .lf 19, .lf 20, .lf 21] (.chk [.lf 16, .lf 17, .lf 18, .lf 19, .lf 20, .lf 21] (.ret (.tup [(true, [.lf 16, .lf 17, .lf 18, .lf 19, .lf 20, .lf 21]), (false, [.num .i64 0])])))))))))))))
theorem tr_ihull_eq : Sx.treeOf Tryz.prog 41 = some tr_ihull := by kernel_rfl

theorem hullI_any (v_a : Value) (v_b : Value) (a : Iv) (b : Iv) (w : World) (h_a : RdI w v_a a) (h_b : RdI w v_b b) :
    Calls Tryz.prog 41 #[v_a, v_b] w fun e w' => IvTup w' e (hullI a b) ∧ Below w.heap.size w w' := by
  obtain ⟨A_a, n_a, c_a, B_a, m_a, k_a, rfl, r_al, r_ah⟩ := h_a
  obtain ⟨A_b, n_b, c_b, B_b, m_b, k_b, rfl, r_bl, r_bh⟩ := h_b
  refine (Sx.run (ls := [.bool a.lo.neg, .slice A_a n_a c_a, .int .i64 a.lo.e, .bool a.hi.neg, .slice B_a m_a k_a, .int .i64 a.hi.e, .bool b.lo.neg, .slice A_b n_b c_b, .int .i64 b.lo.e, .bool b.hi.neg, .slice B_b m_b k_b, .int .i64 b.hi.e]) (shs := [(true, 6), (true, 6)]) (R := fun v w' => IvTup w' (.returned v) (hullI a b)) (by kernel_rfl) tr_ihull_eq rfl (by decide) ?_).mono (fun e w' ⟨v, he, hv, hb⟩ => ⟨by rw [he]; exact hv, hb⟩)
  unfold tr_ihull
  refine sat_chk (all_cons (okB _) (all_cons (okS _ _ _) (all_cons (okI _) (all_cons (okB _) (all_cons (okS _ _ _) (all_cons (okI _) (all_nil))))))) ?_
  refine sat_chk (all_cons (okB _) (all_cons (okS _ _ _) (all_cons (okI _) (all_cons (okB _) (all_cons (okS _ _ _) (all_cons (okI _) (all_nil))))))) ?_
  refine sat_call #[.agg #[.bool a.lo.neg, .slice A_a n_a c_a, .int .i64 a.lo.e, .bool a.hi.neg, .slice B_a m_a k_a, .int .i64 a.hi.e]] (by kernel_rfl) fun w1 h1 => ?_
  refine (mayI_any _ a _ (mkI (h1.rdD r_al) (h1.rdD r_ah))).mono ?_
  rintro e v1 ⟨rfl, hb1⟩
  refine ⟨hb1, [.bool (mayI a)], _, rfl, by kernel_rfl, by kernel_rfl, fun g1 => ?_⟩
  replace r_al := g1.rdD r_al; replace r_ah := g1.rdD r_ah; replace r_bl := g1.rdD r_bl; replace r_bh := g1.rdD r_bh
  clear h1 hb1
  refine sat_prim (v := .bool (!(mayI a))) (by kernel_rfl) ?_
  cases hE2 : (mayI a)
  · refine sat_true (by kernel_rfl) ?_
    exact sat_ret (.tuple #[.agg #[.bool false, .slice none 0 0, .int .i64 0, .bool false, .slice none 0 0, .int .i64 0], .int .i64 1]) (by kernel_rfl) fun w9 h9 => IvTup.zero (by unfold hullI; simp only [hE2]; rfl)
  · refine sat_false (by kernel_rfl) ?_
    refine sat_call #[.agg #[.bool b.lo.neg, .slice A_b n_b c_b, .int .i64 b.lo.e, .bool b.hi.neg, .slice B_b m_b k_b, .int .i64 b.hi.e]] (by kernel_rfl) fun w3 h3 => ?_
    refine (mayI_any _ b _ (mkI (h3.rdD r_bl) (h3.rdD r_bh))).mono ?_
    rintro e v3 ⟨rfl, hb3⟩
    refine ⟨hb3, [.bool (mayI b)], _, rfl, by kernel_rfl, by kernel_rfl, fun g3 => ?_⟩
    replace r_al := g3.rdD r_al; replace r_ah := g3.rdD r_ah; replace r_bl := g3.rdD r_bl; replace r_bh := g3.rdD r_bh
    clear h3 hb3
    refine sat_prim (v := .bool (!(mayI b))) (by kernel_rfl) ?_
    cases hE4 : (mayI b)
    · refine sat_true (by kernel_rfl) ?_
      exact sat_ret (.tuple #[.agg #[.bool false, .slice none 0 0, .int .i64 0, .bool false, .slice none 0 0, .int .i64 0], .int .i64 1]) (by kernel_rfl) fun w9 h9 => IvTup.zero (by unfold hullI; simp only [hE2, hE4]; rfl)
    · refine sat_false (by kernel_rfl) ?_
      refine sat_call #[.agg #[.bool a.lo.neg, .slice A_a n_a c_a, .int .i64 a.lo.e], .agg #[.bool b.lo.neg, .slice A_b n_b c_b, .int .i64 b.lo.e]] (by kernel_rfl) fun w5 h5 => ?_
      refine (least_any _ _ (a.lo) (b.lo) _ (h5.rdD r_al) (h5.rdD r_bl)).mono ?_
      rintro e v5 ⟨⟨A_l1, n_l1, c_l1, rfl, r_l1⟩, hb5⟩
      refine ⟨hb5, [.bool (leastD a.lo b.lo).neg, .slice A_l1 n_l1 c_l1, .int .i64 (leastD a.lo b.lo).e], _, rfl, by kernel_rfl, by kernel_rfl, fun g5 => ?_⟩
      replace r_al := g5.rdD r_al; replace r_ah := g5.rdD r_ah; replace r_bl := g5.rdD r_bl; replace r_bh := g5.rdD r_bh
      clear h5 hb5
      refine sat_call #[.agg #[.bool a.hi.neg, .slice B_a m_a k_a, .int .i64 a.hi.e], .agg #[.bool b.hi.neg, .slice B_b m_b k_b, .int .i64 b.hi.e]] (by kernel_rfl) fun w6 h6 => ?_
      refine (greatest_any _ _ (a.hi) (b.hi) _ (h6.rdD r_ah) (h6.rdD r_bh)).mono ?_
      rintro e v6 ⟨⟨A_g2, n_g2, c_g2, rfl, r_g2⟩, hb6⟩
      refine ⟨hb6, [.bool (greatestD a.hi b.hi).neg, .slice A_g2 n_g2 c_g2, .int .i64 (greatestD a.hi b.hi).e], _, rfl, by kernel_rfl, by kernel_rfl, fun g6 => ?_⟩
      replace r_al := g6.rdD r_al; replace r_ah := g6.rdD r_ah; replace r_bl := g6.rdD r_bl; replace r_bh := g6.rdD r_bh; replace r_l1 := g6.rdD r_l1
      clear h6 hb6
      refine sat_chk (all_cons (okB _) (all_cons (okS _ _ _) (all_cons (okI _) (all_cons (okB _) (all_cons (okS _ _ _) (all_cons (okI _) (all_nil))))))) ?_
      refine sat_chk (all_cons (okB _) (all_cons (okS _ _ _) (all_cons (okI _) (all_cons (okB _) (all_cons (okS _ _ _) (all_cons (okI _) (all_nil))))))) ?_
      exact sat_ret (.tuple #[.agg #[.bool (leastD a.lo b.lo).neg, .slice A_l1 n_l1 c_l1, .int .i64 (leastD a.lo b.lo).e, .bool (greatestD a.hi b.hi).neg, .slice A_g2 n_g2 c_g2, .int .i64 (greatestD a.hi b.hi).e], .int .i64 0]) (by kernel_rfl) fun w9 h9 => ⟨(leastD a.lo b.lo), (greatestD a.hi b.hi), 0, A_l1, n_l1, c_l1, A_g2, n_g2, c_g2, hide (by unfold hullI; simp only [hE2, hE4]; rfl), rfl, h9.rdD r_l1, h9.rdD r_g2⟩

end Go.Proofs.YtbpfnooloemieaaGreatDoor
