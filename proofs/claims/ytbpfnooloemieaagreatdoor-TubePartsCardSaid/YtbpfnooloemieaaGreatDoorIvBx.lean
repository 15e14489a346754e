/- Contracts of package ival, part B, of the document's answer sluicewayref5, and of sluicewaylaw5's own small functions, by their trees. Printed by wip/mk_IvB.py. Plain order laws of intervals: hulls, meets, what lies within, inside. -/
import Derived.Test.YtbpfnooloemieaaGreatDoorIvAx
import Derived.Test.YtbpfnooloemieaaGreatDoorRfDx
import Derived.Test.YtbpfnooloemieaaGreatDoorRfLx
import Derived.Test.YtbpfnooloemieaaGreatDoorL2Cx
namespace Go.Proofs.YtbpfnooloemieaaGreatDoor
open Go.RowKit Pl
open Sx (sat_call sat_chk sat_prim sat_ite sat_true sat_false sat_trueP sat_falseP sat_ret all_nil all_cons okB okS okI)

theorem cmpD_out {a b : Dy} (h : mayD a = false ∨ mayD b = false) : cmpD a b = 0 := by unfold cmpD; rw [if_pos h]
theorem cmpD_anti {a b : Dy} (la : Lim BB a.m) (lb : Lim BB b.m) : cmpD b a = - cmpD a b := by
  cases ha : mayD a
  · rw [cmpD_out (.inl ha), cmpD_out (.inr ha)]; rfl
  · cases hb : mayD b
    · rw [cmpD_out (.inr hb), cmpD_out (.inl hb)]; rfl
    · exact order_anti ha la hb lb
theorem lt_ge (a b : Dy) : decide (cmpD a b < 0) = !(decide (0 ≤ cmpD a b)) := by
  rw [Bool.eq_iff_iff]; simp
theorem lt_le {a b : Dy} (la : Lim BB a.m) (lb : Lim BB b.m) : decide (cmpD a b < 0) = !(decide (cmpD b a ≤ 0)) := by
  rw [cmpD_anti lb la, Bool.eq_iff_iff]; simp <;> omega
theorem lt_gt {a b : Dy} (la : Lim BB a.m) (lb : Lim BB b.m) : decide (cmpD a b < 0) = decide (0 < cmpD b a) := by
  rw [cmpD_anti lb la, Bool.eq_iff_iff]; simp <;> omega

def tr_within1 : Sx.Tree := .prim (.bin .geq) [.lf 0, .num .i64 0] (.ret (.one (.lf 1)))
theorem tr_within1_eq : Sx.treeOf Tryz.prog 90 = some tr_within1 := by kernel_rfl

theorem within1_any  (x : Int) (w : World)  :
    Calls Tryz.prog 90 #[.int .i64 x] w fun e w' => e = .returned (.bool (decide (0 ≤ x))) ∧ Below w.heap.size w w' := by
  refine (Sx.run (ls := [.int .i64 x]) (shs := [(false, 1)]) (R := fun v _ => v = .bool (decide (0 ≤ x))) (by kernel_rfl) tr_within1_eq rfl (by decide) ?_).mono (fun e w' ⟨v, he, hv, hb⟩ => ⟨by rw [he, hv], hb⟩)
  unfold tr_within1
  refine sat_prim (v := .bool (decide ((0 : Int) ≤ x))) (by kernel_rfl) ?_
  exact sat_ret (.bool (decide ((0 : Int) ≤ x))) (by kernel_rfl) fun w9 h9 => rfl

def tr_inside1 : Sx.Tree := .prim (.bin .gtr) [.lf 0, .num .i64 0] (.ret (.one (.lf 1)))
theorem tr_inside1_eq : Sx.treeOf Tryz.prog 91 = some tr_inside1 := by kernel_rfl

theorem inside1_any  (x : Int) (w : World)  :
    Calls Tryz.prog 91 #[.int .i64 x] w fun e w' => e = .returned (.bool (decide (0 < x))) ∧ Below w.heap.size w w' := by
  refine (Sx.run (ls := [.int .i64 x]) (shs := [(false, 1)]) (R := fun v _ => v = .bool (decide (0 < x))) (by kernel_rfl) tr_inside1_eq rfl (by decide) ?_).mono (fun e w' ⟨v, he, hv, hb⟩ => ⟨by rw [he, hv], hb⟩)
  unfold tr_inside1
  refine sat_prim (v := .bool (decide ((0 : Int) < x))) (by kernel_rfl) ?_
  exact sat_ret (.bool (decide ((0 : Int) < x))) (by kernel_rfl) fun w9 h9 => rfl

def tr_endsW : Sx.Tree := .chk [.lf 0, .lf 1, .lf 2, .lf 3, .lf 4, .lf 5] (.chk [.lf 6, .lf 7, .lf 8, .lf 9, .lf 10, .lf 11] (.call 52 [.ag [.lf 0, .lf 1, .lf 2, .lf 3, .lf 4, .lf 5]] .one (.ite (.lf 13) (.call 52 [.ag [.lf 6, .lf 7, .lf 8, .lf 9, .lf 10, .lf 11]] .one (.ite (.lf 14) (.call 47 [.ag [.lf 0, .lf 1, .lf 2], .ag [.lf 6, .lf 7, .lf 8]] .one (.call 90 [.one (.lf 15)] .one (.ite (.lf 16) (.call 47 [.ag [.lf 9, .lf 10, .lf 11], .ag [.lf 3, .lf 4, .lf 5]] .one (.call 90 [.one (.lf 17)] .one (.ret (.one (.lf 18))))) (.ret (.one (.bit false)))))) (.ret (.one (.bit false))))) (.ret (.one (.bit false))))))
theorem tr_endsW_eq : Sx.treeWith Tryz.prog 89 [(2, 90)] = some tr_endsW := by kernel_rfl

theorem ends_within (v_a : Value) (v_b : Value) (a : Iv) (b : Iv) (w : World) (h_a : RdI w v_a a) (h_b : RdI w v_b b) :
    Calls Tryz.prog 89 #[v_a, v_b, .func (.func 90) #[] #[]] w fun e w' => e = .returned (.bool (mayI a && mayI b && decide (0 ≤ cmpD a.lo b.lo) && decide (0 ≤ cmpD b.hi a.hi))) ∧ Below w.heap.size w w' := by
  obtain ⟨A_a, n_a, c_a, B_a, m_a, k_a, rfl, r_al, r_ah⟩ := h_a
  obtain ⟨A_b, n_b, c_b, B_b, m_b, k_b, rfl, r_bl, r_bh⟩ := h_b
  refine (Sx.runF [(2, 90)] (ls := [.bool a.lo.neg, .slice A_a n_a c_a, .int .i64 a.lo.e, .bool a.hi.neg, .slice B_a m_a k_a, .int .i64 a.hi.e, .bool b.lo.neg, .slice A_b n_b c_b, .int .i64 b.lo.e, .bool b.hi.neg, .slice B_b m_b k_b, .int .i64 b.hi.e, .func (.func 90) #[] #[]]) (shs := [(true, 6), (true, 6), (false, 1)]) (R := fun v _ => v = .bool (mayI a && mayI b && decide (0 ≤ cmpD a.lo b.lo) && decide (0 ≤ cmpD b.hi a.hi))) (by kernel_rfl) tr_endsW_eq rfl (by decide) (by simp [Sx.tupV]) ?_).mono (fun e w' ⟨v, he, hv, hb⟩ => ⟨by rw [he, hv], hb⟩)
  unfold tr_endsW
  refine sat_chk (all_cons (okB _) (all_cons (okS _ _ _) (all_cons (okI _) (all_cons (okB _) (all_cons (okS _ _ _) (all_cons (okI _) (all_nil))))))) ?_
  refine sat_chk (all_cons (okB _) (all_cons (okS _ _ _) (all_cons (okI _) (all_cons (okB _) (all_cons (okS _ _ _) (all_cons (okI _) (all_nil))))))) ?_
  refine sat_call #[.agg #[.bool a.lo.neg, .slice A_a n_a c_a, .int .i64 a.lo.e, .bool a.hi.neg, .slice B_a m_a k_a, .int .i64 a.hi.e]] (by kernel_rfl) fun w1 h1 => ?_
  refine (mayI_any _ a _ (mkI (h1.rdD r_al) (h1.rdD r_ah))).mono ?_
  rintro e v1 ⟨rfl, hb1⟩
  refine ⟨hb1, [.bool (mayI a)], _, rfl, by kernel_rfl, by kernel_rfl, fun g1 => ?_⟩
  replace r_al := g1.rdD r_al; replace r_ah := g1.rdD r_ah; replace r_bl := g1.rdD r_bl; replace r_bh := g1.rdD r_bh
  clear h1 hb1
  cases hE2 : (mayI a)
  · refine sat_false (by kernel_rfl) ?_
    exact sat_ret (.bool false) (by kernel_rfl) fun w9 h9 => rfl
  · refine sat_true (by kernel_rfl) ?_
    refine sat_call #[.agg #[.bool b.lo.neg, .slice A_b n_b c_b, .int .i64 b.lo.e, .bool b.hi.neg, .slice B_b m_b k_b, .int .i64 b.hi.e]] (by kernel_rfl) fun w3 h3 => ?_
    refine (mayI_any _ b _ (mkI (h3.rdD r_bl) (h3.rdD r_bh))).mono ?_
    rintro e v3 ⟨rfl, hb3⟩
    refine ⟨hb3, [.bool (mayI b)], _, rfl, by kernel_rfl, by kernel_rfl, fun g3 => ?_⟩
    replace r_al := g3.rdD r_al; replace r_ah := g3.rdD r_ah; replace r_bl := g3.rdD r_bl; replace r_bh := g3.rdD r_bh
    clear h3 hb3
    cases hE4 : (mayI b)
    · refine sat_false (by kernel_rfl) ?_
      exact sat_ret (.bool false) (by kernel_rfl) fun w9 h9 => rfl
    · refine sat_true (by kernel_rfl) ?_
      refine sat_call #[.agg #[.bool a.lo.neg, .slice A_a n_a c_a, .int .i64 a.lo.e], .agg #[.bool b.lo.neg, .slice A_b n_b c_b, .int .i64 b.lo.e]] (by kernel_rfl) fun w5 h5 => ?_
      refine (cmpD_any _ _ (a.lo) (b.lo) _ (h5.rdD r_al) (h5.rdD r_bl)).mono ?_
      rintro e v5 ⟨rfl, hb5⟩
      refine ⟨hb5, [.int .i64 (cmpD a.lo b.lo)], _, rfl, by kernel_rfl, by kernel_rfl, fun g5 => ?_⟩
      replace r_al := g5.rdD r_al; replace r_ah := g5.rdD r_ah; replace r_bl := g5.rdD r_bl; replace r_bh := g5.rdD r_bh
      clear h5 hb5
      refine sat_call #[.int .i64 (cmpD a.lo b.lo)] (by kernel_rfl) fun w6 h6 => ?_
      refine (within1_any _ _).mono ?_
      rintro e v6 ⟨rfl, hb6⟩
      refine ⟨hb6, [.bool (decide ((0 : Int) ≤ (cmpD a.lo b.lo)))], _, rfl, by kernel_rfl, by kernel_rfl, fun g6 => ?_⟩
      replace r_al := g6.rdD r_al; replace r_ah := g6.rdD r_ah; replace r_bl := g6.rdD r_bl; replace r_bh := g6.rdD r_bh
      clear h6 hb6
      cases hE7 : (decide ((0 : Int) ≤ (cmpD a.lo b.lo)))
      · refine sat_false (by kernel_rfl) ?_
        exact sat_ret (.bool false) (by kernel_rfl) fun w9 h9 => rfl
      · refine sat_true (by kernel_rfl) ?_
        refine sat_call #[.agg #[.bool b.hi.neg, .slice B_b m_b k_b, .int .i64 b.hi.e], .agg #[.bool a.hi.neg, .slice B_a m_a k_a, .int .i64 a.hi.e]] (by kernel_rfl) fun w8 h8 => ?_
        refine (cmpD_any _ _ (b.hi) (a.hi) _ (h8.rdD r_bh) (h8.rdD r_ah)).mono ?_
        rintro e v8 ⟨rfl, hb8⟩
        refine ⟨hb8, [.int .i64 (cmpD b.hi a.hi)], _, rfl, by kernel_rfl, by kernel_rfl, fun g8 => ?_⟩
        replace r_al := g8.rdD r_al; replace r_ah := g8.rdD r_ah; replace r_bl := g8.rdD r_bl; replace r_bh := g8.rdD r_bh
        clear h8 hb8
        refine sat_call #[.int .i64 (cmpD b.hi a.hi)] (by kernel_rfl) fun w9 h9 => ?_
        refine (within1_any _ _).mono ?_
        rintro e v9 ⟨rfl, hb9⟩
        refine ⟨hb9, [.bool (decide ((0 : Int) ≤ (cmpD b.hi a.hi)))], _, rfl, by kernel_rfl, by kernel_rfl, fun g9 => ?_⟩
        replace r_al := g9.rdD r_al; replace r_ah := g9.rdD r_ah; replace r_bl := g9.rdD r_bl; replace r_bh := g9.rdD r_bh
        clear h9 hb9
        exact sat_ret (.bool (decide ((0 : Int) ≤ (cmpD b.hi a.hi)))) (by kernel_rfl) fun w9 h9 => rfl

def tr_endsI : Sx.Tree := .chk [.lf 0, .lf 1, .lf 2, .lf 3, .lf 4, .lf 5] (.chk [.lf 6, .lf 7, .lf 8, .lf 9, .lf 10, .lf 11] (.call 52 [.ag [.lf 0, .lf 1, .lf 2, .lf 3, .lf 4, .lf 5]] .one (.ite (.lf 13) (.call 52 [.ag [.lf 6, .lf 7, .lf 8, .lf 9, .lf 10, .lf 11]] .one (.ite (.lf 14) (.call 47 [.ag [.lf 0, .lf 1, .lf 2], .ag [.lf 6, .lf 7, .lf 8]] .one (.call 91 [.one (.lf 15)] .one (.ite (.lf 16) (.call 47 [.ag [.lf 9, .lf 10, .lf 11], .ag [.lf 3, .lf 4, .lf 5]] .one (.call 91 [.one (.lf 17)] .one (.ret (.one (.lf 18))))) (.ret (.one (.bit false)))))) (.ret (.one (.bit false))))) (.ret (.one (.bit false))))))
theorem tr_endsI_eq : Sx.treeWith Tryz.prog 89 [(2, 91)] = some tr_endsI := by kernel_rfl

theorem ends_inside (v_a : Value) (v_b : Value) (a : Iv) (b : Iv) (w : World) (h_a : RdI w v_a a) (h_b : RdI w v_b b) :
    Calls Tryz.prog 89 #[v_a, v_b, .func (.func 91) #[] #[]] w fun e w' => e = .returned (.bool (mayI a && mayI b && decide (0 < cmpD a.lo b.lo) && decide (0 < cmpD b.hi a.hi))) ∧ Below w.heap.size w w' := by
  obtain ⟨A_a, n_a, c_a, B_a, m_a, k_a, rfl, r_al, r_ah⟩ := h_a
  obtain ⟨A_b, n_b, c_b, B_b, m_b, k_b, rfl, r_bl, r_bh⟩ := h_b
  refine (Sx.runF [(2, 91)] (ls := [.bool a.lo.neg, .slice A_a n_a c_a, .int .i64 a.lo.e, .bool a.hi.neg, .slice B_a m_a k_a, .int .i64 a.hi.e, .bool b.lo.neg, .slice A_b n_b c_b, .int .i64 b.lo.e, .bool b.hi.neg, .slice B_b m_b k_b, .int .i64 b.hi.e, .func (.func 91) #[] #[]]) (shs := [(true, 6), (true, 6), (false, 1)]) (R := fun v _ => v = .bool (mayI a && mayI b && decide (0 < cmpD a.lo b.lo) && decide (0 < cmpD b.hi a.hi))) (by kernel_rfl) tr_endsI_eq rfl (by decide) (by simp [Sx.tupV]) ?_).mono (fun e w' ⟨v, he, hv, hb⟩ => ⟨by rw [he, hv], hb⟩)
  unfold tr_endsI
  refine sat_chk (all_cons (okB _) (all_cons (okS _ _ _) (all_cons (okI _) (all_cons (okB _) (all_cons (okS _ _ _) (all_cons (okI _) (all_nil))))))) ?_
  refine sat_chk (all_cons (okB _) (all_cons (okS _ _ _) (all_cons (okI _) (all_cons (okB _) (all_cons (okS _ _ _) (all_cons (okI _) (all_nil))))))) ?_
  refine sat_call #[.agg #[.bool a.lo.neg, .slice A_a n_a c_a, .int .i64 a.lo.e, .bool a.hi.neg, .slice B_a m_a k_a, .int .i64 a.hi.e]] (by kernel_rfl) fun w1 h1 => ?_
  refine (mayI_any _ a _ (mkI (h1.rdD r_al) (h1.rdD r_ah))).mono ?_
  rintro e v1 ⟨rfl, hb1⟩
  refine ⟨hb1, [.bool (mayI a)], _, rfl, by kernel_rfl, by kernel_rfl, fun g1 => ?_⟩
  replace r_al := g1.rdD r_al; replace r_ah := g1.rdD r_ah; replace r_bl := g1.rdD r_bl; replace r_bh := g1.rdD r_bh
  clear h1 hb1
  cases hE2 : (mayI a)
  · refine sat_false (by kernel_rfl) ?_
    exact sat_ret (.bool false) (by kernel_rfl) fun w9 h9 => rfl
  · refine sat_true (by kernel_rfl) ?_
    refine sat_call #[.agg #[.bool b.lo.neg, .slice A_b n_b c_b, .int .i64 b.lo.e, .bool b.hi.neg, .slice B_b m_b k_b, .int .i64 b.hi.e]] (by kernel_rfl) fun w3 h3 => ?_
    refine (mayI_any _ b _ (mkI (h3.rdD r_bl) (h3.rdD r_bh))).mono ?_
    rintro e v3 ⟨rfl, hb3⟩
    refine ⟨hb3, [.bool (mayI b)], _, rfl, by kernel_rfl, by kernel_rfl, fun g3 => ?_⟩
    replace r_al := g3.rdD r_al; replace r_ah := g3.rdD r_ah; replace r_bl := g3.rdD r_bl; replace r_bh := g3.rdD r_bh
    clear h3 hb3
    cases hE4 : (mayI b)
    · refine sat_false (by kernel_rfl) ?_
      exact sat_ret (.bool false) (by kernel_rfl) fun w9 h9 => rfl
    · refine sat_true (by kernel_rfl) ?_
      refine sat_call #[.agg #[.bool a.lo.neg, .slice A_a n_a c_a, .int .i64 a.lo.e], .agg #[.bool b.lo.neg, .slice A_b n_b c_b, .int .i64 b.lo.e]] (by kernel_rfl) fun w5 h5 => ?_
      refine (cmpD_any _ _ (a.lo) (b.lo) _ (h5.rdD r_al) (h5.rdD r_bl)).mono ?_
      rintro e v5 ⟨rfl, hb5⟩
      refine ⟨hb5, [.int .i64 (cmpD a.lo b.lo)], _, rfl, by kernel_rfl, by kernel_rfl, fun g5 => ?_⟩
      replace r_al := g5.rdD r_al; replace r_ah := g5.rdD r_ah; replace r_bl := g5.rdD r_bl; replace r_bh := g5.rdD r_bh
      clear h5 hb5
      refine sat_call #[.int .i64 (cmpD a.lo b.lo)] (by kernel_rfl) fun w6 h6 => ?_
      refine (inside1_any _ _).mono ?_
      rintro e v6 ⟨rfl, hb6⟩
      refine ⟨hb6, [.bool (decide ((0 : Int) < (cmpD a.lo b.lo)))], _, rfl, by kernel_rfl, by kernel_rfl, fun g6 => ?_⟩
      replace r_al := g6.rdD r_al; replace r_ah := g6.rdD r_ah; replace r_bl := g6.rdD r_bl; replace r_bh := g6.rdD r_bh
      clear h6 hb6
      cases hE7 : (decide ((0 : Int) < (cmpD a.lo b.lo)))
      · refine sat_false (by kernel_rfl) ?_
        exact sat_ret (.bool false) (by kernel_rfl) fun w9 h9 => rfl
      · refine sat_true (by kernel_rfl) ?_
        refine sat_call #[.agg #[.bool b.hi.neg, .slice B_b m_b k_b, .int .i64 b.hi.e], .agg #[.bool a.hi.neg, .slice B_a m_a k_a, .int .i64 a.hi.e]] (by kernel_rfl) fun w8 h8 => ?_
        refine (cmpD_any _ _ (b.hi) (a.hi) _ (h8.rdD r_bh) (h8.rdD r_ah)).mono ?_
        rintro e v8 ⟨rfl, hb8⟩
        refine ⟨hb8, [.int .i64 (cmpD b.hi a.hi)], _, rfl, by kernel_rfl, by kernel_rfl, fun g8 => ?_⟩
        replace r_al := g8.rdD r_al; replace r_ah := g8.rdD r_ah; replace r_bl := g8.rdD r_bl; replace r_bh := g8.rdD r_bh
        clear h8 hb8
        refine sat_call #[.int .i64 (cmpD b.hi a.hi)] (by kernel_rfl) fun w9 h9 => ?_
        refine (inside1_any _ _).mono ?_
        rintro e v9 ⟨rfl, hb9⟩
        refine ⟨hb9, [.bool (decide ((0 : Int) < (cmpD b.hi a.hi)))], _, rfl, by kernel_rfl, by kernel_rfl, fun g9 => ?_⟩
        replace r_al := g9.rdD r_al; replace r_ah := g9.rdD r_ah; replace r_bl := g9.rdD r_bl; replace r_bh := g9.rdD r_bh
        clear h9 hb9
        exact sat_ret (.bool (decide ((0 : Int) < (cmpD b.hi a.hi)))) (by kernel_rfl) fun w9 h9 => rfl

def tr_iwithin : Sx.Tree := .chk [.lf 0, .lf 1, .lf 2, .lf 3, .lf 4, .lf 5] (.chk [.lf 6, .lf 7, .lf 8, .lf 9, .lf 10, .lf 11] (.call 89 [.ag [.lf 0, .lf 1, .lf 2, .lf 3, .lf 4, .lf 5], .ag [.lf 6, .lf 7, .lf 8, .lf 9, .lf 10, .lf 11], .one (.fn 90)] .one (.ret (.one (.lf 12)))))
theorem tr_iwithin_eq : Sx.treeOf Tryz.prog 57 = some tr_iwithin := by kernel_rfl

theorem withinI_any (v_a : Value) (v_b : Value) (a : Iv) (b : Iv) (w : World) (h_a : RdI w v_a a) (h_b : RdI w v_b b) :
    Calls Tryz.prog 57 #[v_a, v_b] w fun e w' => e = .returned (.bool (mayI a && mayI b && decide (0 ≤ cmpD a.lo b.lo) && decide (0 ≤ cmpD b.hi a.hi))) ∧ Below w.heap.size w w' := by
  obtain ⟨A_a, n_a, c_a, B_a, m_a, k_a, rfl, r_al, r_ah⟩ := h_a
  obtain ⟨A_b, n_b, c_b, B_b, m_b, k_b, rfl, r_bl, r_bh⟩ := h_b
  refine (Sx.run (ls := [.bool a.lo.neg, .slice A_a n_a c_a, .int .i64 a.lo.e, .bool a.hi.neg, .slice B_a m_a k_a, .int .i64 a.hi.e, .bool b.lo.neg, .slice A_b n_b c_b, .int .i64 b.lo.e, .bool b.hi.neg, .slice B_b m_b k_b, .int .i64 b.hi.e]) (shs := [(true, 6), (true, 6)]) (R := fun v _ => v = .bool (mayI a && mayI b && decide (0 ≤ cmpD a.lo b.lo) && decide (0 ≤ cmpD b.hi a.hi))) (by kernel_rfl) tr_iwithin_eq rfl (by decide) ?_).mono (fun e w' ⟨v, he, hv, hb⟩ => ⟨by rw [he, hv], hb⟩)
  unfold tr_iwithin
  refine sat_chk (all_cons (okB _) (all_cons (okS _ _ _) (all_cons (okI _) (all_cons (okB _) (all_cons (okS _ _ _) (all_cons (okI _) (all_nil))))))) ?_
  refine sat_chk (all_cons (okB _) (all_cons (okS _ _ _) (all_cons (okI _) (all_cons (okB _) (all_cons (okS _ _ _) (all_cons (okI _) (all_nil))))))) ?_
  refine sat_call #[.agg #[.bool a.lo.neg, .slice A_a n_a c_a, .int .i64 a.lo.e, .bool a.hi.neg, .slice B_a m_a k_a, .int .i64 a.hi.e], .agg #[.bool b.lo.neg, .slice A_b n_b c_b, .int .i64 b.lo.e, .bool b.hi.neg, .slice B_b m_b k_b, .int .i64 b.hi.e], .func (.func 90) #[] #[]] (by kernel_rfl) fun w1 h1 => ?_
  refine (ends_within _ _ a b _ (mkI (h1.rdD r_al) (h1.rdD r_ah)) (mkI (h1.rdD r_bl) (h1.rdD r_bh))).mono ?_
  rintro e v1 ⟨rfl, hb1⟩
  refine ⟨hb1, [.bool (withinI a b)], _, rfl, by kernel_rfl, by kernel_rfl, fun g1 => ?_⟩
  replace r_al := g1.rdD r_al; replace r_ah := g1.rdD r_ah; replace r_bl := g1.rdD r_bl; replace r_bh := g1.rdD r_bh
  clear h1 hb1
  exact sat_ret (.bool (withinI a b)) (by kernel_rfl) fun w9 h9 => rfl

def tr_iinside : Sx.Tree := .chk [.lf 0, .lf 1, .lf 2, .lf 3, .lf 4, .lf 5] (.chk [.lf 6, .lf 7, .lf 8, .lf 9, .lf 10, .lf 11] (.call 89 [.ag [.lf 0, .lf 1, .lf 2, .lf 3, .lf 4, .lf 5], .ag [.lf 6, .lf 7, .lf 8, .lf 9, .lf 10, .lf 11], .one (.fn 91)] .one (.ret (.one (.lf 12)))))
theorem tr_iinside_eq : Sx.treeOf Tryz.prog 59 = some tr_iinside := by kernel_rfl

theorem insideI_any (v_a : Value) (v_b : Value) (a : Iv) (b : Iv) (w : World) (h_a : RdI w v_a a) (h_b : RdI w v_b b) :
    Calls Tryz.prog 59 #[v_a, v_b] w fun e w' => e = .returned (.bool (mayI a && mayI b && decide (0 < cmpD a.lo b.lo) && decide (0 < cmpD b.hi a.hi))) ∧ Below w.heap.size w w' := by
  obtain ⟨A_a, n_a, c_a, B_a, m_a, k_a, rfl, r_al, r_ah⟩ := h_a
  obtain ⟨A_b, n_b, c_b, B_b, m_b, k_b, rfl, r_bl, r_bh⟩ := h_b
  refine (Sx.run (ls := [.bool a.lo.neg, .slice A_a n_a c_a, .int .i64 a.lo.e, .bool a.hi.neg, .slice B_a m_a k_a, .int .i64 a.hi.e, .bool b.lo.neg, .slice A_b n_b c_b, .int .i64 b.lo.e, .bool b.hi.neg, .slice B_b m_b k_b, .int .i64 b.hi.e]) (shs := [(true, 6), (true, 6)]) (R := fun v _ => v = .bool (mayI a && mayI b && decide (0 < cmpD a.lo b.lo) && decide (0 < cmpD b.hi a.hi))) (by kernel_rfl) tr_iinside_eq rfl (by decide) ?_).mono (fun e w' ⟨v, he, hv, hb⟩ => ⟨by rw [he, hv], hb⟩)
  unfold tr_iinside
  refine sat_chk (all_cons (okB _) (all_cons (okS _ _ _) (all_cons (okI _) (all_cons (okB _) (all_cons (okS _ _ _) (all_cons (okI _) (all_nil))))))) ?_
  refine sat_chk (all_cons (okB _) (all_cons (okS _ _ _) (all_cons (okI _) (all_cons (okB _) (all_cons (okS _ _ _) (all_cons (okI _) (all_nil))))))) ?_
  refine sat_call #[.agg #[.bool a.lo.neg, .slice A_a n_a c_a, .int .i64 a.lo.e, .bool a.hi.neg, .slice B_a m_a k_a, .int .i64 a.hi.e], .agg #[.bool b.lo.neg, .slice A_b n_b c_b, .int .i64 b.lo.e, .bool b.hi.neg, .slice B_b m_b k_b, .int .i64 b.hi.e], .func (.func 91) #[] #[]] (by kernel_rfl) fun w1 h1 => ?_
  refine (ends_inside _ _ a b _ (mkI (h1.rdD r_al) (h1.rdD r_ah)) (mkI (h1.rdD r_bl) (h1.rdD r_bh))).mono ?_
  rintro e v1 ⟨rfl, hb1⟩
  refine ⟨hb1, [.bool (insideI a b)], _, rfl, by kernel_rfl, by kernel_rfl, fun g1 => ?_⟩
  replace r_al := g1.rdD r_al; replace r_ah := g1.rdD r_ah; replace r_bl := g1.rdD r_bl; replace r_bh := g1.rdD r_bh
  clear h1 hb1
  exact sat_ret (.bool (insideI a b)) (by kernel_rfl) fun w9 h9 => rfl

/-- One number as an interval, as a function returns it. -/
def IvRet (w : World) (e : Ending) (d : Dy) : Prop := ∃ (A : Option Addr) (n c : Nat), e = .returned (.agg #[.bool d.neg, .slice A n c, .int .i64 d.e, .bool d.neg, .slice A n c, .int .i64 d.e]) ∧ RdD w (.agg #[.bool d.neg, .slice A n c, .int .i64 d.e]) d

def tr_iof : Sx.Tree := .chk [.lf 0, .lf 1, .lf 2] (.chk [.lf 0, .lf 1, .lf 2, .lf 0, .lf 1, .lf 2] (.chk [.lf 0, .lf 1, .lf 2, .lf 0, .lf 1, .lf 2] (.ret (.ag [.lf 0, .lf 1, .lf 2, .lf 0, .lf 1, .lf 2]))))
theorem tr_iof_eq : Sx.treeOf Tryz.prog 38 = some tr_iof := by kernel_rfl

theorem ofI_any (v_d : Value) (d : Dy) (w : World) (h_d : RdD w v_d d) :
    Calls Tryz.prog 38 #[v_d] w fun e w' => IvRet w' e d ∧ Below w.heap.size w w' := by
  have r_d := h_d
  obtain ⟨A_d, n_d, c_d, rfl, _⟩ := h_d
  refine (Sx.run (ls := [.bool d.neg, .slice A_d n_d c_d, .int .i64 d.e]) (shs := [(true, 3)]) (R := fun v w' => IvRet w' (.returned v) d) (by kernel_rfl) tr_iof_eq rfl (by decide) ?_).mono (fun e w' ⟨v, he, hv, hb⟩ => ⟨by rw [he]; exact hv, hb⟩)
  unfold tr_iof
  refine sat_chk (all_cons (okB _) (all_cons (okS _ _ _) (all_cons (okI _) (all_nil)))) ?_
  refine sat_chk (all_cons (okB _) (all_cons (okS _ _ _) (all_cons (okI _) (all_cons (okB _) (all_cons (okS _ _ _) (all_cons (okI _) (all_nil))))))) ?_
  refine sat_chk (all_cons (okB _) (all_cons (okS _ _ _) (all_cons (okI _) (all_cons (okB _) (all_cons (okS _ _ _) (all_cons (okI _) (all_nil))))))) ?_
  exact sat_ret (.agg #[.bool d.neg, .slice A_d n_d c_d, .int .i64 d.e, .bool d.neg, .slice A_d n_d c_d, .int .i64 d.e]) (by kernel_rfl) fun w9 h9 => ⟨A_d, n_d, c_d, rfl, h9.rdD r_d⟩

def tr_rimay : Sx.Tree := .chk [.lf 0, .lf 1, .lf 2, .lf 3, .lf 4, .lf 5] (.call 73 [.ag [.lf 0, .lf 1, .lf 2]] .one (.ite (.lf 6) (.call 73 [.ag [.lf 3, .lf 4, .lf 5]] .one (.ite (.lf 7) (.call 87 [.ag [.lf 0, .lf 1, .lf 2], .ag [.lf 3, .lf 4, .lf 5]] .one (.prim (.bin .leq) [.lf 8, .num .i64 0] (.ret (.one (.lf 9))))) (.ret (.one (.bit false))))) (.ret (.one (.bit false)))))
theorem tr_rimay_eq : Sx.treeOf Tryz.prog 53 = some tr_rimay := by kernel_rfl

theorem rmayI_any (v_a : Value) (a : Iv) (w : World) (h_a : RdI w v_a a) :
    Calls Tryz.prog 53 #[v_a] w fun e w' => e = .returned (.bool (mayD a.lo && mayD a.hi && decide (cmpD a.lo a.hi ≤ 0))) ∧ Below w.heap.size w w' := by
  obtain ⟨A_a, n_a, c_a, B_a, m_a, k_a, rfl, r_al, r_ah⟩ := h_a
  refine (Sx.run (ls := [.bool a.lo.neg, .slice A_a n_a c_a, .int .i64 a.lo.e, .bool a.hi.neg, .slice B_a m_a k_a, .int .i64 a.hi.e]) (shs := [(true, 6)]) (R := fun v _ => v = .bool (mayD a.lo && mayD a.hi && decide (cmpD a.lo a.hi ≤ 0))) (by kernel_rfl) tr_rimay_eq rfl (by decide) ?_).mono (fun e w' ⟨v, he, hv, hb⟩ => ⟨by rw [he, hv], hb⟩)
  unfold tr_rimay
  refine sat_chk (all_cons (okB _) (all_cons (okS _ _ _) (all_cons (okI _) (all_cons (okB _) (all_cons (okS _ _ _) (all_cons (okI _) (all_nil))))))) ?_
  refine sat_call #[.agg #[.bool a.lo.neg, .slice A_a n_a c_a, .int .i64 a.lo.e]] (by kernel_rfl) fun w1 h1 => ?_
  refine (rmayD_any _ (a.lo) _ (h1.rdD r_al)).mono ?_
  rintro e v1 ⟨rfl, hb1⟩
  refine ⟨hb1, [.bool (mayD a.lo)], _, rfl, by kernel_rfl, by kernel_rfl, fun g1 => ?_⟩
  replace r_al := g1.rdD r_al; replace r_ah := g1.rdD r_ah
  clear h1 hb1
  cases hE2 : (mayD a.lo)
  · refine sat_false (by kernel_rfl) ?_
    exact sat_ret (.bool false) (by kernel_rfl) fun w9 h9 => rfl
  · refine sat_true (by kernel_rfl) ?_
    refine sat_call #[.agg #[.bool a.hi.neg, .slice B_a m_a k_a, .int .i64 a.hi.e]] (by kernel_rfl) fun w3 h3 => ?_
    refine (rmayD_any _ (a.hi) _ (h3.rdD r_ah)).mono ?_
    rintro e v3 ⟨rfl, hb3⟩
    refine ⟨hb3, [.bool (mayD a.hi)], _, rfl, by kernel_rfl, by kernel_rfl, fun g3 => ?_⟩
    replace r_al := g3.rdD r_al; replace r_ah := g3.rdD r_ah
    clear h3 hb3
    cases hE4 : (mayD a.hi)
    · refine sat_false (by kernel_rfl) ?_
      exact sat_ret (.bool false) (by kernel_rfl) fun w9 h9 => rfl
    · refine sat_true (by kernel_rfl) ?_
      refine sat_call #[.agg #[.bool a.lo.neg, .slice A_a n_a c_a, .int .i64 a.lo.e], .agg #[.bool a.hi.neg, .slice B_a m_a k_a, .int .i64 a.hi.e]] (by kernel_rfl) fun w5 h5 => ?_
      refine (rcmpD_any _ _ (a.lo) (a.hi) _ (h5.rdD r_al) (h5.rdD r_ah)).mono ?_
      rintro e v5 ⟨rfl, hb5⟩
      refine ⟨hb5, [.int .i64 (cmpD a.lo a.hi)], _, rfl, by kernel_rfl, by kernel_rfl, fun g5 => ?_⟩
      replace r_al := g5.rdD r_al; replace r_ah := g5.rdD r_ah
      clear h5 hb5
      refine sat_prim (v := .bool (decide (((cmpD a.lo a.hi) : Int) ≤ 0))) (by kernel_rfl) ?_
      exact sat_ret (.bool (decide (((cmpD a.lo a.hi) : Int) ≤ 0))) (by kernel_rfl) fun w9 h9 => rfl

def tr_riwithin : Sx.Tree := .chk [.lf 0, .lf 1, .lf 2, .lf 3, .lf 4, .lf 5] (.chk [.lf 6, .lf 7, .lf 8, .lf 9, .lf 10, .lf 11] (.call 53 [.ag [.lf 0, .lf 1, .lf 2, .lf 3, .lf 4, .lf 5]] .one (.ite (.lf 12) (.call 53 [.ag [.lf 6, .lf 7, .lf 8, .lf 9, .lf 10, .lf 11]] .one (.ite (.lf 13) (.call 49 [.ag [.lf 0, .lf 1, .lf 2], .ag [.lf 6, .lf 7, .lf 8]] .one (.prim .not [.lf 14] (.ite (.lf 15) (.call 49 [.ag [.lf 9, .lf 10, .lf 11], .ag [.lf 3, .lf 4, .lf 5]] .one (.prim .not [.lf 16] (.ret (.one (.lf 17))))) (.ret (.one (.bit false)))))) (.ret (.one (.bit false))))) (.ret (.one (.bit false))))))
theorem tr_riwithin_eq : Sx.treeOf Tryz.prog 58 = some tr_riwithin := by kernel_rfl

theorem rwithinI_any (v_a : Value) (v_b : Value) (a : Iv) (b : Iv) (w : World) (h_a : RdI w v_a a) (h_b : RdI w v_b b) :
    Calls Tryz.prog 58 #[v_a, v_b] w fun e w' => e = .returned (.bool (mayI a && mayI b && decide (0 ≤ cmpD a.lo b.lo) && decide (0 ≤ cmpD b.hi a.hi))) ∧ Below w.heap.size w w' := by
  obtain ⟨A_a, n_a, c_a, B_a, m_a, k_a, rfl, r_al, r_ah⟩ := h_a
  obtain ⟨A_b, n_b, c_b, B_b, m_b, k_b, rfl, r_bl, r_bh⟩ := h_b
  refine (Sx.run (ls := [.bool a.lo.neg, .slice A_a n_a c_a, .int .i64 a.lo.e, .bool a.hi.neg, .slice B_a m_a k_a, .int .i64 a.hi.e, .bool b.lo.neg, .slice A_b n_b c_b, .int .i64 b.lo.e, .bool b.hi.neg, .slice B_b m_b k_b, .int .i64 b.hi.e]) (shs := [(true, 6), (true, 6)]) (R := fun v _ => v = .bool (mayI a && mayI b && decide (0 ≤ cmpD a.lo b.lo) && decide (0 ≤ cmpD b.hi a.hi))) (by kernel_rfl) tr_riwithin_eq rfl (by decide) ?_).mono (fun e w' ⟨v, he, hv, hb⟩ => ⟨by rw [he, hv], hb⟩)
  unfold tr_riwithin
  refine sat_chk (all_cons (okB _) (all_cons (okS _ _ _) (all_cons (okI _) (all_cons (okB _) (all_cons (okS _ _ _) (all_cons (okI _) (all_nil))))))) ?_
  refine sat_chk (all_cons (okB _) (all_cons (okS _ _ _) (all_cons (okI _) (all_cons (okB _) (all_cons (okS _ _ _) (all_cons (okI _) (all_nil))))))) ?_
  refine sat_call #[.agg #[.bool a.lo.neg, .slice A_a n_a c_a, .int .i64 a.lo.e, .bool a.hi.neg, .slice B_a m_a k_a, .int .i64 a.hi.e]] (by kernel_rfl) fun w1 h1 => ?_
  refine (rmayI_any _ a _ (mkI (h1.rdD r_al) (h1.rdD r_ah))).mono ?_
  rintro e v1 ⟨rfl, hb1⟩
  refine ⟨hb1, [.bool (mayI a)], _, rfl, by kernel_rfl, by kernel_rfl, fun g1 => ?_⟩
  replace r_al := g1.rdD r_al; replace r_ah := g1.rdD r_ah; replace r_bl := g1.rdD r_bl; replace r_bh := g1.rdD r_bh
  clear h1 hb1
  cases hE2 : (mayI a)
  · refine sat_false (by kernel_rfl) ?_
    exact sat_ret (.bool false) (by kernel_rfl) fun w9 h9 => congrArg Value.bool (by simp)
  · refine sat_true (by kernel_rfl) ?_
    refine sat_call #[.agg #[.bool b.lo.neg, .slice A_b n_b c_b, .int .i64 b.lo.e, .bool b.hi.neg, .slice B_b m_b k_b, .int .i64 b.hi.e]] (by kernel_rfl) fun w3 h3 => ?_
    refine (rmayI_any _ b _ (mkI (h3.rdD r_bl) (h3.rdD r_bh))).mono ?_
    rintro e v3 ⟨rfl, hb3⟩
    refine ⟨hb3, [.bool (mayI b)], _, rfl, by kernel_rfl, by kernel_rfl, fun g3 => ?_⟩
    replace r_al := g3.rdD r_al; replace r_ah := g3.rdD r_ah; replace r_bl := g3.rdD r_bl; replace r_bh := g3.rdD r_bh
    clear h3 hb3
    cases hE4 : (mayI b)
    · refine sat_false (by kernel_rfl) ?_
      exact sat_ret (.bool false) (by kernel_rfl) fun w9 h9 => congrArg Value.bool (by simp)
    · refine sat_true (by kernel_rfl) ?_
      refine sat_call #[.agg #[.bool a.lo.neg, .slice A_a n_a c_a, .int .i64 a.lo.e], .agg #[.bool b.lo.neg, .slice A_b n_b c_b, .int .i64 b.lo.e]] (by kernel_rfl) fun w5 h5 => ?_
      refine (less_any _ _ (a.lo) (b.lo) _ (h5.rdD r_al) (h5.rdD r_bl)).mono ?_
      rw [lt_ge (a.lo) (b.lo)]
      rintro e v5 ⟨rfl, hb5⟩
      refine ⟨hb5, [.bool (!(decide (0 ≤ cmpD a.lo b.lo)))], _, rfl, by kernel_rfl, by kernel_rfl, fun g5 => ?_⟩
      replace r_al := g5.rdD r_al; replace r_ah := g5.rdD r_ah; replace r_bl := g5.rdD r_bl; replace r_bh := g5.rdD r_bh
      clear h5 hb5
      refine sat_prim (v := .bool (!(!(decide (0 ≤ cmpD a.lo b.lo))))) (by kernel_rfl) ?_
      cases hE6 : (decide (0 ≤ cmpD a.lo b.lo))
      · refine sat_false (by kernel_rfl) ?_
        exact sat_ret (.bool false) (by kernel_rfl) fun w9 h9 => congrArg Value.bool (by simp)
      · refine sat_true (by kernel_rfl) ?_
        refine sat_call #[.agg #[.bool b.hi.neg, .slice B_b m_b k_b, .int .i64 b.hi.e], .agg #[.bool a.hi.neg, .slice B_a m_a k_a, .int .i64 a.hi.e]] (by kernel_rfl) fun w7 h7 => ?_
        refine (less_any _ _ (b.hi) (a.hi) _ (h7.rdD r_bh) (h7.rdD r_ah)).mono ?_
        rw [lt_ge (b.hi) (a.hi)]
        rintro e v7 ⟨rfl, hb7⟩
        refine ⟨hb7, [.bool (!(decide (0 ≤ cmpD b.hi a.hi)))], _, rfl, by kernel_rfl, by kernel_rfl, fun g7 => ?_⟩
        replace r_al := g7.rdD r_al; replace r_ah := g7.rdD r_ah; replace r_bl := g7.rdD r_bl; replace r_bh := g7.rdD r_bh
        clear h7 hb7
        refine sat_prim (v := .bool (!(!(decide (0 ≤ cmpD b.hi a.hi))))) (by kernel_rfl) ?_
        exact sat_ret (.bool (!(!(decide (0 ≤ cmpD b.hi a.hi))))) (by kernel_rfl) fun w9 h9 => congrArg Value.bool (by simp)

def tr_riinside : Sx.Tree := .chk [.lf 0, .lf 1, .lf 2, .lf 3, .lf 4, .lf 5] (.chk [.lf 6, .lf 7, .lf 8, .lf 9, .lf 10, .lf 11] (.call 53 [.ag [.lf 0, .lf 1, .lf 2, .lf 3, .lf 4, .lf 5]] .one (.ite (.lf 12) (.call 53 [.ag [.lf 6, .lf 7, .lf 8, .lf 9, .lf 10, .lf 11]] .one (.ite (.lf 13) (.call 49 [.ag [.lf 6, .lf 7, .lf 8], .ag [.lf 0, .lf 1, .lf 2]] .one (.ite (.lf 14) (.call 49 [.ag [.lf 3, .lf 4, .lf 5], .ag [.lf 9, .lf 10, .lf 11]] .one (.ret (.one (.lf 15)))) (.ret (.one (.bit false))))) (.ret (.one (.bit false))))) (.ret (.one (.bit false))))))
theorem tr_riinside_eq : Sx.treeOf Tryz.prog 60 = some tr_riinside := by kernel_rfl

theorem rinsideI_any (v_a : Value) (v_b : Value) (a : Iv) (b : Iv) (w : World) (h_a : RdI w v_a a) (h_b : RdI w v_b b) :
    Calls Tryz.prog 60 #[v_a, v_b] w fun e w' => e = .returned (.bool (mayI a && mayI b && decide (0 < cmpD a.lo b.lo) && decide (0 < cmpD b.hi a.hi))) ∧ Below w.heap.size w w' := by
  obtain ⟨A_a, n_a, c_a, B_a, m_a, k_a, rfl, r_al, r_ah⟩ := h_a
  obtain ⟨A_b, n_b, c_b, B_b, m_b, k_b, rfl, r_bl, r_bh⟩ := h_b
  refine (Sx.run (ls := [.bool a.lo.neg, .slice A_a n_a c_a, .int .i64 a.lo.e, .bool a.hi.neg, .slice B_a m_a k_a, .int .i64 a.hi.e, .bool b.lo.neg, .slice A_b n_b c_b, .int .i64 b.lo.e, .bool b.hi.neg, .slice B_b m_b k_b, .int .i64 b.hi.e]) (shs := [(true, 6), (true, 6)]) (R := fun v _ => v = .bool (mayI a && mayI b && decide (0 < cmpD a.lo b.lo) && decide (0 < cmpD b.hi a.hi))) (by kernel_rfl) tr_riinside_eq rfl (by decide) ?_).mono (fun e w' ⟨v, he, hv, hb⟩ => ⟨by rw [he, hv], hb⟩)
  unfold tr_riinside
  refine sat_chk (all_cons (okB _) (all_cons (okS _ _ _) (all_cons (okI _) (all_cons (okB _) (all_cons (okS _ _ _) (all_cons (okI _) (all_nil))))))) ?_
  refine sat_chk (all_cons (okB _) (all_cons (okS _ _ _) (all_cons (okI _) (all_cons (okB _) (all_cons (okS _ _ _) (all_cons (okI _) (all_nil))))))) ?_
  refine sat_call #[.agg #[.bool a.lo.neg, .slice A_a n_a c_a, .int .i64 a.lo.e, .bool a.hi.neg, .slice B_a m_a k_a, .int .i64 a.hi.e]] (by kernel_rfl) fun w1 h1 => ?_
  refine (rmayI_any _ a _ (mkI (h1.rdD r_al) (h1.rdD r_ah))).mono ?_
  rintro e v1 ⟨rfl, hb1⟩
  refine ⟨hb1, [.bool (mayI a)], _, rfl, by kernel_rfl, by kernel_rfl, fun g1 => ?_⟩
  replace r_al := g1.rdD r_al; replace r_ah := g1.rdD r_ah; replace r_bl := g1.rdD r_bl; replace r_bh := g1.rdD r_bh
  clear h1 hb1
  cases hE2 : (mayI a)
  · refine sat_false (by kernel_rfl) ?_
    exact sat_ret (.bool false) (by kernel_rfl) fun w9 h9 => congrArg Value.bool (by simp)
  · refine sat_true (by kernel_rfl) ?_
    refine sat_call #[.agg #[.bool b.lo.neg, .slice A_b n_b c_b, .int .i64 b.lo.e, .bool b.hi.neg, .slice B_b m_b k_b, .int .i64 b.hi.e]] (by kernel_rfl) fun w3 h3 => ?_
    refine (rmayI_any _ b _ (mkI (h3.rdD r_bl) (h3.rdD r_bh))).mono ?_
    rintro e v3 ⟨rfl, hb3⟩
    refine ⟨hb3, [.bool (mayI b)], _, rfl, by kernel_rfl, by kernel_rfl, fun g3 => ?_⟩
    replace r_al := g3.rdD r_al; replace r_ah := g3.rdD r_ah; replace r_bl := g3.rdD r_bl; replace r_bh := g3.rdD r_bh
    clear h3 hb3
    cases hE4 : (mayI b)
    · refine sat_false (by kernel_rfl) ?_
      exact sat_ret (.bool false) (by kernel_rfl) fun w9 h9 => congrArg Value.bool (by simp)
    · refine sat_true (by kernel_rfl) ?_
      refine sat_call #[.agg #[.bool b.lo.neg, .slice A_b n_b c_b, .int .i64 b.lo.e], .agg #[.bool a.lo.neg, .slice A_a n_a c_a, .int .i64 a.lo.e]] (by kernel_rfl) fun w5 h5 => ?_
      refine (less_any _ _ (b.lo) (a.lo) _ (h5.rdD r_bl) (h5.rdD r_al)).mono ?_
      rw [lt_gt r_bl.lim r_al.lim]
      rintro e v5 ⟨rfl, hb5⟩
      refine ⟨hb5, [.bool (decide (0 < cmpD a.lo b.lo))], _, rfl, by kernel_rfl, by kernel_rfl, fun g5 => ?_⟩
      replace r_al := g5.rdD r_al; replace r_ah := g5.rdD r_ah; replace r_bl := g5.rdD r_bl; replace r_bh := g5.rdD r_bh
      clear h5 hb5
      cases hE6 : (decide (0 < cmpD a.lo b.lo))
      · refine sat_false (by kernel_rfl) ?_
        exact sat_ret (.bool false) (by kernel_rfl) fun w9 h9 => congrArg Value.bool (by simp)
      · refine sat_true (by kernel_rfl) ?_
        refine sat_call #[.agg #[.bool a.hi.neg, .slice B_a m_a k_a, .int .i64 a.hi.e], .agg #[.bool b.hi.neg, .slice B_b m_b k_b, .int .i64 b.hi.e]] (by kernel_rfl) fun w7 h7 => ?_
        refine (less_any _ _ (a.hi) (b.hi) _ (h7.rdD r_ah) (h7.rdD r_bh)).mono ?_
        rw [lt_gt r_ah.lim r_bh.lim]
        rintro e v7 ⟨rfl, hb7⟩
        refine ⟨hb7, [.bool (decide (0 < cmpD b.hi a.hi))], _, rfl, by kernel_rfl, by kernel_rfl, fun g7 => ?_⟩
        replace r_al := g7.rdD r_al; replace r_ah := g7.rdD r_ah; replace r_bl := g7.rdD r_bl; replace r_bh := g7.rdD r_bh
        clear h7 hb7
        exact sat_ret (.bool (decide (0 < cmpD b.hi a.hi))) (by kernel_rfl) fun w9 h9 => congrArg Value.bool (by simp)

def tr_risame : Sx.Tree := .chk [.lf 0, .lf 1, .lf 2, .lf 3, .lf 4, .lf 5] (.chk [.lf 6, .lf 7, .lf 8, .lf 9, .lf 10, .lf 11] (.call 15 [.ag [.lf 0, .lf 1, .lf 2], .ag [.lf 6, .lf 7, .lf 8]] .one (.ite (.lf 12) (.call 15 [.ag [.lf 3, .lf 4, .lf 5], .ag [.lf 9, .lf 10, .lf 11]] .one (.ret (.one (.lf 13)))) (.ret (.one (.bit false))))))
theorem tr_risame_eq : Sx.treeOf Tryz.prog 54 = some tr_risame := by kernel_rfl

theorem rsameI_any (v_a : Value) (v_b : Value) (a : Iv) (b : Iv) (w : World) (h_a : RdI w v_a a) (h_b : RdI w v_b b) :
    Calls Tryz.prog 54 #[v_a, v_b] w fun e w' => e = .returned (.bool (sameD a.lo b.lo && sameD a.hi b.hi)) ∧ Below w.heap.size w w' := by
  obtain ⟨A_a, n_a, c_a, B_a, m_a, k_a, rfl, r_al, r_ah⟩ := h_a
  obtain ⟨A_b, n_b, c_b, B_b, m_b, k_b, rfl, r_bl, r_bh⟩ := h_b
  refine (Sx.run (ls := [.bool a.lo.neg, .slice A_a n_a c_a, .int .i64 a.lo.e, .bool a.hi.neg, .slice B_a m_a k_a, .int .i64 a.hi.e, .bool b.lo.neg, .slice A_b n_b c_b, .int .i64 b.lo.e, .bool b.hi.neg, .slice B_b m_b k_b, .int .i64 b.hi.e]) (shs := [(true, 6), (true, 6)]) (R := fun v _ => v = .bool (sameD a.lo b.lo && sameD a.hi b.hi)) (by kernel_rfl) tr_risame_eq rfl (by decide) ?_).mono (fun e w' ⟨v, he, hv, hb⟩ => ⟨by rw [he, hv], hb⟩)
  unfold tr_risame
  refine sat_chk (all_cons (okB _) (all_cons (okS _ _ _) (all_cons (okI _) (all_cons (okB _) (all_cons (okS _ _ _) (all_cons (okI _) (all_nil))))))) ?_
  refine sat_chk (all_cons (okB _) (all_cons (okS _ _ _) (all_cons (okI _) (all_cons (okB _) (all_cons (okS _ _ _) (all_cons (okI _) (all_nil))))))) ?_
  refine sat_call #[.agg #[.bool a.lo.neg, .slice A_a n_a c_a, .int .i64 a.lo.e], .agg #[.bool b.lo.neg, .slice A_b n_b c_b, .int .i64 b.lo.e]] (by kernel_rfl) fun w1 h1 => ?_
  refine (rsame_any _ _ (a.lo) (b.lo) _ (h1.rdD r_al) (h1.rdD r_bl)).mono ?_
  rintro e v1 ⟨rfl, hb1⟩
  refine ⟨hb1, [.bool (sameD a.lo b.lo)], _, rfl, by kernel_rfl, by kernel_rfl, fun g1 => ?_⟩
  replace r_al := g1.rdD r_al; replace r_ah := g1.rdD r_ah; replace r_bl := g1.rdD r_bl; replace r_bh := g1.rdD r_bh
  clear h1 hb1
  cases hE2 : (sameD a.lo b.lo)
  · refine sat_false (by kernel_rfl) ?_
    exact sat_ret (.bool false) (by kernel_rfl) fun w9 h9 => rfl
  · refine sat_true (by kernel_rfl) ?_
    refine sat_call #[.agg #[.bool a.hi.neg, .slice B_a m_a k_a, .int .i64 a.hi.e], .agg #[.bool b.hi.neg, .slice B_b m_b k_b, .int .i64 b.hi.e]] (by kernel_rfl) fun w3 h3 => ?_
    refine (rsame_any _ _ (a.hi) (b.hi) _ (h3.rdD r_ah) (h3.rdD r_bh)).mono ?_
    rintro e v3 ⟨rfl, hb3⟩
    refine ⟨hb3, [.bool (sameD a.hi b.hi)], _, rfl, by kernel_rfl, by kernel_rfl, fun g3 => ?_⟩
    replace r_al := g3.rdD r_al; replace r_ah := g3.rdD r_ah; replace r_bl := g3.rdD r_bl; replace r_bh := g3.rdD r_bh
    clear h3 hb3
    exact sat_ret (.bool (sameD a.hi b.hi)) (by kernel_rfl) fun w9 h9 => rfl

theorem mayI_parts {a : Iv} (h : mayI a = true) : mayD a.lo = true ∧ mayD a.hi = true ∧ cmpD a.lo a.hi ≤ 0 := by
  unfold mayI at h
  simp only [Bool.and_eq_true, decide_eq_true_eq] at h
  exact ⟨h.1.1, h.1.2, h.2⟩
def widthI (a : Iv) : Dy × Int := bif mayI a then twoS a.hi a.lo (subS a.hi a.lo) else (Dy.zero, 1)
def midI (a : Iv) : Dy × Int := bif mayI a then (bif (twoS a.lo a.hi (sumS a.lo a.hi)).2 != 0 then (Dy.zero, (twoS a.lo a.hi (sumS a.lo a.hi)).2) else shiftS (twoS a.lo a.hi (sumS a.lo a.hi)).1 (-1)) else (Dy.zero, 1)

def tr_iwidth : Sx.Tree := .chk [.lf 0, .lf 1, .lf 2, .lf 3, .lf 4, .lf 5] (.call 52 [.ag [.lf 0, .lf 1, .lf 2, .lf 3, .lf 4, .lf 5]] .one (.prim .not [.lf 6] (.ite (.lf 7) (.ret (.tup [(true, [.bit false, .nil, .num .i64 0]), (false, [.num .i64 1])])) (.call 83 [.ag [.lf 3, .lf 4, .lf 5], .ag [.lf 0, .lf 1, .lf 2]] (.tup [(true, 3), (false, 1)]) (.chk [.lf 8, .lf 9, .lf 10] (.ret (.tup [(true, [.lf 8, .lf 9, .lf 10]), (false, [.lf 11])])))))))
theorem tr_iwidth_eq : Sx.treeOf Tryz.prog 46 = some tr_iwidth := by kernel_rfl

theorem widthI_any (v_a : Value) (a : Iv) (w : World) (h_a : RdI w v_a a) (hT : TabAt w) :
    Calls Tryz.prog 46 #[v_a] w fun e w' => DyTup w' e (widthI a) ∧ Below w.heap.size w w' := by
  obtain ⟨A_a, n_a, c_a, B_a, m_a, k_a, rfl, r_al, r_ah⟩ := h_a
  refine (Sx.run (ls := [.bool a.lo.neg, .slice A_a n_a c_a, .int .i64 a.lo.e, .bool a.hi.neg, .slice B_a m_a k_a, .int .i64 a.hi.e]) (shs := [(true, 6)]) (R := fun v w' => DyTup w' (.returned v) (widthI a)) (by kernel_rfl) tr_iwidth_eq rfl (by decide) ?_).mono (fun e w' ⟨v, he, hv, hb⟩ => ⟨by rw [he]; exact hv, hb⟩)
  unfold tr_iwidth
  refine sat_chk (all_cons (okB _) (all_cons (okS _ _ _) (all_cons (okI _) (all_cons (okB _) (all_cons (okS _ _ _) (all_cons (okI _) (all_nil))))))) ?_
  refine sat_call #[.agg #[.bool a.lo.neg, .slice A_a n_a c_a, .int .i64 a.lo.e, .bool a.hi.neg, .slice B_a m_a k_a, .int .i64 a.hi.e]] (by kernel_rfl) fun w1 h1 => ?_
  refine (mayI_any _ a _ (mkI (h1.rdD r_al) (h1.rdD r_ah))).mono ?_
  rintro e v1 ⟨rfl, hb1⟩
  refine ⟨hb1, [.bool (mayI a)], _, rfl, by kernel_rfl, by kernel_rfl, fun g1 => ?_⟩
  replace r_al := g1.rdD r_al; replace r_ah := g1.rdD r_ah
  clear h1 hb1
  refine sat_prim (v := .bool (!(mayI a))) (by kernel_rfl) ?_
  cases hE2 : (mayI a)
  · refine sat_true (by kernel_rfl) ?_
    exact sat_ret (.tuple #[.agg #[.bool false, .slice none 0 0, .int .i64 0], .int .i64 1]) (by kernel_rfl) fun w9 h9 => ⟨Dy.zero, 1, none, 0, 0, hide (by unfold widthI; rw [hE2]; rfl), rfl, RdD.zero _⟩
  · refine sat_false (by kernel_rfl) ?_
    refine sat_call #[.agg #[.bool a.hi.neg, .slice B_a m_a k_a, .int .i64 a.hi.e], .agg #[.bool a.lo.neg, .slice A_a n_a c_a, .int .i64 a.lo.e]] (by kernel_rfl) fun w3 h3 => ?_
    refine (subT _ _ (a.hi) (a.lo) _ (h3.rdD r_ah) (h3.rdD r_al) (h3.tab hT)).mono ?_
    rintro e v3 ⟨⟨d_s1, x_s1, A_s1, n_s1, c_s1, h_s1, rfl, r_s1⟩, hb3⟩
    refine ⟨hb3, [.bool d_s1.neg, .slice A_s1 n_s1 c_s1, .int .i64 d_s1.e, .int .i64 x_s1], _, rfl, by kernel_rfl, by kernel_rfl, fun g3 => ?_⟩
    replace r_al := g3.rdD r_al; replace r_ah := g3.rdD r_ah
    clear h3 hb3
    refine sat_chk (all_cons (okB _) (all_cons (okS _ _ _) (all_cons (okI _) (all_nil)))) ?_
    exact sat_ret (.tuple #[.agg #[.bool d_s1.neg, .slice A_s1 n_s1 c_s1, .int .i64 d_s1.e], .int .i64 x_s1]) (by kernel_rfl) fun w9 h9 => ⟨d_s1, x_s1, A_s1, n_s1, c_s1, hide (by rw [h_s1.out]; unfold widthI; rw [hE2]; rfl), rfl, h9.rdD r_s1⟩

def tr_imid : Sx.Tree := .chk [.lf 0, .lf 1, .lf 2, .lf 3, .lf 4, .lf 5] (.call 52 [.ag [.lf 0, .lf 1, .lf 2, .lf 3, .lf 4, .lf 5]] .one (.prim .not [.lf 6] (.ite (.lf 7) (.ret (.tup [(true, [.bit false, .nil, .num .i64 0]), (false, [.num .i64 1])])) (.call 96 [.ag [.lf 0, .lf 1, .lf 2], .ag [.lf 3, .lf 4, .lf 5]] (.tup [(true, 3), (false, 1)]) (.chk [.lf 8, .lf 9, .lf 10] (.prim (.bin .neq) [.lf 11, .num .i64 0] (.ite (.lf 12) (.ret (.tup [(true, [.bit false, .nil, .num .i64 0]), (false, [.lf 11])])) (.call 97 [.ag [.lf 8, .lf 9, .lf 10], .one (.num .i64 ((-1)))] (.tup [(true, 3), (false, 1)]) (.chk [.lf 13, .lf 14, .lf 15] (.ret (.tup [(true, [.lf 13, .lf 14, .lf 15]), (false, [.lf 16])])))))))))))
theorem tr_imid_eq : Sx.treeOf Tryz.prog 68 = some tr_imid := by kernel_rfl

theorem midI_any (v_a : Value) (a : Iv) (w : World) (h_a : RdI w v_a a) (hT : TabAt w) :
    Calls Tryz.prog 68 #[v_a] w fun e w' => DyTup w' e (midI a) ∧ Below w.heap.size w w' := by
  obtain ⟨A_a, n_a, c_a, B_a, m_a, k_a, rfl, r_al, r_ah⟩ := h_a
  refine (Sx.run (ls := [.bool a.lo.neg, .slice A_a n_a c_a, .int .i64 a.lo.e, .bool a.hi.neg, .slice B_a m_a k_a, .int .i64 a.hi.e]) (shs := [(true, 6)]) (R := fun v w' => DyTup w' (.returned v) (midI a)) (by kernel_rfl) tr_imid_eq rfl (by decide) ?_).mono (fun e w' ⟨v, he, hv, hb⟩ => ⟨by rw [he]; exact hv, hb⟩)
  unfold tr_imid
  refine sat_chk (all_cons (okB _) (all_cons (okS _ _ _) (all_cons (okI _) (all_cons (okB _) (all_cons (okS _ _ _) (all_cons (okI _) (all_nil))))))) ?_
  refine sat_call #[.agg #[.bool a.lo.neg, .slice A_a n_a c_a, .int .i64 a.lo.e, .bool a.hi.neg, .slice B_a m_a k_a, .int .i64 a.hi.e]] (by kernel_rfl) fun w1 h1 => ?_
  refine (mayI_any _ a _ (mkI (h1.rdD r_al) (h1.rdD r_ah))).mono ?_
  rintro e v1 ⟨rfl, hb1⟩
  refine ⟨hb1, [.bool (mayI a)], _, rfl, by kernel_rfl, by kernel_rfl, fun g1 => ?_⟩
  replace r_al := g1.rdD r_al; replace r_ah := g1.rdD r_ah
  clear h1 hb1
  refine sat_prim (v := .bool (!(mayI a))) (by kernel_rfl) ?_
  cases hE2 : (mayI a)
  · refine sat_true (by kernel_rfl) ?_
    exact sat_ret (.tuple #[.agg #[.bool false, .slice none 0 0, .int .i64 0], .int .i64 1]) (by kernel_rfl) fun w9 h9 => ⟨Dy.zero, 1, none, 0, 0, hide (by unfold midI; rw [hE2]; rfl), rfl, RdD.zero _⟩
  · refine sat_false (by kernel_rfl) ?_
    refine sat_call #[.agg #[.bool a.lo.neg, .slice A_a n_a c_a, .int .i64 a.lo.e], .agg #[.bool a.hi.neg, .slice B_a m_a k_a, .int .i64 a.hi.e]] (by kernel_rfl) fun w3 h3 => ?_
    refine (addT _ _ (a.lo) (a.hi) _ (h3.rdD r_al) (h3.rdD r_ah) (h3.tab hT)).mono ?_
    rintro e v3 ⟨⟨d_s1, x_s1, A_s1, n_s1, c_s1, h_s1, rfl, r_s1⟩, hb3⟩
    refine ⟨hb3, [.bool d_s1.neg, .slice A_s1 n_s1 c_s1, .int .i64 d_s1.e, .int .i64 x_s1], _, rfl, by kernel_rfl, by kernel_rfl, fun g3 => ?_⟩
    replace r_al := g3.rdD r_al; replace r_ah := g3.rdD r_ah
    clear h3 hb3
    refine sat_chk (all_cons (okB _) (all_cons (okS _ _ _) (all_cons (okI _) (all_nil)))) ?_
    refine sat_prim (v := .bool ((x_s1 : Int) != 0)) (by kernel_rfl) ?_
    cases hE4 : ((x_s1 : Int) != 0)
    · refine sat_false (by kernel_rfl) ?_
      refine sat_call #[.agg #[.bool d_s1.neg, .slice A_s1 n_s1 c_s1, .int .i64 d_s1.e], .int .i64 (-1)] (by kernel_rfl) fun w5 h5 => ?_
      refine (shiftT _ (d_s1) _ (h5.rdD r_s1) (h5.tab hT) (-1)).mono ?_
      rintro e v5 ⟨⟨d_s2, x_s2, A_s2, n_s2, c_s2, h_s2, rfl, r_s2⟩, hb5⟩
      refine ⟨hb5, [.bool d_s2.neg, .slice A_s2 n_s2 c_s2, .int .i64 d_s2.e, .int .i64 x_s2], _, rfl, by kernel_rfl, by kernel_rfl, fun g5 => ?_⟩
      replace r_al := g5.rdD r_al; replace r_ah := g5.rdD r_ah; replace r_s1 := g5.rdD r_s1
      clear h5 hb5
      refine sat_chk (all_cons (okB _) (all_cons (okS _ _ _) (all_cons (okI _) (all_nil)))) ?_
      exact sat_ret (.tuple #[.agg #[.bool d_s2.neg, .slice A_s2 n_s2 c_s2, .int .i64 d_s2.e], .int .i64 x_s2]) (by kernel_rfl) fun w9 h9 => ⟨d_s2, x_s2, A_s2, n_s2, c_s2, hide (by rw [h_s2.out]; unfold midI; rw [hE2, ← h_s1.out]; simp only [cond_true, hE4, cond_false]), rfl, h9.rdD r_s2⟩
    · refine sat_true (by kernel_rfl) ?_
      exact sat_ret (.tuple #[.agg #[.bool false, .slice none 0 0, .int .i64 0], .int .i64 x_s1]) (by kernel_rfl) fun w9 h9 => ⟨Dy.zero, x_s1, none, 0, 0, hide (by unfold midI; rw [hE2, ← h_s1.out]; simp only [cond_true, hE4]), rfl, RdD.zero _⟩

end Go.Proofs.YtbpfnooloemieaaGreatDoor
namespace Go.Proofs.YtbpfnooloemieaaGreatDoor
open Go.RowKit Pl

section
variable {a b : Dy}
theorem cmpI_le (x y : Int) : (cmpI x y ≤ 0) ↔ x ≤ y := by unfold cmpI; split <;> (try split) <;> omega
theorem cmpI_ge (x y : Int) : (0 ≤ cmpI x y) ↔ y ≤ x := by unfold cmpI; split <;> (try split) <;> omega
theorem cmpI_gt (x y : Int) : (0 < cmpI x y) ↔ y < x := by unfold cmpI; split <;> (try split) <;> omega
/-- A number that may be, of limbs below the base. -/
structure GD (a : Dy) : Prop where
  may : mayD a = true
  lim : Lim BB a.m
theorem GD.le (A : GD a) (B : GD b) : (cmpD a b ≤ 0) ↔ ZD a ≤ ZD b := by rw [cmpD_Z A.may A.lim B.may B.lim]; exact cmpI_le _ _
theorem GD.ge (A : GD a) (B : GD b) : (0 ≤ cmpD a b) ↔ ZD b ≤ ZD a := by rw [cmpD_Z A.may A.lim B.may B.lim]; exact cmpI_ge _ _
theorem GD.gt (A : GD a) (B : GD b) : (0 < cmpD a b) ↔ ZD b < ZD a := by rw [cmpD_Z A.may A.lim B.may B.lim]; exact cmpI_gt _ _
theorem GD.least (A : GD a) (B : GD b) : GD (leastD a b) ∧ (ZD (leastD a b) = ZD a ∨ ZD (leastD a b) = ZD b) ∧ ZD (leastD a b) ≤ ZD a ∧ ZD (leastD a b) ≤ ZD b := by
  have h := A.le B
  unfold leastD
  by_cases hc : cmpD a b ≤ 0
  · rw [decide_eq_true hc]; exact ⟨A, .inl rfl, Int.le_refl _, h.1 hc⟩
  · rw [decide_eq_false hc]; exact ⟨B, .inr rfl, by have := mt h.2 hc; show ZD b ≤ ZD a; omega, Int.le_refl _⟩
theorem GD.greatest (A : GD a) (B : GD b) : GD (greatestD a b) ∧ (ZD (greatestD a b) = ZD a ∨ ZD (greatestD a b) = ZD b) ∧ ZD a ≤ ZD (greatestD a b) ∧ ZD b ≤ ZD (greatestD a b) := by
  have h := A.ge B
  unfold greatestD
  by_cases hc : 0 ≤ cmpD a b
  · rw [decide_eq_true hc]; exact ⟨A, .inl rfl, Int.le_refl _, h.1 hc⟩
  · rw [decide_eq_false hc]; exact ⟨B, .inr rfl, by have := mt h.2 hc; show ZD a ≤ ZD b; omega, Int.le_refl _⟩
end
section
variable {a b : Iv} {d : Dy}
structure GI (a : Iv) : Prop where
  lo : GD a.lo
  hi : GD a.hi
theorem GI.may (A : GI a) : mayI a = true ↔ ZD a.lo ≤ ZD a.hi := by
  unfold mayI
  rw [A.lo.may, A.hi.may]
  simp only [Bool.and_self, Bool.true_and, decide_eq_true_eq]
  exact A.lo.le A.hi
theorem GI.has (A : GI a) (D : GD d) : hasI a d = true ↔ ZD a.lo ≤ ZD a.hi ∧ ZD a.lo ≤ ZD d ∧ ZD d ≤ ZD a.hi := by
  unfold hasI
  simp only [Bool.and_eq_true, decide_eq_true_eq, A.may, D.may, A.lo.le D, D.le A.hi, and_true, and_assoc]
theorem GI.within (A : GI a) (B : GI b) : withinI a b = true ↔ ZD a.lo ≤ ZD a.hi ∧ ZD b.lo ≤ ZD b.hi ∧ ZD b.lo ≤ ZD a.lo ∧ ZD a.hi ≤ ZD b.hi := by
  unfold withinI
  simp only [Bool.and_eq_true, decide_eq_true_eq, A.may, B.may, A.lo.ge B.lo, B.hi.ge A.hi, and_assoc]
theorem GI.inside (A : GI a) (B : GI b) : insideI a b = true ↔ ZD a.lo ≤ ZD a.hi ∧ ZD b.lo ≤ ZD b.hi ∧ ZD b.lo < ZD a.lo ∧ ZD a.hi < ZD b.hi := by
  unfold insideI
  simp only [Bool.and_eq_true, decide_eq_true_eq, A.may, B.may, A.lo.gt B.lo, B.hi.gt A.hi, and_assoc]
/-- Two intervals and a number that may be. -/
structure G5 (a b : Iv) (d : Dy) : Prop where
  A : GI a
  B : GI b
  D : GD d
  ma : mayI a = true
  mb : mayI b = true
theorem G5.mk' (ha : mayI a = true) (hb : mayI b = true) (hd : mayD d = true) (l1 : Lim BB a.lo.m) (l2 : Lim BB a.hi.m) (l3 : Lim BB b.lo.m) (l4 : Lim BB b.hi.m) (l5 : Lim BB d.m) : G5 a b d := by
  obtain ⟨x1, x2, _⟩ := mayI_parts ha
  obtain ⟨y1, y2, _⟩ := mayI_parts hb
  exact ⟨⟨⟨x1, l1⟩, ⟨x2, l2⟩⟩, ⟨⟨y1, l3⟩, ⟨y2, l4⟩⟩, ⟨hd, l5⟩, ha, hb⟩
variable (G : G5 a b d)
include G
end
end Go.Proofs.YtbpfnooloemieaaGreatDoor
