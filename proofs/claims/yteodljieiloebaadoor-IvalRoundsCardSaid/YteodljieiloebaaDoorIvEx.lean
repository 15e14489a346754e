/- ival.both, ival.Round, the walk of IvalRounds, by their trees. Printed by wip/mk_IvE.py. -/
import Derived.Test.YteodljieiloebaaDoorRnGx
import Derived.Test.YteodljieiloebaaDoorRnSx
import Derived.Test.YteodljieiloebaaDoorCntx
namespace Go.Proofs.YteodljieiloebaaDoor
open Go.RowKit Pl
open Sx (sat_call sat_chk sat_prim sat_ite sat_true sat_false sat_trueP sat_falseP sat_ret sat_row sat_callP all_nil all_cons okB okS okI)

def bothS (l : Dy) (e : Int) (h : Dy) (f : Int) : Iv × Int := bif e != 0 then (Iv.zero, e) else bif f != 0 then (Iv.zero, f) else (⟨l, h⟩, 0)
def roundI (a : Iv) (p : Int) : Iv × Int := bif mayI a then bothS (dirS a.lo p false).1 (dirS a.lo p false).2 (dirS a.hi p true).1 (dirS a.hi p true).2 else (Iv.zero, 1)

def tr_ibothT : Sx.Tree := .chk [.lf 0, .lf 1, .lf 2] (.chk [.lf 4, .lf 5, .lf 6] (.prim (.bin .neq) [.lf 3, .num .i64 0] (.ite (.lf 8) (.ret (.tup [(true, [.bit false, .nil, .num .i64 0, .bit false, .nil, .num .i64 0]), (false, [.lf 3])])) (.prim (.bin .neq) [.lf 7, .num .i64 0] (.ite (.lf 9) (.ret (.tup [(true, [.bit false, .nil, .num .i64 0, .bit false, .nil, .num .i64 0]), (false, [.lf 7])])) (.chk [.lf 0, .lf 1, .lf 2, .lf 4, .lf 5, .lf 6] (.chk [.lf 0, .lf 1, .lf 2, .lf 4, .lf 5, .lf 6] (.ret (.tup [(true, [.lf 0, .lf 1, .lf 2, .lf 4, .lf 5, .lf 6]), (false, [.num .i64 0])])))))))))
theorem tr_ibothT_eq : Sx.treeAt Tryd.prog 52 [] [] [(true, 3), (false, 1), (true, 3), (false, 1)] = some tr_ibothT := by kernel_rfl

theorem ibothI_any (v_lo : Value) (v_hi : Value) (lo : Dy) (e : Int) (hi : Dy) (f : Int) (w : World) (h_lo : RdD w v_lo lo) (h_hi : RdD w v_hi hi) :
    Calls Tryd.prog 52 #[v_lo, .int .i64 e, v_hi, .int .i64 f] w fun e' w' => IvTup w' e' (bothS lo e hi f) ∧ Below w.heap.size w w' := by
  have r_lo := h_lo
  obtain ⟨A_lo, n_lo, c_lo, rfl, _⟩ := h_lo
  have r_hi := h_hi
  obtain ⟨A_hi, n_hi, c_hi, rfl, _⟩ := h_hi
  refine (Sx.runA [] [] (ls := [.bool lo.neg, .slice A_lo n_lo c_lo, .int .i64 lo.e, .int .i64 e, .bool hi.neg, .slice A_hi n_hi c_hi, .int .i64 hi.e, .int .i64 f]) (shs := [(true, 3), (false, 1), (true, 3), (false, 1)]) (R := fun v w' => IvTup w' (.returned v) (bothS lo e hi f)) tr_ibothT_eq rfl (by decide) (fun q h => by cases h) ?_).mono (fun e w' ⟨v, he, hv, hb⟩ => ⟨by rw [he]; exact hv, hb⟩)
  unfold tr_ibothT
  refine sat_chkB (by kernel_rfl) ?_
  refine sat_chkB (by kernel_rfl) ?_
  refine sat_prim (v := .bool ((e : Int) != 0)) (by kernel_rfl) ?_
  cases hE1 : ((e : Int) != 0)
  · refine sat_false (by kernel_rfl) ?_
    refine sat_prim (v := .bool ((f : Int) != 0)) (by kernel_rfl) ?_
    cases hE2 : ((f : Int) != 0)
    · refine sat_false (by kernel_rfl) ?_
      refine sat_chkB (by kernel_rfl) ?_
      refine sat_chkB (by kernel_rfl) ?_
      exact sat_ret (.tuple #[.agg #[.bool lo.neg, .slice A_lo n_lo c_lo, .int .i64 lo.e, .bool hi.neg, .slice A_hi n_hi c_hi, .int .i64 hi.e], .int .i64 0]) (by kernel_rfl) fun w9 h9 => ⟨lo, hi, 0, A_lo, n_lo, c_lo, A_hi, n_hi, c_hi, hide (by unfold bothS; simp only [hE1, hE2, cond_true, cond_false]), rfl, h9.rdD r_lo, h9.rdD r_hi⟩
    · refine sat_true (by kernel_rfl) ?_
      exact sat_ret (.tuple #[.agg #[.bool false, .slice none 0 0, .int .i64 0, .bool false, .slice none 0 0, .int .i64 0], .int .i64 f]) (by kernel_rfl) fun w9 h9 => IvTup.zero (by unfold bothS; simp only [hE1, hE2, cond_true, cond_false])
  · refine sat_true (by kernel_rfl) ?_
    exact sat_ret (.tuple #[.agg #[.bool false, .slice none 0 0, .int .i64 0, .bool false, .slice none 0 0, .int .i64 0], .int .i64 e]) (by kernel_rfl) fun w9 h9 => IvTup.zero (by unfold bothS; simp only [hE1, cond_true, cond_false])

def tr_iround : Sx.Tree := .chk [.lf 0, .lf 1, .lf 2, .lf 3, .lf 4, .lf 5] (.call 15 [.ag [.lf 0, .lf 1, .lf 2, .lf 3, .lf 4, .lf 5]] .one (.prim .not [.lf 7] (.ite (.lf 8) (.ret (.tup [(true, [.bit false, .nil, .num .i64 0, .bit false, .nil, .num .i64 0]), (false, [.num .i64 1])])) (.call 25 [.ag [.lf 0, .lf 1, .lf 2], .one (.lf 6)] (.tup [(true, 3), (false, 1)]) (.chk [.lf 9, .lf 10, .lf 11] (.call 26 [.ag [.lf 3, .lf 4, .lf 5], .one (.lf 6)] (.tup [(true, 3), (false, 1)]) (.chk [.lf 13, .lf 14, .lf 15] (.call 52 [.ag [.lf 9, .lf 10, .lf 11], .one (.lf 12), .ag [.lf 13, .lf 14, .lf 15], .one (.lf 16)] (.tup [(true, 6), (false, 1)]) (.chk [.lf 17, .lf 18, .lf 19, .lf 20, .lf 21, .lf 22] (.ret (.tup [(true, [.lf 17, .lf 18, .lf 19, .lf 20, .lf 21, .lf 22]), (false, [.lf 23])])))))))))))
theorem tr_iround_eq : Sx.treeAt Tryd.prog 19 [] [] [(true, 6), (false, 1)] = some tr_iround := by kernel_rfl

theorem roundI_any (v_a : Value) (a : Iv) (p : Int) (w : World) (h_a : RdI w v_a a) (hT : TabAt w) :
    Calls Tryd.prog 19 #[v_a, .int .i64 p] w fun e w' => IvTup w' e (roundI a p) ∧ Below w.heap.size w w' := by
  obtain ⟨A_a, n_a, c_a, B_a, m_a, k_a, rfl, r_al, r_ah⟩ := h_a
  refine (Sx.runA [] [] (ls := [.bool a.lo.neg, .slice A_a n_a c_a, .int .i64 a.lo.e, .bool a.hi.neg, .slice B_a m_a k_a, .int .i64 a.hi.e, .int .i64 p]) (shs := [(true, 6), (false, 1)]) (R := fun v w' => IvTup w' (.returned v) (roundI a p)) tr_iround_eq rfl (by decide) (fun q h => by cases h) ?_).mono (fun e w' ⟨v, he, hv, hb⟩ => ⟨by rw [he]; exact hv, hb⟩)
  unfold tr_iround
  refine sat_chkB (by kernel_rfl) ?_
  refine sat_call #[.agg #[.bool a.lo.neg, .slice A_a n_a c_a, .int .i64 a.lo.e, .bool a.hi.neg, .slice B_a m_a k_a, .int .i64 a.hi.e]] (by kernel_rfl) fun w1 h1 => ?_
  refine (mayI_any _ a _ (mkI (h1.rdD r_al) (h1.rdD r_ah))).mono ?_
  rintro e v1 ⟨rfl, hb1⟩
  refine ⟨hb1, [.bool (mayI a)], _, rfl, by kernel_rfl, by kernel_rfl, fun g1 => ?_⟩
  replace r_al := g1.rdD r_al; replace r_ah := g1.rdD r_ah
  clear h1 hb1
  refine sat_prim (v := .bool (!(mayI a))) (by kernel_rfl) ?_
  cases hE2 : (mayI a)
  · refine sat_true (by kernel_rfl) ?_
    exact sat_ret (.tuple #[.agg #[.bool false, .slice none 0 0, .int .i64 0, .bool false, .slice none 0 0, .int .i64 0], .int .i64 1]) (by kernel_rfl) fun w9 h9 => IvTup.zero (by unfold roundI; rw [hE2]; rfl)
  · refine sat_false (by kernel_rfl) ?_
    refine sat_call #[.agg #[.bool a.lo.neg, .slice A_a n_a c_a, .int .i64 a.lo.e], .int .i64 p] (by kernel_rfl) fun w3 h3 => ?_
    refine (downT _ a.lo p _ (h3.rdD r_al) (h3.tab hT)).mono ?_
    rintro e v3 ⟨⟨d_t1, x_t1, A_t1, n_t1, c_t1, h_t1, rfl, r_t1⟩, hb3⟩
    refine ⟨hb3, [.bool d_t1.neg, .slice A_t1 n_t1 c_t1, .int .i64 d_t1.e, .int .i64 x_t1], _, rfl, by kernel_rfl, by kernel_rfl, fun g3 => ?_⟩
    replace r_al := g3.rdD r_al; replace r_ah := g3.rdD r_ah
    clear h3 hb3
    refine sat_chkB (by kernel_rfl) ?_
    refine sat_call #[.agg #[.bool a.hi.neg, .slice B_a m_a k_a, .int .i64 a.hi.e], .int .i64 p] (by kernel_rfl) fun w4 h4 => ?_
    refine (upT _ a.hi p _ (h4.rdD r_ah) (h4.tab hT)).mono ?_
    rintro e v4 ⟨⟨d_t2, x_t2, A_t2, n_t2, c_t2, h_t2, rfl, r_t2⟩, hb4⟩
    refine ⟨hb4, [.bool d_t2.neg, .slice A_t2 n_t2 c_t2, .int .i64 d_t2.e, .int .i64 x_t2], _, rfl, by kernel_rfl, by kernel_rfl, fun g4 => ?_⟩
    replace r_al := g4.rdD r_al; replace r_ah := g4.rdD r_ah; replace r_t1 := g4.rdD r_t1
    clear h4 hb4
    refine sat_chkB (by kernel_rfl) ?_
    refine sat_call #[.agg #[.bool d_t1.neg, .slice A_t1 n_t1 c_t1, .int .i64 d_t1.e], .int .i64 x_t1, .agg #[.bool d_t2.neg, .slice A_t2 n_t2 c_t2, .int .i64 d_t2.e], .int .i64 x_t2] (by kernel_rfl) fun w5 h5 => ?_
    refine (ibothI_any _ _ d_t1 x_t1 d_t2 x_t2 _ (h5.rdD r_t1) (h5.rdD r_t2)).mono ?_
    rintro e v5 ⟨⟨l_b1, g_b1, x_b1, A_b1, n_b1, c_b1, B_b1, m_b1, k_b1, h_b1, rfl, r_b1l, r_b1h⟩, hb5⟩
    refine ⟨hb5, [.bool l_b1.neg, .slice A_b1 n_b1 c_b1, .int .i64 l_b1.e, .bool g_b1.neg, .slice B_b1 m_b1 k_b1, .int .i64 g_b1.e, .int .i64 x_b1], _, rfl, by kernel_rfl, by kernel_rfl, fun g5 => ?_⟩
    replace r_al := g5.rdD r_al; replace r_ah := g5.rdD r_ah; replace r_t1 := g5.rdD r_t1; replace r_t2 := g5.rdD r_t2
    clear h5 hb5
    refine sat_chkB (by kernel_rfl) ?_
    exact sat_ret (.tuple #[.agg #[.bool l_b1.neg, .slice A_b1 n_b1 c_b1, .int .i64 l_b1.e, .bool g_b1.neg, .slice B_b1 m_b1 k_b1, .int .i64 g_b1.e], .int .i64 x_b1]) (by kernel_rfl) fun w9 h9 => ⟨l_b1, g_b1, x_b1, A_b1, n_b1, c_b1, B_b1, m_b1, k_b1, hide (by rw [h_b1.out]; unfold roundI; rw [hE2, ← h_t1.out, ← h_t2.out]; rfl), rfl, h9.rdD r_b1l, h9.rdD r_b1h⟩

theorem iv3r {l h l' h' : Dy} {x x' : Int} {r : Iv × Int} (k : Hid ((⟨l, h⟩, x) = r)) (e : r = (⟨l', h'⟩, x')) : l' = l ∧ h' = h ∧ x' = x := let q := iv3 k e; ⟨q.1.symm, q.2.1.symm, q.2.2.symm⟩
theorem i0 {r : Iv × Int} {l h : Dy} {x : Int} (k : Hid ((⟨l, h⟩, x) = r)) (hx : ((x : Int) != 0) = false) : r = (⟨l, h⟩, 0) := by
  have : x = 0 := by simpa using hx
  rw [← k.out, this]
theorem round_parts {a : Iv} {l h : Dy} {p : Int} (hr : roundI a p = (⟨l, h⟩, 0)) (hm : mayI a = true) : dirS a.lo p false = (l, 0) ∧ dirS a.hi p true = (h, 0) := by
  unfold roundI at hr
  rw [hm, cond_true] at hr
  unfold bothS at hr
  generalize dirS a.lo p false = r1 at *
  generalize dirS a.hi p true = r2 at *
  obtain ⟨d1, x1⟩ := r1
  obtain ⟨d2, x2⟩ := r2
  dsimp only at hr
  cases h1 : (x1 != 0) with
  | true =>
    rw [h1, cond_true] at hr
    have h2 : x1 = 0 := (Prod.mk.inj hr).2
    rw [h2] at h1
    cases h1
  | false =>
    rw [h1, cond_false] at hr
    cases h2 : (x2 != 0) with
    | true =>
      rw [h2, cond_true] at hr
      have h3 : x2 = 0 := (Prod.mk.inj hr).2
      rw [h3] at h2
      cases h2
    | false =>
      rw [h2, cond_false] at hr
      have h3 : x1 = 0 := by simpa using h1
      have h4 : x2 = 0 := by simpa using h2
      injection (Prod.mk.inj hr).1 with h5 h6
      rw [h3, h4, h5, h6]
      exact ⟨rfl, rfl⟩
structure Rnds (a : Iv) (l h l' h' : Dy) (n : Nat) : Prop where
  w1 : withinI a ⟨l, h⟩ = true
  w2 : withinI ⟨l, h⟩ ⟨l', h'⟩ = true
  rr : roundI ⟨l, h⟩ n = (⟨l, h⟩, 0)
  bl : bitsD l ≤ (n : Int)
  bh : bitsD h ≤ (n : Int)
  lo : cmpD l a.lo ≤ 0
theorem Rnds.mk' {a : Iv} {l h l' h' : Dy} {n m : Nat} (ma : mayI a = true) (l1 : Lim BB a.lo.m) (l2 : Lim BB a.hi.m) (hmn : m ≤ n) (r1 : roundI a n = (⟨l, h⟩, 0)) (r2 : roundI a m = (⟨l', h'⟩, 0)) : Rnds a l h l' h' n := by
  obtain ⟨x1, x2, _⟩ := mayI_parts ma
  have A : GI a := ⟨⟨x1, l1⟩, ⟨x2, l2⟩⟩
  have hle := A.may.1 ma
  obtain ⟨d1, d2⟩ := round_parts r1 ma
  obtain ⟨d3, d4⟩ := round_parts r2 ma
  have B : GI ⟨l, h⟩ := ⟨dir_GD d1, dir_GD d2⟩
  have C : GI ⟨l', h'⟩ := ⟨dir_GD d3, dir_GD d4⟩
  obtain ⟨_, p1, p2, _, _, g1, e1, _⟩ := dir_post d1
  obtain ⟨_, _, _, _, _, g2, _, e2⟩ := dir_post d2
  obtain ⟨_, _, _, _, _, g3, e3, _⟩ := dir_post d3
  obtain ⟨_, _, _, _, _, g4, _, e4⟩ := dir_post d4
  obtain ⟨u1, v1⟩ := e1 rfl
  obtain ⟨u2, v2⟩ := e2 rfl
  obtain ⟨u3, v3⟩ := e3 rfl
  obtain ⟨u4, v4⟩ := e4 rfl
  have h5 := v1 _ (g3.mono hmn) u3
  have h6 := v2 _ (g4.mono hmn) u4
  have b1 := dir_bits d1
  have b2 := dir_bits d2
  have mb : mayI ⟨l, h⟩ = true := B.may.2 (by show ZD l ≤ ZD h; omega)
  refine ⟨(A.within B).2 ⟨hle, by show ZD l ≤ ZD h; omega, u1, u2⟩, (B.within C).2 ⟨by show ZD l ≤ ZD h; omega, by show ZD l' ≤ ZD h'; omega, h5, h6⟩, ?_, b1, b2, (B.lo.le A.lo).2 u1⟩
  unfold roundI
  rw [mb, cond_true, dir_fix B.lo.may B.lo.lim p1 p2 b1, dir_fix B.hi.may B.hi.lim p1 p2 b2]
  rfl
theorem sameI_self (a : Iv) : sameI a a = true := by unfold sameI; rw [sameD_self, sameD_self]; rfl

def tr_ivalRounds : Sx.Tree := .chk [.lf 0, .lf 1, .lf 2, .lf 3, .lf 4, .lf 5] (.call 14 [.ag [.lf 0, .lf 1, .lf 2, .lf 3, .lf 4, .lf 5]] .one (.prim .not [.lf 8] (.ite (.lf 9) (.call 13 [] .one (.ret (.one (.lf 10)))) (.call 15 [.ag [.lf 0, .lf 1, .lf 2, .lf 3, .lf 4, .lf 5]] .one (.prim .not [.lf 10] (.ite (.lf 11) (.call 13 [] .one (.ret (.one (.lf 12)))) (.prim (.cvt .u64) [.lf 6] (.prim (.bin .rem) [.lf 12, .num .u64 300] (.prim (.cvt .i64) [.lf 13] (.prim (.bin .add) [.num .i64 1, .lf 14] (.prim (.cvt .u64) [.lf 7] (.prim (.cvt .u64) [.lf 15] (.prim (.bin .rem) [.lf 16, .lf 17] (.prim (.cvt .i64) [.lf 18] (.prim (.bin .add) [.num .i64 1, .lf 19] (.call 19 [.ag [.lf 0, .lf 1, .lf 2, .lf 3, .lf 4, .lf 5], .one (.lf 15)] (.tup [(true, 6), (false, 1)]) (.chk [.lf 21, .lf 22, .lf 23, .lf 24, .lf 25, .lf 26] (.call 19 [.ag [.lf 0, .lf 1, .lf 2, .lf 3, .lf 4, .lf 5], .one (.lf 20)] (.tup [(true, 6), (false, 1)]) (.chk [.lf 28, .lf 29, .lf 30, .lf 31, .lf 32, .lf 33] (.prim (.bin .neq) [.lf 27, .num .i64 0] (.ite (.lf 35) (.call 13 [] .one (.ret (.one (.lf 36)))) (.prim (.bin .neq) [.lf 34, .num .i64 0] (.ite (.lf 36) (.call 13 [] .one (.ret (.one (.lf 37)))) (.call 19 [.ag [.lf 21, .lf 22, .lf 23, .lf 24, .lf 25, .lf 26], .one (.lf 15)] (.tup [(true, 6), (false, 1)]) (.chk [.lf 37, .lf 38, .lf 39, .lf 40, .lf 41, .lf 42] (.call 13 [] .one (.ite (.lf 44) (.call 17 [.ag [.lf 0, .lf 1, .lf 2, .lf 3, .lf 4, .lf 5], .ag [.lf 21, .lf 22, .lf 23, .lf 24, .lf 25, .lf 26]] .one (.ite (.lf 45) (.call 17 [.ag [.lf 21, .lf 22, .lf 23, .lf 24, .lf 25, .lf 26], .ag [.lf 28, .lf 29, .lf 30, .lf 31, .lf 32, .lf 33]] .one (.ite (.lf 46) (.prim (.bin .eql) [.lf 43, .num .i64 0] (.ite (.lf 47) (.call 20 [.ag [.lf 37, .lf 38, .lf 39, .lf 40, .lf 41, .lf 42], .ag [.lf 21, .lf 22, .lf 23, .lf 24, .lf 25, .lf 26]] .one (.ite (.lf 48) (.call 21 [.ag [.lf 21, .lf 22, .lf 23]] .one (.prim (.bin .leq) [.lf 49, .lf 15] (.ite (.lf 50) (.call 21 [.ag [.lf 24, .lf 25, .lf 26]] .one (.prim (.bin .leq) [.lf 51, .lf 15] (.ite (.lf 52) (.call 22 [.ag [.lf 21, .lf 22, .lf 23], .ag [.lf 0, .lf 1, .lf 2]] .one (.prim (.bin .leq) [.lf 53, .num .i64 0] (.ret (.one (.lf 54))))) (.ret (.one (.bit false)))))) (.ret (.one (.bit false)))))) (.ret (.one (.bit false))))) (.ret (.one (.bit false))))) (.ret (.one (.bit false))))) (.ret (.one (.bit false))))) (.ret (.one (.bit false))))))))))))))))))))))))))))))
theorem tr_ivalRounds_eq : Sx.treeAt Tryd.prog 4 [] [] [(true, 6), (false, 1), (false, 1)] = some tr_ivalRounds := by kernel_rfl

set_option maxRecDepth 100000 in
set_option maxHeartbeats 4000000 in
theorem ivalRounds_any (v_a : Value) (a : Iv) (p : Int) (q : Int) (w : World) (h_a : RdI w v_a a) (hT : TabAt w) :
    Calls Tryd.prog 4 #[v_a, .int .i64 p, .int .i64 q] w fun e w' => e = .returned (.bool true) ∧ Below w.heap.size w w' := by
  obtain ⟨A_a, n_a, c_a, B_a, m_a, k_a, rfl, r_al, r_ah⟩ := h_a
  refine (Sx.runA [] [] (ls := [.bool a.lo.neg, .slice A_a n_a c_a, .int .i64 a.lo.e, .bool a.hi.neg, .slice B_a m_a k_a, .int .i64 a.hi.e, .int .i64 p, .int .i64 q]) (shs := [(true, 6), (false, 1), (false, 1)]) (R := fun v w' => v = .bool true) tr_ivalRounds_eq rfl (by decide) (fun q h => by cases h) ?_).mono (fun e w' ⟨v, he, hv, hb⟩ => ⟨by rw [he, hv], hb⟩)
  unfold tr_ivalRounds
  refine sat_chkB (by kernel_rfl) ?_
  refine sat_call #[.agg #[.bool a.lo.neg, .slice A_a n_a c_a, .int .i64 a.lo.e, .bool a.hi.neg, .slice B_a m_a k_a, .int .i64 a.hi.e]] (by kernel_rfl) fun w1 h1 => ?_
  refine (few5_any _ a _ (mkI (h1.rdD r_al) (h1.rdD r_ah))).mono ?_
  rintro e v1 ⟨rfl, hb1⟩
  refine ⟨hb1, [.bool (fewI a)], _, rfl, by kernel_rfl, by kernel_rfl, fun g1 => ?_⟩
  replace r_al := g1.rdD r_al; replace r_ah := g1.rdD r_ah
  clear h1 hb1
  refine sat_prim (v := .bool (!(fewI a))) (by kernel_rfl) ?_
  cases hf : (fewI a)
  · refine sat_true (by kernel_rfl) ?_
    refine sat_call #[] (by kernel_rfl) fun w3 h3 => ?_
    refine (told5_any _ (h3.tab hT)).mono ?_
    rintro e v3 ⟨rfl, hb3⟩
    refine ⟨hb3, [.bool true], _, rfl, by kernel_rfl, by kernel_rfl, fun g3 => ?_⟩
    replace r_al := g3.rdD r_al; replace r_ah := g3.rdD r_ah
    clear h3 hb3
    exact sat_ret (.bool true) (by kernel_rfl) fun w9 h9 => rfl
  · refine sat_false (by kernel_rfl) ?_
    refine sat_call #[.agg #[.bool a.lo.neg, .slice A_a n_a c_a, .int .i64 a.lo.e, .bool a.hi.neg, .slice B_a m_a k_a, .int .i64 a.hi.e]] (by kernel_rfl) fun w3 h3 => ?_
    refine (mayI_any _ a _ (mkI (h3.rdD r_al) (h3.rdD r_ah))).mono ?_
    rintro e v3 ⟨rfl, hb3⟩
    refine ⟨hb3, [.bool (mayI a)], _, rfl, by kernel_rfl, by kernel_rfl, fun g3 => ?_⟩
    replace r_al := g3.rdD r_al; replace r_ah := g3.rdD r_ah
    clear h3 hb3
    refine sat_prim (v := .bool (!(mayI a))) (by kernel_rfl) ?_
    cases ha : (mayI a)
    · refine sat_true (by kernel_rfl) ?_
      refine sat_call #[] (by kernel_rfl) fun w5 h5 => ?_
      refine (told5_any _ (h5.tab hT)).mono ?_
      rintro e v5 ⟨rfl, hb5⟩
      refine ⟨hb5, [.bool true], _, rfl, by kernel_rfl, by kernel_rfl, fun g5 => ?_⟩
      replace r_al := g5.rdD r_al; replace r_ah := g5.rdD r_ah
      clear h5 hb5
      exact sat_ret (.bool true) (by kernel_rfl) fun w9 h9 => rfl
    · refine sat_false (by kernel_rfl) ?_
      refine sat_prim (v := .int .u64 (((p % 18446744073709551616).toNat : Nat) : Int)) (Eq.trans (by kernel_rfl) (pr_cvtu p)) ?_
      refine sat_prim (v := .int .u64 (((p % 18446744073709551616).toNat % 300 : Nat) : Int)) (Eq.trans (by kernel_rfl) (pr_rem (a := (p % 18446744073709551616).toNat) (b := 300) (by omega))) ?_
      refine sat_prim (v := .int .i64 (((p % 18446744073709551616).toNat % 300 : Nat) : Int)) (Eq.trans (by kernel_rfl) (pr_cvti (n := (p % 18446744073709551616).toNat % 300) (Nat.lt_of_lt_of_le (Nat.mod_lt _ (by omega)) (by omega)))) ?_
      obtain ⟨N1, e_N1, a_N1, b_N1⟩ : ∃ N, N = 1 + (p % 18446744073709551616).toNat % 300 ∧ 1 ≤ N ∧ N ≤ 300 := ⟨_, rfl, by omega, by have := Nat.mod_lt ((p % 18446744073709551616).toNat) (show 0 < 300 by omega); omega⟩
      refine sat_prim (v := .int .i64 ((N1 : Nat) : Int)) (Eq.trans (by kernel_rfl) (pr_one (m := (p % 18446744073709551616).toNat % 300) e_N1 (by omega))) ?_
      refine sat_prim (v := .int .u64 (((q % 18446744073709551616).toNat : Nat) : Int)) (Eq.trans (by kernel_rfl) (pr_cvtu q)) ?_
      refine sat_prim (v := .int .u64 ((N1 : Nat) : Int)) (Eq.trans (by kernel_rfl) (pr_cvtn (n := N1) (by omega))) ?_
      refine sat_prim (v := .int .u64 (((q % 18446744073709551616).toNat % N1 : Nat) : Int)) (Eq.trans (by kernel_rfl) (pr_rem (a := (q % 18446744073709551616).toNat) (b := N1) (by omega))) ?_
      refine sat_prim (v := .int .i64 (((q % 18446744073709551616).toNat % N1 : Nat) : Int)) (Eq.trans (by kernel_rfl) (pr_cvti (n := (q % 18446744073709551616).toNat % N1) (Nat.lt_of_lt_of_le (Nat.mod_lt _ (by omega)) (by omega)))) ?_
      obtain ⟨N2, e_N2, a_N2, b_N2⟩ : ∃ N, N = 1 + (q % 18446744073709551616).toNat % N1 ∧ 1 ≤ N ∧ N ≤ N1 := ⟨_, rfl, by omega, by have := Nat.mod_lt ((q % 18446744073709551616).toNat) (show 0 < N1 by omega); omega⟩
      refine sat_prim (v := .int .i64 ((N2 : Nat) : Int)) (Eq.trans (by kernel_rfl) (pr_one (m := (q % 18446744073709551616).toNat % N1) e_N2 (by omega))) ?_
      refine sat_call #[.agg #[.bool a.lo.neg, .slice A_a n_a c_a, .int .i64 a.lo.e, .bool a.hi.neg, .slice B_a m_a k_a, .int .i64 a.hi.e], .int .i64 ((N1 : Nat) : Int)] (by kernel_rfl) fun w5 h5 => ?_
      refine (roundI_any _ a ((N1 : Nat) : Int) _ (mkI (h5.rdD r_al) (h5.rdD r_ah)) (h5.tab hT)).mono ?_
      rintro e v5 ⟨⟨l_b1, g_b1, x_b1, A_b1, n_b1, c_b1, B_b1, m_b1, k_b1, h_b1, rfl, r_b1l, r_b1h⟩, hb5⟩
      refine ⟨hb5, [.bool l_b1.neg, .slice A_b1 n_b1 c_b1, .int .i64 l_b1.e, .bool g_b1.neg, .slice B_b1 m_b1 k_b1, .int .i64 g_b1.e, .int .i64 x_b1], _, rfl, by kernel_rfl, by kernel_rfl, fun g5 => ?_⟩
      replace r_al := g5.rdD r_al; replace r_ah := g5.rdD r_ah
      clear h5 hb5
      refine sat_chkB (by kernel_rfl) ?_
      refine sat_call #[.agg #[.bool a.lo.neg, .slice A_a n_a c_a, .int .i64 a.lo.e, .bool a.hi.neg, .slice B_a m_a k_a, .int .i64 a.hi.e], .int .i64 ((N2 : Nat) : Int)] (by kernel_rfl) fun w6 h6 => ?_
      refine (roundI_any _ a ((N2 : Nat) : Int) _ (mkI (h6.rdD r_al) (h6.rdD r_ah)) (h6.tab hT)).mono ?_
      rintro e v6 ⟨⟨l_b2, g_b2, x_b2, A_b2, n_b2, c_b2, B_b2, m_b2, k_b2, h_b2, rfl, r_b2l, r_b2h⟩, hb6⟩
      refine ⟨hb6, [.bool l_b2.neg, .slice A_b2 n_b2 c_b2, .int .i64 l_b2.e, .bool g_b2.neg, .slice B_b2 m_b2 k_b2, .int .i64 g_b2.e, .int .i64 x_b2], _, rfl, by kernel_rfl, by kernel_rfl, fun g6 => ?_⟩
      replace r_al := g6.rdD r_al; replace r_ah := g6.rdD r_ah; replace r_b1l := g6.rdD r_b1l; replace r_b1h := g6.rdD r_b1h
      clear h6 hb6
      refine sat_chkB (by kernel_rfl) ?_
      refine sat_prim (v := .bool ((x_b1 : Int) != 0)) (by kernel_rfl) ?_
      cases hn_b1 : ((x_b1 : Int) != 0)
      · refine sat_false (by kernel_rfl) ?_
        refine sat_prim (v := .bool ((x_b2 : Int) != 0)) (by kernel_rfl) ?_
        cases hn_b2 : ((x_b2 : Int) != 0)
        · refine sat_false (by kernel_rfl) ?_
          have RS := Rnds.mk' ha r_al.lim r_ah.lim b_N2 (i0 h_b1 hn_b1) (i0 h_b2 hn_b2)
          refine sat_call #[.agg #[.bool l_b1.neg, .slice A_b1 n_b1 c_b1, .int .i64 l_b1.e, .bool g_b1.neg, .slice B_b1 m_b1 k_b1, .int .i64 g_b1.e], .int .i64 ((N1 : Nat) : Int)] (by kernel_rfl) fun w9 h9 => ?_
          refine (roundI_any _ ⟨l_b1, g_b1⟩ ((N1 : Nat) : Int) _ (mkI (h9.rdD r_b1l) (h9.rdD r_b1h)) (h9.tab hT)).mono ?_
          rintro e v9 ⟨⟨l_b3, g_b3, x_b3, A_b3, n_b3, c_b3, B_b3, m_b3, k_b3, h_b3, rfl, r_b3l, r_b3h⟩, hb9⟩
          obtain ⟨rfl, rfl, rfl⟩ := iv3r h_b3 RS.rr
          refine ⟨hb9, [.bool l_b1.neg, .slice A_b3 n_b3 c_b3, .int .i64 l_b1.e, .bool g_b1.neg, .slice B_b3 m_b3 k_b3, .int .i64 g_b1.e, .int .i64 0], _, rfl, by kernel_rfl, by kernel_rfl, fun g9 => ?_⟩
          replace r_al := g9.rdD r_al; replace r_ah := g9.rdD r_ah; replace r_b1l := g9.rdD r_b1l; replace r_b1h := g9.rdD r_b1h; replace r_b2l := g9.rdD r_b2l; replace r_b2h := g9.rdD r_b2h
          clear h9 hb9
          refine sat_chkB (by kernel_rfl) ?_
          refine sat_call #[] (by kernel_rfl) fun w10 h10 => ?_
          refine (told5_any _ (h10.tab hT)).mono ?_
          rintro e v10 ⟨rfl, hb10⟩
          refine ⟨hb10, [.bool true], _, rfl, by kernel_rfl, by kernel_rfl, fun g10 => ?_⟩
          replace r_al := g10.rdD r_al; replace r_ah := g10.rdD r_ah; replace r_b1l := g10.rdD r_b1l; replace r_b1h := g10.rdD r_b1h; replace r_b2l := g10.rdD r_b2l; replace r_b2h := g10.rdD r_b2h; replace r_b3l := g10.rdD r_b3l; replace r_b3h := g10.rdD r_b3h
          clear h10 hb10
          refine sat_true (by kernel_rfl) ?_
          refine sat_call #[.agg #[.bool a.lo.neg, .slice A_a n_a c_a, .int .i64 a.lo.e, .bool a.hi.neg, .slice B_a m_a k_a, .int .i64 a.hi.e], .agg #[.bool l_b1.neg, .slice A_b1 n_b1 c_b1, .int .i64 l_b1.e, .bool g_b1.neg, .slice B_b1 m_b1 k_b1, .int .i64 g_b1.e]] (by kernel_rfl) fun w11 h11 => ?_
          refine (withinI_any _ _ a ⟨l_b1, g_b1⟩ _ (mkI (h11.rdD r_al) (h11.rdD r_ah)) (mkI (h11.rdD r_b1l) (h11.rdD r_b1h))).mono ?_
          rintro e v11 ⟨rfl, hb11⟩
          refine ⟨hb11, [.bool (withinI a ⟨l_b1, g_b1⟩)], _, rfl, by kernel_rfl, by kernel_rfl, fun g11 => ?_⟩
          replace r_al := g11.rdD r_al; replace r_ah := g11.rdD r_ah; replace r_b1l := g11.rdD r_b1l; replace r_b1h := g11.rdD r_b1h; replace r_b2l := g11.rdD r_b2l; replace r_b2h := g11.rdD r_b2h; replace r_b3l := g11.rdD r_b3l; replace r_b3h := g11.rdD r_b3h
          clear h11 hb11
          refine sat_trueP (b := (withinI a ⟨l_b1, g_b1⟩)) (by kernel_rfl) (RS.w1) ?_
          refine sat_call #[.agg #[.bool l_b1.neg, .slice A_b1 n_b1 c_b1, .int .i64 l_b1.e, .bool g_b1.neg, .slice B_b1 m_b1 k_b1, .int .i64 g_b1.e], .agg #[.bool l_b2.neg, .slice A_b2 n_b2 c_b2, .int .i64 l_b2.e, .bool g_b2.neg, .slice B_b2 m_b2 k_b2, .int .i64 g_b2.e]] (by kernel_rfl) fun w12 h12 => ?_
          refine (withinI_any _ _ ⟨l_b1, g_b1⟩ ⟨l_b2, g_b2⟩ _ (mkI (h12.rdD r_b1l) (h12.rdD r_b1h)) (mkI (h12.rdD r_b2l) (h12.rdD r_b2h))).mono ?_
          rintro e v12 ⟨rfl, hb12⟩
          refine ⟨hb12, [.bool (withinI ⟨l_b1, g_b1⟩ ⟨l_b2, g_b2⟩)], _, rfl, by kernel_rfl, by kernel_rfl, fun g12 => ?_⟩
          replace r_al := g12.rdD r_al; replace r_ah := g12.rdD r_ah; replace r_b1l := g12.rdD r_b1l; replace r_b1h := g12.rdD r_b1h; replace r_b2l := g12.rdD r_b2l; replace r_b2h := g12.rdD r_b2h; replace r_b3l := g12.rdD r_b3l; replace r_b3h := g12.rdD r_b3h
          clear h12 hb12
          refine sat_trueP (b := (withinI ⟨l_b1, g_b1⟩ ⟨l_b2, g_b2⟩)) (by kernel_rfl) (RS.w2) ?_
          refine sat_prim (v := .bool true) (by kernel_rfl) ?_
          refine sat_true (by kernel_rfl) ?_
          refine sat_call #[.agg #[.bool l_b1.neg, .slice A_b3 n_b3 c_b3, .int .i64 l_b1.e, .bool g_b1.neg, .slice B_b3 m_b3 k_b3, .int .i64 g_b1.e], .agg #[.bool l_b1.neg, .slice A_b1 n_b1 c_b1, .int .i64 l_b1.e, .bool g_b1.neg, .slice B_b1 m_b1 k_b1, .int .i64 g_b1.e]] (by kernel_rfl) fun w13 h13 => ?_
          refine (sameI_any _ _ ⟨l_b1, g_b1⟩ ⟨l_b1, g_b1⟩ _ (mkI (h13.rdD r_b3l) (h13.rdD r_b3h)) (mkI (h13.rdD r_b1l) (h13.rdD r_b1h))).mono ?_
          rintro e v13 ⟨rfl, hb13⟩
          refine ⟨hb13, [.bool (sameI ⟨l_b1, g_b1⟩ ⟨l_b1, g_b1⟩)], _, rfl, by kernel_rfl, by kernel_rfl, fun g13 => ?_⟩
          replace r_al := g13.rdD r_al; replace r_ah := g13.rdD r_ah; replace r_b1l := g13.rdD r_b1l; replace r_b1h := g13.rdD r_b1h; replace r_b2l := g13.rdD r_b2l; replace r_b2h := g13.rdD r_b2h; replace r_b3l := g13.rdD r_b3l; replace r_b3h := g13.rdD r_b3h
          clear h13 hb13
          refine sat_trueP (b := (sameI ⟨l_b1, g_b1⟩ ⟨l_b1, g_b1⟩)) (by kernel_rfl) (sameI_self _) ?_
          refine sat_call #[.agg #[.bool l_b1.neg, .slice A_b1 n_b1 c_b1, .int .i64 l_b1.e]] (by kernel_rfl) fun w14 h14 => ?_
          refine (bitsD_any _ l_b1 _ (h14.rdD r_b1l)).mono ?_
          rintro e v14 ⟨rfl, hb14⟩
          refine ⟨hb14, [.int .i64 (bitsD l_b1)], _, rfl, by kernel_rfl, by kernel_rfl, fun g14 => ?_⟩
          replace r_al := g14.rdD r_al; replace r_ah := g14.rdD r_ah; replace r_b1l := g14.rdD r_b1l; replace r_b1h := g14.rdD r_b1h; replace r_b2l := g14.rdD r_b2l; replace r_b2h := g14.rdD r_b2h; replace r_b3l := g14.rdD r_b3l; replace r_b3h := g14.rdD r_b3h
          clear h14 hb14
          refine sat_prim (v := .bool (decide (((bitsD l_b1) : Int) ≤ ((N1 : Nat) : Int)))) (by kernel_rfl) ?_
          refine sat_trueP (b := (decide (((bitsD l_b1) : Int) ≤ ((N1 : Nat) : Int)))) (by kernel_rfl) (decide_eq_true RS.bl) ?_
          refine sat_call #[.agg #[.bool g_b1.neg, .slice B_b1 m_b1 k_b1, .int .i64 g_b1.e]] (by kernel_rfl) fun w15 h15 => ?_
          refine (bitsD_any _ g_b1 _ (h15.rdD r_b1h)).mono ?_
          rintro e v15 ⟨rfl, hb15⟩
          refine ⟨hb15, [.int .i64 (bitsD g_b1)], _, rfl, by kernel_rfl, by kernel_rfl, fun g15 => ?_⟩
          replace r_al := g15.rdD r_al; replace r_ah := g15.rdD r_ah; replace r_b1l := g15.rdD r_b1l; replace r_b1h := g15.rdD r_b1h; replace r_b2l := g15.rdD r_b2l; replace r_b2h := g15.rdD r_b2h; replace r_b3l := g15.rdD r_b3l; replace r_b3h := g15.rdD r_b3h
          clear h15 hb15
          refine sat_prim (v := .bool (decide (((bitsD g_b1) : Int) ≤ ((N1 : Nat) : Int)))) (by kernel_rfl) ?_
          refine sat_trueP (b := (decide (((bitsD g_b1) : Int) ≤ ((N1 : Nat) : Int)))) (by kernel_rfl) (decide_eq_true RS.bh) ?_
          refine sat_call #[.agg #[.bool l_b1.neg, .slice A_b1 n_b1 c_b1, .int .i64 l_b1.e], .agg #[.bool a.lo.neg, .slice A_a n_a c_a, .int .i64 a.lo.e]] (by kernel_rfl) fun w16 h16 => ?_
          refine (cmpD_any _ _ (l_b1) (a.lo) _ (h16.rdD r_b1l) (h16.rdD r_al)).mono ?_
          rintro e v16 ⟨rfl, hb16⟩
          refine ⟨hb16, [.int .i64 (cmpD l_b1 a.lo)], _, rfl, by kernel_rfl, by kernel_rfl, fun g16 => ?_⟩
          replace r_al := g16.rdD r_al; replace r_ah := g16.rdD r_ah; replace r_b1l := g16.rdD r_b1l; replace r_b1h := g16.rdD r_b1h; replace r_b2l := g16.rdD r_b2l; replace r_b2h := g16.rdD r_b2h; replace r_b3l := g16.rdD r_b3l; replace r_b3h := g16.rdD r_b3h
          clear h16 hb16
          refine sat_prim (v := .bool (decide (((cmpD l_b1 a.lo) : Int) ≤ 0))) (by kernel_rfl) ?_
          exact sat_ret (.bool (decide (((cmpD l_b1 a.lo) : Int) ≤ 0))) (by kernel_rfl) fun w9 h9 => congrArg Value.bool (decide_eq_true RS.lo)
        · refine sat_true (by kernel_rfl) ?_
          refine sat_call #[] (by kernel_rfl) fun w9 h9 => ?_
          refine (told5_any _ (h9.tab hT)).mono ?_
          rintro e v9 ⟨rfl, hb9⟩
          refine ⟨hb9, [.bool true], _, rfl, by kernel_rfl, by kernel_rfl, fun g9 => ?_⟩
          replace r_al := g9.rdD r_al; replace r_ah := g9.rdD r_ah; replace r_b1l := g9.rdD r_b1l; replace r_b1h := g9.rdD r_b1h; replace r_b2l := g9.rdD r_b2l; replace r_b2h := g9.rdD r_b2h
          clear h9 hb9
          exact sat_ret (.bool true) (by kernel_rfl) fun w9 h9 => rfl
      · refine sat_true (by kernel_rfl) ?_
        refine sat_call #[] (by kernel_rfl) fun w8 h8 => ?_
        refine (told5_any _ (h8.tab hT)).mono ?_
        rintro e v8 ⟨rfl, hb8⟩
        refine ⟨hb8, [.bool true], _, rfl, by kernel_rfl, by kernel_rfl, fun g8 => ?_⟩
        replace r_al := g8.rdD r_al; replace r_ah := g8.rdD r_ah; replace r_b1l := g8.rdD r_b1l; replace r_b1h := g8.rdD r_b1h; replace r_b2l := g8.rdD r_b2l; replace r_b2h := g8.rdD r_b2h
        clear h8 hb8
        exact sat_ret (.bool true) (by kernel_rfl) fun w9 h9 => rfl

end Go.Proofs.YteodljieiloebaaDoor
