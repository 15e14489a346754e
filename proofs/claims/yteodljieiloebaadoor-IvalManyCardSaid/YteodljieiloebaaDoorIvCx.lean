/- sluicewaylaw5.told and the walk of IvalAsks, by their trees. Printed by wip/mk_IvC.py. -/
import Derived.Test.YteodljieiloebaaDoorIvBx
import Derived.Test.YteodljieiloebaaDoorDyMx
import Derived.Test.YteodljieiloebaaDoorSxGx
namespace Go.Proofs.YteodljieiloebaaDoor
open Go.RowKit Pl
open Sx (sat_call sat_chk sat_prim sat_ite sat_true sat_false sat_trueP sat_falseP sat_ret sat_row all_nil all_cons okB okS okI)

def D1 : Dy := ⟨false, [1], 0⟩
def D3 : Dy := ⟨false, [3], 0⟩
def D2 : Dy := ⟨false, [1], 1⟩
theorem rdi1 {W : World} {b x : Nat} (hb : b < W.heap.size) (hc : W.cell? ⟨b, 0, none⟩ = some (.int .u64 (x : Int))) : RdN .u64 W (some ⟨b, 0, none⟩) 1 1 [x] :=
  ⟨rfl, Nat.le_refl _, by decide, fun _ => ⟨b, 0, rfl, hb, fun k hk => by
    obtain rfl : k = 0 := by omega
    exact hc⟩⟩
theorem row_D1 {w : World} {b : Nat} {t : TypeId} (h : Box w b [.int .u64 1] t) : RdD w (.agg #[.bool D1.neg, .slice (some ⟨b, 0, none⟩) 1 1, .int .i64 D1.e]) D1 :=
  ⟨_, _, _, rfl, rdi1 (x := 1) h.lt (h.cell 0 rfl), Lim.cons BB_gt1 Lim.nil, by decide, by decide⟩
theorem row_D3 {w : World} {b : Nat} {t : TypeId} (h : Box w b [.int .u64 3] t) : RdD w (.agg #[.bool D3.neg, .slice (some ⟨b, 0, none⟩) 1 1, .int .i64 D3.e]) D3 :=
  ⟨_, _, _, rfl, rdi1 (x := 3) h.lt (h.cell 0 rfl), Lim.cons (by unfold BB; omega) Lim.nil, by decide, by decide⟩
theorem lim_D1 : Lim BB D1.m := Lim.cons BB_gt1 Lim.nil
theorem lim_D3 : Lim BB D3.m := Lim.cons (by unfold BB; omega) Lim.nil
theorem zd_13 : ZD D1 < ZD D3 := by
  unfold ZD D1 D3 sgI
  simp only [val, Bool.false_eq_true, if_false, Nat.mul_zero, Nat.add_zero, Nat.one_mul]
  have := Nat.two_pow_pos ((0 : Int) + (SS : Int)).toNat
  generalize 2 ^ ((0 : Int) + (SS : Int)).toNat = P at *
  omega
theorem c13 : cmpD D1 D3 = -1 := by
  rw [cmpD_Z (by decide) lim_D1 (by decide) lim_D3]
  unfold cmpI
  have := zd_13
  rw [if_pos this]
theorem c31 : cmpD D3 D1 = 1 := by
  rw [cmpD_Z (by decide) lim_D3 (by decide) lim_D1]
  unfold cmpI
  have := zd_13
  rw [if_neg (by omega), if_pos this]
theorem c_self {d : Dy} (l : Lim BB d.m) : cmpD d d = 0 := by have := cmpD_anti l l; omega
theorem c11 : cmpD D1 D1 = 0 := c_self lim_D1
theorem c33 : cmpD D3 D3 = 0 := c_self lim_D3
theorem czz : cmpD Dy.zero Dy.zero = 0 := c_self Lim.nil
theorem may_1 : mayD D1 = true := by decide
theorem may_3 : mayD D3 = true := by decide
theorem mk_13 : makeI D1 D3 = (⟨D1, D3⟩, 0) := by unfold makeI mayI; simp only [c13, may_1, may_3]; rfl
theorem mk_31 : makeI D3 D1 = (Iv.zero, 1) := by unfold makeI mayI; simp only [c31, may_1, may_3]; rfl
theorem mayI13 : mayI ⟨D1, D3⟩ = true := by unfold mayI; simp only [c13, may_1, may_3]; rfl
theorem mayI11 : mayI ⟨D1, D1⟩ = true := by unfold mayI; simp only [c11, may_1]; rfl
theorem mayI33 : mayI ⟨D3, D3⟩ = true := by unfold mayI; simp only [c33, may_3]; rfl
theorem mayI31 : mayI ⟨D3, D1⟩ = false := by unfold mayI; simp only [c31, may_1, may_3]; rfl
theorem mid_13 : midI ⟨D1, D3⟩ = (D2, 0) := by
  unfold midI
  rw [mayI13]
  have e1 : twoS D1 D3 (sumS D1 D3) = (⟨false, [1], 2⟩, 0) := by
    rw [twoS_of may_1 may_3]
    exact fit1 (neg := false) (e := 0) (n := 4) (k := 2) (x := 1) rfl rfl BB_gt1 (by decide) (by decide)
  rw [e1]
  exact fit1 (neg := false) (e := 1) (n := 1) (k := 0) (x := 1) rfl rfl BB_gt1 (by decide) (by decide)
theorem wid_13 : widthI ⟨D1, D3⟩ = (D2, 0) := by
  unfold widthI
  rw [mayI13]
  show twoS D3 D1 (subS D3 D1) = _
  rw [twoS_of may_3 may_1]
  exact fit1 (neg := false) (e := 0) (n := 2) (k := 1) (x := 1) rfl rfl BB_gt1 (by decide) (by decide)
theorem meet_13 : meetI ⟨D1, D1⟩ ⟨D3, D3⟩ = (Iv.zero, 5) := by
  unfold meetI greatestD leastD
  simp only [mayI11, mayI33, c13]
  exact (show (bif mayI ⟨D3, D1⟩ then ((⟨D3, D1⟩ : Iv), (0 : Int)) else (Iv.zero, 5)) = (Iv.zero, 5) by rw [mayI31]; rfl)
theorem has_13 : hasI ⟨D1, D3⟩ D1 = true := by unfold hasI; simp only [mayI13, may_1, c11, c13]; rfl
theorem within_13 : withinI ⟨D3, D3⟩ ⟨D1, D3⟩ = true := by unfold withinI; simp only [mayI13, mayI33, c33, c31]; rfl
theorem inside_13 : insideI ⟨D3, D3⟩ ⟨D1, D3⟩ = false := by unfold insideI; simp only [mayI13, mayI33, c33, c31]; rfl
theorem mayI_zero : mayI Iv.zero = true := by unfold mayI Iv.zero; simp only [czz]; rfl
theorem iv3 {l h l' h' : Dy} {x x' : Int} {r : Iv × Int} (k : Hid ((⟨l, h⟩, x) = r)) (e : r = (⟨l', h'⟩, x')) : l = l' ∧ h = h' ∧ x = x' := by
  have := k.out.trans e
  injection this with h1 h2
  injection h1 with h3 h4
  exact ⟨h3, h4, h2⟩
theorem dx2 {d d' : Dy} {x x' : Int} {r : Dy × Int} (k : Hid ((d, x) = r)) (e : r = (d', x')) : d = d' ∧ x = x' := by
  have := k.out.trans e
  injection this with h1 h2
  exact ⟨h1, h2⟩
def tr_told5 : Sx.Tree := .row 58 [.num .u64 1] 1 [] (.chk [.lf 0] (.row 58 [.num .u64 3] 1 [] (.chk [.lf 1] (.chk [.lf 0] (.chk [.lf 1] (.call 40 [.ag [.bit false, .lf 0, .num .i64 0], .ag [.bit false, .lf 1, .num .i64 0]] (.tup [(true, 6), (false, 1)]) (.chk [.lf 2, .lf 3, .lf 4, .lf 5, .lf 6, .lf 7] (.call 40 [.ag [.bit false, .lf 1, .num .i64 0], .ag [.bit false, .lf 0, .num .i64 0]] (.tup [(true, 6), (false, 1)]) (.chk [.lf 9, .lf 10, .lf 11, .lf 12, .lf 13, .lf 14] (.call 41 [.ag [.lf 2, .lf 3, .lf 4, .lf 5, .lf 6, .lf 7]] (.tup [(true, 3), (false, 1)]) (.chk [.lf 16, .lf 17, .lf 18] (.call 42 [.ag [.lf 2, .lf 3, .lf 4, .lf 5, .lf 6, .lf 7]] (.tup [(true, 3), (false, 1)]) (.chk [.lf 20, .lf 21, .lf 22] (.call 44 [.ag [.bit false, .lf 0, .num .i64 0]] (.ag 6) (.call 44 [.ag [.bit false, .lf 1, .num .i64 0]] (.ag 6) (.call 43 [.ag [.lf 24, .lf 25, .lf 26, .lf 27, .lf 28, .lf 29], .ag [.lf 30, .lf 31, .lf 32, .lf 33, .lf 34, .lf 35]] (.tup [(true, 6), (false, 1)]) (.chk [.lf 36, .lf 37, .lf 38, .lf 39, .lf 40, .lf 41] (.prim (.bin .eql) [.lf 8, .num .i64 0] (.ite (.lf 43) (.prim (.bin .eql) [.lf 15, .num .i64 1] (.ite (.lf 44) (.prim (.bin .eql) [.lf 19, .num .i64 0] (.ite (.lf 45) (.prim (.bin .eql) [.lf 18, .num .i64 1] (.ite (.lf 46) (.prim (.bin .eql) [.lf 23, .num .i64 0] (.ite (.lf 47) (.prim (.bin .eql) [.lf 22, .num .i64 1] (.ite (.lf 48) (.prim (.bin .eql) [.lf 42, .num .i64 5] (.ite (.lf 49) (.call 45 [.ag [.lf 2, .lf 3, .lf 4, .lf 5, .lf 6, .lf 7], .ag [.bit false, .lf 0, .num .i64 0]] .one (.ite (.lf 50) (.call 44 [.ag [.bit false, .lf 1, .num .i64 0]] (.ag 6) (.call 17 [.ag [.lf 51, .lf 52, .lf 53, .lf 54, .lf 55, .lf 56], .ag [.lf 2, .lf 3, .lf 4, .lf 5, .lf 6, .lf 7]] .one (.ite (.lf 57) (.call 44 [.ag [.bit false, .lf 1, .num .i64 0]] (.ag 6) (.call 46 [.ag [.lf 58, .lf 59, .lf 60, .lf 61, .lf 62, .lf 63], .ag [.lf 2, .lf 3, .lf 4, .lf 5, .lf 6, .lf 7]] .one (.prim .not [.lf 64] (.ite (.lf 65) (.call 15 [.ag [.bit false, .nil, .num .i64 0, .bit false, .nil, .num .i64 0]] .one (.ret (.one (.lf 66)))) (.ret (.one (.bit false))))))) (.ret (.one (.bit false)))))) (.ret (.one (.bit false))))) (.ret (.one (.bit false))))) (.ret (.one (.bit false))))) (.ret (.one (.bit false))))) (.ret (.one (.bit false))))) (.ret (.one (.bit false))))) (.ret (.one (.bit false))))) (.ret (.one (.bit false))))))))))))))))))))))
theorem tr_told5_eq : Sx.treeOf Tryd.prog 13 = some tr_told5 := by kernel_rfl

theorem told5_any (w : World) (hT : TabAt w) :
    Calls Tryd.prog 13 #[] w fun e w' => e = .returned (.bool true) ∧ Below w.heap.size w w' := by
  have r_zz := RdD.zero w
  refine (Sx.run (ls := []) (shs := []) (R := fun v _ => v = .bool true) (by kernel_rfl) tr_told5_eq rfl (by decide) ?_).mono (fun e w' ⟨v, he, hv, hb⟩ => ⟨by rw [he, hv], hb⟩)
  unfold tr_told5
  refine sat_row [.int .u64 1] (by kernel_rfl) (by intro x hx; cases hx) fun u1 h1 B1 => ?_
  replace r_zz := h1.rdD r_zz
  have r_D1 := row_D1 B1
  generalize u1.heap.size = ND1 at *
  generalize (u1.alloc _) = wD1 at *
  clear B1 h1
  refine sat_chk (all_cons (okS _ _ _) (all_nil)) ?_
  refine sat_row [.int .u64 3] (by kernel_rfl) (by intro x hx; cases hx) fun u1 h1 B1 => ?_
  replace r_zz := h1.rdD r_zz; replace r_D1 := h1.rdD r_D1
  have r_D3 := row_D3 B1
  generalize u1.heap.size = ND3 at *
  generalize (u1.alloc _) = wD3 at *
  clear B1 h1
  refine sat_chk (all_cons (okS _ _ _) (all_nil)) ?_
  refine sat_chk (all_cons (okS _ _ _) (all_nil)) ?_
  refine sat_chk (all_cons (okS _ _ _) (all_nil)) ?_
  refine sat_call #[.agg #[.bool false, .slice (some ⟨ND1, 0, none⟩) 1 1, .int .i64 0], .agg #[.bool false, .slice (some ⟨ND3, 0, none⟩) 1 1, .int .i64 0]] (by kernel_rfl) fun w1 h1 => ?_
  refine (makeI_any _ _ (D1) (D3) _ (h1.rdD r_D1) (h1.rdD r_D3)).mono ?_
  rintro e v1 ⟨⟨l_k1, g_k1, x_k1, A_k1, n_k1, c_k1, B_k1, m_k1, k_k1, h_k1, rfl, r_k1l, r_k1h⟩, hb1⟩
  obtain ⟨rfl, rfl, rfl⟩ := iv3 h_k1 mk_13
  refine ⟨hb1, [.bool D1.neg, .slice A_k1 n_k1 c_k1, .int .i64 D1.e, .bool D3.neg, .slice B_k1 m_k1 k_k1, .int .i64 D3.e, .int .i64 0], _, rfl, by kernel_rfl, by kernel_rfl, fun g1 => ?_⟩
  replace r_zz := g1.rdD r_zz; replace r_D1 := g1.rdD r_D1; replace r_D3 := g1.rdD r_D3
  clear h1 hb1
  refine sat_chk (all_cons (okB _) (all_cons (okS _ _ _) (all_cons (okI _) (all_cons (okB _) (all_cons (okS _ _ _) (all_cons (okI _) (all_nil))))))) ?_
  refine sat_call #[.agg #[.bool false, .slice (some ⟨ND3, 0, none⟩) 1 1, .int .i64 0], .agg #[.bool false, .slice (some ⟨ND1, 0, none⟩) 1 1, .int .i64 0]] (by kernel_rfl) fun w2 h2 => ?_
  refine (makeI_any _ _ (D3) (D1) _ (h2.rdD r_D3) (h2.rdD r_D1)).mono ?_
  rintro e v2 ⟨⟨l_k2, g_k2, x_k2, A_k2, n_k2, c_k2, B_k2, m_k2, k_k2, h_k2, rfl, r_k2l, r_k2h⟩, hb2⟩
  obtain ⟨rfl, rfl, rfl⟩ := iv3 h_k2 mk_31
  refine ⟨hb2, [.bool Dy.zero.neg, .slice A_k2 n_k2 c_k2, .int .i64 Dy.zero.e, .bool Dy.zero.neg, .slice B_k2 m_k2 k_k2, .int .i64 Dy.zero.e, .int .i64 1], _, rfl, by kernel_rfl, by kernel_rfl, fun g2 => ?_⟩
  replace r_zz := g2.rdD r_zz; replace r_D1 := g2.rdD r_D1; replace r_D3 := g2.rdD r_D3; replace r_k1l := g2.rdD r_k1l; replace r_k1h := g2.rdD r_k1h
  clear h2 hb2
  refine sat_chk (all_cons (okB _) (all_cons (okS _ _ _) (all_cons (okI _) (all_cons (okB _) (all_cons (okS _ _ _) (all_cons (okI _) (all_nil))))))) ?_
  refine sat_call #[.agg #[.bool D1.neg, .slice A_k1 n_k1 c_k1, .int .i64 D1.e, .bool D3.neg, .slice B_k1 m_k1 k_k1, .int .i64 D3.e]] (by kernel_rfl) fun w3 h3 => ?_
  refine (midI_any _ ⟨D1, D3⟩ _ (mkI (h3.rdD r_k1l) (h3.rdD r_k1h)) (h3.tab hT)).mono ?_
  rintro e v3 ⟨⟨d_w3, x_w3, A_w3, n_w3, c_w3, h_w3, rfl, r_w3⟩, hb3⟩
  obtain ⟨rfl, rfl⟩ := dx2 h_w3 mid_13
  refine ⟨hb3, [.bool D2.neg, .slice A_w3 n_w3 c_w3, .int .i64 D2.e, .int .i64 0], _, rfl, by kernel_rfl, by kernel_rfl, fun g3 => ?_⟩
  replace r_zz := g3.rdD r_zz; replace r_D1 := g3.rdD r_D1; replace r_D3 := g3.rdD r_D3; replace r_k1l := g3.rdD r_k1l; replace r_k1h := g3.rdD r_k1h; replace r_k2l := g3.rdD r_k2l; replace r_k2h := g3.rdD r_k2h
  clear h3 hb3
  refine sat_chk (all_cons (okB _) (all_cons (okS _ _ _) (all_cons (okI _) (all_nil)))) ?_
  refine sat_call #[.agg #[.bool D1.neg, .slice A_k1 n_k1 c_k1, .int .i64 D1.e, .bool D3.neg, .slice B_k1 m_k1 k_k1, .int .i64 D3.e]] (by kernel_rfl) fun w4 h4 => ?_
  refine (widthI_any _ ⟨D1, D3⟩ _ (mkI (h4.rdD r_k1l) (h4.rdD r_k1h)) (h4.tab hT)).mono ?_
  rintro e v4 ⟨⟨d_w4, x_w4, A_w4, n_w4, c_w4, h_w4, rfl, r_w4⟩, hb4⟩
  obtain ⟨rfl, rfl⟩ := dx2 h_w4 wid_13
  refine ⟨hb4, [.bool D2.neg, .slice A_w4 n_w4 c_w4, .int .i64 D2.e, .int .i64 0], _, rfl, by kernel_rfl, by kernel_rfl, fun g4 => ?_⟩
  replace r_zz := g4.rdD r_zz; replace r_D1 := g4.rdD r_D1; replace r_D3 := g4.rdD r_D3; replace r_k1l := g4.rdD r_k1l; replace r_k1h := g4.rdD r_k1h; replace r_k2l := g4.rdD r_k2l; replace r_k2h := g4.rdD r_k2h; replace r_w3 := g4.rdD r_w3
  clear h4 hb4
  refine sat_chk (all_cons (okB _) (all_cons (okS _ _ _) (all_cons (okI _) (all_nil)))) ?_
  refine sat_call #[.agg #[.bool false, .slice (some ⟨ND1, 0, none⟩) 1 1, .int .i64 0]] (by kernel_rfl) fun w5 h5 => ?_
  refine (ofI_any _ (D1) _ (h5.rdD r_D1)).mono ?_
  rintro e v5 ⟨⟨A_o5, n_o5, c_o5, rfl, r_o5⟩, hb5⟩
  refine ⟨hb5, [.bool D1.neg, .slice A_o5 n_o5 c_o5, .int .i64 D1.e, .bool D1.neg, .slice A_o5 n_o5 c_o5, .int .i64 D1.e], _, rfl, by kernel_rfl, by kernel_rfl, fun g5 => ?_⟩
  replace r_zz := g5.rdD r_zz; replace r_D1 := g5.rdD r_D1; replace r_D3 := g5.rdD r_D3; replace r_k1l := g5.rdD r_k1l; replace r_k1h := g5.rdD r_k1h; replace r_k2l := g5.rdD r_k2l; replace r_k2h := g5.rdD r_k2h; replace r_w3 := g5.rdD r_w3; replace r_w4 := g5.rdD r_w4
  clear h5 hb5
  refine sat_call #[.agg #[.bool false, .slice (some ⟨ND3, 0, none⟩) 1 1, .int .i64 0]] (by kernel_rfl) fun w6 h6 => ?_
  refine (ofI_any _ (D3) _ (h6.rdD r_D3)).mono ?_
  rintro e v6 ⟨⟨A_o6, n_o6, c_o6, rfl, r_o6⟩, hb6⟩
  refine ⟨hb6, [.bool D3.neg, .slice A_o6 n_o6 c_o6, .int .i64 D3.e, .bool D3.neg, .slice A_o6 n_o6 c_o6, .int .i64 D3.e], _, rfl, by kernel_rfl, by kernel_rfl, fun g6 => ?_⟩
  replace r_zz := g6.rdD r_zz; replace r_D1 := g6.rdD r_D1; replace r_D3 := g6.rdD r_D3; replace r_k1l := g6.rdD r_k1l; replace r_k1h := g6.rdD r_k1h; replace r_k2l := g6.rdD r_k2l; replace r_k2h := g6.rdD r_k2h; replace r_w3 := g6.rdD r_w3; replace r_w4 := g6.rdD r_w4; replace r_o5 := g6.rdD r_o5
  clear h6 hb6
  refine sat_call #[.agg #[.bool D1.neg, .slice A_o5 n_o5 c_o5, .int .i64 D1.e, .bool D1.neg, .slice A_o5 n_o5 c_o5, .int .i64 D1.e], .agg #[.bool D3.neg, .slice A_o6 n_o6 c_o6, .int .i64 D3.e, .bool D3.neg, .slice A_o6 n_o6 c_o6, .int .i64 D3.e]] (by kernel_rfl) fun w7 h7 => ?_
  refine (meetI_any _ _ ⟨D1, D1⟩ ⟨D3, D3⟩ _ (mkI (h7.rdD r_o5) (h7.rdD r_o5)) (mkI (h7.rdD r_o6) (h7.rdD r_o6))).mono ?_
  rintro e v7 ⟨⟨l_t7, g_t7, x_t7, A_t7, n_t7, c_t7, B_t7, m_t7, k_t7, h_t7, rfl, r_t7l, r_t7h⟩, hb7⟩
  obtain ⟨rfl, rfl, rfl⟩ := iv3 h_t7 meet_13
  refine ⟨hb7, [.bool Dy.zero.neg, .slice A_t7 n_t7 c_t7, .int .i64 Dy.zero.e, .bool Dy.zero.neg, .slice B_t7 m_t7 k_t7, .int .i64 Dy.zero.e, .int .i64 5], _, rfl, by kernel_rfl, by kernel_rfl, fun g7 => ?_⟩
  replace r_zz := g7.rdD r_zz; replace r_D1 := g7.rdD r_D1; replace r_D3 := g7.rdD r_D3; replace r_k1l := g7.rdD r_k1l; replace r_k1h := g7.rdD r_k1h; replace r_k2l := g7.rdD r_k2l; replace r_k2h := g7.rdD r_k2h; replace r_w3 := g7.rdD r_w3; replace r_w4 := g7.rdD r_w4; replace r_o5 := g7.rdD r_o5; replace r_o6 := g7.rdD r_o6
  clear h7 hb7
  refine sat_chk (all_cons (okB _) (all_cons (okS _ _ _) (all_cons (okI _) (all_cons (okB _) (all_cons (okS _ _ _) (all_cons (okI _) (all_nil))))))) ?_
  refine sat_prim (v := .bool ((0 : Int) == 0)) (by kernel_rfl) ?_
  refine sat_trueP (b := ((0 : Int) == 0)) (by kernel_rfl) (by simp) ?_
  refine sat_prim (v := .bool ((1 : Int) == 1)) (by kernel_rfl) ?_
  refine sat_trueP (b := ((1 : Int) == 1)) (by kernel_rfl) (by simp) ?_
  refine sat_prim (v := .bool ((0 : Int) == 0)) (by kernel_rfl) ?_
  refine sat_trueP (b := ((0 : Int) == 0)) (by kernel_rfl) (by simp) ?_
  refine sat_prim (v := .bool ((1 : Int) == 1)) (by kernel_rfl) ?_
  refine sat_trueP (b := ((1 : Int) == 1)) (by kernel_rfl) (by simp) ?_
  refine sat_prim (v := .bool ((0 : Int) == 0)) (by kernel_rfl) ?_
  refine sat_trueP (b := ((0 : Int) == 0)) (by kernel_rfl) (by simp) ?_
  refine sat_prim (v := .bool ((1 : Int) == 1)) (by kernel_rfl) ?_
  refine sat_trueP (b := ((1 : Int) == 1)) (by kernel_rfl) (by simp) ?_
  refine sat_prim (v := .bool ((5 : Int) == 5)) (by kernel_rfl) ?_
  refine sat_trueP (b := ((5 : Int) == 5)) (by kernel_rfl) (by simp) ?_
  refine sat_call #[.agg #[.bool D1.neg, .slice A_k1 n_k1 c_k1, .int .i64 D1.e, .bool D3.neg, .slice B_k1 m_k1 k_k1, .int .i64 D3.e], .agg #[.bool false, .slice (some ⟨ND1, 0, none⟩) 1 1, .int .i64 0]] (by kernel_rfl) fun w8 h8 => ?_
  refine (hasI_any _ _ ⟨D1, D3⟩ D1 _ (mkI (h8.rdD r_k1l) (h8.rdD r_k1h)) (h8.rdD r_D1)).mono ?_
  rw [show (mayI ⟨D1, D3⟩ && mayD D1 && decide (cmpD (Iv.mk D1 D3).lo D1 ≤ 0) && decide (cmpD D1 (Iv.mk D1 D3).hi ≤ 0)) = true from has_13]
  rintro e v8 ⟨rfl, hb8⟩
  refine ⟨hb8, [.bool true], _, rfl, by kernel_rfl, by kernel_rfl, fun g8 => ?_⟩
  replace r_zz := g8.rdD r_zz; replace r_D1 := g8.rdD r_D1; replace r_D3 := g8.rdD r_D3; replace r_k1l := g8.rdD r_k1l; replace r_k1h := g8.rdD r_k1h; replace r_k2l := g8.rdD r_k2l; replace r_k2h := g8.rdD r_k2h; replace r_w3 := g8.rdD r_w3; replace r_w4 := g8.rdD r_w4; replace r_o5 := g8.rdD r_o5; replace r_o6 := g8.rdD r_o6; replace r_t7l := g8.rdD r_t7l; replace r_t7h := g8.rdD r_t7h
  clear h8 hb8
  refine sat_true (by kernel_rfl) ?_
  refine sat_call #[.agg #[.bool false, .slice (some ⟨ND3, 0, none⟩) 1 1, .int .i64 0]] (by kernel_rfl) fun w9 h9 => ?_
  refine (ofI_any _ (D3) _ (h9.rdD r_D3)).mono ?_
  rintro e v9 ⟨⟨A_o8, n_o8, c_o8, rfl, r_o8⟩, hb9⟩
  refine ⟨hb9, [.bool D3.neg, .slice A_o8 n_o8 c_o8, .int .i64 D3.e, .bool D3.neg, .slice A_o8 n_o8 c_o8, .int .i64 D3.e], _, rfl, by kernel_rfl, by kernel_rfl, fun g9 => ?_⟩
  replace r_zz := g9.rdD r_zz; replace r_D1 := g9.rdD r_D1; replace r_D3 := g9.rdD r_D3; replace r_k1l := g9.rdD r_k1l; replace r_k1h := g9.rdD r_k1h; replace r_k2l := g9.rdD r_k2l; replace r_k2h := g9.rdD r_k2h; replace r_w3 := g9.rdD r_w3; replace r_w4 := g9.rdD r_w4; replace r_o5 := g9.rdD r_o5; replace r_o6 := g9.rdD r_o6; replace r_t7l := g9.rdD r_t7l; replace r_t7h := g9.rdD r_t7h
  clear h9 hb9
  refine sat_call #[.agg #[.bool D3.neg, .slice A_o8 n_o8 c_o8, .int .i64 D3.e, .bool D3.neg, .slice A_o8 n_o8 c_o8, .int .i64 D3.e], .agg #[.bool D1.neg, .slice A_k1 n_k1 c_k1, .int .i64 D1.e, .bool D3.neg, .slice B_k1 m_k1 k_k1, .int .i64 D3.e]] (by kernel_rfl) fun w10 h10 => ?_
  refine (withinI_any _ _ ⟨D3, D3⟩ ⟨D1, D3⟩ _ (mkI (h10.rdD r_o8) (h10.rdD r_o8)) (mkI (h10.rdD r_k1l) (h10.rdD r_k1h))).mono ?_
  rw [show (mayI ⟨D3, D3⟩ && mayI ⟨D1, D3⟩ && decide (0 ≤ cmpD (Iv.mk D3 D3).lo (Iv.mk D1 D3).lo) && decide (0 ≤ cmpD (Iv.mk D1 D3).hi (Iv.mk D3 D3).hi)) = true from within_13]
  rintro e v10 ⟨rfl, hb10⟩
  refine ⟨hb10, [.bool true], _, rfl, by kernel_rfl, by kernel_rfl, fun g10 => ?_⟩
  replace r_zz := g10.rdD r_zz; replace r_D1 := g10.rdD r_D1; replace r_D3 := g10.rdD r_D3; replace r_k1l := g10.rdD r_k1l; replace r_k1h := g10.rdD r_k1h; replace r_k2l := g10.rdD r_k2l; replace r_k2h := g10.rdD r_k2h; replace r_w3 := g10.rdD r_w3; replace r_w4 := g10.rdD r_w4; replace r_o5 := g10.rdD r_o5; replace r_o6 := g10.rdD r_o6; replace r_t7l := g10.rdD r_t7l; replace r_t7h := g10.rdD r_t7h; replace r_o8 := g10.rdD r_o8
  clear h10 hb10
  refine sat_true (by kernel_rfl) ?_
  refine sat_call #[.agg #[.bool false, .slice (some ⟨ND3, 0, none⟩) 1 1, .int .i64 0]] (by kernel_rfl) fun w11 h11 => ?_
  refine (ofI_any _ (D3) _ (h11.rdD r_D3)).mono ?_
  rintro e v11 ⟨⟨A_o9, n_o9, c_o9, rfl, r_o9⟩, hb11⟩
  refine ⟨hb11, [.bool D3.neg, .slice A_o9 n_o9 c_o9, .int .i64 D3.e, .bool D3.neg, .slice A_o9 n_o9 c_o9, .int .i64 D3.e], _, rfl, by kernel_rfl, by kernel_rfl, fun g11 => ?_⟩
  replace r_zz := g11.rdD r_zz; replace r_D1 := g11.rdD r_D1; replace r_D3 := g11.rdD r_D3; replace r_k1l := g11.rdD r_k1l; replace r_k1h := g11.rdD r_k1h; replace r_k2l := g11.rdD r_k2l; replace r_k2h := g11.rdD r_k2h; replace r_w3 := g11.rdD r_w3; replace r_w4 := g11.rdD r_w4; replace r_o5 := g11.rdD r_o5; replace r_o6 := g11.rdD r_o6; replace r_t7l := g11.rdD r_t7l; replace r_t7h := g11.rdD r_t7h; replace r_o8 := g11.rdD r_o8
  clear h11 hb11
  refine sat_call #[.agg #[.bool D3.neg, .slice A_o9 n_o9 c_o9, .int .i64 D3.e, .bool D3.neg, .slice A_o9 n_o9 c_o9, .int .i64 D3.e], .agg #[.bool D1.neg, .slice A_k1 n_k1 c_k1, .int .i64 D1.e, .bool D3.neg, .slice B_k1 m_k1 k_k1, .int .i64 D3.e]] (by kernel_rfl) fun w12 h12 => ?_
  refine (insideI_any _ _ ⟨D3, D3⟩ ⟨D1, D3⟩ _ (mkI (h12.rdD r_o9) (h12.rdD r_o9)) (mkI (h12.rdD r_k1l) (h12.rdD r_k1h))).mono ?_
  rw [show (mayI ⟨D3, D3⟩ && mayI ⟨D1, D3⟩ && decide (0 < cmpD (Iv.mk D3 D3).lo (Iv.mk D1 D3).lo) && decide (0 < cmpD (Iv.mk D1 D3).hi (Iv.mk D3 D3).hi)) = false from inside_13]
  rintro e v12 ⟨rfl, hb12⟩
  refine ⟨hb12, [.bool false], _, rfl, by kernel_rfl, by kernel_rfl, fun g12 => ?_⟩
  replace r_zz := g12.rdD r_zz; replace r_D1 := g12.rdD r_D1; replace r_D3 := g12.rdD r_D3; replace r_k1l := g12.rdD r_k1l; replace r_k1h := g12.rdD r_k1h; replace r_k2l := g12.rdD r_k2l; replace r_k2h := g12.rdD r_k2h; replace r_w3 := g12.rdD r_w3; replace r_w4 := g12.rdD r_w4; replace r_o5 := g12.rdD r_o5; replace r_o6 := g12.rdD r_o6; replace r_t7l := g12.rdD r_t7l; replace r_t7h := g12.rdD r_t7h; replace r_o8 := g12.rdD r_o8; replace r_o9 := g12.rdD r_o9
  clear h12 hb12
  refine sat_prim (v := .bool true) (by kernel_rfl) ?_
  refine sat_true (by kernel_rfl) ?_
  refine sat_call #[.agg #[.bool false, .slice none 0 0, .int .i64 0, .bool false, .slice none 0 0, .int .i64 0]] (by kernel_rfl) fun w13 h13 => ?_
  refine (mayI_any _ Iv.zero _ (mkI (h13.rdD r_zz) (h13.rdD r_zz))).mono ?_
  rw [show (mayD Iv.zero.lo && mayD Iv.zero.hi && decide (cmpD Iv.zero.lo Iv.zero.hi ≤ 0)) = true from mayI_zero]
  rintro e v13 ⟨rfl, hb13⟩
  refine ⟨hb13, [.bool true], _, rfl, by kernel_rfl, by kernel_rfl, fun g13 => ?_⟩
  replace r_zz := g13.rdD r_zz; replace r_D1 := g13.rdD r_D1; replace r_D3 := g13.rdD r_D3; replace r_k1l := g13.rdD r_k1l; replace r_k1h := g13.rdD r_k1h; replace r_k2l := g13.rdD r_k2l; replace r_k2h := g13.rdD r_k2h; replace r_w3 := g13.rdD r_w3; replace r_w4 := g13.rdD r_w4; replace r_o5 := g13.rdD r_o5; replace r_o6 := g13.rdD r_o6; replace r_t7l := g13.rdD r_t7l; replace r_t7h := g13.rdD r_t7h; replace r_o8 := g13.rdD r_o8; replace r_o9 := g13.rdD r_o9
  clear h13 hb13
  exact sat_ret (.bool true) (by kernel_rfl) fun w9 h9 => rfl

end Go.Proofs.YteodljieiloebaaDoor
