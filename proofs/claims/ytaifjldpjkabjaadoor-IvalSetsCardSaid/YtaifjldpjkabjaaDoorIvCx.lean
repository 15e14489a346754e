/- sluicewaylaw5.told and the walk of IvalAsks, by their trees. Printed by wip/mk_IvC.py. -/
import Derived.Test.YtaifjldpjkabjaaDoorIvBx
import Derived.Test.YtaifjldpjkabjaaDoorDyMx
namespace Go.Proofs.YtaifjldpjkabjaaDoor
open Go.RowKit Pl
open Sx (sat_call sat_chk sat_prim sat_ite sat_true sat_false sat_trueP sat_falseP sat_ret sat_row all_nil all_cons okB okS okI)

/-- Which values a copy of a struct may hold, reckoned. -/
def okV : Value → Bool
  | .bool _ => true
  | .slice _ _ _ => true
  | .int .i64 _ => true
  | _ => false
theorem okV_leaf {v : Value} (h : okV v = true) : Sx.LeafOk v := by
  unfold okV at h
  split at h
  · exact okB _
  · exact okS _ _ _
  · exact okI _
  · cases h
theorem sat_chkB {w0 w : World} {R : Value → World → Prop} {Pn : List PanicEntry → World → Prop} {ρ : List Value} {t : Sx.Tree} {l : List Sx.At} (h : (l.all fun x => okV (x.den ρ [])) = true) (k : Sx.sat Tryd.prog w0 R Pn t ρ w) : Sx.sat Tryd.prog w0 R Pn (.chk l t) ρ w :=
  sat_chk (fun x hx => okV_leaf (List.all_eq_true.1 h x hx)) k
def D1 : Dy := ⟨false, [1], 0⟩
def D3 : Dy := ⟨false, [3], 0⟩
def D2 : Dy := ⟨false, [1], 1⟩
def I13 : Iv := ⟨D1, D3⟩
theorem rdi1 {W : World} {b x : Nat} (hb : b < W.heap.size) (hc : W.cell? ⟨b, 0, none⟩ = some (.int .u64 (x : Int))) : RdN .u64 W (some ⟨b, 0, none⟩) 1 1 [x] :=
  ⟨rfl, Nat.le_refl _, by decide, fun _ => ⟨b, 0, rfl, hb, fun k hk => by
    obtain rfl : k = 0 := by omega
    exact hc⟩⟩
theorem row_D1 {w : World} {b : Nat} {t : TypeId} (h : Box w b [.int .u64 1] t) : RdD w (.agg #[.bool D1.neg, .slice (some ⟨b, 0, none⟩) 1 1, .int .i64 D1.e]) D1 :=
  ⟨_, _, _, rfl, rdi1 (x := 1) h.lt (h.cell 0 rfl), Lim.cons BB_gt1 Lim.nil, by decide, by decide⟩
theorem row_D3 {w : World} {b : Nat} {t : TypeId} (h : Box w b [.int .u64 3] t) : RdD w (.agg #[.bool D3.neg, .slice (some ⟨b, 0, none⟩) 1 1, .int .i64 D3.e]) D3 :=
  ⟨_, _, _, rfl, rdi1 (x := 3) h.lt (h.cell 0 rfl), Lim.cons (by unfold BB; omega) Lim.nil, by decide, by decide⟩
theorem lim_D1 : Lim BB D1.m := Lim.cons BB_gt1 Lim.nil
theorem lim_D3 : Lim BB D3.m := Lim.cons (by unfold BB; omega) Lim.nil
theorem zd_13 : ZD D1 < ZD D3 := by
  unfold ZD D1 D3 sgI
  simp only [val, Bool.false_eq_true, if_false, Nat.mul_zero, Nat.add_zero, Nat.one_mul]
  have := Nat.two_pow_pos ((0 : Int) + (SS : Int)).toNat
  generalize 2 ^ ((0 : Int) + (SS : Int)).toNat = P at *
  omega
theorem c13 : cmpD D1 D3 = -1 := by
  rw [cmpD_Z (by decide) lim_D1 (by decide) lim_D3]
  unfold cmpI
  have := zd_13
  rw [if_pos this]
theorem c31 : cmpD D3 D1 = 1 := by
  rw [cmpD_Z (by decide) lim_D3 (by decide) lim_D1]
  unfold cmpI
  have := zd_13
  rw [if_neg (by omega), if_pos this]
theorem c_self {d : Dy} (l : Lim BB d.m) : cmpD d d = 0 := by have := cmpD_anti l l; omega
theorem c11 : cmpD D1 D1 = 0 := c_self lim_D1
theorem c33 : cmpD D3 D3 = 0 := c_self lim_D3
theorem czz : cmpD Dy.zero Dy.zero = 0 := c_self Lim.nil
theorem may_1 : mayD D1 = true := by decide
theorem may_3 : mayD D3 = true := by decide
theorem mk_13 : makeI D1 D3 = (⟨D1, D3⟩, 0) := by unfold makeI mayI; simp only [c13, may_1, may_3]; rfl
theorem mk_31 : makeI D3 D1 = (Iv.zero, 1) := by unfold makeI mayI; simp only [c31, may_1, may_3]; rfl
theorem mayI13 : mayI ⟨D1, D3⟩ = true := by unfold mayI; simp only [c13, may_1, may_3]; rfl
theorem mayI11 : mayI ⟨D1, D1⟩ = true := by unfold mayI; simp only [c11, may_1]; rfl
theorem mayI33 : mayI ⟨D3, D3⟩ = true := by unfold mayI; simp only [c33, may_3]; rfl
theorem mayI31 : mayI ⟨D3, D1⟩ = false := by unfold mayI; simp only [c31, may_1, may_3]; rfl
theorem mid_13 : midI ⟨D1, D3⟩ = (D2, 0) := by
  unfold midI
  rw [mayI13]
  have e1 : twoS D1 D3 (sumS D1 D3) = (⟨false, [1], 2⟩, 0) := by
    rw [twoS_of may_1 may_3]
    exact fit1 (neg := false) (e := 0) (n := 4) (k := 2) (x := 1) rfl rfl BB_gt1 (by decide) (by decide)
  rw [e1]
  exact fit1 (neg := false) (e := 1) (n := 1) (k := 0) (x := 1) rfl rfl BB_gt1 (by decide) (by decide)
theorem wid_13 : widthI ⟨D1, D3⟩ = (D2, 0) := by
  unfold widthI
  rw [mayI13]
  show twoS D3 D1 (subS D3 D1) = _
  rw [twoS_of may_3 may_1]
  exact fit1 (neg := false) (e := 0) (n := 2) (k := 1) (x := 1) rfl rfl BB_gt1 (by decide) (by decide)
theorem meet_13 : meetI ⟨D1, D1⟩ ⟨D3, D3⟩ = (Iv.zero, 5) := by
  unfold meetI greatestD leastD
  simp only [mayI11, mayI33, c13]
  exact (show (bif mayI ⟨D3, D1⟩ then ((⟨D3, D1⟩ : Iv), (0 : Int)) else (Iv.zero, 5)) = (Iv.zero, 5) by rw [mayI31]; rfl)
theorem has_13 : hasI ⟨D1, D3⟩ D1 = true := by unfold hasI; simp only [mayI13, may_1, c11, c13]; rfl
theorem within_13 : withinI ⟨D3, D3⟩ ⟨D1, D3⟩ = true := by unfold withinI; simp only [mayI13, mayI33, c33, c31]; rfl
theorem inside_13 : insideI ⟨D3, D3⟩ ⟨D1, D3⟩ = false := by unfold insideI; simp only [mayI13, mayI33, c33, c31]; rfl
theorem mayI_zero : mayI Iv.zero = true := by unfold mayI Iv.zero; simp only [czz]; rfl
theorem iv3 {l h l' h' : Dy} {x x' : Int} {r : Iv × Int} (k : Hid ((⟨l, h⟩, x) = r)) (e : r = (⟨l', h'⟩, x')) : l = l' ∧ h = h' ∧ x = x' := by
  have := k.out.trans e
  injection this with h1 h2
  injection h1 with h3 h4
  exact ⟨h3, h4, h2⟩
theorem dx2 {d d' : Dy} {x x' : Int} {r : Dy × Int} (k : Hid ((d, x) = r)) (e : r = (d', x')) : d = d' ∧ x = x' := by
  have := k.out.trans e
  injection this with h1 h2
  exact ⟨h1, h2⟩
theorem same5_of {r : Iv × Int} {l h l' h' : Dy} {x x' : Int} (k : Hid ((⟨l, h⟩, x) = r)) (k' : Hid ((⟨l', h'⟩, x') = r)) : ((x == x') && sameI ⟨l, h⟩ ⟨l', h'⟩) = true := by
  obtain ⟨rfl, rfl, rfl⟩ := iv3 k k'.out.symm
  unfold sameI
  simp [sameD_self]

def tr_told5 : Sx.Tree := .row 38 [.num .u64 1] 1 [] (.chk [.lf 0] (.row 38 [.num .u64 3] 1 [] (.chk [.lf 1] (.chk [.lf 0] (.chk [.lf 1] (.call 50 [.ag [.bit false, .lf 0, .num .i64 0], .ag [.bit false, .lf 1, .num .i64 0]] (.tup [(true, 6), (false, 1)]) (.chk [.lf 2, .lf 3, .lf 4, .lf 5, .lf 6, .lf 7] (.call 50 [.ag [.bit false, .lf 1, .num .i64 0], .ag [.bit false, .lf 0, .num .i64 0]] (.tup [(true, 6), (false, 1)]) (.chk [.lf 9, .lf 10, .lf 11, .lf 12, .lf 13, .lf 14] (.call 90 [.ag [.lf 2, .lf 3, .lf 4, .lf 5, .lf 6, .lf 7]] (.tup [(true, 3), (false, 1)]) (.chk [.lf 16, .lf 17, .lf 18] (.call 91 [.ag [.lf 2, .lf 3, .lf 4, .lf 5, .lf 6, .lf 7]] (.tup [(true, 3), (false, 1)]) (.chk [.lf 20, .lf 21, .lf 22] (.call 60 [.ag [.bit false, .lf 0, .num .i64 0]] (.ag 6) (.call 60 [.ag [.bit false, .lf 1, .num .i64 0]] (.ag 6) (.call 48 [.ag [.lf 24, .lf 25, .lf 26, .lf 27, .lf 28, .lf 29], .ag [.lf 30, .lf 31, .lf 32, .lf 33, .lf 34, .lf 35]] (.tup [(true, 6), (false, 1)]) (.chk [.lf 36, .lf 37, .lf 38, .lf 39, .lf 40, .lf 41] (.prim (.bin .eql) [.lf 8, .num .i64 0] (.ite (.lf 43) (.prim (.bin .eql) [.lf 15, .num .i64 1] (.ite (.lf 44) (.prim (.bin .eql) [.lf 19, .num .i64 0] (.ite (.lf 45) (.prim (.bin .eql) [.lf 18, .num .i64 1] (.ite (.lf 46) (.prim (.bin .eql) [.lf 23, .num .i64 0] (.ite (.lf 47) (.prim (.bin .eql) [.lf 22, .num .i64 1] (.ite (.lf 48) (.prim (.bin .eql) [.lf 42, .num .i64 5] (.ite (.lf 49) (.call 53 [.ag [.lf 2, .lf 3, .lf 4, .lf 5, .lf 6, .lf 7], .ag [.bit false, .lf 0, .num .i64 0]] .one (.ite (.lf 50) (.call 60 [.ag [.bit false, .lf 1, .num .i64 0]] (.ag 6) (.call 46 [.ag [.lf 51, .lf 52, .lf 53, .lf 54, .lf 55, .lf 56], .ag [.lf 2, .lf 3, .lf 4, .lf 5, .lf 6, .lf 7]] .one (.ite (.lf 57) (.call 60 [.ag [.bit false, .lf 1, .num .i64 0]] (.ag 6) (.call 56 [.ag [.lf 58, .lf 59, .lf 60, .lf 61, .lf 62, .lf 63], .ag [.lf 2, .lf 3, .lf 4, .lf 5, .lf 6, .lf 7]] .one (.prim .not [.lf 64] (.ite (.lf 65) (.call 44 [.ag [.bit false, .nil, .num .i64 0, .bit false, .nil, .num .i64 0]] .one (.ret (.one (.lf 66)))) (.ret (.one (.bit false))))))) (.ret (.one (.bit false)))))) (.ret (.one (.bit false))))) (.ret (.one (.bit false))))) (.ret (.one (.bit false))))) (.ret (.one (.bit false))))) (.ret (.one (.bit false))))) (.ret (.one (.bit false))))) (.ret (.one (.bit false))))) (.ret (.one (.bit false))))))))))))))))))))))
theorem tr_told5_eq : Sx.treeOf Tryd.prog 42 = some tr_told5 := by kernel_rfl

theorem told5_any (w : World) (hT : TabAt w) :
    Calls Tryd.prog 42 #[] w fun e w' => e = .returned (.bool true) ∧ Below w.heap.size w w' := by
  have r_zz := RdD.zero w
  refine (Sx.run (ls := []) (shs := []) (R := fun v _ => v = .bool true) (by kernel_rfl) tr_told5_eq rfl (by decide) ?_).mono (fun e w' ⟨v, he, hv, hb⟩ => ⟨by rw [he, hv], hb⟩)
  unfold tr_told5
  refine sat_row [.int .u64 1] (by kernel_rfl) (by intro x hx; cases hx) fun u1 h1 B1 => ?_
  replace r_zz := h1.rdD r_zz
  have r_D1 := row_D1 B1
  generalize u1.heap.size = ND1 at *
  generalize (u1.alloc _) = wD1 at *
  clear B1 h1
  refine sat_chk (all_cons (okS _ _ _) (all_nil)) ?_
  refine sat_row [.int .u64 3] (by kernel_rfl) (by intro x hx; cases hx) fun u1 h1 B1 => ?_
  replace r_zz := h1.rdD r_zz; replace r_D1 := h1.rdD r_D1
  have r_D3 := row_D3 B1
  generalize u1.heap.size = ND3 at *
  generalize (u1.alloc _) = wD3 at *
  clear B1 h1
  refine sat_chk (all_cons (okS _ _ _) (all_nil)) ?_
  refine sat_chk (all_cons (okS _ _ _) (all_nil)) ?_
  refine sat_chk (all_cons (okS _ _ _) (all_nil)) ?_
  refine sat_call #[.agg #[.bool false, .slice (some ⟨ND1, 0, none⟩) 1 1, .int .i64 0], .agg #[.bool false, .slice (some ⟨ND3, 0, none⟩) 1 1, .int .i64 0]] (by kernel_rfl) fun w1 h1 => ?_
  refine (makeI_any _ _ (D1) (D3) _ (h1.rdD r_D1) (h1.rdD r_D3)).mono ?_
  rintro e v1 ⟨⟨l_k1, g_k1, x_k1, A_k1, n_k1, c_k1, B_k1, m_k1, k_k1, h_k1, rfl, r_k1l, r_k1h⟩, hb1⟩
  obtain ⟨rfl, rfl, rfl⟩ := iv3 h_k1 mk_13
  refine ⟨hb1, [.bool D1.neg, .slice A_k1 n_k1 c_k1, .int .i64 D1.e, .bool D3.neg, .slice B_k1 m_k1 k_k1, .int .i64 D3.e, .int .i64 0], _, rfl, by kernel_rfl, by kernel_rfl, fun g1 => ?_⟩
  replace r_zz := g1.rdD r_zz; replace r_D1 := g1.rdD r_D1; replace r_D3 := g1.rdD r_D3
  clear h1 hb1
  refine sat_chk (all_cons (okB _) (all_cons (okS _ _ _) (all_cons (okI _) (all_cons (okB _) (all_cons (okS _ _ _) (all_cons (okI _) (all_nil))))))) ?_
  refine sat_call #[.agg #[.bool false, .slice (some ⟨ND3, 0, none⟩) 1 1, .int .i64 0], .agg #[.bool false, .slice (some ⟨ND1, 0, none⟩) 1 1, .int .i64 0]] (by kernel_rfl) fun w2 h2 => ?_
  refine (makeI_any _ _ (D3) (D1) _ (h2.rdD r_D3) (h2.rdD r_D1)).mono ?_
  rintro e v2 ⟨⟨l_k2, g_k2, x_k2, A_k2, n_k2, c_k2, B_k2, m_k2, k_k2, h_k2, rfl, r_k2l, r_k2h⟩, hb2⟩
  obtain ⟨rfl, rfl, rfl⟩ := iv3 h_k2 mk_31
  refine ⟨hb2, [.bool Dy.zero.neg, .slice A_k2 n_k2 c_k2, .int .i64 Dy.zero.e, .bool Dy.zero.neg, .slice B_k2 m_k2 k_k2, .int .i64 Dy.zero.e, .int .i64 1], _, rfl, by kernel_rfl, by kernel_rfl, fun g2 => ?_⟩
  replace r_zz := g2.rdD r_zz; replace r_D1 := g2.rdD r_D1; replace r_D3 := g2.rdD r_D3; replace r_k1l := g2.rdD r_k1l; replace r_k1h := g2.rdD r_k1h
  clear h2 hb2
  refine sat_chk (all_cons (okB _) (all_cons (okS _ _ _) (all_cons (okI _) (all_cons (okB _) (all_cons (okS _ _ _) (all_cons (okI _) (all_nil))))))) ?_
  refine sat_call #[.agg #[.bool D1.neg, .slice A_k1 n_k1 c_k1, .int .i64 D1.e, .bool D3.neg, .slice B_k1 m_k1 k_k1, .int .i64 D3.e]] (by kernel_rfl) fun w3 h3 => ?_
  refine (midI_any _ ⟨D1, D3⟩ _ (mkI (h3.rdD r_k1l) (h3.rdD r_k1h)) (h3.tab hT)).mono ?_
  rintro e v3 ⟨⟨d_w3, x_w3, A_w3, n_w3, c_w3, h_w3, rfl, r_w3⟩, hb3⟩
  obtain ⟨rfl, rfl⟩ := dx2 h_w3 mid_13
  refine ⟨hb3, [.bool D2.neg, .slice A_w3 n_w3 c_w3, .int .i64 D2.e, .int .i64 0], _, rfl, by kernel_rfl, by kernel_rfl, fun g3 => ?_⟩
  replace r_zz := g3.rdD r_zz; replace r_D1 := g3.rdD r_D1; replace r_D3 := g3.rdD r_D3; replace r_k1l := g3.rdD r_k1l; replace r_k1h := g3.rdD r_k1h; replace r_k2l := g3.rdD r_k2l; replace r_k2h := g3.rdD r_k2h
  clear h3 hb3
  refine sat_chk (all_cons (okB _) (all_cons (okS _ _ _) (all_cons (okI _) (all_nil)))) ?_
  refine sat_call #[.agg #[.bool D1.neg, .slice A_k1 n_k1 c_k1, .int .i64 D1.e, .bool D3.neg, .slice B_k1 m_k1 k_k1, .int .i64 D3.e]] (by kernel_rfl) fun w4 h4 => ?_
  refine (widthI_any _ ⟨D1, D3⟩ _ (mkI (h4.rdD r_k1l) (h4.rdD r_k1h)) (h4.tab hT)).mono ?_
  rintro e v4 ⟨⟨d_w4, x_w4, A_w4, n_w4, c_w4, h_w4, rfl, r_w4⟩, hb4⟩
  obtain ⟨rfl, rfl⟩ := dx2 h_w4 wid_13
  refine ⟨hb4, [.bool D2.neg, .slice A_w4 n_w4 c_w4, .int .i64 D2.e, .int .i64 0], _, rfl, by kernel_rfl, by kernel_rfl, fun g4 => ?_⟩
  replace r_zz := g4.rdD r_zz; replace r_D1 := g4.rdD r_D1; replace r_D3 := g4.rdD r_D3; replace r_k1l := g4.rdD r_k1l; replace r_k1h := g4.rdD r_k1h; replace r_k2l := g4.rdD r_k2l; replace r_k2h := g4.rdD r_k2h; replace r_w3 := g4.rdD r_w3
  clear h4 hb4
  refine sat_chk (all_cons (okB _) (all_cons (okS _ _ _) (all_cons (okI _) (all_nil)))) ?_
  refine sat_call #[.agg #[.bool false, .slice (some ⟨ND1, 0, none⟩) 1 1, .int .i64 0]] (by kernel_rfl) fun w5 h5 => ?_
  refine (ofI_any _ (D1) _ (h5.rdD r_D1)).mono ?_
  rintro e v5 ⟨⟨A_o5, n_o5, c_o5, rfl, r_o5⟩, hb5⟩
  refine ⟨hb5, [.bool D1.neg, .slice A_o5 n_o5 c_o5, .int .i64 D1.e, .bool D1.neg, .slice A_o5 n_o5 c_o5, .int .i64 D1.e], _, rfl, by kernel_rfl, by kernel_rfl, fun g5 => ?_⟩
  replace r_zz := g5.rdD r_zz; replace r_D1 := g5.rdD r_D1; replace r_D3 := g5.rdD r_D3; replace r_k1l := g5.rdD r_k1l; replace r_k1h := g5.rdD r_k1h; replace r_k2l := g5.rdD r_k2l; replace r_k2h := g5.rdD r_k2h; replace r_w3 := g5.rdD r_w3; replace r_w4 := g5.rdD r_w4
  clear h5 hb5
  refine sat_call #[.agg #[.bool false, .slice (some ⟨ND3, 0, none⟩) 1 1, .int .i64 0]] (by kernel_rfl) fun w6 h6 => ?_
  refine (ofI_any _ (D3) _ (h6.rdD r_D3)).mono ?_
  rintro e v6 ⟨⟨A_o6, n_o6, c_o6, rfl, r_o6⟩, hb6⟩
  refine ⟨hb6, [.bool D3.neg, .slice A_o6 n_o6 c_o6, .int .i64 D3.e, .bool D3.neg, .slice A_o6 n_o6 c_o6, .int .i64 D3.e], _, rfl, by kernel_rfl, by kernel_rfl, fun g6 => ?_⟩
  replace r_zz := g6.rdD r_zz; replace r_D1 := g6.rdD r_D1; replace r_D3 := g6.rdD r_D3; replace r_k1l := g6.rdD r_k1l; replace r_k1h := g6.rdD r_k1h; replace r_k2l := g6.rdD r_k2l; replace r_k2h := g6.rdD r_k2h; replace r_w3 := g6.rdD r_w3; replace r_w4 := g6.rdD r_w4; replace r_o5 := g6.rdD r_o5
  clear h6 hb6
  refine sat_call #[.agg #[.bool D1.neg, .slice A_o5 n_o5 c_o5, .int .i64 D1.e, .bool D1.neg, .slice A_o5 n_o5 c_o5, .int .i64 D1.e], .agg #[.bool D3.neg, .slice A_o6 n_o6 c_o6, .int .i64 D3.e, .bool D3.neg, .slice A_o6 n_o6 c_o6, .int .i64 D3.e]] (by kernel_rfl) fun w7 h7 => ?_
  refine (meetI_any _ _ ⟨D1, D1⟩ ⟨D3, D3⟩ _ (mkI (h7.rdD r_o5) (h7.rdD r_o5)) (mkI (h7.rdD r_o6) (h7.rdD r_o6))).mono ?_
  rintro e v7 ⟨⟨l_t7, g_t7, x_t7, A_t7, n_t7, c_t7, B_t7, m_t7, k_t7, h_t7, rfl, r_t7l, r_t7h⟩, hb7⟩
  obtain ⟨rfl, rfl, rfl⟩ := iv3 h_t7 meet_13
  refine ⟨hb7, [.bool Dy.zero.neg, .slice A_t7 n_t7 c_t7, .int .i64 Dy.zero.e, .bool Dy.zero.neg, .slice B_t7 m_t7 k_t7, .int .i64 Dy.zero.e, .int .i64 5], _, rfl, by kernel_rfl, by kernel_rfl, fun g7 => ?_⟩
  replace r_zz := g7.rdD r_zz; replace r_D1 := g7.rdD r_D1; replace r_D3 := g7.rdD r_D3; replace r_k1l := g7.rdD r_k1l; replace r_k1h := g7.rdD r_k1h; replace r_k2l := g7.rdD r_k2l; replace r_k2h := g7.rdD r_k2h; replace r_w3 := g7.rdD r_w3; replace r_w4 := g7.rdD r_w4; replace r_o5 := g7.rdD r_o5; replace r_o6 := g7.rdD r_o6
  clear h7 hb7
  refine sat_chk (all_cons (okB _) (all_cons (okS _ _ _) (all_cons (okI _) (all_cons (okB _) (all_cons (okS _ _ _) (all_cons (okI _) (all_nil))))))) ?_
  refine sat_prim (v := .bool ((0 : Int) == 0)) (by kernel_rfl) ?_
  refine sat_trueP (b := ((0 : Int) == 0)) (by kernel_rfl) (by simp) ?_
  refine sat_prim (v := .bool ((1 : Int) == 1)) (by kernel_rfl) ?_
  refine sat_trueP (b := ((1 : Int) == 1)) (by kernel_rfl) (by simp) ?_
  refine sat_prim (v := .bool ((0 : Int) == 0)) (by kernel_rfl) ?_
  refine sat_trueP (b := ((0 : Int) == 0)) (by kernel_rfl) (by simp) ?_
  refine sat_prim (v := .bool ((1 : Int) == 1)) (by kernel_rfl) ?_
  refine sat_trueP (b := ((1 : Int) == 1)) (by kernel_rfl) (by simp) ?_
  refine sat_prim (v := .bool ((0 : Int) == 0)) (by kernel_rfl) ?_
  refine sat_trueP (b := ((0 : Int) == 0)) (by kernel_rfl) (by simp) ?_
  refine sat_prim (v := .bool ((1 : Int) == 1)) (by kernel_rfl) ?_
  refine sat_trueP (b := ((1 : Int) == 1)) (by kernel_rfl) (by simp) ?_
  refine sat_prim (v := .bool ((5 : Int) == 5)) (by kernel_rfl) ?_
  refine sat_trueP (b := ((5 : Int) == 5)) (by kernel_rfl) (by simp) ?_
  refine sat_call #[.agg #[.bool D1.neg, .slice A_k1 n_k1 c_k1, .int .i64 D1.e, .bool D3.neg, .slice B_k1 m_k1 k_k1, .int .i64 D3.e], .agg #[.bool false, .slice (some ⟨ND1, 0, none⟩) 1 1, .int .i64 0]] (by kernel_rfl) fun w8 h8 => ?_
  refine (hasI_any _ _ ⟨D1, D3⟩ D1 _ (mkI (h8.rdD r_k1l) (h8.rdD r_k1h)) (h8.rdD r_D1)).mono ?_
  rw [show (mayI ⟨D1, D3⟩ && mayD D1 && decide (cmpD (Iv.mk D1 D3).lo D1 ≤ 0) && decide (cmpD D1 (Iv.mk D1 D3).hi ≤ 0)) = true from has_13]
  rintro e v8 ⟨rfl, hb8⟩
  refine ⟨hb8, [.bool true], _, rfl, by kernel_rfl, by kernel_rfl, fun g8 => ?_⟩
  replace r_zz := g8.rdD r_zz; replace r_D1 := g8.rdD r_D1; replace r_D3 := g8.rdD r_D3; replace r_k1l := g8.rdD r_k1l; replace r_k1h := g8.rdD r_k1h; replace r_k2l := g8.rdD r_k2l; replace r_k2h := g8.rdD r_k2h; replace r_w3 := g8.rdD r_w3; replace r_w4 := g8.rdD r_w4; replace r_o5 := g8.rdD r_o5; replace r_o6 := g8.rdD r_o6; replace r_t7l := g8.rdD r_t7l; replace r_t7h := g8.rdD r_t7h
  clear h8 hb8
  refine sat_true (by kernel_rfl) ?_
  refine sat_call #[.agg #[.bool false, .slice (some ⟨ND3, 0, none⟩) 1 1, .int .i64 0]] (by kernel_rfl) fun w9 h9 => ?_
  refine (ofI_any _ (D3) _ (h9.rdD r_D3)).mono ?_
  rintro e v9 ⟨⟨A_o8, n_o8, c_o8, rfl, r_o8⟩, hb9⟩
  refine ⟨hb9, [.bool D3.neg, .slice A_o8 n_o8 c_o8, .int .i64 D3.e, .bool D3.neg, .slice A_o8 n_o8 c_o8, .int .i64 D3.e], _, rfl, by kernel_rfl, by kernel_rfl, fun g9 => ?_⟩
  replace r_zz := g9.rdD r_zz; replace r_D1 := g9.rdD r_D1; replace r_D3 := g9.rdD r_D3; replace r_k1l := g9.rdD r_k1l; replace r_k1h := g9.rdD r_k1h; replace r_k2l := g9.rdD r_k2l; replace r_k2h := g9.rdD r_k2h; replace r_w3 := g9.rdD r_w3; replace r_w4 := g9.rdD r_w4; replace r_o5 := g9.rdD r_o5; replace r_o6 := g9.rdD r_o6; replace r_t7l := g9.rdD r_t7l; replace r_t7h := g9.rdD r_t7h
  clear h9 hb9
  refine sat_call #[.agg #[.bool D3.neg, .slice A_o8 n_o8 c_o8, .int .i64 D3.e, .bool D3.neg, .slice A_o8 n_o8 c_o8, .int .i64 D3.e], .agg #[.bool D1.neg, .slice A_k1 n_k1 c_k1, .int .i64 D1.e, .bool D3.neg, .slice B_k1 m_k1 k_k1, .int .i64 D3.e]] (by kernel_rfl) fun w10 h10 => ?_
  refine (withinI_any _ _ ⟨D3, D3⟩ ⟨D1, D3⟩ _ (mkI (h10.rdD r_o8) (h10.rdD r_o8)) (mkI (h10.rdD r_k1l) (h10.rdD r_k1h))).mono ?_
  rw [show (mayI ⟨D3, D3⟩ && mayI ⟨D1, D3⟩ && decide (0 ≤ cmpD (Iv.mk D3 D3).lo (Iv.mk D1 D3).lo) && decide (0 ≤ cmpD (Iv.mk D1 D3).hi (Iv.mk D3 D3).hi)) = true from within_13]
  rintro e v10 ⟨rfl, hb10⟩
  refine ⟨hb10, [.bool true], _, rfl, by kernel_rfl, by kernel_rfl, fun g10 => ?_⟩
  replace r_zz := g10.rdD r_zz; replace r_D1 := g10.rdD r_D1; replace r_D3 := g10.rdD r_D3; replace r_k1l := g10.rdD r_k1l; replace r_k1h := g10.rdD r_k1h; replace r_k2l := g10.rdD r_k2l; replace r_k2h := g10.rdD r_k2h; replace r_w3 := g10.rdD r_w3; replace r_w4 := g10.rdD r_w4; replace r_o5 := g10.rdD r_o5; replace r_o6 := g10.rdD r_o6; replace r_t7l := g10.rdD r_t7l; replace r_t7h := g10.rdD r_t7h; replace r_o8 := g10.rdD r_o8
  clear h10 hb10
  refine sat_true (by kernel_rfl) ?_
  refine sat_call #[.agg #[.bool false, .slice (some ⟨ND3, 0, none⟩) 1 1, .int .i64 0]] (by kernel_rfl) fun w11 h11 => ?_
  refine (ofI_any _ (D3) _ (h11.rdD r_D3)).mono ?_
  rintro e v11 ⟨⟨A_o9, n_o9, c_o9, rfl, r_o9⟩, hb11⟩
  refine ⟨hb11, [.bool D3.neg, .slice A_o9 n_o9 c_o9, .int .i64 D3.e, .bool D3.neg, .slice A_o9 n_o9 c_o9, .int .i64 D3.e], _, rfl, by kernel_rfl, by kernel_rfl, fun g11 => ?_⟩
  replace r_zz := g11.rdD r_zz; replace r_D1 := g11.rdD r_D1; replace r_D3 := g11.rdD r_D3; replace r_k1l := g11.rdD r_k1l; replace r_k1h := g11.rdD r_k1h; replace r_k2l := g11.rdD r_k2l; replace r_k2h := g11.rdD r_k2h; replace r_w3 := g11.rdD r_w3; replace r_w4 := g11.rdD r_w4; replace r_o5 := g11.rdD r_o5; replace r_o6 := g11.rdD r_o6; replace r_t7l := g11.rdD r_t7l; replace r_t7h := g11.rdD r_t7h; replace r_o8 := g11.rdD r_o8
  clear h11 hb11
  refine sat_call #[.agg #[.bool D3.neg, .slice A_o9 n_o9 c_o9, .int .i64 D3.e, .bool D3.neg, .slice A_o9 n_o9 c_o9, .int .i64 D3.e], .agg #[.bool D1.neg, .slice A_k1 n_k1 c_k1, .int .i64 D1.e, .bool D3.neg, .slice B_k1 m_k1 k_k1, .int .i64 D3.e]] (by kernel_rfl) fun w12 h12 => ?_
  refine (insideI_any _ _ ⟨D3, D3⟩ ⟨D1, D3⟩ _ (mkI (h12.rdD r_o9) (h12.rdD r_o9)) (mkI (h12.rdD r_k1l) (h12.rdD r_k1h))).mono ?_
  rw [show (mayI ⟨D3, D3⟩ && mayI ⟨D1, D3⟩ && decide (0 < cmpD (Iv.mk D3 D3).lo (Iv.mk D1 D3).lo) && decide (0 < cmpD (Iv.mk D1 D3).hi (Iv.mk D3 D3).hi)) = false from inside_13]
  rintro e v12 ⟨rfl, hb12⟩
  refine ⟨hb12, [.bool false], _, rfl, by kernel_rfl, by kernel_rfl, fun g12 => ?_⟩
  replace r_zz := g12.rdD r_zz; replace r_D1 := g12.rdD r_D1; replace r_D3 := g12.rdD r_D3; replace r_k1l := g12.rdD r_k1l; replace r_k1h := g12.rdD r_k1h; replace r_k2l := g12.rdD r_k2l; replace r_k2h := g12.rdD r_k2h; replace r_w3 := g12.rdD r_w3; replace r_w4 := g12.rdD r_w4; replace r_o5 := g12.rdD r_o5; replace r_o6 := g12.rdD r_o6; replace r_t7l := g12.rdD r_t7l; replace r_t7h := g12.rdD r_t7h; replace r_o8 := g12.rdD r_o8; replace r_o9 := g12.rdD r_o9
  clear h12 hb12
  refine sat_prim (v := .bool true) (by kernel_rfl) ?_
  refine sat_true (by kernel_rfl) ?_
  refine sat_call #[.agg #[.bool false, .slice none 0 0, .int .i64 0, .bool false, .slice none 0 0, .int .i64 0]] (by kernel_rfl) fun w13 h13 => ?_
  refine (mayI_any _ Iv.zero _ (mkI (h13.rdD r_zz) (h13.rdD r_zz))).mono ?_
  rw [show (mayD Iv.zero.lo && mayD Iv.zero.hi && decide (cmpD Iv.zero.lo Iv.zero.hi ≤ 0)) = true from mayI_zero]
  rintro e v13 ⟨rfl, hb13⟩
  refine ⟨hb13, [.bool true], _, rfl, by kernel_rfl, by kernel_rfl, fun g13 => ?_⟩
  replace r_zz := g13.rdD r_zz; replace r_D1 := g13.rdD r_D1; replace r_D3 := g13.rdD r_D3; replace r_k1l := g13.rdD r_k1l; replace r_k1h := g13.rdD r_k1h; replace r_k2l := g13.rdD r_k2l; replace r_k2h := g13.rdD r_k2h; replace r_w3 := g13.rdD r_w3; replace r_w4 := g13.rdD r_w4; replace r_o5 := g13.rdD r_o5; replace r_o6 := g13.rdD r_o6; replace r_t7l := g13.rdD r_t7l; replace r_t7h := g13.rdD r_t7h; replace r_o8 := g13.rdD r_o8; replace r_o9 := g13.rdD r_o9
  clear h13 hb13
  exact sat_ret (.bool true) (by kernel_rfl) fun w9 h9 => rfl

theorem mk_no {a b : Dy} (h : mayI ⟨a, b⟩ = false) : (((⟨Dy.zero, Dy.zero⟩ : Iv), (1 : Int))) = makeI a b := by unfold makeI; rw [h]; rfl
theorem mk_yes {a b : Dy} (h : mayI ⟨a, b⟩ = true) : (((⟨a, b⟩ : Iv), (0 : Int))) = makeI a b := by unfold makeI; rw [h]; rfl

def tr_ivalAsks : Sx.Tree := .chk [.lf 0, .lf 1, .lf 2, .lf 3, .lf 4, .lf 5] (.chk [.lf 6, .lf 7, .lf 8, .lf 9, .lf 10, .lf 11] (.chk [.lf 12, .lf 13, .lf 14] (.call 43 [.ag [.lf 0, .lf 1, .lf 2, .lf 3, .lf 4, .lf 5]] .one (.prim .not [.lf 15] (.ite (.lf 16) (.call 42 [] .one (.ret (.one (.lf 17)))) (.call 43 [.ag [.lf 6, .lf 7, .lf 8, .lf 9, .lf 10, .lf 11]] .one (.prim .not [.lf 17] (.ite (.lf 18) (.call 42 [] .one (.ret (.one (.lf 19)))) (.call 13 [.ag [.lf 12, .lf 13, .lf 14]] .one (.prim .not [.lf 19] (.ite (.lf 20) (.call 42 [] .one (.ret (.one (.lf 21)))) (.call 45 [.ag [.lf 0, .lf 1, .lf 2, .lf 3, .lf 4, .lf 5], .ag [.lf 6, .lf 7, .lf 8, .lf 9, .lf 10, .lf 11]] (.tup [(true, 6), (false, 1)]) (.chk [.lf 21, .lf 22, .lf 23, .lf 24, .lf 25, .lf 26] (.call 47 [.ag [.lf 0, .lf 1, .lf 2, .lf 3, .lf 4, .lf 5], .ag [.lf 6, .lf 7, .lf 8, .lf 9, .lf 10, .lf 11]] (.tup [(true, 6), (false, 1)]) (.chk [.lf 28, .lf 29, .lf 30, .lf 31, .lf 32, .lf 33] (.call 48 [.ag [.lf 0, .lf 1, .lf 2, .lf 3, .lf 4, .lf 5], .ag [.lf 6, .lf 7, .lf 8, .lf 9, .lf 10, .lf 11]] (.tup [(true, 6), (false, 1)]) (.chk [.lf 35, .lf 36, .lf 37, .lf 38, .lf 39, .lf 40] (.call 49 [.ag [.lf 0, .lf 1, .lf 2, .lf 3, .lf 4, .lf 5], .ag [.lf 6, .lf 7, .lf 8, .lf 9, .lf 10, .lf 11]] (.tup [(true, 6), (false, 1)]) (.chk [.lf 42, .lf 43, .lf 44, .lf 45, .lf 46, .lf 47] (.call 50 [.ag [.lf 0, .lf 1, .lf 2], .ag [.lf 9, .lf 10, .lf 11]] (.tup [(true, 6), (false, 1)]) (.chk [.lf 49, .lf 50, .lf 51, .lf 52, .lf 53, .lf 54] (.chk [.lf 0, .lf 1, .lf 2, .lf 9, .lf 10, .lf 11] (.chk [.lf 0, .lf 1, .lf 2, .lf 9, .lf 10, .lf 11] (.call 51 [.ag [.lf 0, .lf 1, .lf 2, .lf 9, .lf 10, .lf 11]] .one (.prim .not [.lf 56] (.ite (.lf 57) (.call 42 [] .one (.ite (.lf 58) (.call 44 [.ag [.lf 0, .lf 1, .lf 2, .lf 3, .lf 4, .lf 5]] .one (.call 51 [.ag [.lf 0, .lf 1, .lf 2, .lf 3, .lf 4, .lf 5]] .one (.prim (.bbin .eql) [.lf 59, .lf 60] (.ite (.lf 61) (.call 52 [.ag [.lf 21, .lf 22, .lf 23, .lf 24, .lf 25, .lf 26], .one (.lf 27), .ag [.lf 28, .lf 29, .lf 30, .lf 31, .lf 32, .lf 33], .one (.lf 34)] .one (.ite (.lf 62) (.call 52 [.ag [.lf 35, .lf 36, .lf 37, .lf 38, .lf 39, .lf 40], .one (.lf 41), .ag [.lf 42, .lf 43, .lf 44, .lf 45, .lf 46, .lf 47], .one (.lf 48)] .one (.ite (.lf 63) (.call 52 [.ag [.lf 49, .lf 50, .lf 51, .lf 52, .lf 53, .lf 54], .one (.lf 55), .ag [.bit false, .nil, .num .i64 0, .bit false, .nil, .num .i64 0], .one (.num .i64 1)] .one (.ite (.lf 64) (.call 53 [.ag [.lf 0, .lf 1, .lf 2, .lf 3, .lf 4, .lf 5], .ag [.lf 12, .lf 13, .lf 14]] .one (.call 54 [.ag [.lf 0, .lf 1, .lf 2, .lf 3, .lf 4, .lf 5], .ag [.lf 12, .lf 13, .lf 14]] .one (.prim (.bbin .eql) [.lf 65, .lf 66] (.ite (.lf 67) (.call 46 [.ag [.lf 0, .lf 1, .lf 2, .lf 3, .lf 4, .lf 5], .ag [.lf 6, .lf 7, .lf 8, .lf 9, .lf 10, .lf 11]] .one (.call 55 [.ag [.lf 0, .lf 1, .lf 2, .lf 3, .lf 4, .lf 5], .ag [.lf 6, .lf 7, .lf 8, .lf 9, .lf 10, .lf 11]] .one (.prim (.bbin .eql) [.lf 68, .lf 69] (.ite (.lf 70) (.call 56 [.ag [.lf 0, .lf 1, .lf 2, .lf 3, .lf 4, .lf 5], .ag [.lf 6, .lf 7, .lf 8, .lf 9, .lf 10, .lf 11]] .one (.call 57 [.ag [.lf 0, .lf 1, .lf 2, .lf 3, .lf 4, .lf 5], .ag [.lf 6, .lf 7, .lf 8, .lf 9, .lf 10, .lf 11]] .one (.prim (.bbin .eql) [.lf 71, .lf 72] (.ite (.lf 73) (.call 58 [.ag [.lf 0, .lf 1, .lf 2, .lf 3, .lf 4, .lf 5], .ag [.lf 6, .lf 7, .lf 8, .lf 9, .lf 10, .lf 11]] .one (.call 59 [.ag [.lf 0, .lf 1, .lf 2, .lf 3, .lf 4, .lf 5], .ag [.lf 6, .lf 7, .lf 8, .lf 9, .lf 10, .lf 11]] .one (.prim (.bbin .eql) [.lf 74, .lf 75] (.ite (.lf 76) (.chk [.lf 12, .lf 13, .lf 14, .lf 12, .lf 13, .lf 14] (.call 60 [.ag [.lf 12, .lf 13, .lf 14]] (.ag 6) (.call 59 [.ag [.lf 77, .lf 78, .lf 79, .lf 80, .lf 81, .lf 82], .ag [.lf 12, .lf 13, .lf 14, .lf 12, .lf 13, .lf 14]] .one (.ret (.one (.lf 83)))))) (.ret (.one (.bit false))))))) (.ret (.one (.bit false))))))) (.ret (.one (.bit false))))))) (.ret (.one (.bit false))))))) (.ret (.one (.bit false))))) (.ret (.one (.bit false))))) (.ret (.one (.bit false))))) (.ret (.one (.bit false))))))) (.ret (.one (.bit false))))) (.call 42 [] .one (.ite (.lf 58) (.call 44 [.ag [.lf 0, .lf 1, .lf 2, .lf 3, .lf 4, .lf 5]] .one (.call 51 [.ag [.lf 0, .lf 1, .lf 2, .lf 3, .lf 4, .lf 5]] .one (.prim (.bbin .eql) [.lf 59, .lf 60] (.ite (.lf 61) (.call 52 [.ag [.lf 21, .lf 22, .lf 23, .lf 24, .lf 25, .lf 26], .one (.lf 27), .ag [.lf 28, .lf 29, .lf 30, .lf 31, .lf 32, .lf 33], .one (.lf 34)] .one (.ite (.lf 62) (.call 52 [.ag [.lf 35, .lf 36, .lf 37, .lf 38, .lf 39, .lf 40], .one (.lf 41), .ag [.lf 42, .lf 43, .lf 44, .lf 45, .lf 46, .lf 47], .one (.lf 48)] .one (.ite (.lf 63) (.call 52 [.ag [.lf 49, .lf 50, .lf 51, .lf 52, .lf 53, .lf 54], .one (.lf 55), .ag [.lf 0, .lf 1, .lf 2, .lf 9, .lf 10, .lf 11], .one (.num .i64 0)] .one (.ite (.lf 64) (.call 53 [.ag [.lf 0, .lf 1, .lf 2, .lf 3, .lf 4, .lf 5], .ag [.lf 12, .lf 13, .lf 14]] .one (.call 54 [.ag [.lf 0, .lf 1, .lf 2, .lf 3, .lf 4, .lf 5], .ag [.lf 12, .lf 13, .lf 14]] .one (.prim (.bbin .eql) [.lf 65, .lf 66] (.ite (.lf 67) (.call 46 [.ag [.lf 0, .lf 1, .lf 2, .lf 3, .lf 4, .lf 5], .ag [.lf 6, .lf 7, .lf 8, .lf 9, .lf 10, .lf 11]] .one (.call 55 [.ag [.lf 0, .lf 1, .lf 2, .lf 3, .lf 4, .lf 5], .ag [.lf 6, .lf 7, .lf 8, .lf 9, .lf 10, .lf 11]] .one (.prim (.bbin .eql) [.lf 68, .lf 69] (.ite (.lf 70) (.call 56 [.ag [.lf 0, .lf 1, .lf 2, .lf 3, .lf 4, .lf 5], .ag [.lf 6, .lf 7, .lf 8, .lf 9, .lf 10, .lf 11]] .one (.call 57 [.ag [.lf 0, .lf 1, .lf 2, .lf 3, .lf 4, .lf 5], .ag [.lf 6, .lf 7, .lf 8, .lf 9, .lf 10, .lf 11]] .one (.prim (.bbin .eql) [.lf 71, .lf 72] (.ite (.lf 73) (.call 58 [.ag [.lf 0, .lf 1, .lf 2, .lf 3, .lf 4, .lf 5], .ag [.lf 6, .lf 7, .lf 8, .lf 9, .lf 10, .lf 11]] .one (.call 59 [.ag [.lf 0, .lf 1, .lf 2, .lf 3, .lf 4, .lf 5], .ag [.lf 6, .lf 7, .lf 8, .lf 9, .lf 10, .lf 11]] .one (.prim (.bbin .eql) [.lf 74, .lf 75] (.ite (.lf 76) (.chk [.lf 12, .lf 13, .lf 14, .lf 12, .lf 13, .lf 14] (.call 60 [.ag [.lf 12, .lf 13, .lf 14]] (.ag 6) (.call 59 [.ag [.lf 77, .lf 78, .lf 79, .lf 80, .lf 81, .lf 82], .ag [.lf 12, .lf 13, .lf 14, .lf 12, .lf 13, .lf 14]] .one (.ret (.one (.lf 83)))))) (.ret (.one (.bit false))))))) (.ret (.one (.bit false))))))) (.ret (.one (.bit false))))))) (.ret (.one (.bit false))))))) (.ret (.one (.bit false))))) (.ret (.one (.bit false))))) (.ret (.one (.bit false))))) (.ret (.one (.bit false))))))) (.ret (.one (.bit false)))))))))))))))))))))))))))))))
theorem tr_ivalAsks_eq : Sx.treeOf Tryd.prog 10 = some tr_ivalAsks := by kernel_rfl

set_option maxRecDepth 100000 in
set_option maxHeartbeats 4000000 in
theorem ivalAsks_any (u v z : Value) (a b : Iv) (d : Dy) (w : World) (h_a : RdI w u a) (h_b : RdI w v b) (h_d : RdD w z d) (hT : TabAt w) :
    Calls Tryd.prog 10 #[u, v, z] w fun e w' => e = .returned (.bool true) ∧ Below w.heap.size w w' := by
  obtain ⟨A_a, n_a, c_a, B_a, m_a, k_a, rfl, r_al, r_ah⟩ := h_a
  obtain ⟨A_b, n_b, c_b, B_b, m_b, k_b, rfl, r_bl, r_bh⟩ := h_b
  have r_d := h_d
  obtain ⟨A_d, n_d, c_d, rfl, _⟩ := h_d
  have r_zz := RdD.zero w
  refine (Sx.run (ls := [.bool a.lo.neg, .slice A_a n_a c_a, .int .i64 a.lo.e, .bool a.hi.neg, .slice B_a m_a k_a, .int .i64 a.hi.e, .bool b.lo.neg, .slice A_b n_b c_b, .int .i64 b.lo.e, .bool b.hi.neg, .slice B_b m_b k_b, .int .i64 b.hi.e, .bool d.neg, .slice A_d n_d c_d, .int .i64 d.e]) (shs := [(true, 6), (true, 6), (true, 3)]) (R := fun v _ => v = .bool true) (by kernel_rfl) tr_ivalAsks_eq rfl (by decide) ?_).mono (fun e w' ⟨v, he, hv, hb⟩ => ⟨by rw [he, hv], hb⟩)
  unfold tr_ivalAsks
  refine sat_chkB (by kernel_rfl) ?_
  refine sat_chkB (by kernel_rfl) ?_
  refine sat_chkB (by kernel_rfl) ?_
  refine sat_call #[.agg #[.bool a.lo.neg, .slice A_a n_a c_a, .int .i64 a.lo.e, .bool a.hi.neg, .slice B_a m_a k_a, .int .i64 a.hi.e]] (by kernel_rfl) fun w1 h1 => ?_
  refine (few5_any _ a _ (mkI (h1.rdD r_al) (h1.rdD r_ah))).mono ?_
  rintro e v1 ⟨rfl, hb1⟩
  refine ⟨hb1, [.bool (fewI a)], _, rfl, by kernel_rfl, by kernel_rfl, fun g1 => ?_⟩
  replace r_al := g1.rdD r_al; replace r_ah := g1.rdD r_ah; replace r_bl := g1.rdD r_bl; replace r_bh := g1.rdD r_bh; replace r_d := g1.rdD r_d; replace r_zz := g1.rdD r_zz
  clear h1 hb1
  refine sat_prim (v := .bool (!(fewI a))) (by kernel_rfl) ?_
  cases hE2 : (fewI a)
  · refine sat_true (by kernel_rfl) ?_
    refine sat_call #[] (by kernel_rfl) fun w3 h3 => ?_
    refine (told5_any _ (h3.tab hT)).mono ?_
    rintro e v3 ⟨rfl, hb3⟩
    refine ⟨hb3, [.bool true], _, rfl, by kernel_rfl, by kernel_rfl, fun g3 => ?_⟩
    replace r_al := g3.rdD r_al; replace r_ah := g3.rdD r_ah; replace r_bl := g3.rdD r_bl; replace r_bh := g3.rdD r_bh; replace r_d := g3.rdD r_d; replace r_zz := g3.rdD r_zz
    clear h3 hb3
    exact sat_ret (.bool true) (by kernel_rfl) fun w9 h9 => rfl
  · refine sat_false (by kernel_rfl) ?_
    refine sat_call #[.agg #[.bool b.lo.neg, .slice A_b n_b c_b, .int .i64 b.lo.e, .bool b.hi.neg, .slice B_b m_b k_b, .int .i64 b.hi.e]] (by kernel_rfl) fun w3 h3 => ?_
    refine (few5_any _ b _ (mkI (h3.rdD r_bl) (h3.rdD r_bh))).mono ?_
    rintro e v3 ⟨rfl, hb3⟩
    refine ⟨hb3, [.bool (fewI b)], _, rfl, by kernel_rfl, by kernel_rfl, fun g3 => ?_⟩
    replace r_al := g3.rdD r_al; replace r_ah := g3.rdD r_ah; replace r_bl := g3.rdD r_bl; replace r_bh := g3.rdD r_bh; replace r_d := g3.rdD r_d; replace r_zz := g3.rdD r_zz
    clear h3 hb3
    refine sat_prim (v := .bool (!(fewI b))) (by kernel_rfl) ?_
    cases hE4 : (fewI b)
    · refine sat_true (by kernel_rfl) ?_
      refine sat_call #[] (by kernel_rfl) fun w5 h5 => ?_
      refine (told5_any _ (h5.tab hT)).mono ?_
      rintro e v5 ⟨rfl, hb5⟩
      refine ⟨hb5, [.bool true], _, rfl, by kernel_rfl, by kernel_rfl, fun g5 => ?_⟩
      replace r_al := g5.rdD r_al; replace r_ah := g5.rdD r_ah; replace r_bl := g5.rdD r_bl; replace r_bh := g5.rdD r_bh; replace r_d := g5.rdD r_d; replace r_zz := g5.rdD r_zz
      clear h5 hb5
      exact sat_ret (.bool true) (by kernel_rfl) fun w9 h9 => rfl
    · refine sat_false (by kernel_rfl) ?_
      refine sat_call #[.agg #[.bool d.neg, .slice A_d n_d c_d, .int .i64 d.e]] (by kernel_rfl) fun w5 h5 => ?_
      refine (few2_any _ (d) _ (h5.rdD r_d)).mono ?_
      rintro e v5 ⟨rfl, hb5⟩
      refine ⟨hb5, [.bool (decide (d.m.length ≤ 70))], _, rfl, by kernel_rfl, by kernel_rfl, fun g5 => ?_⟩
      replace r_al := g5.rdD r_al; replace r_ah := g5.rdD r_ah; replace r_bl := g5.rdD r_bl; replace r_bh := g5.rdD r_bh; replace r_d := g5.rdD r_d; replace r_zz := g5.rdD r_zz
      clear h5 hb5
      refine sat_prim (v := .bool (!(decide (d.m.length ≤ 70)))) (by kernel_rfl) ?_
      cases hE6 : (decide (d.m.length ≤ 70))
      · refine sat_true (by kernel_rfl) ?_
        refine sat_call #[] (by kernel_rfl) fun w7 h7 => ?_
        refine (told5_any _ (h7.tab hT)).mono ?_
        rintro e v7 ⟨rfl, hb7⟩
        refine ⟨hb7, [.bool true], _, rfl, by kernel_rfl, by kernel_rfl, fun g7 => ?_⟩
        replace r_al := g7.rdD r_al; replace r_ah := g7.rdD r_ah; replace r_bl := g7.rdD r_bl; replace r_bh := g7.rdD r_bh; replace r_d := g7.rdD r_d; replace r_zz := g7.rdD r_zz
        clear h7 hb7
        exact sat_ret (.bool true) (by kernel_rfl) fun w9 h9 => rfl
      · refine sat_false (by kernel_rfl) ?_
        refine sat_call #[.agg #[.bool a.lo.neg, .slice A_a n_a c_a, .int .i64 a.lo.e, .bool a.hi.neg, .slice B_a m_a k_a, .int .i64 a.hi.e], .agg #[.bool b.lo.neg, .slice A_b n_b c_b, .int .i64 b.lo.e, .bool b.hi.neg, .slice B_b m_b k_b, .int .i64 b.hi.e]] (by kernel_rfl) fun w7 h7 => ?_
        refine (hullI_any _ _ a b _ (mkI (h7.rdD r_al) (h7.rdD r_ah)) (mkI (h7.rdD r_bl) (h7.rdD r_bh))).mono ?_
        rintro e v7 ⟨⟨l_h1, g_h1, x_h1, A_h1, n_h1, c_h1, B_h1, m_h1, k_h1, h_h1, rfl, r_h1l, r_h1h⟩, hb7⟩
        refine ⟨hb7, [.bool l_h1.neg, .slice A_h1 n_h1 c_h1, .int .i64 l_h1.e, .bool g_h1.neg, .slice B_h1 m_h1 k_h1, .int .i64 g_h1.e, .int .i64 x_h1], _, rfl, by kernel_rfl, by kernel_rfl, fun g7 => ?_⟩
        replace r_al := g7.rdD r_al; replace r_ah := g7.rdD r_ah; replace r_bl := g7.rdD r_bl; replace r_bh := g7.rdD r_bh; replace r_d := g7.rdD r_d; replace r_zz := g7.rdD r_zz
        clear h7 hb7
        refine sat_chkB (by kernel_rfl) ?_
        refine sat_call #[.agg #[.bool a.lo.neg, .slice A_a n_a c_a, .int .i64 a.lo.e, .bool a.hi.neg, .slice B_a m_a k_a, .int .i64 a.hi.e], .agg #[.bool b.lo.neg, .slice A_b n_b c_b, .int .i64 b.lo.e, .bool b.hi.neg, .slice B_b m_b k_b, .int .i64 b.hi.e]] (by kernel_rfl) fun w8 h8 => ?_
        refine (rhullI_any _ _ a b _ (mkI (h8.rdD r_al) (h8.rdD r_ah)) (mkI (h8.rdD r_bl) (h8.rdD r_bh))).mono ?_
        rintro e v8 ⟨⟨l_hr2, g_hr2, x_hr2, A_hr2, n_hr2, c_hr2, B_hr2, m_hr2, k_hr2, h_hr2, rfl, r_hr2l, r_hr2h⟩, hb8⟩
        refine ⟨hb8, [.bool l_hr2.neg, .slice A_hr2 n_hr2 c_hr2, .int .i64 l_hr2.e, .bool g_hr2.neg, .slice B_hr2 m_hr2 k_hr2, .int .i64 g_hr2.e, .int .i64 x_hr2], _, rfl, by kernel_rfl, by kernel_rfl, fun g8 => ?_⟩
        replace r_al := g8.rdD r_al; replace r_ah := g8.rdD r_ah; replace r_bl := g8.rdD r_bl; replace r_bh := g8.rdD r_bh; replace r_d := g8.rdD r_d; replace r_zz := g8.rdD r_zz; replace r_h1l := g8.rdD r_h1l; replace r_h1h := g8.rdD r_h1h
        clear h8 hb8
        refine sat_chkB (by kernel_rfl) ?_
        refine sat_call #[.agg #[.bool a.lo.neg, .slice A_a n_a c_a, .int .i64 a.lo.e, .bool a.hi.neg, .slice B_a m_a k_a, .int .i64 a.hi.e], .agg #[.bool b.lo.neg, .slice A_b n_b c_b, .int .i64 b.lo.e, .bool b.hi.neg, .slice B_b m_b k_b, .int .i64 b.hi.e]] (by kernel_rfl) fun w9 h9 => ?_
        refine (meetI_any _ _ a b _ (mkI (h9.rdD r_al) (h9.rdD r_ah)) (mkI (h9.rdD r_bl) (h9.rdD r_bh))).mono ?_
        rintro e v9 ⟨⟨l_m3, g_m3, x_m3, A_m3, n_m3, c_m3, B_m3, m_m3, k_m3, h_m3, rfl, r_m3l, r_m3h⟩, hb9⟩
        refine ⟨hb9, [.bool l_m3.neg, .slice A_m3 n_m3 c_m3, .int .i64 l_m3.e, .bool g_m3.neg, .slice B_m3 m_m3 k_m3, .int .i64 g_m3.e, .int .i64 x_m3], _, rfl, by kernel_rfl, by kernel_rfl, fun g9 => ?_⟩
        replace r_al := g9.rdD r_al; replace r_ah := g9.rdD r_ah; replace r_bl := g9.rdD r_bl; replace r_bh := g9.rdD r_bh; replace r_d := g9.rdD r_d; replace r_zz := g9.rdD r_zz; replace r_h1l := g9.rdD r_h1l; replace r_h1h := g9.rdD r_h1h; replace r_hr2l := g9.rdD r_hr2l; replace r_hr2h := g9.rdD r_hr2h
        clear h9 hb9
        refine sat_chkB (by kernel_rfl) ?_
        refine sat_call #[.agg #[.bool a.lo.neg, .slice A_a n_a c_a, .int .i64 a.lo.e, .bool a.hi.neg, .slice B_a m_a k_a, .int .i64 a.hi.e], .agg #[.bool b.lo.neg, .slice A_b n_b c_b, .int .i64 b.lo.e, .bool b.hi.neg, .slice B_b m_b k_b, .int .i64 b.hi.e]] (by kernel_rfl) fun w10 h10 => ?_
        refine (rmeetI_any _ _ a b _ (mkI (h10.rdD r_al) (h10.rdD r_ah)) (mkI (h10.rdD r_bl) (h10.rdD r_bh))).mono ?_
        rintro e v10 ⟨⟨l_mr4, g_mr4, x_mr4, A_mr4, n_mr4, c_mr4, B_mr4, m_mr4, k_mr4, h_mr4, rfl, r_mr4l, r_mr4h⟩, hb10⟩
        refine ⟨hb10, [.bool l_mr4.neg, .slice A_mr4 n_mr4 c_mr4, .int .i64 l_mr4.e, .bool g_mr4.neg, .slice B_mr4 m_mr4 k_mr4, .int .i64 g_mr4.e, .int .i64 x_mr4], _, rfl, by kernel_rfl, by kernel_rfl, fun g10 => ?_⟩
        replace r_al := g10.rdD r_al; replace r_ah := g10.rdD r_ah; replace r_bl := g10.rdD r_bl; replace r_bh := g10.rdD r_bh; replace r_d := g10.rdD r_d; replace r_zz := g10.rdD r_zz; replace r_h1l := g10.rdD r_h1l; replace r_h1h := g10.rdD r_h1h; replace r_hr2l := g10.rdD r_hr2l; replace r_hr2h := g10.rdD r_hr2h; replace r_m3l := g10.rdD r_m3l; replace r_m3h := g10.rdD r_m3h
        clear h10 hb10
        refine sat_chkB (by kernel_rfl) ?_
        refine sat_call #[.agg #[.bool a.lo.neg, .slice A_a n_a c_a, .int .i64 a.lo.e], .agg #[.bool b.hi.neg, .slice B_b m_b k_b, .int .i64 b.hi.e]] (by kernel_rfl) fun w11 h11 => ?_
        refine (makeI_any _ _ (a.lo) (b.hi) _ (h11.rdD r_al) (h11.rdD r_bh)).mono ?_
        rintro e v11 ⟨⟨l_k5, g_k5, x_k5, A_k5, n_k5, c_k5, B_k5, m_k5, k_k5, h_k5, rfl, r_k5l, r_k5h⟩, hb11⟩
        refine ⟨hb11, [.bool l_k5.neg, .slice A_k5 n_k5 c_k5, .int .i64 l_k5.e, .bool g_k5.neg, .slice B_k5 m_k5 k_k5, .int .i64 g_k5.e, .int .i64 x_k5], _, rfl, by kernel_rfl, by kernel_rfl, fun g11 => ?_⟩
        replace r_al := g11.rdD r_al; replace r_ah := g11.rdD r_ah; replace r_bl := g11.rdD r_bl; replace r_bh := g11.rdD r_bh; replace r_d := g11.rdD r_d; replace r_zz := g11.rdD r_zz; replace r_h1l := g11.rdD r_h1l; replace r_h1h := g11.rdD r_h1h; replace r_hr2l := g11.rdD r_hr2l; replace r_hr2h := g11.rdD r_hr2h; replace r_m3l := g11.rdD r_m3l; replace r_m3h := g11.rdD r_m3h; replace r_mr4l := g11.rdD r_mr4l; replace r_mr4h := g11.rdD r_mr4h
        clear h11 hb11
        refine sat_chkB (by kernel_rfl) ?_
        refine sat_chkB (by kernel_rfl) ?_
        refine sat_chkB (by kernel_rfl) ?_
        cases hz : mayI ⟨a.lo, b.hi⟩
        · refine sat_call #[.agg #[.bool a.lo.neg, .slice A_a n_a c_a, .int .i64 a.lo.e, .bool b.hi.neg, .slice B_b m_b k_b, .int .i64 b.hi.e]] (by kernel_rfl) fun w12 h12 => ?_
          refine (rmayI_any _ ⟨a.lo, b.hi⟩ _ (mkI (h12.rdD r_al) (h12.rdD r_bh))).mono ?_
          rw [show (mayD a.lo && mayD b.hi && decide (cmpD a.lo b.hi ≤ 0)) = false from hz]
          rintro e v12 ⟨rfl, hb12⟩
          refine ⟨hb12, [.bool false], _, rfl, by kernel_rfl, by kernel_rfl, fun g12 => ?_⟩
          replace r_al := g12.rdD r_al; replace r_ah := g12.rdD r_ah; replace r_bl := g12.rdD r_bl; replace r_bh := g12.rdD r_bh; replace r_d := g12.rdD r_d; replace r_zz := g12.rdD r_zz; replace r_h1l := g12.rdD r_h1l; replace r_h1h := g12.rdD r_h1h; replace r_hr2l := g12.rdD r_hr2l; replace r_hr2h := g12.rdD r_hr2h; replace r_m3l := g12.rdD r_m3l; replace r_m3h := g12.rdD r_m3h; replace r_mr4l := g12.rdD r_mr4l; replace r_mr4h := g12.rdD r_mr4h; replace r_k5l := g12.rdD r_k5l; replace r_k5h := g12.rdD r_k5h
          clear h12 hb12
          refine sat_prim (v := .bool true) (by kernel_rfl) ?_
          refine sat_true (by kernel_rfl) ?_
          refine sat_call #[] (by kernel_rfl) fun w13 h13 => ?_
          refine (told5_any _ (h13.tab hT)).mono ?_
          rintro e v13 ⟨rfl, hb13⟩
          refine ⟨hb13, [.bool true], _, rfl, by kernel_rfl, by kernel_rfl, fun g13 => ?_⟩
          replace r_al := g13.rdD r_al; replace r_ah := g13.rdD r_ah; replace r_bl := g13.rdD r_bl; replace r_bh := g13.rdD r_bh; replace r_d := g13.rdD r_d; replace r_zz := g13.rdD r_zz; replace r_h1l := g13.rdD r_h1l; replace r_h1h := g13.rdD r_h1h; replace r_hr2l := g13.rdD r_hr2l; replace r_hr2h := g13.rdD r_hr2h; replace r_m3l := g13.rdD r_m3l; replace r_m3h := g13.rdD r_m3h; replace r_mr4l := g13.rdD r_mr4l; replace r_mr4h := g13.rdD r_mr4h; replace r_k5l := g13.rdD r_k5l; replace r_k5h := g13.rdD r_k5h
          clear h13 hb13
          refine sat_true (by kernel_rfl) ?_
          refine sat_call #[.agg #[.bool a.lo.neg, .slice A_a n_a c_a, .int .i64 a.lo.e, .bool a.hi.neg, .slice B_a m_a k_a, .int .i64 a.hi.e]] (by kernel_rfl) fun w14 h14 => ?_
          refine (mayI_any _ a _ (mkI (h14.rdD r_al) (h14.rdD r_ah))).mono ?_
          rintro e v14 ⟨rfl, hb14⟩
          refine ⟨hb14, [.bool (mayI a)], _, rfl, by kernel_rfl, by kernel_rfl, fun g14 => ?_⟩
          replace r_al := g14.rdD r_al; replace r_ah := g14.rdD r_ah; replace r_bl := g14.rdD r_bl; replace r_bh := g14.rdD r_bh; replace r_d := g14.rdD r_d; replace r_zz := g14.rdD r_zz; replace r_h1l := g14.rdD r_h1l; replace r_h1h := g14.rdD r_h1h; replace r_hr2l := g14.rdD r_hr2l; replace r_hr2h := g14.rdD r_hr2h; replace r_m3l := g14.rdD r_m3l; replace r_m3h := g14.rdD r_m3h; replace r_mr4l := g14.rdD r_mr4l; replace r_mr4h := g14.rdD r_mr4h; replace r_k5l := g14.rdD r_k5l; replace r_k5h := g14.rdD r_k5h
          clear h14 hb14
          refine sat_call #[.agg #[.bool a.lo.neg, .slice A_a n_a c_a, .int .i64 a.lo.e, .bool a.hi.neg, .slice B_a m_a k_a, .int .i64 a.hi.e]] (by kernel_rfl) fun w15 h15 => ?_
          refine (rmayI_any _ a _ (mkI (h15.rdD r_al) (h15.rdD r_ah))).mono ?_
          rintro e v15 ⟨rfl, hb15⟩
          refine ⟨hb15, [.bool (mayI a)], _, rfl, by kernel_rfl, by kernel_rfl, fun g15 => ?_⟩
          replace r_al := g15.rdD r_al; replace r_ah := g15.rdD r_ah; replace r_bl := g15.rdD r_bl; replace r_bh := g15.rdD r_bh; replace r_d := g15.rdD r_d; replace r_zz := g15.rdD r_zz; replace r_h1l := g15.rdD r_h1l; replace r_h1h := g15.rdD r_h1h; replace r_hr2l := g15.rdD r_hr2l; replace r_hr2h := g15.rdD r_hr2h; replace r_m3l := g15.rdD r_m3l; replace r_m3h := g15.rdD r_m3h; replace r_mr4l := g15.rdD r_mr4l; replace r_mr4h := g15.rdD r_mr4h; replace r_k5l := g15.rdD r_k5l; replace r_k5h := g15.rdD r_k5h
          clear h15 hb15
          refine sat_prim (v := .bool ((mayI a) == (mayI a))) (by kernel_rfl) ?_
          refine sat_trueP (b := ((mayI a) == (mayI a))) (by kernel_rfl) (by simp) ?_
          refine sat_call #[.agg #[.bool l_h1.neg, .slice A_h1 n_h1 c_h1, .int .i64 l_h1.e, .bool g_h1.neg, .slice B_h1 m_h1 k_h1, .int .i64 g_h1.e], .int .i64 x_h1, .agg #[.bool l_hr2.neg, .slice A_hr2 n_hr2 c_hr2, .int .i64 l_hr2.e, .bool g_hr2.neg, .slice B_hr2 m_hr2 k_hr2, .int .i64 g_hr2.e], .int .i64 x_hr2] (by kernel_rfl) fun w16 h16 => ?_
          refine (same5_any _ _ ⟨l_h1, g_h1⟩ (x_h1) ⟨l_hr2, g_hr2⟩ (x_hr2) _ (mkI (h16.rdD r_h1l) (h16.rdD r_h1h)) (mkI (h16.rdD r_hr2l) (h16.rdD r_hr2h))).mono ?_
          rw [same5_of h_h1 h_hr2]
          rintro e v16 ⟨rfl, hb16⟩
          refine ⟨hb16, [.bool true], _, rfl, by kernel_rfl, by kernel_rfl, fun g16 => ?_⟩
          replace r_al := g16.rdD r_al; replace r_ah := g16.rdD r_ah; replace r_bl := g16.rdD r_bl; replace r_bh := g16.rdD r_bh; replace r_d := g16.rdD r_d; replace r_zz := g16.rdD r_zz; replace r_h1l := g16.rdD r_h1l; replace r_h1h := g16.rdD r_h1h; replace r_hr2l := g16.rdD r_hr2l; replace r_hr2h := g16.rdD r_hr2h; replace r_m3l := g16.rdD r_m3l; replace r_m3h := g16.rdD r_m3h; replace r_mr4l := g16.rdD r_mr4l; replace r_mr4h := g16.rdD r_mr4h; replace r_k5l := g16.rdD r_k5l; replace r_k5h := g16.rdD r_k5h
          clear h16 hb16
          refine sat_true (by kernel_rfl) ?_
          refine sat_call #[.agg #[.bool l_m3.neg, .slice A_m3 n_m3 c_m3, .int .i64 l_m3.e, .bool g_m3.neg, .slice B_m3 m_m3 k_m3, .int .i64 g_m3.e], .int .i64 x_m3, .agg #[.bool l_mr4.neg, .slice A_mr4 n_mr4 c_mr4, .int .i64 l_mr4.e, .bool g_mr4.neg, .slice B_mr4 m_mr4 k_mr4, .int .i64 g_mr4.e], .int .i64 x_mr4] (by kernel_rfl) fun w17 h17 => ?_
          refine (same5_any _ _ ⟨l_m3, g_m3⟩ (x_m3) ⟨l_mr4, g_mr4⟩ (x_mr4) _ (mkI (h17.rdD r_m3l) (h17.rdD r_m3h)) (mkI (h17.rdD r_mr4l) (h17.rdD r_mr4h))).mono ?_
          rw [same5_of h_m3 h_mr4]
          rintro e v17 ⟨rfl, hb17⟩
          refine ⟨hb17, [.bool true], _, rfl, by kernel_rfl, by kernel_rfl, fun g17 => ?_⟩
          replace r_al := g17.rdD r_al; replace r_ah := g17.rdD r_ah; replace r_bl := g17.rdD r_bl; replace r_bh := g17.rdD r_bh; replace r_d := g17.rdD r_d; replace r_zz := g17.rdD r_zz; replace r_h1l := g17.rdD r_h1l; replace r_h1h := g17.rdD r_h1h; replace r_hr2l := g17.rdD r_hr2l; replace r_hr2h := g17.rdD r_hr2h; replace r_m3l := g17.rdD r_m3l; replace r_m3h := g17.rdD r_m3h; replace r_mr4l := g17.rdD r_mr4l; replace r_mr4h := g17.rdD r_mr4h; replace r_k5l := g17.rdD r_k5l; replace r_k5h := g17.rdD r_k5h
          clear h17 hb17
          refine sat_true (by kernel_rfl) ?_
          refine sat_call #[.agg #[.bool l_k5.neg, .slice A_k5 n_k5 c_k5, .int .i64 l_k5.e, .bool g_k5.neg, .slice B_k5 m_k5 k_k5, .int .i64 g_k5.e], .int .i64 x_k5, .agg #[.bool false, .slice none 0 0, .int .i64 0, .bool false, .slice none 0 0, .int .i64 0], .int .i64 1] (by kernel_rfl) fun w18 h18 => ?_
          refine (same5_any _ _ ⟨l_k5, g_k5⟩ (x_k5) ⟨Dy.zero, Dy.zero⟩ (1) _ (mkI (h18.rdD r_k5l) (h18.rdD r_k5h)) (mkI (h18.rdD r_zz) (h18.rdD r_zz))).mono ?_
          rw [same5_of h_k5 (hide (mk_no hz))]
          rintro e v18 ⟨rfl, hb18⟩
          refine ⟨hb18, [.bool true], _, rfl, by kernel_rfl, by kernel_rfl, fun g18 => ?_⟩
          replace r_al := g18.rdD r_al; replace r_ah := g18.rdD r_ah; replace r_bl := g18.rdD r_bl; replace r_bh := g18.rdD r_bh; replace r_d := g18.rdD r_d; replace r_zz := g18.rdD r_zz; replace r_h1l := g18.rdD r_h1l; replace r_h1h := g18.rdD r_h1h; replace r_hr2l := g18.rdD r_hr2l; replace r_hr2h := g18.rdD r_hr2h; replace r_m3l := g18.rdD r_m3l; replace r_m3h := g18.rdD r_m3h; replace r_mr4l := g18.rdD r_mr4l; replace r_mr4h := g18.rdD r_mr4h; replace r_k5l := g18.rdD r_k5l; replace r_k5h := g18.rdD r_k5h
          clear h18 hb18
          refine sat_true (by kernel_rfl) ?_
          refine sat_call #[.agg #[.bool a.lo.neg, .slice A_a n_a c_a, .int .i64 a.lo.e, .bool a.hi.neg, .slice B_a m_a k_a, .int .i64 a.hi.e], .agg #[.bool d.neg, .slice A_d n_d c_d, .int .i64 d.e]] (by kernel_rfl) fun w19 h19 => ?_
          refine (hasI_any _ _ a (d) _ (mkI (h19.rdD r_al) (h19.rdD r_ah)) (h19.rdD r_d)).mono ?_
          rintro e v19 ⟨rfl, hb19⟩
          refine ⟨hb19, [.bool (hasI a d)], _, rfl, by kernel_rfl, by kernel_rfl, fun g19 => ?_⟩
          replace r_al := g19.rdD r_al; replace r_ah := g19.rdD r_ah; replace r_bl := g19.rdD r_bl; replace r_bh := g19.rdD r_bh; replace r_d := g19.rdD r_d; replace r_zz := g19.rdD r_zz; replace r_h1l := g19.rdD r_h1l; replace r_h1h := g19.rdD r_h1h; replace r_hr2l := g19.rdD r_hr2l; replace r_hr2h := g19.rdD r_hr2h; replace r_m3l := g19.rdD r_m3l; replace r_m3h := g19.rdD r_m3h; replace r_mr4l := g19.rdD r_mr4l; replace r_mr4h := g19.rdD r_mr4h; replace r_k5l := g19.rdD r_k5l; replace r_k5h := g19.rdD r_k5h
          clear h19 hb19
          refine sat_call #[.agg #[.bool a.lo.neg, .slice A_a n_a c_a, .int .i64 a.lo.e, .bool a.hi.neg, .slice B_a m_a k_a, .int .i64 a.hi.e], .agg #[.bool d.neg, .slice A_d n_d c_d, .int .i64 d.e]] (by kernel_rfl) fun w20 h20 => ?_
          refine (rhasI_any _ _ a (d) _ (mkI (h20.rdD r_al) (h20.rdD r_ah)) (h20.rdD r_d)).mono ?_
          rintro e v20 ⟨rfl, hb20⟩
          refine ⟨hb20, [.bool (hasI a d)], _, rfl, by kernel_rfl, by kernel_rfl, fun g20 => ?_⟩
          replace r_al := g20.rdD r_al; replace r_ah := g20.rdD r_ah; replace r_bl := g20.rdD r_bl; replace r_bh := g20.rdD r_bh; replace r_d := g20.rdD r_d; replace r_zz := g20.rdD r_zz; replace r_h1l := g20.rdD r_h1l; replace r_h1h := g20.rdD r_h1h; replace r_hr2l := g20.rdD r_hr2l; replace r_hr2h := g20.rdD r_hr2h; replace r_m3l := g20.rdD r_m3l; replace r_m3h := g20.rdD r_m3h; replace r_mr4l := g20.rdD r_mr4l; replace r_mr4h := g20.rdD r_mr4h; replace r_k5l := g20.rdD r_k5l; replace r_k5h := g20.rdD r_k5h
          clear h20 hb20
          refine sat_prim (v := .bool ((hasI a d) == (hasI a d))) (by kernel_rfl) ?_
          refine sat_trueP (b := ((hasI a d) == (hasI a d))) (by kernel_rfl) (by simp) ?_
          refine sat_call #[.agg #[.bool a.lo.neg, .slice A_a n_a c_a, .int .i64 a.lo.e, .bool a.hi.neg, .slice B_a m_a k_a, .int .i64 a.hi.e], .agg #[.bool b.lo.neg, .slice A_b n_b c_b, .int .i64 b.lo.e, .bool b.hi.neg, .slice B_b m_b k_b, .int .i64 b.hi.e]] (by kernel_rfl) fun w21 h21 => ?_
          refine (withinI_any _ _ a b _ (mkI (h21.rdD r_al) (h21.rdD r_ah)) (mkI (h21.rdD r_bl) (h21.rdD r_bh))).mono ?_
          rintro e v21 ⟨rfl, hb21⟩
          refine ⟨hb21, [.bool (withinI a b)], _, rfl, by kernel_rfl, by kernel_rfl, fun g21 => ?_⟩
          replace r_al := g21.rdD r_al; replace r_ah := g21.rdD r_ah; replace r_bl := g21.rdD r_bl; replace r_bh := g21.rdD r_bh; replace r_d := g21.rdD r_d; replace r_zz := g21.rdD r_zz; replace r_h1l := g21.rdD r_h1l; replace r_h1h := g21.rdD r_h1h; replace r_hr2l := g21.rdD r_hr2l; replace r_hr2h := g21.rdD r_hr2h; replace r_m3l := g21.rdD r_m3l; replace r_m3h := g21.rdD r_m3h; replace r_mr4l := g21.rdD r_mr4l; replace r_mr4h := g21.rdD r_mr4h; replace r_k5l := g21.rdD r_k5l; replace r_k5h := g21.rdD r_k5h
          clear h21 hb21
          refine sat_call #[.agg #[.bool a.lo.neg, .slice A_a n_a c_a, .int .i64 a.lo.e, .bool a.hi.neg, .slice B_a m_a k_a, .int .i64 a.hi.e], .agg #[.bool b.lo.neg, .slice A_b n_b c_b, .int .i64 b.lo.e, .bool b.hi.neg, .slice B_b m_b k_b, .int .i64 b.hi.e]] (by kernel_rfl) fun w22 h22 => ?_
          refine (rwithinI_any _ _ a b _ (mkI (h22.rdD r_al) (h22.rdD r_ah)) (mkI (h22.rdD r_bl) (h22.rdD r_bh))).mono ?_
          rintro e v22 ⟨rfl, hb22⟩
          refine ⟨hb22, [.bool (withinI a b)], _, rfl, by kernel_rfl, by kernel_rfl, fun g22 => ?_⟩
          replace r_al := g22.rdD r_al; replace r_ah := g22.rdD r_ah; replace r_bl := g22.rdD r_bl; replace r_bh := g22.rdD r_bh; replace r_d := g22.rdD r_d; replace r_zz := g22.rdD r_zz; replace r_h1l := g22.rdD r_h1l; replace r_h1h := g22.rdD r_h1h; replace r_hr2l := g22.rdD r_hr2l; replace r_hr2h := g22.rdD r_hr2h; replace r_m3l := g22.rdD r_m3l; replace r_m3h := g22.rdD r_m3h; replace r_mr4l := g22.rdD r_mr4l; replace r_mr4h := g22.rdD r_mr4h; replace r_k5l := g22.rdD r_k5l; replace r_k5h := g22.rdD r_k5h
          clear h22 hb22
          refine sat_prim (v := .bool ((withinI a b) == (withinI a b))) (by kernel_rfl) ?_
          refine sat_trueP (b := ((withinI a b) == (withinI a b))) (by kernel_rfl) (by simp) ?_
          refine sat_call #[.agg #[.bool a.lo.neg, .slice A_a n_a c_a, .int .i64 a.lo.e, .bool a.hi.neg, .slice B_a m_a k_a, .int .i64 a.hi.e], .agg #[.bool b.lo.neg, .slice A_b n_b c_b, .int .i64 b.lo.e, .bool b.hi.neg, .slice B_b m_b k_b, .int .i64 b.hi.e]] (by kernel_rfl) fun w23 h23 => ?_
          refine (insideI_any _ _ a b _ (mkI (h23.rdD r_al) (h23.rdD r_ah)) (mkI (h23.rdD r_bl) (h23.rdD r_bh))).mono ?_
          rintro e v23 ⟨rfl, hb23⟩
          refine ⟨hb23, [.bool (insideI a b)], _, rfl, by kernel_rfl, by kernel_rfl, fun g23 => ?_⟩
          replace r_al := g23.rdD r_al; replace r_ah := g23.rdD r_ah; replace r_bl := g23.rdD r_bl; replace r_bh := g23.rdD r_bh; replace r_d := g23.rdD r_d; replace r_zz := g23.rdD r_zz; replace r_h1l := g23.rdD r_h1l; replace r_h1h := g23.rdD r_h1h; replace r_hr2l := g23.rdD r_hr2l; replace r_hr2h := g23.rdD r_hr2h; replace r_m3l := g23.rdD r_m3l; replace r_m3h := g23.rdD r_m3h; replace r_mr4l := g23.rdD r_mr4l; replace r_mr4h := g23.rdD r_mr4h; replace r_k5l := g23.rdD r_k5l; replace r_k5h := g23.rdD r_k5h
          clear h23 hb23
          refine sat_call #[.agg #[.bool a.lo.neg, .slice A_a n_a c_a, .int .i64 a.lo.e, .bool a.hi.neg, .slice B_a m_a k_a, .int .i64 a.hi.e], .agg #[.bool b.lo.neg, .slice A_b n_b c_b, .int .i64 b.lo.e, .bool b.hi.neg, .slice B_b m_b k_b, .int .i64 b.hi.e]] (by kernel_rfl) fun w24 h24 => ?_
          refine (rinsideI_any _ _ a b _ (mkI (h24.rdD r_al) (h24.rdD r_ah)) (mkI (h24.rdD r_bl) (h24.rdD r_bh))).mono ?_
          rintro e v24 ⟨rfl, hb24⟩
          refine ⟨hb24, [.bool (insideI a b)], _, rfl, by kernel_rfl, by kernel_rfl, fun g24 => ?_⟩
          replace r_al := g24.rdD r_al; replace r_ah := g24.rdD r_ah; replace r_bl := g24.rdD r_bl; replace r_bh := g24.rdD r_bh; replace r_d := g24.rdD r_d; replace r_zz := g24.rdD r_zz; replace r_h1l := g24.rdD r_h1l; replace r_h1h := g24.rdD r_h1h; replace r_hr2l := g24.rdD r_hr2l; replace r_hr2h := g24.rdD r_hr2h; replace r_m3l := g24.rdD r_m3l; replace r_m3h := g24.rdD r_m3h; replace r_mr4l := g24.rdD r_mr4l; replace r_mr4h := g24.rdD r_mr4h; replace r_k5l := g24.rdD r_k5l; replace r_k5h := g24.rdD r_k5h
          clear h24 hb24
          refine sat_prim (v := .bool ((insideI a b) == (insideI a b))) (by kernel_rfl) ?_
          refine sat_trueP (b := ((insideI a b) == (insideI a b))) (by kernel_rfl) (by simp) ?_
          refine sat_call #[.agg #[.bool a.lo.neg, .slice A_a n_a c_a, .int .i64 a.lo.e, .bool a.hi.neg, .slice B_a m_a k_a, .int .i64 a.hi.e], .agg #[.bool b.lo.neg, .slice A_b n_b c_b, .int .i64 b.lo.e, .bool b.hi.neg, .slice B_b m_b k_b, .int .i64 b.hi.e]] (by kernel_rfl) fun w25 h25 => ?_
          refine (sameI_any _ _ a b _ (mkI (h25.rdD r_al) (h25.rdD r_ah)) (mkI (h25.rdD r_bl) (h25.rdD r_bh))).mono ?_
          rintro e v25 ⟨rfl, hb25⟩
          refine ⟨hb25, [.bool (sameI a b)], _, rfl, by kernel_rfl, by kernel_rfl, fun g25 => ?_⟩
          replace r_al := g25.rdD r_al; replace r_ah := g25.rdD r_ah; replace r_bl := g25.rdD r_bl; replace r_bh := g25.rdD r_bh; replace r_d := g25.rdD r_d; replace r_zz := g25.rdD r_zz; replace r_h1l := g25.rdD r_h1l; replace r_h1h := g25.rdD r_h1h; replace r_hr2l := g25.rdD r_hr2l; replace r_hr2h := g25.rdD r_hr2h; replace r_m3l := g25.rdD r_m3l; replace r_m3h := g25.rdD r_m3h; replace r_mr4l := g25.rdD r_mr4l; replace r_mr4h := g25.rdD r_mr4h; replace r_k5l := g25.rdD r_k5l; replace r_k5h := g25.rdD r_k5h
          clear h25 hb25
          refine sat_call #[.agg #[.bool a.lo.neg, .slice A_a n_a c_a, .int .i64 a.lo.e, .bool a.hi.neg, .slice B_a m_a k_a, .int .i64 a.hi.e], .agg #[.bool b.lo.neg, .slice A_b n_b c_b, .int .i64 b.lo.e, .bool b.hi.neg, .slice B_b m_b k_b, .int .i64 b.hi.e]] (by kernel_rfl) fun w26 h26 => ?_
          refine (rsameI_any _ _ a b _ (mkI (h26.rdD r_al) (h26.rdD r_ah)) (mkI (h26.rdD r_bl) (h26.rdD r_bh))).mono ?_
          rintro e v26 ⟨rfl, hb26⟩
          refine ⟨hb26, [.bool (sameI a b)], _, rfl, by kernel_rfl, by kernel_rfl, fun g26 => ?_⟩
          replace r_al := g26.rdD r_al; replace r_ah := g26.rdD r_ah; replace r_bl := g26.rdD r_bl; replace r_bh := g26.rdD r_bh; replace r_d := g26.rdD r_d; replace r_zz := g26.rdD r_zz; replace r_h1l := g26.rdD r_h1l; replace r_h1h := g26.rdD r_h1h; replace r_hr2l := g26.rdD r_hr2l; replace r_hr2h := g26.rdD r_hr2h; replace r_m3l := g26.rdD r_m3l; replace r_m3h := g26.rdD r_m3h; replace r_mr4l := g26.rdD r_mr4l; replace r_mr4h := g26.rdD r_mr4h; replace r_k5l := g26.rdD r_k5l; replace r_k5h := g26.rdD r_k5h
          clear h26 hb26
          refine sat_prim (v := .bool ((sameI a b) == (sameI a b))) (by kernel_rfl) ?_
          refine sat_trueP (b := ((sameI a b) == (sameI a b))) (by kernel_rfl) (by simp) ?_
          refine sat_chkB (by kernel_rfl) ?_
          refine sat_call #[.agg #[.bool d.neg, .slice A_d n_d c_d, .int .i64 d.e]] (by kernel_rfl) fun w27 h27 => ?_
          refine (ofI_any _ (d) _ (h27.rdD r_d)).mono ?_
          rintro e v27 ⟨⟨A_o6, n_o6, c_o6, rfl, r_o6⟩, hb27⟩
          refine ⟨hb27, [.bool d.neg, .slice A_o6 n_o6 c_o6, .int .i64 d.e, .bool d.neg, .slice A_o6 n_o6 c_o6, .int .i64 d.e], _, rfl, by kernel_rfl, by kernel_rfl, fun g27 => ?_⟩
          replace r_al := g27.rdD r_al; replace r_ah := g27.rdD r_ah; replace r_bl := g27.rdD r_bl; replace r_bh := g27.rdD r_bh; replace r_d := g27.rdD r_d; replace r_zz := g27.rdD r_zz; replace r_h1l := g27.rdD r_h1l; replace r_h1h := g27.rdD r_h1h; replace r_hr2l := g27.rdD r_hr2l; replace r_hr2h := g27.rdD r_hr2h; replace r_m3l := g27.rdD r_m3l; replace r_m3h := g27.rdD r_m3h; replace r_mr4l := g27.rdD r_mr4l; replace r_mr4h := g27.rdD r_mr4h; replace r_k5l := g27.rdD r_k5l; replace r_k5h := g27.rdD r_k5h
          clear h27 hb27
          refine sat_call #[.agg #[.bool d.neg, .slice A_o6 n_o6 c_o6, .int .i64 d.e, .bool d.neg, .slice A_o6 n_o6 c_o6, .int .i64 d.e], .agg #[.bool d.neg, .slice A_d n_d c_d, .int .i64 d.e, .bool d.neg, .slice A_d n_d c_d, .int .i64 d.e]] (by kernel_rfl) fun w28 h28 => ?_
          refine (rsameI_any _ _ ⟨d, d⟩ ⟨d, d⟩ _ (mkI (h28.rdD r_o6) (h28.rdD r_o6)) (mkI (h28.rdD r_d) (h28.rdD r_d))).mono ?_
          rw [show (sameD d d && sameD d d) = true by rw [sameD_self]; rfl]
          rintro e v28 ⟨rfl, hb28⟩
          refine ⟨hb28, [.bool true], _, rfl, by kernel_rfl, by kernel_rfl, fun g28 => ?_⟩
          replace r_al := g28.rdD r_al; replace r_ah := g28.rdD r_ah; replace r_bl := g28.rdD r_bl; replace r_bh := g28.rdD r_bh; replace r_d := g28.rdD r_d; replace r_zz := g28.rdD r_zz; replace r_h1l := g28.rdD r_h1l; replace r_h1h := g28.rdD r_h1h; replace r_hr2l := g28.rdD r_hr2l; replace r_hr2h := g28.rdD r_hr2h; replace r_m3l := g28.rdD r_m3l; replace r_m3h := g28.rdD r_m3h; replace r_mr4l := g28.rdD r_mr4l; replace r_mr4h := g28.rdD r_mr4h; replace r_k5l := g28.rdD r_k5l; replace r_k5h := g28.rdD r_k5h; replace r_o6 := g28.rdD r_o6
          clear h28 hb28
          exact sat_ret (.bool true) (by kernel_rfl) fun w9 h9 => rfl
        · refine sat_call #[.agg #[.bool a.lo.neg, .slice A_a n_a c_a, .int .i64 a.lo.e, .bool b.hi.neg, .slice B_b m_b k_b, .int .i64 b.hi.e]] (by kernel_rfl) fun w12 h12 => ?_
          refine (rmayI_any _ ⟨a.lo, b.hi⟩ _ (mkI (h12.rdD r_al) (h12.rdD r_bh))).mono ?_
          rw [show (mayD a.lo && mayD b.hi && decide (cmpD a.lo b.hi ≤ 0)) = true from hz]
          rintro e v12 ⟨rfl, hb12⟩
          refine ⟨hb12, [.bool true], _, rfl, by kernel_rfl, by kernel_rfl, fun g12 => ?_⟩
          replace r_al := g12.rdD r_al; replace r_ah := g12.rdD r_ah; replace r_bl := g12.rdD r_bl; replace r_bh := g12.rdD r_bh; replace r_d := g12.rdD r_d; replace r_zz := g12.rdD r_zz; replace r_h1l := g12.rdD r_h1l; replace r_h1h := g12.rdD r_h1h; replace r_hr2l := g12.rdD r_hr2l; replace r_hr2h := g12.rdD r_hr2h; replace r_m3l := g12.rdD r_m3l; replace r_m3h := g12.rdD r_m3h; replace r_mr4l := g12.rdD r_mr4l; replace r_mr4h := g12.rdD r_mr4h; replace r_k5l := g12.rdD r_k5l; replace r_k5h := g12.rdD r_k5h
          clear h12 hb12
          refine sat_prim (v := .bool false) (by kernel_rfl) ?_
          refine sat_false (by kernel_rfl) ?_
          refine sat_call #[] (by kernel_rfl) fun w13 h13 => ?_
          refine (told5_any _ (h13.tab hT)).mono ?_
          rintro e v13 ⟨rfl, hb13⟩
          refine ⟨hb13, [.bool true], _, rfl, by kernel_rfl, by kernel_rfl, fun g13 => ?_⟩
          replace r_al := g13.rdD r_al; replace r_ah := g13.rdD r_ah; replace r_bl := g13.rdD r_bl; replace r_bh := g13.rdD r_bh; replace r_d := g13.rdD r_d; replace r_zz := g13.rdD r_zz; replace r_h1l := g13.rdD r_h1l; replace r_h1h := g13.rdD r_h1h; replace r_hr2l := g13.rdD r_hr2l; replace r_hr2h := g13.rdD r_hr2h; replace r_m3l := g13.rdD r_m3l; replace r_m3h := g13.rdD r_m3h; replace r_mr4l := g13.rdD r_mr4l; replace r_mr4h := g13.rdD r_mr4h; replace r_k5l := g13.rdD r_k5l; replace r_k5h := g13.rdD r_k5h
          clear h13 hb13
          refine sat_true (by kernel_rfl) ?_
          refine sat_call #[.agg #[.bool a.lo.neg, .slice A_a n_a c_a, .int .i64 a.lo.e, .bool a.hi.neg, .slice B_a m_a k_a, .int .i64 a.hi.e]] (by kernel_rfl) fun w14 h14 => ?_
          refine (mayI_any _ a _ (mkI (h14.rdD r_al) (h14.rdD r_ah))).mono ?_
          rintro e v14 ⟨rfl, hb14⟩
          refine ⟨hb14, [.bool (mayI a)], _, rfl, by kernel_rfl, by kernel_rfl, fun g14 => ?_⟩
          replace r_al := g14.rdD r_al; replace r_ah := g14.rdD r_ah; replace r_bl := g14.rdD r_bl; replace r_bh := g14.rdD r_bh; replace r_d := g14.rdD r_d; replace r_zz := g14.rdD r_zz; replace r_h1l := g14.rdD r_h1l; replace r_h1h := g14.rdD r_h1h; replace r_hr2l := g14.rdD r_hr2l; replace r_hr2h := g14.rdD r_hr2h; replace r_m3l := g14.rdD r_m3l; replace r_m3h := g14.rdD r_m3h; replace r_mr4l := g14.rdD r_mr4l; replace r_mr4h := g14.rdD r_mr4h; replace r_k5l := g14.rdD r_k5l; replace r_k5h := g14.rdD r_k5h
          clear h14 hb14
          refine sat_call #[.agg #[.bool a.lo.neg, .slice A_a n_a c_a, .int .i64 a.lo.e, .bool a.hi.neg, .slice B_a m_a k_a, .int .i64 a.hi.e]] (by kernel_rfl) fun w15 h15 => ?_
          refine (rmayI_any _ a _ (mkI (h15.rdD r_al) (h15.rdD r_ah))).mono ?_
          rintro e v15 ⟨rfl, hb15⟩
          refine ⟨hb15, [.bool (mayI a)], _, rfl, by kernel_rfl, by kernel_rfl, fun g15 => ?_⟩
          replace r_al := g15.rdD r_al; replace r_ah := g15.rdD r_ah; replace r_bl := g15.rdD r_bl; replace r_bh := g15.rdD r_bh; replace r_d := g15.rdD r_d; replace r_zz := g15.rdD r_zz; replace r_h1l := g15.rdD r_h1l; replace r_h1h := g15.rdD r_h1h; replace r_hr2l := g15.rdD r_hr2l; replace r_hr2h := g15.rdD r_hr2h; replace r_m3l := g15.rdD r_m3l; replace r_m3h := g15.rdD r_m3h; replace r_mr4l := g15.rdD r_mr4l; replace r_mr4h := g15.rdD r_mr4h; replace r_k5l := g15.rdD r_k5l; replace r_k5h := g15.rdD r_k5h
          clear h15 hb15
          refine sat_prim (v := .bool ((mayI a) == (mayI a))) (by kernel_rfl) ?_
          refine sat_trueP (b := ((mayI a) == (mayI a))) (by kernel_rfl) (by simp) ?_
          refine sat_call #[.agg #[.bool l_h1.neg, .slice A_h1 n_h1 c_h1, .int .i64 l_h1.e, .bool g_h1.neg, .slice B_h1 m_h1 k_h1, .int .i64 g_h1.e], .int .i64 x_h1, .agg #[.bool l_hr2.neg, .slice A_hr2 n_hr2 c_hr2, .int .i64 l_hr2.e, .bool g_hr2.neg, .slice B_hr2 m_hr2 k_hr2, .int .i64 g_hr2.e], .int .i64 x_hr2] (by kernel_rfl) fun w16 h16 => ?_
          refine (same5_any _ _ ⟨l_h1, g_h1⟩ (x_h1) ⟨l_hr2, g_hr2⟩ (x_hr2) _ (mkI (h16.rdD r_h1l) (h16.rdD r_h1h)) (mkI (h16.rdD r_hr2l) (h16.rdD r_hr2h))).mono ?_
          rw [same5_of h_h1 h_hr2]
          rintro e v16 ⟨rfl, hb16⟩
          refine ⟨hb16, [.bool true], _, rfl, by kernel_rfl, by kernel_rfl, fun g16 => ?_⟩
          replace r_al := g16.rdD r_al; replace r_ah := g16.rdD r_ah; replace r_bl := g16.rdD r_bl; replace r_bh := g16.rdD r_bh; replace r_d := g16.rdD r_d; replace r_zz := g16.rdD r_zz; replace r_h1l := g16.rdD r_h1l; replace r_h1h := g16.rdD r_h1h; replace r_hr2l := g16.rdD r_hr2l; replace r_hr2h := g16.rdD r_hr2h; replace r_m3l := g16.rdD r_m3l; replace r_m3h := g16.rdD r_m3h; replace r_mr4l := g16.rdD r_mr4l; replace r_mr4h := g16.rdD r_mr4h; replace r_k5l := g16.rdD r_k5l; replace r_k5h := g16.rdD r_k5h
          clear h16 hb16
          refine sat_true (by kernel_rfl) ?_
          refine sat_call #[.agg #[.bool l_m3.neg, .slice A_m3 n_m3 c_m3, .int .i64 l_m3.e, .bool g_m3.neg, .slice B_m3 m_m3 k_m3, .int .i64 g_m3.e], .int .i64 x_m3, .agg #[.bool l_mr4.neg, .slice A_mr4 n_mr4 c_mr4, .int .i64 l_mr4.e, .bool g_mr4.neg, .slice B_mr4 m_mr4 k_mr4, .int .i64 g_mr4.e], .int .i64 x_mr4] (by kernel_rfl) fun w17 h17 => ?_
          refine (same5_any _ _ ⟨l_m3, g_m3⟩ (x_m3) ⟨l_mr4, g_mr4⟩ (x_mr4) _ (mkI (h17.rdD r_m3l) (h17.rdD r_m3h)) (mkI (h17.rdD r_mr4l) (h17.rdD r_mr4h))).mono ?_
          rw [same5_of h_m3 h_mr4]
          rintro e v17 ⟨rfl, hb17⟩
          refine ⟨hb17, [.bool true], _, rfl, by kernel_rfl, by kernel_rfl, fun g17 => ?_⟩
          replace r_al := g17.rdD r_al; replace r_ah := g17.rdD r_ah; replace r_bl := g17.rdD r_bl; replace r_bh := g17.rdD r_bh; replace r_d := g17.rdD r_d; replace r_zz := g17.rdD r_zz; replace r_h1l := g17.rdD r_h1l; replace r_h1h := g17.rdD r_h1h; replace r_hr2l := g17.rdD r_hr2l; replace r_hr2h := g17.rdD r_hr2h; replace r_m3l := g17.rdD r_m3l; replace r_m3h := g17.rdD r_m3h; replace r_mr4l := g17.rdD r_mr4l; replace r_mr4h := g17.rdD r_mr4h; replace r_k5l := g17.rdD r_k5l; replace r_k5h := g17.rdD r_k5h
          clear h17 hb17
          refine sat_true (by kernel_rfl) ?_
          refine sat_call #[.agg #[.bool l_k5.neg, .slice A_k5 n_k5 c_k5, .int .i64 l_k5.e, .bool g_k5.neg, .slice B_k5 m_k5 k_k5, .int .i64 g_k5.e], .int .i64 x_k5, .agg #[.bool a.lo.neg, .slice A_a n_a c_a, .int .i64 a.lo.e, .bool b.hi.neg, .slice B_b m_b k_b, .int .i64 b.hi.e], .int .i64 0] (by kernel_rfl) fun w18 h18 => ?_
          refine (same5_any _ _ ⟨l_k5, g_k5⟩ (x_k5) ⟨a.lo, b.hi⟩ (0) _ (mkI (h18.rdD r_k5l) (h18.rdD r_k5h)) (mkI (h18.rdD r_al) (h18.rdD r_bh))).mono ?_
          rw [same5_of h_k5 (hide (mk_yes hz))]
          rintro e v18 ⟨rfl, hb18⟩
          refine ⟨hb18, [.bool true], _, rfl, by kernel_rfl, by kernel_rfl, fun g18 => ?_⟩
          replace r_al := g18.rdD r_al; replace r_ah := g18.rdD r_ah; replace r_bl := g18.rdD r_bl; replace r_bh := g18.rdD r_bh; replace r_d := g18.rdD r_d; replace r_zz := g18.rdD r_zz; replace r_h1l := g18.rdD r_h1l; replace r_h1h := g18.rdD r_h1h; replace r_hr2l := g18.rdD r_hr2l; replace r_hr2h := g18.rdD r_hr2h; replace r_m3l := g18.rdD r_m3l; replace r_m3h := g18.rdD r_m3h; replace r_mr4l := g18.rdD r_mr4l; replace r_mr4h := g18.rdD r_mr4h; replace r_k5l := g18.rdD r_k5l; replace r_k5h := g18.rdD r_k5h
          clear h18 hb18
          refine sat_true (by kernel_rfl) ?_
          refine sat_call #[.agg #[.bool a.lo.neg, .slice A_a n_a c_a, .int .i64 a.lo.e, .bool a.hi.neg, .slice B_a m_a k_a, .int .i64 a.hi.e], .agg #[.bool d.neg, .slice A_d n_d c_d, .int .i64 d.e]] (by kernel_rfl) fun w19 h19 => ?_
          refine (hasI_any _ _ a (d) _ (mkI (h19.rdD r_al) (h19.rdD r_ah)) (h19.rdD r_d)).mono ?_
          rintro e v19 ⟨rfl, hb19⟩
          refine ⟨hb19, [.bool (hasI a d)], _, rfl, by kernel_rfl, by kernel_rfl, fun g19 => ?_⟩
          replace r_al := g19.rdD r_al; replace r_ah := g19.rdD r_ah; replace r_bl := g19.rdD r_bl; replace r_bh := g19.rdD r_bh; replace r_d := g19.rdD r_d; replace r_zz := g19.rdD r_zz; replace r_h1l := g19.rdD r_h1l; replace r_h1h := g19.rdD r_h1h; replace r_hr2l := g19.rdD r_hr2l; replace r_hr2h := g19.rdD r_hr2h; replace r_m3l := g19.rdD r_m3l; replace r_m3h := g19.rdD r_m3h; replace r_mr4l := g19.rdD r_mr4l; replace r_mr4h := g19.rdD r_mr4h; replace r_k5l := g19.rdD r_k5l; replace r_k5h := g19.rdD r_k5h
          clear h19 hb19
          refine sat_call #[.agg #[.bool a.lo.neg, .slice A_a n_a c_a, .int .i64 a.lo.e, .bool a.hi.neg, .slice B_a m_a k_a, .int .i64 a.hi.e], .agg #[.bool d.neg, .slice A_d n_d c_d, .int .i64 d.e]] (by kernel_rfl) fun w20 h20 => ?_
          refine (rhasI_any _ _ a (d) _ (mkI (h20.rdD r_al) (h20.rdD r_ah)) (h20.rdD r_d)).mono ?_
          rintro e v20 ⟨rfl, hb20⟩
          refine ⟨hb20, [.bool (hasI a d)], _, rfl, by kernel_rfl, by kernel_rfl, fun g20 => ?_⟩
          replace r_al := g20.rdD r_al; replace r_ah := g20.rdD r_ah; replace r_bl := g20.rdD r_bl; replace r_bh := g20.rdD r_bh; replace r_d := g20.rdD r_d; replace r_zz := g20.rdD r_zz; replace r_h1l := g20.rdD r_h1l; replace r_h1h := g20.rdD r_h1h; replace r_hr2l := g20.rdD r_hr2l; replace r_hr2h := g20.rdD r_hr2h; replace r_m3l := g20.rdD r_m3l; replace r_m3h := g20.rdD r_m3h; replace r_mr4l := g20.rdD r_mr4l; replace r_mr4h := g20.rdD r_mr4h; replace r_k5l := g20.rdD r_k5l; replace r_k5h := g20.rdD r_k5h
          clear h20 hb20
          refine sat_prim (v := .bool ((hasI a d) == (hasI a d))) (by kernel_rfl) ?_
          refine sat_trueP (b := ((hasI a d) == (hasI a d))) (by kernel_rfl) (by simp) ?_
          refine sat_call #[.agg #[.bool a.lo.neg, .slice A_a n_a c_a, .int .i64 a.lo.e, .bool a.hi.neg, .slice B_a m_a k_a, .int .i64 a.hi.e], .agg #[.bool b.lo.neg, .slice A_b n_b c_b, .int .i64 b.lo.e, .bool b.hi.neg, .slice B_b m_b k_b, .int .i64 b.hi.e]] (by kernel_rfl) fun w21 h21 => ?_
          refine (withinI_any _ _ a b _ (mkI (h21.rdD r_al) (h21.rdD r_ah)) (mkI (h21.rdD r_bl) (h21.rdD r_bh))).mono ?_
          rintro e v21 ⟨rfl, hb21⟩
          refine ⟨hb21, [.bool (withinI a b)], _, rfl, by kernel_rfl, by kernel_rfl, fun g21 => ?_⟩
          replace r_al := g21.rdD r_al; replace r_ah := g21.rdD r_ah; replace r_bl := g21.rdD r_bl; replace r_bh := g21.rdD r_bh; replace r_d := g21.rdD r_d; replace r_zz := g21.rdD r_zz; replace r_h1l := g21.rdD r_h1l; replace r_h1h := g21.rdD r_h1h; replace r_hr2l := g21.rdD r_hr2l; replace r_hr2h := g21.rdD r_hr2h; replace r_m3l := g21.rdD r_m3l; replace r_m3h := g21.rdD r_m3h; replace r_mr4l := g21.rdD r_mr4l; replace r_mr4h := g21.rdD r_mr4h; replace r_k5l := g21.rdD r_k5l; replace r_k5h := g21.rdD r_k5h
          clear h21 hb21
          refine sat_call #[.agg #[.bool a.lo.neg, .slice A_a n_a c_a, .int .i64 a.lo.e, .bool a.hi.neg, .slice B_a m_a k_a, .int .i64 a.hi.e], .agg #[.bool b.lo.neg, .slice A_b n_b c_b, .int .i64 b.lo.e, .bool b.hi.neg, .slice B_b m_b k_b, .int .i64 b.hi.e]] (by kernel_rfl) fun w22 h22 => ?_
          refine (rwithinI_any _ _ a b _ (mkI (h22.rdD r_al) (h22.rdD r_ah)) (mkI (h22.rdD r_bl) (h22.rdD r_bh))).mono ?_
          rintro e v22 ⟨rfl, hb22⟩
          refine ⟨hb22, [.bool (withinI a b)], _, rfl, by kernel_rfl, by kernel_rfl, fun g22 => ?_⟩
          replace r_al := g22.rdD r_al; replace r_ah := g22.rdD r_ah; replace r_bl := g22.rdD r_bl; replace r_bh := g22.rdD r_bh; replace r_d := g22.rdD r_d; replace r_zz := g22.rdD r_zz; replace r_h1l := g22.rdD r_h1l; replace r_h1h := g22.rdD r_h1h; replace r_hr2l := g22.rdD r_hr2l; replace r_hr2h := g22.rdD r_hr2h; replace r_m3l := g22.rdD r_m3l; replace r_m3h := g22.rdD r_m3h; replace r_mr4l := g22.rdD r_mr4l; replace r_mr4h := g22.rdD r_mr4h; replace r_k5l := g22.rdD r_k5l; replace r_k5h := g22.rdD r_k5h
          clear h22 hb22
          refine sat_prim (v := .bool ((withinI a b) == (withinI a b))) (by kernel_rfl) ?_
          refine sat_trueP (b := ((withinI a b) == (withinI a b))) (by kernel_rfl) (by simp) ?_
          refine sat_call #[.agg #[.bool a.lo.neg, .slice A_a n_a c_a, .int .i64 a.lo.e, .bool a.hi.neg, .slice B_a m_a k_a, .int .i64 a.hi.e], .agg #[.bool b.lo.neg, .slice A_b n_b c_b, .int .i64 b.lo.e, .bool b.hi.neg, .slice B_b m_b k_b, .int .i64 b.hi.e]] (by kernel_rfl) fun w23 h23 => ?_
          refine (insideI_any _ _ a b _ (mkI (h23.rdD r_al) (h23.rdD r_ah)) (mkI (h23.rdD r_bl) (h23.rdD r_bh))).mono ?_
          rintro e v23 ⟨rfl, hb23⟩
          refine ⟨hb23, [.bool (insideI a b)], _, rfl, by kernel_rfl, by kernel_rfl, fun g23 => ?_⟩
          replace r_al := g23.rdD r_al; replace r_ah := g23.rdD r_ah; replace r_bl := g23.rdD r_bl; replace r_bh := g23.rdD r_bh; replace r_d := g23.rdD r_d; replace r_zz := g23.rdD r_zz; replace r_h1l := g23.rdD r_h1l; replace r_h1h := g23.rdD r_h1h; replace r_hr2l := g23.rdD r_hr2l; replace r_hr2h := g23.rdD r_hr2h; replace r_m3l := g23.rdD r_m3l; replace r_m3h := g23.rdD r_m3h; replace r_mr4l := g23.rdD r_mr4l; replace r_mr4h := g23.rdD r_mr4h; replace r_k5l := g23.rdD r_k5l; replace r_k5h := g23.rdD r_k5h
          clear h23 hb23
          refine sat_call #[.agg #[.bool a.lo.neg, .slice A_a n_a c_a, .int .i64 a.lo.e, .bool a.hi.neg, .slice B_a m_a k_a, .int .i64 a.hi.e], .agg #[.bool b.lo.neg, .slice A_b n_b c_b, .int .i64 b.lo.e, .bool b.hi.neg, .slice B_b m_b k_b, .int .i64 b.hi.e]] (by kernel_rfl) fun w24 h24 => ?_
          refine (rinsideI_any _ _ a b _ (mkI (h24.rdD r_al) (h24.rdD r_ah)) (mkI (h24.rdD r_bl) (h24.rdD r_bh))).mono ?_
          rintro e v24 ⟨rfl, hb24⟩
          refine ⟨hb24, [.bool (insideI a b)], _, rfl, by kernel_rfl, by kernel_rfl, fun g24 => ?_⟩
          replace r_al := g24.rdD r_al; replace r_ah := g24.rdD r_ah; replace r_bl := g24.rdD r_bl; replace r_bh := g24.rdD r_bh; replace r_d := g24.rdD r_d; replace r_zz := g24.rdD r_zz; replace r_h1l := g24.rdD r_h1l; replace r_h1h := g24.rdD r_h1h; replace r_hr2l := g24.rdD r_hr2l; replace r_hr2h := g24.rdD r_hr2h; replace r_m3l := g24.rdD r_m3l; replace r_m3h := g24.rdD r_m3h; replace r_mr4l := g24.rdD r_mr4l; replace r_mr4h := g24.rdD r_mr4h; replace r_k5l := g24.rdD r_k5l; replace r_k5h := g24.rdD r_k5h
          clear h24 hb24
          refine sat_prim (v := .bool ((insideI a b) == (insideI a b))) (by kernel_rfl) ?_
          refine sat_trueP (b := ((insideI a b) == (insideI a b))) (by kernel_rfl) (by simp) ?_
          refine sat_call #[.agg #[.bool a.lo.neg, .slice A_a n_a c_a, .int .i64 a.lo.e, .bool a.hi.neg, .slice B_a m_a k_a, .int .i64 a.hi.e], .agg #[.bool b.lo.neg, .slice A_b n_b c_b, .int .i64 b.lo.e, .bool b.hi.neg, .slice B_b m_b k_b, .int .i64 b.hi.e]] (by kernel_rfl) fun w25 h25 => ?_
          refine (sameI_any _ _ a b _ (mkI (h25.rdD r_al) (h25.rdD r_ah)) (mkI (h25.rdD r_bl) (h25.rdD r_bh))).mono ?_
          rintro e v25 ⟨rfl, hb25⟩
          refine ⟨hb25, [.bool (sameI a b)], _, rfl, by kernel_rfl, by kernel_rfl, fun g25 => ?_⟩
          replace r_al := g25.rdD r_al; replace r_ah := g25.rdD r_ah; replace r_bl := g25.rdD r_bl; replace r_bh := g25.rdD r_bh; replace r_d := g25.rdD r_d; replace r_zz := g25.rdD r_zz; replace r_h1l := g25.rdD r_h1l; replace r_h1h := g25.rdD r_h1h; replace r_hr2l := g25.rdD r_hr2l; replace r_hr2h := g25.rdD r_hr2h; replace r_m3l := g25.rdD r_m3l; replace r_m3h := g25.rdD r_m3h; replace r_mr4l := g25.rdD r_mr4l; replace r_mr4h := g25.rdD r_mr4h; replace r_k5l := g25.rdD r_k5l; replace r_k5h := g25.rdD r_k5h
          clear h25 hb25
          refine sat_call #[.agg #[.bool a.lo.neg, .slice A_a n_a c_a, .int .i64 a.lo.e, .bool a.hi.neg, .slice B_a m_a k_a, .int .i64 a.hi.e], .agg #[.bool b.lo.neg, .slice A_b n_b c_b, .int .i64 b.lo.e, .bool b.hi.neg, .slice B_b m_b k_b, .int .i64 b.hi.e]] (by kernel_rfl) fun w26 h26 => ?_
          refine (rsameI_any _ _ a b _ (mkI (h26.rdD r_al) (h26.rdD r_ah)) (mkI (h26.rdD r_bl) (h26.rdD r_bh))).mono ?_
          rintro e v26 ⟨rfl, hb26⟩
          refine ⟨hb26, [.bool (sameI a b)], _, rfl, by kernel_rfl, by kernel_rfl, fun g26 => ?_⟩
          replace r_al := g26.rdD r_al; replace r_ah := g26.rdD r_ah; replace r_bl := g26.rdD r_bl; replace r_bh := g26.rdD r_bh; replace r_d := g26.rdD r_d; replace r_zz := g26.rdD r_zz; replace r_h1l := g26.rdD r_h1l; replace r_h1h := g26.rdD r_h1h; replace r_hr2l := g26.rdD r_hr2l; replace r_hr2h := g26.rdD r_hr2h; replace r_m3l := g26.rdD r_m3l; replace r_m3h := g26.rdD r_m3h; replace r_mr4l := g26.rdD r_mr4l; replace r_mr4h := g26.rdD r_mr4h; replace r_k5l := g26.rdD r_k5l; replace r_k5h := g26.rdD r_k5h
          clear h26 hb26
          refine sat_prim (v := .bool ((sameI a b) == (sameI a b))) (by kernel_rfl) ?_
          refine sat_trueP (b := ((sameI a b) == (sameI a b))) (by kernel_rfl) (by simp) ?_
          refine sat_chkB (by kernel_rfl) ?_
          refine sat_call #[.agg #[.bool d.neg, .slice A_d n_d c_d, .int .i64 d.e]] (by kernel_rfl) fun w27 h27 => ?_
          refine (ofI_any _ (d) _ (h27.rdD r_d)).mono ?_
          rintro e v27 ⟨⟨A_o6, n_o6, c_o6, rfl, r_o6⟩, hb27⟩
          refine ⟨hb27, [.bool d.neg, .slice A_o6 n_o6 c_o6, .int .i64 d.e, .bool d.neg, .slice A_o6 n_o6 c_o6, .int .i64 d.e], _, rfl, by kernel_rfl, by kernel_rfl, fun g27 => ?_⟩
          replace r_al := g27.rdD r_al; replace r_ah := g27.rdD r_ah; replace r_bl := g27.rdD r_bl; replace r_bh := g27.rdD r_bh; replace r_d := g27.rdD r_d; replace r_zz := g27.rdD r_zz; replace r_h1l := g27.rdD r_h1l; replace r_h1h := g27.rdD r_h1h; replace r_hr2l := g27.rdD r_hr2l; replace r_hr2h := g27.rdD r_hr2h; replace r_m3l := g27.rdD r_m3l; replace r_m3h := g27.rdD r_m3h; replace r_mr4l := g27.rdD r_mr4l; replace r_mr4h := g27.rdD r_mr4h; replace r_k5l := g27.rdD r_k5l; replace r_k5h := g27.rdD r_k5h
          clear h27 hb27
          refine sat_call #[.agg #[.bool d.neg, .slice A_o6 n_o6 c_o6, .int .i64 d.e, .bool d.neg, .slice A_o6 n_o6 c_o6, .int .i64 d.e], .agg #[.bool d.neg, .slice A_d n_d c_d, .int .i64 d.e, .bool d.neg, .slice A_d n_d c_d, .int .i64 d.e]] (by kernel_rfl) fun w28 h28 => ?_
          refine (rsameI_any _ _ ⟨d, d⟩ ⟨d, d⟩ _ (mkI (h28.rdD r_o6) (h28.rdD r_o6)) (mkI (h28.rdD r_d) (h28.rdD r_d))).mono ?_
          rw [show (sameD d d && sameD d d) = true by rw [sameD_self]; rfl]
          rintro e v28 ⟨rfl, hb28⟩
          refine ⟨hb28, [.bool true], _, rfl, by kernel_rfl, by kernel_rfl, fun g28 => ?_⟩
          replace r_al := g28.rdD r_al; replace r_ah := g28.rdD r_ah; replace r_bl := g28.rdD r_bl; replace r_bh := g28.rdD r_bh; replace r_d := g28.rdD r_d; replace r_zz := g28.rdD r_zz; replace r_h1l := g28.rdD r_h1l; replace r_h1h := g28.rdD r_h1h; replace r_hr2l := g28.rdD r_hr2l; replace r_hr2h := g28.rdD r_hr2h; replace r_m3l := g28.rdD r_m3l; replace r_m3h := g28.rdD r_m3h; replace r_mr4l := g28.rdD r_mr4l; replace r_mr4h := g28.rdD r_mr4h; replace r_k5l := g28.rdD r_k5l; replace r_k5h := g28.rdD r_k5h; replace r_o6 := g28.rdD r_o6
          clear h28 hb28
          exact sat_ret (.bool true) (by kernel_rfl) fun w9 h9 => rfl

end Go.Proofs.YtaifjldpjkabjaaDoor
