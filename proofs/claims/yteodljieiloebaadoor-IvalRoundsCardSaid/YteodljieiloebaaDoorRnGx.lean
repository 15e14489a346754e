/- round.Down, Up; sluicewaylaw3's same and told, by their trees. Printed by wip/mk_RnG.py. -/
import Derived.Test.YteodljieiloebaaDoorRfPx
import Derived.Test.YteodljieiloebaaDoorIvCx
namespace Go.Proofs.YteodljieiloebaaDoor
open Go.RowKit Pl
open Sx (sat_call sat_chk sat_prim sat_ite sat_true sat_false sat_trueP sat_falseP sat_ret sat_row sat_callP all_nil all_cons okB okS okI)

section
variable (v u : Value) (d b : Dy) (p : Int) (up : Bool) (w : World) (h : RdD w v d) (k : RdD w u b) (hT : TabAt w)
include h hT in
theorem dirT : Calls Tryd.prog 55 #[v, .int .i64 p, .bool up] w fun e w' => DyTup w' e (dirS d p up) ∧ Below w.heap.size w w' := (directed_any v d p up w h hT).mono fun _ _ h => h.tup
include h k hT in
theorem quotT : Calls Tryd.prog 32 #[v, u, .int .i64 p, .bool up] w fun e w' => DyTup w' e (quotS d b p up) ∧ Below w.heap.size w w' := (quot_any v u d b p up w h k hT).mono fun _ _ h => h.tup
include h hT in
theorem rootT : Calls Tryd.prog 34 #[v, .int .i64 p, .bool up] w fun e w' => DyTup w' e (rootS d p up) ∧ Below w.heap.size w w' := (root_any v d p up w h hT).mono fun _ _ h => h.tup
end

def tr_rdown : Sx.Tree := .chk [.lf 0, .lf 1, .lf 2] (.call 55 [.ag [.lf 0, .lf 1, .lf 2], .one (.lf 3), .one (.bit false)] (.tup [(true, 3), (false, 1)]) (.chk [.lf 4, .lf 5, .lf 6] (.ret (.tup [(true, [.lf 4, .lf 5, .lf 6]), (false, [.lf 7])]))))
theorem tr_rdown_eq : Sx.treeAt Tryd.prog 25 [] [] [(true, 3), (false, 1)] = some tr_rdown := by kernel_rfl

theorem downT (v_d : Value) (d : Dy) (p : Int) (w : World) (h_d : RdD w v_d d) (hT : TabAt w) :
    Calls Tryd.prog 25 #[v_d, .int .i64 p] w fun e w' => DyTup w' e (dirS d p false) ∧ Below w.heap.size w w' := by
  have r_d := h_d
  obtain ⟨A_d, n_d, c_d, rfl, _⟩ := h_d
  refine (Sx.runA [] [] (ls := [.bool d.neg, .slice A_d n_d c_d, .int .i64 d.e, .int .i64 p]) (shs := [(true, 3), (false, 1)]) (R := fun v w' => DyTup w' (.returned v) (dirS d p false)) tr_rdown_eq rfl (by decide) (fun q h => by cases h) ?_).mono (fun e w' ⟨v, he, hv, hb⟩ => ⟨by rw [he]; exact hv, hb⟩)
  unfold tr_rdown
  refine sat_chkB (by kernel_rfl) ?_
  refine sat_call #[.agg #[.bool d.neg, .slice A_d n_d c_d, .int .i64 d.e], .int .i64 p, .bool false] (by kernel_rfl) fun w1 h1 => ?_
  refine (dirT _ d p false _ (h1.rdD r_d) (h1.tab hT)).mono ?_
  rintro e v1 ⟨⟨d_z, x_z, A_z, n_z, c_z, h_z, rfl, r_z⟩, hb1⟩
  refine ⟨hb1, [.bool d_z.neg, .slice A_z n_z c_z, .int .i64 d_z.e, .int .i64 x_z], _, rfl, by kernel_rfl, by kernel_rfl, fun g1 => ?_⟩
  replace r_d := g1.rdD r_d
  clear h1 hb1
  refine sat_chkB (by kernel_rfl) ?_
  exact sat_ret (.tuple #[.agg #[.bool d_z.neg, .slice A_z n_z c_z, .int .i64 d_z.e], .int .i64 x_z]) (by kernel_rfl) fun w9 h9 => ⟨d_z, x_z, A_z, n_z, c_z, h_z, rfl, h9.rdD r_z⟩

def tr_rup : Sx.Tree := .chk [.lf 0, .lf 1, .lf 2] (.call 55 [.ag [.lf 0, .lf 1, .lf 2], .one (.lf 3), .one (.bit true)] (.tup [(true, 3), (false, 1)]) (.chk [.lf 4, .lf 5, .lf 6] (.ret (.tup [(true, [.lf 4, .lf 5, .lf 6]), (false, [.lf 7])]))))
theorem tr_rup_eq : Sx.treeAt Tryd.prog 26 [] [] [(true, 3), (false, 1)] = some tr_rup := by kernel_rfl

theorem upT (v_d : Value) (d : Dy) (p : Int) (w : World) (h_d : RdD w v_d d) (hT : TabAt w) :
    Calls Tryd.prog 26 #[v_d, .int .i64 p] w fun e w' => DyTup w' e (dirS d p true) ∧ Below w.heap.size w w' := by
  have r_d := h_d
  obtain ⟨A_d, n_d, c_d, rfl, _⟩ := h_d
  refine (Sx.runA [] [] (ls := [.bool d.neg, .slice A_d n_d c_d, .int .i64 d.e, .int .i64 p]) (shs := [(true, 3), (false, 1)]) (R := fun v w' => DyTup w' (.returned v) (dirS d p true)) tr_rup_eq rfl (by decide) (fun q h => by cases h) ?_).mono (fun e w' ⟨v, he, hv, hb⟩ => ⟨by rw [he]; exact hv, hb⟩)
  unfold tr_rup
  refine sat_chkB (by kernel_rfl) ?_
  refine sat_call #[.agg #[.bool d.neg, .slice A_d n_d c_d, .int .i64 d.e], .int .i64 p, .bool true] (by kernel_rfl) fun w1 h1 => ?_
  refine (dirT _ d p true _ (h1.rdD r_d) (h1.tab hT)).mono ?_
  rintro e v1 ⟨⟨d_z, x_z, A_z, n_z, c_z, h_z, rfl, r_z⟩, hb1⟩
  refine ⟨hb1, [.bool d_z.neg, .slice A_z n_z c_z, .int .i64 d_z.e, .int .i64 x_z], _, rfl, by kernel_rfl, by kernel_rfl, fun g1 => ?_⟩
  replace r_d := g1.rdD r_d
  clear h1 hb1
  refine sat_chkB (by kernel_rfl) ?_
  exact sat_ret (.tuple #[.agg #[.bool d_z.neg, .slice A_z n_z c_z, .int .i64 d_z.e], .int .i64 x_z]) (by kernel_rfl) fun w9 h9 => ⟨d_z, x_z, A_z, n_z, c_z, h_z, rfl, h9.rdD r_z⟩

def T14 : Dy := ⟨false, [1], 2⟩
def T31 : Dy := ⟨false, [3], 1⟩
def T5m : Dy := ⟨false, [5], -4⟩
theorem told_dn : dirS ⟨false, [5], 0⟩ 2 false = (T14, 0) := by kernel_rfl
theorem told_up : dirS ⟨false, [5], 0⟩ 2 true = (T31, 0) := by kernel_rfl
theorem told_q : quotS ⟨false, [1], 0⟩ ⟨false, [3], 0⟩ 4 false = (T5m, 0) := by kernel_rfl
theorem told_qz : quotS ⟨false, [5], 0⟩ Dy.zero 4 true = (Dy.zero, 4) := by kernel_rfl
theorem told_d0 : dirS ⟨false, [5], 0⟩ 0 false = (Dy.zero, 1) := by kernel_rfl
theorem rootS_of {d : Dy} {p : Int} {up : Bool} {K r X : Nat} (hm : mayS p [d] = true) (hn : d.neg = false) (hX : val BB d.m = X) (hK : rootK X p.toNat d.e = K) (hr : nroot (X * 2 ^ K) = r) :
    rootS d p up = cutS false r ((d.e - (K : Int)).tdiv 2) (decide (r * r ≠ X * 2 ^ K)) p.toNat up := by
  unfold rootS
  rw [hm, hn, hX, hK, hr]
  rfl
theorem told_cut : cutS false 384 ((0 - ((14 : Nat) : Int)).tdiv 2) (decide (384 * 384 ≠ 9 * 2 ^ 14)) 8 true = (D3, 0) := by kernel_rfl
theorem told_r : rootS ⟨false, [9], 0⟩ 8 true = (D3, 0) :=
  (rootS_of (K := 14) (r := 384) (X := 9) (by kernel_rfl) rfl (by kernel_rfl) (by kernel_rfl) (nroot_of (by decide) (by decide))).trans told_cut

def tr_told3 : Sx.Tree := .row 58 [.num .u64 5] 1 [] (.chk [.lf 0] (.chk [.lf 0] (.call 25 [.ag [.bit false, .lf 0, .num .i64 0], .one (.num .i64 2)] (.tup [(true, 3), (false, 1)]) (.chk [.lf 1, .lf 2, .lf 3] (.call 26 [.ag [.bit false, .lf 0, .num .i64 0], .one (.num .i64 2)] (.tup [(true, 3), (false, 1)]) (.chk [.lf 5, .lf 6, .lf 7] (.row 58 [.num .u64 1] 1 [] (.chk [.lf 9] (.row 58 [.num .u64 3] 1 [] (.chk [.lf 10] (.call 32 [.ag [.bit false, .lf 9, .num .i64 0], .ag [.bit false, .lf 10, .num .i64 0], .one (.num .i64 4), .one (.bit false)] (.tup [(true, 3), (false, 1)]) (.chk [.lf 11, .lf 12, .lf 13] (.row 58 [.num .u64 9] 1 [] (.chk [.lf 15] (.call 34 [.ag [.bit false, .lf 15, .num .i64 0], .one (.num .i64 8), .one (.bit true)] (.tup [(true, 3), (false, 1)]) (.chk [.lf 16, .lf 17, .lf 18] (.call 32 [.ag [.bit false, .lf 0, .num .i64 0], .ag [.bit false, .nil, .num .i64 0], .one (.num .i64 4), .one (.bit true)] (.tup [(true, 3), (false, 1)]) (.chk [.lf 20, .lf 21, .lf 22] (.call 25 [.ag [.bit false, .lf 0, .num .i64 0], .one (.num .i64 0)] (.tup [(true, 3), (false, 1)]) (.chk [.lf 24, .lf 25, .lf 26] (.prim (.bin .add) [.lf 4, .lf 8] (.prim (.bin .add) [.lf 28, .lf 14] (.prim (.bin .add) [.lf 29, .lf 19] (.prim (.bin .eql) [.lf 30, .num .i64 0] (.ite (.lf 31) (.row 58 [.num .u64 1] 1 [] (.chk [.lf 32] (.call 18 [.ag [.lf 1, .lf 2, .lf 3], .ag [.bit false, .lf 32, .num .i64 2]] .one (.ite (.lf 33) (.row 58 [.num .u64 3] 1 [] (.chk [.lf 34] (.call 18 [.ag [.lf 5, .lf 6, .lf 7], .ag [.bit false, .lf 34, .num .i64 1]] .one (.ite (.lf 35) (.row 58 [.num .u64 5] 1 [] (.chk [.lf 36] (.call 18 [.ag [.lf 11, .lf 12, .lf 13], .ag [.bit false, .lf 36, .num .i64 ((-4))]] .one (.ite (.lf 37) (.row 58 [.num .u64 3] 1 [] (.chk [.lf 38] (.call 18 [.ag [.lf 16, .lf 17, .lf 18], .ag [.bit false, .lf 38, .num .i64 0]] .one (.ite (.lf 39) (.prim (.bin .eql) [.lf 23, .num .i64 4] (.ite (.lf 40) (.prim (.bin .eql) [.lf 27, .num .i64 1] (.ite (.lf 41) (.call 21 [.ag [.bit false, .lf 0, .num .i64 0]] .one (.prim (.bin .eql) [.lf 42, .num .i64 3] (.ret (.one (.lf 43))))) (.ret (.one (.bit false))))) (.ret (.one (.bit false))))) (.ret (.one (.bit false))))))) (.ret (.one (.bit false))))))) (.ret (.one (.bit false))))))) (.ret (.one (.bit false))))))) (.ret (.one (.bit false))))))))))))))))))))))))))))
theorem tr_told3_eq : Sx.treeAt Tryd.prog 24 [] [] [] = some tr_told3 := by kernel_rfl

set_option maxRecDepth 100000 in
set_option maxHeartbeats 4000000 in
theorem told3_any (w : World) (hT : TabAt w) :
    Calls Tryd.prog 24 #[] w fun e w' => e = .returned (.bool true) ∧ Below w.heap.size w w' := by
  have r_zz := RdD.zero w
  refine (Sx.runA [] [] (ls := []) (shs := []) (R := fun v w' => v = .bool true) tr_told3_eq rfl (by decide) (fun q h => by cases h) ?_).mono (fun e w' ⟨v, he, hv, hb⟩ => ⟨by rw [he, hv], hb⟩)
  unfold tr_told3
  refine sat_row [.int .u64 5] (by kernel_rfl) (by intro x hx; cases hx) fun u1 h1 B1 => ?_
  replace r_zz := h1.rdD r_zz
  have q_N1 := rdi1 (x := 5) B1.lt (B1.cell 0 rfl)
  generalize u1.heap.size = N1 at *
  generalize (u1.alloc _) = wN1 at *
  clear B1 h1
  refine sat_chkB (by kernel_rfl) ?_
  refine sat_chkB (by kernel_rfl) ?_
  have r_yN1_0 : RdD _ (.agg #[.bool false, .slice (some ⟨N1, 0, none⟩) 1 1, .int .i64 (0)]) ⟨false, [5], 0⟩ := ⟨_, _, _, rfl, q_N1, Lim.cons (by unfold BB; omega) Lim.nil, by decide, by decide⟩
  refine sat_call #[.agg #[.bool false, .slice (some ⟨N1, 0, none⟩) 1 1, .int .i64 0], .int .i64 2] (by kernel_rfl) fun w1 h1 => ?_
  refine (downT _ (⟨false, [5], 0⟩ : Dy) 2 _ (h1.rdD r_yN1_0) (h1.tab hT)).mono ?_
  rintro e v1 ⟨⟨d_t2, x_t2, A_t2, n_t2, c_t2, h_t2, rfl, r_t2⟩, hb1⟩
  obtain ⟨rfl, rfl⟩ := dx2 h_t2 told_dn
  refine ⟨hb1, [.bool T14.neg, .slice A_t2 n_t2 c_t2, .int .i64 T14.e, .int .i64 0], _, rfl, by kernel_rfl, by kernel_rfl, fun g1 => ?_⟩
  replace r_zz := g1.rdD r_zz; replace q_N1 := g1.rd (by decide) q_N1; replace r_yN1_0 := g1.rdD r_yN1_0
  clear h1 hb1
  refine sat_chkB (by kernel_rfl) ?_
  refine sat_call #[.agg #[.bool false, .slice (some ⟨N1, 0, none⟩) 1 1, .int .i64 0], .int .i64 2] (by kernel_rfl) fun w2 h2 => ?_
  refine (upT _ (⟨false, [5], 0⟩ : Dy) 2 _ (h2.rdD r_yN1_0) (h2.tab hT)).mono ?_
  rintro e v2 ⟨⟨d_t3, x_t3, A_t3, n_t3, c_t3, h_t3, rfl, r_t3⟩, hb2⟩
  obtain ⟨rfl, rfl⟩ := dx2 h_t3 told_up
  refine ⟨hb2, [.bool T31.neg, .slice A_t3 n_t3 c_t3, .int .i64 T31.e, .int .i64 0], _, rfl, by kernel_rfl, by kernel_rfl, fun g2 => ?_⟩
  replace r_zz := g2.rdD r_zz; replace q_N1 := g2.rd (by decide) q_N1; replace r_yN1_0 := g2.rdD r_yN1_0; replace r_t2 := g2.rdD r_t2
  clear h2 hb2
  refine sat_chkB (by kernel_rfl) ?_
  refine sat_row [.int .u64 1] (by kernel_rfl) (by intro x hx; cases hx) fun u1 h1 B1 => ?_
  replace r_zz := h1.rdD r_zz; replace q_N1 := h1.rd (by decide) q_N1; replace r_yN1_0 := h1.rdD r_yN1_0; replace r_t2 := h1.rdD r_t2; replace r_t3 := h1.rdD r_t3
  have q_N4 := rdi1 (x := 1) B1.lt (B1.cell 0 rfl)
  generalize u1.heap.size = N4 at *
  generalize (u1.alloc _) = wN4 at *
  clear B1 h1
  refine sat_chkB (by kernel_rfl) ?_
  refine sat_row [.int .u64 3] (by kernel_rfl) (by intro x hx; cases hx) fun u1 h1 B1 => ?_
  replace r_zz := h1.rdD r_zz; replace q_N1 := h1.rd (by decide) q_N1; replace r_yN1_0 := h1.rdD r_yN1_0; replace r_t2 := h1.rdD r_t2; replace r_t3 := h1.rdD r_t3; replace q_N4 := h1.rd (by decide) q_N4
  have q_N5 := rdi1 (x := 3) B1.lt (B1.cell 0 rfl)
  generalize u1.heap.size = N5 at *
  generalize (u1.alloc _) = wN5 at *
  clear B1 h1
  refine sat_chkB (by kernel_rfl) ?_
  have r_yN4_0 : RdD _ (.agg #[.bool false, .slice (some ⟨N4, 0, none⟩) 1 1, .int .i64 (0)]) ⟨false, [1], 0⟩ := ⟨_, _, _, rfl, q_N4, Lim.cons (by unfold BB; omega) Lim.nil, by decide, by decide⟩
  have r_yN5_0 : RdD _ (.agg #[.bool false, .slice (some ⟨N5, 0, none⟩) 1 1, .int .i64 (0)]) ⟨false, [3], 0⟩ := ⟨_, _, _, rfl, q_N5, Lim.cons (by unfold BB; omega) Lim.nil, by decide, by decide⟩
  refine sat_call #[.agg #[.bool false, .slice (some ⟨N4, 0, none⟩) 1 1, .int .i64 0], .agg #[.bool false, .slice (some ⟨N5, 0, none⟩) 1 1, .int .i64 0], .int .i64 4, .bool false] (by kernel_rfl) fun w3 h3 => ?_
  refine (quotT _ _ (⟨false, [1], 0⟩ : Dy) (⟨false, [3], 0⟩ : Dy) 4 false _ (h3.rdD r_yN4_0) (h3.rdD r_yN5_0) (h3.tab hT)).mono ?_
  rintro e v3 ⟨⟨d_t6, x_t6, A_t6, n_t6, c_t6, h_t6, rfl, r_t6⟩, hb3⟩
  obtain ⟨rfl, rfl⟩ := dx2 h_t6 told_q
  refine ⟨hb3, [.bool T5m.neg, .slice A_t6 n_t6 c_t6, .int .i64 T5m.e, .int .i64 0], _, rfl, by kernel_rfl, by kernel_rfl, fun g3 => ?_⟩
  replace r_zz := g3.rdD r_zz; replace q_N1 := g3.rd (by decide) q_N1; replace r_yN1_0 := g3.rdD r_yN1_0; replace r_t2 := g3.rdD r_t2; replace r_t3 := g3.rdD r_t3; replace q_N4 := g3.rd (by decide) q_N4; replace q_N5 := g3.rd (by decide) q_N5; replace r_yN4_0 := g3.rdD r_yN4_0; replace r_yN5_0 := g3.rdD r_yN5_0
  clear h3 hb3
  refine sat_chkB (by kernel_rfl) ?_
  refine sat_row [.int .u64 9] (by kernel_rfl) (by intro x hx; cases hx) fun u1 h1 B1 => ?_
  replace r_zz := h1.rdD r_zz; replace q_N1 := h1.rd (by decide) q_N1; replace r_yN1_0 := h1.rdD r_yN1_0; replace r_t2 := h1.rdD r_t2; replace r_t3 := h1.rdD r_t3; replace q_N4 := h1.rd (by decide) q_N4; replace q_N5 := h1.rd (by decide) q_N5; replace r_yN4_0 := h1.rdD r_yN4_0; replace r_yN5_0 := h1.rdD r_yN5_0; replace r_t6 := h1.rdD r_t6
  have q_N7 := rdi1 (x := 9) B1.lt (B1.cell 0 rfl)
  generalize u1.heap.size = N7 at *
  generalize (u1.alloc _) = wN7 at *
  clear B1 h1
  refine sat_chkB (by kernel_rfl) ?_
  have r_yN7_0 : RdD _ (.agg #[.bool false, .slice (some ⟨N7, 0, none⟩) 1 1, .int .i64 (0)]) ⟨false, [9], 0⟩ := ⟨_, _, _, rfl, q_N7, Lim.cons (by unfold BB; omega) Lim.nil, by decide, by decide⟩
  refine sat_call #[.agg #[.bool false, .slice (some ⟨N7, 0, none⟩) 1 1, .int .i64 0], .int .i64 8, .bool true] (by kernel_rfl) fun w4 h4 => ?_
  refine (rootT _ (⟨false, [9], 0⟩ : Dy) 8 true _ (h4.rdD r_yN7_0) (h4.tab hT)).mono ?_
  rintro e v4 ⟨⟨d_t8, x_t8, A_t8, n_t8, c_t8, h_t8, rfl, r_t8⟩, hb4⟩
  obtain ⟨rfl, rfl⟩ := dx2 h_t8 told_r
  refine ⟨hb4, [.bool D3.neg, .slice A_t8 n_t8 c_t8, .int .i64 D3.e, .int .i64 0], _, rfl, by kernel_rfl, by kernel_rfl, fun g4 => ?_⟩
  replace r_zz := g4.rdD r_zz; replace q_N1 := g4.rd (by decide) q_N1; replace r_yN1_0 := g4.rdD r_yN1_0; replace r_t2 := g4.rdD r_t2; replace r_t3 := g4.rdD r_t3; replace q_N4 := g4.rd (by decide) q_N4; replace q_N5 := g4.rd (by decide) q_N5; replace r_yN4_0 := g4.rdD r_yN4_0; replace r_yN5_0 := g4.rdD r_yN5_0; replace r_t6 := g4.rdD r_t6; replace q_N7 := g4.rd (by decide) q_N7; replace r_yN7_0 := g4.rdD r_yN7_0
  clear h4 hb4
  refine sat_chkB (by kernel_rfl) ?_
  refine sat_call #[.agg #[.bool false, .slice (some ⟨N1, 0, none⟩) 1 1, .int .i64 0], .agg #[.bool false, .slice none 0 0, .int .i64 0], .int .i64 4, .bool true] (by kernel_rfl) fun w5 h5 => ?_
  refine (quotT _ _ (⟨false, [5], 0⟩ : Dy) Dy.zero 4 true _ (h5.rdD r_yN1_0) (h5.rdD r_zz) (h5.tab hT)).mono ?_
  rintro e v5 ⟨⟨d_t9, x_t9, A_t9, n_t9, c_t9, h_t9, rfl, r_t9⟩, hb5⟩
  obtain ⟨rfl, rfl⟩ := dx2 h_t9 told_qz
  refine ⟨hb5, [.bool Dy.zero.neg, .slice A_t9 n_t9 c_t9, .int .i64 Dy.zero.e, .int .i64 4], _, rfl, by kernel_rfl, by kernel_rfl, fun g5 => ?_⟩
  replace r_zz := g5.rdD r_zz; replace q_N1 := g5.rd (by decide) q_N1; replace r_yN1_0 := g5.rdD r_yN1_0; replace r_t2 := g5.rdD r_t2; replace r_t3 := g5.rdD r_t3; replace q_N4 := g5.rd (by decide) q_N4; replace q_N5 := g5.rd (by decide) q_N5; replace r_yN4_0 := g5.rdD r_yN4_0; replace r_yN5_0 := g5.rdD r_yN5_0; replace r_t6 := g5.rdD r_t6; replace q_N7 := g5.rd (by decide) q_N7; replace r_yN7_0 := g5.rdD r_yN7_0; replace r_t8 := g5.rdD r_t8
  clear h5 hb5
  refine sat_chkB (by kernel_rfl) ?_
  refine sat_call #[.agg #[.bool false, .slice (some ⟨N1, 0, none⟩) 1 1, .int .i64 0], .int .i64 0] (by kernel_rfl) fun w6 h6 => ?_
  refine (downT _ (⟨false, [5], 0⟩ : Dy) 0 _ (h6.rdD r_yN1_0) (h6.tab hT)).mono ?_
  rintro e v6 ⟨⟨d_t10, x_t10, A_t10, n_t10, c_t10, h_t10, rfl, r_t10⟩, hb6⟩
  obtain ⟨rfl, rfl⟩ := dx2 h_t10 told_d0
  refine ⟨hb6, [.bool Dy.zero.neg, .slice A_t10 n_t10 c_t10, .int .i64 Dy.zero.e, .int .i64 1], _, rfl, by kernel_rfl, by kernel_rfl, fun g6 => ?_⟩
  replace r_zz := g6.rdD r_zz; replace q_N1 := g6.rd (by decide) q_N1; replace r_yN1_0 := g6.rdD r_yN1_0; replace r_t2 := g6.rdD r_t2; replace r_t3 := g6.rdD r_t3; replace q_N4 := g6.rd (by decide) q_N4; replace q_N5 := g6.rd (by decide) q_N5; replace r_yN4_0 := g6.rdD r_yN4_0; replace r_yN5_0 := g6.rdD r_yN5_0; replace r_t6 := g6.rdD r_t6; replace q_N7 := g6.rd (by decide) q_N7; replace r_yN7_0 := g6.rdD r_yN7_0; replace r_t8 := g6.rdD r_t8; replace r_t9 := g6.rdD r_t9
  clear h6 hb6
  refine sat_chkB (by kernel_rfl) ?_
  refine sat_prim (v := .int .i64 0) (by kernel_rfl) ?_
  refine sat_prim (v := .int .i64 0) (by kernel_rfl) ?_
  refine sat_prim (v := .int .i64 0) (by kernel_rfl) ?_
  refine sat_prim (v := .bool true) (by kernel_rfl) ?_
  refine sat_true (by kernel_rfl) ?_
  refine sat_row [.int .u64 1] (by kernel_rfl) (by intro x hx; cases hx) fun u1 h1 B1 => ?_
  replace r_zz := h1.rdD r_zz; replace q_N1 := h1.rd (by decide) q_N1; replace r_yN1_0 := h1.rdD r_yN1_0; replace r_t2 := h1.rdD r_t2; replace r_t3 := h1.rdD r_t3; replace q_N4 := h1.rd (by decide) q_N4; replace q_N5 := h1.rd (by decide) q_N5; replace r_yN4_0 := h1.rdD r_yN4_0; replace r_yN5_0 := h1.rdD r_yN5_0; replace r_t6 := h1.rdD r_t6; replace q_N7 := h1.rd (by decide) q_N7; replace r_yN7_0 := h1.rdD r_yN7_0; replace r_t8 := h1.rdD r_t8; replace r_t9 := h1.rdD r_t9; replace r_t10 := h1.rdD r_t10
  have q_N11 := rdi1 (x := 1) B1.lt (B1.cell 0 rfl)
  generalize u1.heap.size = N11 at *
  generalize (u1.alloc _) = wN11 at *
  clear B1 h1
  refine sat_chkB (by kernel_rfl) ?_
  have r_yN11_2 : RdD _ (.agg #[.bool false, .slice (some ⟨N11, 0, none⟩) 1 1, .int .i64 (2)]) ⟨false, [1], 2⟩ := ⟨_, _, _, rfl, q_N11, Lim.cons (by unfold BB; omega) Lim.nil, by decide, by decide⟩
  refine sat_call #[.agg #[.bool T14.neg, .slice A_t2 n_t2 c_t2, .int .i64 T14.e], .agg #[.bool false, .slice (some ⟨N11, 0, none⟩) 1 1, .int .i64 2]] (by kernel_rfl) fun w7 h7 => ?_
  refine (sameD_any _ _ (T14) ((⟨false, [1], 2⟩ : Dy)) _ (h7.rdD r_t2) (h7.rdD r_yN11_2)).mono ?_
  rintro e v7 ⟨rfl, hb7⟩
  refine ⟨hb7, [.bool (sameD T14 (⟨false, [1], 2⟩ : Dy))], _, rfl, by kernel_rfl, by kernel_rfl, fun g7 => ?_⟩
  replace r_zz := g7.rdD r_zz; replace q_N1 := g7.rd (by decide) q_N1; replace r_yN1_0 := g7.rdD r_yN1_0; replace r_t2 := g7.rdD r_t2; replace r_t3 := g7.rdD r_t3; replace q_N4 := g7.rd (by decide) q_N4; replace q_N5 := g7.rd (by decide) q_N5; replace r_yN4_0 := g7.rdD r_yN4_0; replace r_yN5_0 := g7.rdD r_yN5_0; replace r_t6 := g7.rdD r_t6; replace q_N7 := g7.rd (by decide) q_N7; replace r_yN7_0 := g7.rdD r_yN7_0; replace r_t8 := g7.rdD r_t8; replace r_t9 := g7.rdD r_t9; replace r_t10 := g7.rdD r_t10; replace q_N11 := g7.rd (by decide) q_N11; replace r_yN11_2 := g7.rdD r_yN11_2
  clear h7 hb7
  refine sat_trueP (b := (sameD T14 (⟨false, [1], 2⟩ : Dy))) (by kernel_rfl) (by kernel_rfl) ?_
  refine sat_row [.int .u64 3] (by kernel_rfl) (by intro x hx; cases hx) fun u1 h1 B1 => ?_
  replace r_zz := h1.rdD r_zz; replace q_N1 := h1.rd (by decide) q_N1; replace r_yN1_0 := h1.rdD r_yN1_0; replace r_t2 := h1.rdD r_t2; replace r_t3 := h1.rdD r_t3; replace q_N4 := h1.rd (by decide) q_N4; replace q_N5 := h1.rd (by decide) q_N5; replace r_yN4_0 := h1.rdD r_yN4_0; replace r_yN5_0 := h1.rdD r_yN5_0; replace r_t6 := h1.rdD r_t6; replace q_N7 := h1.rd (by decide) q_N7; replace r_yN7_0 := h1.rdD r_yN7_0; replace r_t8 := h1.rdD r_t8; replace r_t9 := h1.rdD r_t9; replace r_t10 := h1.rdD r_t10; replace q_N11 := h1.rd (by decide) q_N11; replace r_yN11_2 := h1.rdD r_yN11_2
  have q_N12 := rdi1 (x := 3) B1.lt (B1.cell 0 rfl)
  generalize u1.heap.size = N12 at *
  generalize (u1.alloc _) = wN12 at *
  clear B1 h1
  refine sat_chkB (by kernel_rfl) ?_
  have r_yN12_1 : RdD _ (.agg #[.bool false, .slice (some ⟨N12, 0, none⟩) 1 1, .int .i64 (1)]) ⟨false, [3], 1⟩ := ⟨_, _, _, rfl, q_N12, Lim.cons (by unfold BB; omega) Lim.nil, by decide, by decide⟩
  refine sat_call #[.agg #[.bool T31.neg, .slice A_t3 n_t3 c_t3, .int .i64 T31.e], .agg #[.bool false, .slice (some ⟨N12, 0, none⟩) 1 1, .int .i64 1]] (by kernel_rfl) fun w8 h8 => ?_
  refine (sameD_any _ _ (T31) ((⟨false, [3], 1⟩ : Dy)) _ (h8.rdD r_t3) (h8.rdD r_yN12_1)).mono ?_
  rintro e v8 ⟨rfl, hb8⟩
  refine ⟨hb8, [.bool (sameD T31 (⟨false, [3], 1⟩ : Dy))], _, rfl, by kernel_rfl, by kernel_rfl, fun g8 => ?_⟩
  replace r_zz := g8.rdD r_zz; replace q_N1 := g8.rd (by decide) q_N1; replace r_yN1_0 := g8.rdD r_yN1_0; replace r_t2 := g8.rdD r_t2; replace r_t3 := g8.rdD r_t3; replace q_N4 := g8.rd (by decide) q_N4; replace q_N5 := g8.rd (by decide) q_N5; replace r_yN4_0 := g8.rdD r_yN4_0; replace r_yN5_0 := g8.rdD r_yN5_0; replace r_t6 := g8.rdD r_t6; replace q_N7 := g8.rd (by decide) q_N7; replace r_yN7_0 := g8.rdD r_yN7_0; replace r_t8 := g8.rdD r_t8; replace r_t9 := g8.rdD r_t9; replace r_t10 := g8.rdD r_t10; replace q_N11 := g8.rd (by decide) q_N11; replace r_yN11_2 := g8.rdD r_yN11_2; replace q_N12 := g8.rd (by decide) q_N12; replace r_yN12_1 := g8.rdD r_yN12_1
  clear h8 hb8
  refine sat_trueP (b := (sameD T31 (⟨false, [3], 1⟩ : Dy))) (by kernel_rfl) (by kernel_rfl) ?_
  refine sat_row [.int .u64 5] (by kernel_rfl) (by intro x hx; cases hx) fun u1 h1 B1 => ?_
  replace r_zz := h1.rdD r_zz; replace q_N1 := h1.rd (by decide) q_N1; replace r_yN1_0 := h1.rdD r_yN1_0; replace r_t2 := h1.rdD r_t2; replace r_t3 := h1.rdD r_t3; replace q_N4 := h1.rd (by decide) q_N4; replace q_N5 := h1.rd (by decide) q_N5; replace r_yN4_0 := h1.rdD r_yN4_0; replace r_yN5_0 := h1.rdD r_yN5_0; replace r_t6 := h1.rdD r_t6; replace q_N7 := h1.rd (by decide) q_N7; replace r_yN7_0 := h1.rdD r_yN7_0; replace r_t8 := h1.rdD r_t8; replace r_t9 := h1.rdD r_t9; replace r_t10 := h1.rdD r_t10; replace q_N11 := h1.rd (by decide) q_N11; replace r_yN11_2 := h1.rdD r_yN11_2; replace q_N12 := h1.rd (by decide) q_N12; replace r_yN12_1 := h1.rdD r_yN12_1
  have q_N13 := rdi1 (x := 5) B1.lt (B1.cell 0 rfl)
  generalize u1.heap.size = N13 at *
  generalize (u1.alloc _) = wN13 at *
  clear B1 h1
  refine sat_chkB (by kernel_rfl) ?_
  have r_yN13_m4 : RdD _ (.agg #[.bool false, .slice (some ⟨N13, 0, none⟩) 1 1, .int .i64 (-4)]) ⟨false, [5], -4⟩ := ⟨_, _, _, rfl, q_N13, Lim.cons (by unfold BB; omega) Lim.nil, by decide, by decide⟩
  refine sat_call #[.agg #[.bool T5m.neg, .slice A_t6 n_t6 c_t6, .int .i64 T5m.e], .agg #[.bool false, .slice (some ⟨N13, 0, none⟩) 1 1, .int .i64 (-4)]] (by kernel_rfl) fun w9 h9 => ?_
  refine (sameD_any _ _ (T5m) ((⟨false, [5], -4⟩ : Dy)) _ (h9.rdD r_t6) (h9.rdD r_yN13_m4)).mono ?_
  rintro e v9 ⟨rfl, hb9⟩
  refine ⟨hb9, [.bool (sameD T5m (⟨false, [5], -4⟩ : Dy))], _, rfl, by kernel_rfl, by kernel_rfl, fun g9 => ?_⟩
  replace r_zz := g9.rdD r_zz; replace q_N1 := g9.rd (by decide) q_N1; replace r_yN1_0 := g9.rdD r_yN1_0; replace r_t2 := g9.rdD r_t2; replace r_t3 := g9.rdD r_t3; replace q_N4 := g9.rd (by decide) q_N4; replace q_N5 := g9.rd (by decide) q_N5; replace r_yN4_0 := g9.rdD r_yN4_0; replace r_yN5_0 := g9.rdD r_yN5_0; replace r_t6 := g9.rdD r_t6; replace q_N7 := g9.rd (by decide) q_N7; replace r_yN7_0 := g9.rdD r_yN7_0; replace r_t8 := g9.rdD r_t8; replace r_t9 := g9.rdD r_t9; replace r_t10 := g9.rdD r_t10; replace q_N11 := g9.rd (by decide) q_N11; replace r_yN11_2 := g9.rdD r_yN11_2; replace q_N12 := g9.rd (by decide) q_N12; replace r_yN12_1 := g9.rdD r_yN12_1; replace q_N13 := g9.rd (by decide) q_N13; replace r_yN13_m4 := g9.rdD r_yN13_m4
  clear h9 hb9
  refine sat_trueP (b := (sameD T5m (⟨false, [5], -4⟩ : Dy))) (by kernel_rfl) (by kernel_rfl) ?_
  refine sat_row [.int .u64 3] (by kernel_rfl) (by intro x hx; cases hx) fun u1 h1 B1 => ?_
  replace r_zz := h1.rdD r_zz; replace q_N1 := h1.rd (by decide) q_N1; replace r_yN1_0 := h1.rdD r_yN1_0; replace r_t2 := h1.rdD r_t2; replace r_t3 := h1.rdD r_t3; replace q_N4 := h1.rd (by decide) q_N4; replace q_N5 := h1.rd (by decide) q_N5; replace r_yN4_0 := h1.rdD r_yN4_0; replace r_yN5_0 := h1.rdD r_yN5_0; replace r_t6 := h1.rdD r_t6; replace q_N7 := h1.rd (by decide) q_N7; replace r_yN7_0 := h1.rdD r_yN7_0; replace r_t8 := h1.rdD r_t8; replace r_t9 := h1.rdD r_t9; replace r_t10 := h1.rdD r_t10; replace q_N11 := h1.rd (by decide) q_N11; replace r_yN11_2 := h1.rdD r_yN11_2; replace q_N12 := h1.rd (by decide) q_N12; replace r_yN12_1 := h1.rdD r_yN12_1; replace q_N13 := h1.rd (by decide) q_N13; replace r_yN13_m4 := h1.rdD r_yN13_m4
  have q_N14 := rdi1 (x := 3) B1.lt (B1.cell 0 rfl)
  generalize u1.heap.size = N14 at *
  generalize (u1.alloc _) = wN14 at *
  clear B1 h1
  refine sat_chkB (by kernel_rfl) ?_
  have r_yN14_0 : RdD _ (.agg #[.bool false, .slice (some ⟨N14, 0, none⟩) 1 1, .int .i64 (0)]) ⟨false, [3], 0⟩ := ⟨_, _, _, rfl, q_N14, Lim.cons (by unfold BB; omega) Lim.nil, by decide, by decide⟩
  refine sat_call #[.agg #[.bool D3.neg, .slice A_t8 n_t8 c_t8, .int .i64 D3.e], .agg #[.bool false, .slice (some ⟨N14, 0, none⟩) 1 1, .int .i64 0]] (by kernel_rfl) fun w10 h10 => ?_
  refine (sameD_any _ _ (D3) ((⟨false, [3], 0⟩ : Dy)) _ (h10.rdD r_t8) (h10.rdD r_yN14_0)).mono ?_
  rintro e v10 ⟨rfl, hb10⟩
  refine ⟨hb10, [.bool (sameD D3 (⟨false, [3], 0⟩ : Dy))], _, rfl, by kernel_rfl, by kernel_rfl, fun g10 => ?_⟩
  replace r_zz := g10.rdD r_zz; replace q_N1 := g10.rd (by decide) q_N1; replace r_yN1_0 := g10.rdD r_yN1_0; replace r_t2 := g10.rdD r_t2; replace r_t3 := g10.rdD r_t3; replace q_N4 := g10.rd (by decide) q_N4; replace q_N5 := g10.rd (by decide) q_N5; replace r_yN4_0 := g10.rdD r_yN4_0; replace r_yN5_0 := g10.rdD r_yN5_0; replace r_t6 := g10.rdD r_t6; replace q_N7 := g10.rd (by decide) q_N7; replace r_yN7_0 := g10.rdD r_yN7_0; replace r_t8 := g10.rdD r_t8; replace r_t9 := g10.rdD r_t9; replace r_t10 := g10.rdD r_t10; replace q_N11 := g10.rd (by decide) q_N11; replace r_yN11_2 := g10.rdD r_yN11_2; replace q_N12 := g10.rd (by decide) q_N12; replace r_yN12_1 := g10.rdD r_yN12_1; replace q_N13 := g10.rd (by decide) q_N13; replace r_yN13_m4 := g10.rdD r_yN13_m4; replace q_N14 := g10.rd (by decide) q_N14; replace r_yN14_0 := g10.rdD r_yN14_0
  clear h10 hb10
  refine sat_trueP (b := (sameD D3 (⟨false, [3], 0⟩ : Dy))) (by kernel_rfl) (by kernel_rfl) ?_
  refine sat_prim (v := .bool true) (by kernel_rfl) ?_
  refine sat_true (by kernel_rfl) ?_
  refine sat_prim (v := .bool true) (by kernel_rfl) ?_
  refine sat_true (by kernel_rfl) ?_
  refine sat_call #[.agg #[.bool false, .slice (some ⟨N1, 0, none⟩) 1 1, .int .i64 0]] (by kernel_rfl) fun w11 h11 => ?_
  refine (bitsD_any _ (⟨false, [5], 0⟩ : Dy) _ (h11.rdD r_yN1_0)).mono ?_
  rintro e v11 ⟨rfl, hb11⟩
  refine ⟨hb11, [.int .i64 (bitsD (⟨false, [5], 0⟩ : Dy))], _, rfl, by kernel_rfl, by kernel_rfl, fun g11 => ?_⟩
  replace r_zz := g11.rdD r_zz; replace q_N1 := g11.rd (by decide) q_N1; replace r_yN1_0 := g11.rdD r_yN1_0; replace r_t2 := g11.rdD r_t2; replace r_t3 := g11.rdD r_t3; replace q_N4 := g11.rd (by decide) q_N4; replace q_N5 := g11.rd (by decide) q_N5; replace r_yN4_0 := g11.rdD r_yN4_0; replace r_yN5_0 := g11.rdD r_yN5_0; replace r_t6 := g11.rdD r_t6; replace q_N7 := g11.rd (by decide) q_N7; replace r_yN7_0 := g11.rdD r_yN7_0; replace r_t8 := g11.rdD r_t8; replace r_t9 := g11.rdD r_t9; replace r_t10 := g11.rdD r_t10; replace q_N11 := g11.rd (by decide) q_N11; replace r_yN11_2 := g11.rdD r_yN11_2; replace q_N12 := g11.rd (by decide) q_N12; replace r_yN12_1 := g11.rdD r_yN12_1; replace q_N13 := g11.rd (by decide) q_N13; replace r_yN13_m4 := g11.rdD r_yN13_m4; replace q_N14 := g11.rd (by decide) q_N14; replace r_yN14_0 := g11.rdD r_yN14_0
  clear h11 hb11
  refine sat_prim (v := .bool (((bitsD (⟨false, [5], 0⟩ : Dy)) : Int) == 3)) (by kernel_rfl) ?_
  exact sat_ret (.bool (((bitsD (⟨false, [5], 0⟩ : Dy)) : Int) == 3)) (by kernel_rfl) fun w9 h9 => by kernel_rfl

end Go.Proofs.YteodljieiloebaaDoor
