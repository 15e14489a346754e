/- sluicewayref1.SubDyad, sluicewaylaw2.same, and the walk of DyadAsks, by their trees. Printed by wip/mk_L2F.py. -/
import Derived.Test.YtaifjldpjkabjaaDoorSxGx
import Derived.Test.YtaifjldpjkabjaaDoorRfOx
import Derived.Test.YtaifjldpjkabjaaDoorRfDx
import Derived.Test.YtaifjldpjkabjaaDoorL2Ax
namespace Go.Proofs.YtaifjldpjkabjaaDoor
open Go.RowKit Pl
open Sx (sat_call sat_chk sat_prim sat_ite sat_true sat_false sat_trueP sat_falseP sat_ret all_nil all_cons okB okS okI)

def tr_same2 : Sx.Tree := .chk [.lf 0, .lf 1, .lf 2] (.chk [.lf 4, .lf 5, .lf 6] (.prim (.bin .eql) [.lf 3, .lf 7] (.ite (.lf 8) (.call 17 [.ag [.lf 0, .lf 1, .lf 2], .ag [.lf 4, .lf 5, .lf 6]] .one (.ret (.one (.lf 9)))) (.ret (.one (.bit false))))))
theorem tr_same2_eq : Sx.treeOf Tryd.prog 20 = some tr_same2 := by kernel_rfl

theorem same2_any (u v : Value) (x y : Int) (a b : Dy) (w : World) (h : RdD w u a) (k : RdD w v b) :
    Calls Tryd.prog 20 #[u, .int .i64 x, v, .int .i64 y] w fun e w' => e = .returned (.bool ((x == y) && sameD a b)) ∧ Below w.heap.size w w' := by
  have r_a := h
  have r_b := k
  obtain ⟨A, n, c, rfl, _⟩ := h
  obtain ⟨B, m, d, rfl, _⟩ := k
  refine (Sx.run (ls := [.bool a.neg, .slice A n c, .int .i64 a.e, .int .i64 x, .bool b.neg, .slice B m d, .int .i64 b.e, .int .i64 y]) (shs := [(true, 3), (false, 1), (true, 3), (false, 1)]) (R := fun v _ => v = .bool ((x == y) && sameD a b)) (by kernel_rfl) tr_same2_eq rfl (by decide) ?_).mono (fun e w' ⟨v, he, hv, hb⟩ => ⟨by rw [he, hv], hb⟩)
  unfold tr_same2
  refine sat_chk (all_cons (okB _) (all_cons (okS _ _ _) (all_cons (okI _) (all_nil)))) ?_
  refine sat_chk (all_cons (okB _) (all_cons (okS _ _ _) (all_cons (okI _) (all_nil)))) ?_
  refine sat_prim (v := .bool ((x : Int) == y)) (by kernel_rfl) ?_
  cases hE1 : ((x : Int) == y)
  · refine sat_false (by kernel_rfl) ?_
    exact sat_ret (.bool false) (by kernel_rfl) fun w9 h9 => rfl
  · refine sat_true (by kernel_rfl) ?_
    refine sat_call #[.agg #[.bool a.neg, .slice A n c, .int .i64 a.e], .agg #[.bool b.neg, .slice B m d, .int .i64 b.e]] (by kernel_rfl) fun w2 h2 => ?_
    refine (rsame_any _ _ a b _ (h2.rdD r_a) (h2.rdD r_b)).mono ?_
    rintro e v2 ⟨rfl, hb2⟩
    refine ⟨hb2, [.bool (sameD a b)], _, rfl, by kernel_rfl, by kernel_rfl, fun g2 => ?_⟩
    replace r_a := g2.rdD r_a; replace r_b := g2.rdD r_b
    clear h2 hb2
    exact sat_ret (.bool (sameD a b)) (by kernel_rfl) fun w9 h9 => rfl

def tr_rsub : Sx.Tree := .chk [.lf 0, .lf 1, .lf 2] (.chk [.lf 3, .lf 4, .lf 5] (.call 32 [.ag [.lf 3, .lf 4, .lf 5]] .one (.prim .not [.lf 6] (.ite (.lf 7) (.ret (.tup [(true, [.bit false, .nil, .num .i64 0]), (false, [.num .i64 1])])) (.call 38 [.ag [.lf 3, .lf 4, .lf 5]] (.ag 3) (.call 26 [.ag [.lf 0, .lf 1, .lf 2], .ag [.lf 8, .lf 9, .lf 10]] (.tup [(true, 3), (false, 1)]) (.chk [.lf 11, .lf 12, .lf 13] (.ret (.tup [(true, [.lf 11, .lf 12, .lf 13]), (false, [.lf 14])])))))))))
theorem tr_rsub_eq : Sx.treeOf Tryd.prog 28 = some tr_rsub := by kernel_rfl

theorem sub_two (a : Dy) {b : Dy} (hb : mayD b = true) : twoS a (negS b) (sumS a (negS b)) = twoS a b (subS a b) := by
  unfold twoS subS
  rw [negS_may hb, hb]
theorem rnegR (v : Value) (d : Dy) (w : World) (h : RdD w v d) : Calls Tryd.prog 38 #[v] w fun e w' => DyRet w' e (negS d) ∧ Below w.heap.size w w' := (rneg_any v d w h).mono fun _ _ h => h
theorem rsubD_any (u v : Value) (a b : Dy) (w : World) (h : RdD w u a) (k : RdD w v b) :
    Calls Tryd.prog 28 #[u, v] w fun e w' => DyTup w' e (twoS a b (subS a b)) ∧ Below w.heap.size w w' := by
  have r_a := h
  have r_b := k
  obtain ⟨A, n, c, rfl, _⟩ := h
  obtain ⟨B, m, d, rfl, _⟩ := k
  refine (Sx.run (ls := [.bool a.neg, .slice A n c, .int .i64 a.e, .bool b.neg, .slice B m d, .int .i64 b.e]) (shs := [(true, 3), (true, 3)]) (R := fun v w' => DyTup w' (.returned v) (twoS a b (subS a b))) (by kernel_rfl) tr_rsub_eq rfl (by decide) ?_).mono (fun e w' ⟨v, he, hv, hb⟩ => ⟨by rw [he]; exact hv, hb⟩)
  unfold tr_rsub
  refine sat_chk (all_cons (okB _) (all_cons (okS _ _ _) (all_cons (okI _) (all_nil)))) ?_
  refine sat_chk (all_cons (okB _) (all_cons (okS _ _ _) (all_cons (okI _) (all_nil)))) ?_
  cases hb : mayD b
  · refine sat_call #[.agg #[.bool b.neg, .slice B m d, .int .i64 b.e]] (by kernel_rfl) fun w1 h1 => ?_
    refine (rmayD_any _ b _ (h1.rdD r_b)).mono ?_
    rw [hb]
    rintro e v1 ⟨rfl, hb1⟩
    refine ⟨hb1, [.bool false], _, rfl, by kernel_rfl, by kernel_rfl, fun g1 => ?_⟩
    replace r_a := g1.rdD r_a; replace r_b := g1.rdD r_b
    clear h1 hb1
    refine sat_prim (v := .bool true) (by kernel_rfl) ?_
    refine sat_true (by kernel_rfl) ?_
    exact sat_ret (.tuple #[.agg #[.bool false, .slice none 0 0, .int .i64 0], .int .i64 1]) (by kernel_rfl) fun w9 h9 => ⟨Dy.zero, 1, none, 0, 0, hide (by unfold twoS; rw [hb, Bool.and_false]; rfl), rfl, RdD.zero _⟩
  · refine sat_call #[.agg #[.bool b.neg, .slice B m d, .int .i64 b.e]] (by kernel_rfl) fun w1 h1 => ?_
    refine (rmayD_any _ b _ (h1.rdD r_b)).mono ?_
    rw [hb]
    rintro e v1 ⟨rfl, hb1⟩
    refine ⟨hb1, [.bool true], _, rfl, by kernel_rfl, by kernel_rfl, fun g1 => ?_⟩
    replace r_a := g1.rdD r_a; replace r_b := g1.rdD r_b
    clear h1 hb1
    refine sat_prim (v := .bool false) (by kernel_rfl) ?_
    refine sat_false (by kernel_rfl) ?_
    refine sat_call #[.agg #[.bool b.neg, .slice B m d, .int .i64 b.e]] (by kernel_rfl) fun w2 h2 => ?_
    refine (rnegR _ b _ (h2.rdD r_b)).mono ?_
    rintro e v2 ⟨⟨A9, n9, c9, rfl, r_n⟩, hb2⟩
    refine ⟨hb2, [.bool (negS b).neg, .slice A9 n9 c9, .int .i64 (negS b).e], _, rfl, by kernel_rfl, by kernel_rfl, fun g2 => ?_⟩
    replace r_a := g2.rdD r_a; replace r_b := g2.rdD r_b
    clear h2 hb2
    refine sat_call #[.agg #[.bool a.neg, .slice A n c, .int .i64 a.e], .agg #[.bool (negS b).neg, .slice A9 n9 c9, .int .i64 (negS b).e]] (by kernel_rfl) fun w3 h3 => ?_
    refine (raddD_any _ _ a (negS b) _ (h3.rdD r_a) (h3.rdD r_n)).mono ?_
    rintro e v3 ⟨⟨d_z, x_z, A_z, n_z, c_z, h_z, rfl, r_z⟩, hb3⟩
    refine ⟨hb3, [.bool d_z.neg, .slice A_z n_z c_z, .int .i64 d_z.e, .int .i64 x_z], _, rfl, by kernel_rfl, by kernel_rfl, fun g3 => ?_⟩
    replace r_a := g3.rdD r_a; replace r_b := g3.rdD r_b; replace r_n := g3.rdD r_n
    clear h3 hb3
    refine sat_chk (all_cons (okB _) (all_cons (okS _ _ _) (all_cons (okI _) (all_nil)))) ?_
    exact sat_ret (.tuple #[.agg #[.bool d_z.neg, .slice A_z n_z c_z, .int .i64 d_z.e], .int .i64 x_z]) (by kernel_rfl) fun w9 h9 => ⟨d_z, x_z, A_z, n_z, c_z, hide (h_z.out.trans (sub_two a hb)), rfl, h9.rdD r_z⟩

def tr_dyadAsks : Sx.Tree := .chk [.lf 0, .lf 1, .lf 2] (.chk [.lf 3, .lf 4, .lf 5] (.call 13 [.ag [.lf 0, .lf 1, .lf 2]] .one (.prim .not [.lf 6] (.ite (.lf 7) (.call 14 [] .one (.ret (.one (.lf 8)))) (.call 13 [.ag [.lf 3, .lf 4, .lf 5]] .one (.prim .not [.lf 8] (.ite (.lf 9) (.call 14 [] .one (.ret (.one (.lf 10)))) (.call 25 [.ag [.lf 0, .lf 1, .lf 2], .ag [.lf 3, .lf 4, .lf 5]] (.tup [(true, 3), (false, 1)]) (.chk [.lf 10, .lf 11, .lf 12] (.call 26 [.ag [.lf 0, .lf 1, .lf 2], .ag [.lf 3, .lf 4, .lf 5]] (.tup [(true, 3), (false, 1)]) (.chk [.lf 14, .lf 15, .lf 16] (.call 27 [.ag [.lf 0, .lf 1, .lf 2], .ag [.lf 3, .lf 4, .lf 5]] (.tup [(true, 3), (false, 1)]) (.chk [.lf 18, .lf 19, .lf 20] (.call 28 [.ag [.lf 0, .lf 1, .lf 2], .ag [.lf 3, .lf 4, .lf 5]] (.tup [(true, 3), (false, 1)]) (.chk [.lf 22, .lf 23, .lf 24] (.call 29 [.ag [.lf 0, .lf 1, .lf 2], .ag [.lf 3, .lf 4, .lf 5]] (.tup [(true, 3), (false, 1)]) (.chk [.lf 26, .lf 27, .lf 28] (.call 30 [.ag [.lf 0, .lf 1, .lf 2], .ag [.lf 3, .lf 4, .lf 5]] (.tup [(true, 3), (false, 1)]) (.chk [.lf 30, .lf 31, .lf 32] (.call 14 [] .one (.ite (.lf 34) (.call 31 [.ag [.lf 0, .lf 1, .lf 2]] .one (.call 32 [.ag [.lf 0, .lf 1, .lf 2]] .one (.prim (.bbin .eql) [.lf 35, .lf 36] (.ite (.lf 37) (.call 20 [.ag [.lf 10, .lf 11, .lf 12], .one (.lf 13), .ag [.lf 14, .lf 15, .lf 16], .one (.lf 17)] .one (.ite (.lf 38) (.call 20 [.ag [.lf 18, .lf 19, .lf 20], .one (.lf 21), .ag [.lf 22, .lf 23, .lf 24], .one (.lf 25)] .one (.ite (.lf 39) (.call 20 [.ag [.lf 26, .lf 27, .lf 28], .one (.lf 29), .ag [.lf 30, .lf 31, .lf 32], .one (.lf 33)] .one (.ite (.lf 40) (.call 33 [.ag [.lf 0, .lf 1, .lf 2], .ag [.lf 3, .lf 4, .lf 5]] .one (.call 34 [.ag [.lf 0, .lf 1, .lf 2], .ag [.lf 3, .lf 4, .lf 5]] .one (.prim (.bin .eql) [.lf 41, .lf 42] (.ite (.lf 43) (.call 35 [.ag [.lf 0, .lf 1, .lf 2]] .one (.call 36 [.ag [.lf 0, .lf 1, .lf 2]] .one (.prim (.bin .eql) [.lf 44, .lf 45] (.ite (.lf 46) (.call 37 [.ag [.lf 0, .lf 1, .lf 2]] (.ag 3) (.call 38 [.ag [.lf 0, .lf 1, .lf 2]] (.ag 3) (.call 17 [.ag [.lf 47, .lf 48, .lf 49], .ag [.lf 50, .lf 51, .lf 52]] .one (.ite (.lf 53) (.call 39 [.ag [.lf 0, .lf 1, .lf 2], .ag [.lf 3, .lf 4, .lf 5]] .one (.call 17 [.ag [.lf 0, .lf 1, .lf 2], .ag [.lf 3, .lf 4, .lf 5]] .one (.prim (.bbin .eql) [.lf 54, .lf 55] (.ite (.lf 56) (.call 39 [.ag [.lf 0, .lf 1, .lf 2], .ag [.lf 0, .lf 1, .lf 2]] .one (.ret (.one (.lf 57)))) (.ret (.one (.bit false))))))) (.ret (.one (.bit false))))))) (.ret (.one (.bit false))))))) (.ret (.one (.bit false))))))) (.ret (.one (.bit false))))) (.ret (.one (.bit false))))) (.ret (.one (.bit false))))) (.ret (.one (.bit false))))))) (.ret (.one (.bit false))))))))))))))))))))))))
theorem tr_dyadAsks_eq : Sx.treeOf Tryd.prog 4 = some tr_dyadAsks := by kernel_rfl

theorem same_of {r : Dy × Int} {d1 d2 : Dy} {x1 x2 : Int} (h : Hid ((d1, x1) = r)) (k : Hid ((d2, x2) = r)) : ((x1 == x2) && sameD d1 d2) = true := by
  have e := h.out.trans k.out.symm
  injection e with e1 e2
  rw [e1, e2, sameD_self]
  simp

set_option maxRecDepth 100000 in
set_option maxHeartbeats 4000000 in
theorem dyadAsks_any (u v : Value) (a b : Dy) (w : World) (h : RdD w u a) (k : RdD w v b) (hT : TabAt w) :
    Calls Tryd.prog 4 #[u, v] w fun e w' => e = .returned (.bool true) ∧ Below w.heap.size w w' := by
  have r_a := h
  have r_b := k
  obtain ⟨A, n, c, rfl, _⟩ := h
  obtain ⟨B, m, d, rfl, _⟩ := k
  refine (Sx.run (ls := [.bool a.neg, .slice A n c, .int .i64 a.e, .bool b.neg, .slice B m d, .int .i64 b.e]) (shs := [(true, 3), (true, 3)]) (R := fun v _ => v = .bool true) (by kernel_rfl) tr_dyadAsks_eq rfl (by decide) ?_).mono (fun e w' ⟨v, he, hv, hb⟩ => ⟨by rw [he, hv], hb⟩)
  unfold tr_dyadAsks
  refine sat_chk (all_cons (okB _) (all_cons (okS _ _ _) (all_cons (okI _) (all_nil)))) ?_
  refine sat_chk (all_cons (okB _) (all_cons (okS _ _ _) (all_cons (okI _) (all_nil)))) ?_
  cases hfa : decide (a.m.length ≤ 70)
  · refine sat_call #[.agg #[.bool a.neg, .slice A n c, .int .i64 a.e]] (by kernel_rfl) fun w1 h1 => ?_
    refine (few2_any _ a _ (h1.rdD r_a)).mono ?_
    rw [hfa]
    rintro e v1 ⟨rfl, hb1⟩
    refine ⟨hb1, [.bool false], _, rfl, by kernel_rfl, by kernel_rfl, fun g1 => ?_⟩
    replace r_a := g1.rdD r_a; replace r_b := g1.rdD r_b
    clear h1 hb1
    refine sat_prim (v := .bool true) (by kernel_rfl) ?_
    refine sat_true (by kernel_rfl) ?_
    refine sat_call #[] (by kernel_rfl) fun w2 h2 => ?_
    refine (told2_any _ (h2.tab hT)).mono ?_
    rintro e v2 ⟨rfl, hb2⟩
    refine ⟨hb2, [.bool true], _, rfl, by kernel_rfl, by kernel_rfl, fun g2 => ?_⟩
    replace r_a := g2.rdD r_a; replace r_b := g2.rdD r_b
    clear h2 hb2
    exact sat_ret (.bool true) (by kernel_rfl) fun w9 h9 => rfl
  · refine sat_call #[.agg #[.bool a.neg, .slice A n c, .int .i64 a.e]] (by kernel_rfl) fun w1 h1 => ?_
    refine (few2_any _ a _ (h1.rdD r_a)).mono ?_
    rw [hfa]
    rintro e v1 ⟨rfl, hb1⟩
    refine ⟨hb1, [.bool true], _, rfl, by kernel_rfl, by kernel_rfl, fun g1 => ?_⟩
    replace r_a := g1.rdD r_a; replace r_b := g1.rdD r_b
    clear h1 hb1
    refine sat_prim (v := .bool false) (by kernel_rfl) ?_
    refine sat_false (by kernel_rfl) ?_
    cases hfb : decide (b.m.length ≤ 70)
    · refine sat_call #[.agg #[.bool b.neg, .slice B m d, .int .i64 b.e]] (by kernel_rfl) fun w2 h2 => ?_
      refine (few2_any _ b _ (h2.rdD r_b)).mono ?_
      rw [hfb]
      rintro e v2 ⟨rfl, hb2⟩
      refine ⟨hb2, [.bool false], _, rfl, by kernel_rfl, by kernel_rfl, fun g2 => ?_⟩
      replace r_a := g2.rdD r_a; replace r_b := g2.rdD r_b
      clear h2 hb2
      refine sat_prim (v := .bool true) (by kernel_rfl) ?_
      refine sat_true (by kernel_rfl) ?_
      refine sat_call #[] (by kernel_rfl) fun w3 h3 => ?_
      refine (told2_any _ (h3.tab hT)).mono ?_
      rintro e v3 ⟨rfl, hb3⟩
      refine ⟨hb3, [.bool true], _, rfl, by kernel_rfl, by kernel_rfl, fun g3 => ?_⟩
      replace r_a := g3.rdD r_a; replace r_b := g3.rdD r_b
      clear h3 hb3
      exact sat_ret (.bool true) (by kernel_rfl) fun w9 h9 => rfl
    · refine sat_call #[.agg #[.bool b.neg, .slice B m d, .int .i64 b.e]] (by kernel_rfl) fun w2 h2 => ?_
      refine (few2_any _ b _ (h2.rdD r_b)).mono ?_
      rw [hfb]
      rintro e v2 ⟨rfl, hb2⟩
      refine ⟨hb2, [.bool true], _, rfl, by kernel_rfl, by kernel_rfl, fun g2 => ?_⟩
      replace r_a := g2.rdD r_a; replace r_b := g2.rdD r_b
      clear h2 hb2
      refine sat_prim (v := .bool false) (by kernel_rfl) ?_
      refine sat_false (by kernel_rfl) ?_
      refine sat_call #[.agg #[.bool a.neg, .slice A n c, .int .i64 a.e], .agg #[.bool b.neg, .slice B m d, .int .i64 b.e]] (by kernel_rfl) fun w3 h3 => ?_
      refine (addT _ _ a b _ (h3.rdD r_a) (h3.rdD r_b) (h3.tab hT)).mono ?_
      rintro e v3 ⟨⟨d_s, x_s, A_s, n_s, c_s, h_s, rfl, r_s⟩, hb3⟩
      refine ⟨hb3, [.bool d_s.neg, .slice A_s n_s c_s, .int .i64 d_s.e, .int .i64 x_s], _, rfl, by kernel_rfl, by kernel_rfl, fun g3 => ?_⟩
      replace r_a := g3.rdD r_a; replace r_b := g3.rdD r_b
      clear h3 hb3
      refine sat_chk (all_cons (okB _) (all_cons (okS _ _ _) (all_cons (okI _) (all_nil)))) ?_
      refine sat_call #[.agg #[.bool a.neg, .slice A n c, .int .i64 a.e], .agg #[.bool b.neg, .slice B m d, .int .i64 b.e]] (by kernel_rfl) fun w4 h4 => ?_
      refine (raddD_any _ _ a b _ (h4.rdD r_a) (h4.rdD r_b)).mono ?_
      rintro e v4 ⟨⟨d_x, x_x, A_x, n_x, c_x, h_x, rfl, r_x⟩, hb4⟩
      refine ⟨hb4, [.bool d_x.neg, .slice A_x n_x c_x, .int .i64 d_x.e, .int .i64 x_x], _, rfl, by kernel_rfl, by kernel_rfl, fun g4 => ?_⟩
      replace r_a := g4.rdD r_a; replace r_b := g4.rdD r_b; replace r_s := g4.rdD r_s
      clear h4 hb4
      refine sat_chk (all_cons (okB _) (all_cons (okS _ _ _) (all_cons (okI _) (all_nil)))) ?_
      refine sat_call #[.agg #[.bool a.neg, .slice A n c, .int .i64 a.e], .agg #[.bool b.neg, .slice B m d, .int .i64 b.e]] (by kernel_rfl) fun w5 h5 => ?_
      refine (subT _ _ a b _ (h5.rdD r_a) (h5.rdD r_b) (h5.tab hT)).mono ?_
      rintro e v5 ⟨⟨d_d, x_d, A_d, n_d, c_d, h_d, rfl, r_d⟩, hb5⟩
      refine ⟨hb5, [.bool d_d.neg, .slice A_d n_d c_d, .int .i64 d_d.e, .int .i64 x_d], _, rfl, by kernel_rfl, by kernel_rfl, fun g5 => ?_⟩
      replace r_a := g5.rdD r_a; replace r_b := g5.rdD r_b; replace r_s := g5.rdD r_s; replace r_x := g5.rdD r_x
      clear h5 hb5
      refine sat_chk (all_cons (okB _) (all_cons (okS _ _ _) (all_cons (okI _) (all_nil)))) ?_
      refine sat_call #[.agg #[.bool a.neg, .slice A n c, .int .i64 a.e], .agg #[.bool b.neg, .slice B m d, .int .i64 b.e]] (by kernel_rfl) fun w6 h6 => ?_
      refine (rsubD_any _ _ a b _ (h6.rdD r_a) (h6.rdD r_b)).mono ?_
      rintro e v6 ⟨⟨d_y, x_y, A_y, n_y, c_y, h_y, rfl, r_y⟩, hb6⟩
      refine ⟨hb6, [.bool d_y.neg, .slice A_y n_y c_y, .int .i64 d_y.e, .int .i64 x_y], _, rfl, by kernel_rfl, by kernel_rfl, fun g6 => ?_⟩
      replace r_a := g6.rdD r_a; replace r_b := g6.rdD r_b; replace r_s := g6.rdD r_s; replace r_x := g6.rdD r_x; replace r_d := g6.rdD r_d
      clear h6 hb6
      refine sat_chk (all_cons (okB _) (all_cons (okS _ _ _) (all_cons (okI _) (all_nil)))) ?_
      refine sat_call #[.agg #[.bool a.neg, .slice A n c, .int .i64 a.e], .agg #[.bool b.neg, .slice B m d, .int .i64 b.e]] (by kernel_rfl) fun w7 h7 => ?_
      refine (mulT _ _ a b _ (h7.rdD r_a) (h7.rdD r_b) (h7.tab hT)).mono ?_
      rintro e v7 ⟨⟨d_m, x_m, A_m, n_m, c_m, h_m, rfl, r_m⟩, hb7⟩
      refine ⟨hb7, [.bool d_m.neg, .slice A_m n_m c_m, .int .i64 d_m.e, .int .i64 x_m], _, rfl, by kernel_rfl, by kernel_rfl, fun g7 => ?_⟩
      replace r_a := g7.rdD r_a; replace r_b := g7.rdD r_b; replace r_s := g7.rdD r_s; replace r_x := g7.rdD r_x; replace r_d := g7.rdD r_d; replace r_y := g7.rdD r_y
      clear h7 hb7
      refine sat_chk (all_cons (okB _) (all_cons (okS _ _ _) (all_cons (okI _) (all_nil)))) ?_
      refine sat_call #[.agg #[.bool a.neg, .slice A n c, .int .i64 a.e], .agg #[.bool b.neg, .slice B m d, .int .i64 b.e]] (by kernel_rfl) fun w8 h8 => ?_
      refine (rmulD_any _ _ a b _ (h8.rdD r_a) (h8.rdD r_b)).mono ?_
      rintro e v8 ⟨⟨d_z, x_z, A_z, n_z, c_z, h_z, rfl, r_z⟩, hb8⟩
      refine ⟨hb8, [.bool d_z.neg, .slice A_z n_z c_z, .int .i64 d_z.e, .int .i64 x_z], _, rfl, by kernel_rfl, by kernel_rfl, fun g8 => ?_⟩
      replace r_a := g8.rdD r_a; replace r_b := g8.rdD r_b; replace r_s := g8.rdD r_s; replace r_x := g8.rdD r_x; replace r_d := g8.rdD r_d; replace r_y := g8.rdD r_y; replace r_m := g8.rdD r_m
      clear h8 hb8
      refine sat_chk (all_cons (okB _) (all_cons (okS _ _ _) (all_cons (okI _) (all_nil)))) ?_
      refine sat_call #[] (by kernel_rfl) fun w9 h9 => ?_
      refine (told2_any _ (h9.tab hT)).mono ?_
      rintro e v9 ⟨rfl, hb9⟩
      refine ⟨hb9, [.bool true], _, rfl, by kernel_rfl, by kernel_rfl, fun g9 => ?_⟩
      replace r_a := g9.rdD r_a; replace r_b := g9.rdD r_b; replace r_s := g9.rdD r_s; replace r_x := g9.rdD r_x; replace r_d := g9.rdD r_d; replace r_y := g9.rdD r_y; replace r_m := g9.rdD r_m; replace r_z := g9.rdD r_z
      clear h9 hb9
      refine sat_true (by kernel_rfl) ?_
      refine sat_call #[.agg #[.bool a.neg, .slice A n c, .int .i64 a.e]] (by kernel_rfl) fun w10 h10 => ?_
      refine (mayD_any _ a _ (h10.rdD r_a)).mono ?_
      rintro e v10 ⟨rfl, hb10⟩
      refine ⟨hb10, [.bool (mayD a)], _, rfl, by kernel_rfl, by kernel_rfl, fun g10 => ?_⟩
      replace r_a := g10.rdD r_a; replace r_b := g10.rdD r_b; replace r_s := g10.rdD r_s; replace r_x := g10.rdD r_x; replace r_d := g10.rdD r_d; replace r_y := g10.rdD r_y; replace r_m := g10.rdD r_m; replace r_z := g10.rdD r_z
      clear h10 hb10
      refine sat_call #[.agg #[.bool a.neg, .slice A n c, .int .i64 a.e]] (by kernel_rfl) fun w11 h11 => ?_
      refine (rmayD_any _ a _ (h11.rdD r_a)).mono ?_
      rintro e v11 ⟨rfl, hb11⟩
      refine ⟨hb11, [.bool (mayD a)], _, rfl, by kernel_rfl, by kernel_rfl, fun g11 => ?_⟩
      replace r_a := g11.rdD r_a; replace r_b := g11.rdD r_b; replace r_s := g11.rdD r_s; replace r_x := g11.rdD r_x; replace r_d := g11.rdD r_d; replace r_y := g11.rdD r_y; replace r_m := g11.rdD r_m; replace r_z := g11.rdD r_z
      clear h11 hb11
      refine sat_prim (v := .bool ((mayD a) == (mayD a))) (by kernel_rfl) ?_
      refine sat_trueP (b := ((mayD a) == (mayD a))) (by kernel_rfl) (by simp) ?_
      refine sat_call #[.agg #[.bool d_s.neg, .slice A_s n_s c_s, .int .i64 d_s.e], .int .i64 x_s, .agg #[.bool d_x.neg, .slice A_x n_x c_x, .int .i64 d_x.e], .int .i64 x_x] (by kernel_rfl) fun w12 h12 => ?_
      refine (same2_any _ _ x_s x_x d_s d_x _ (h12.rdD r_s) (h12.rdD r_x)).mono ?_
      rw [same_of h_s h_x]
      rintro e v12 ⟨rfl, hb12⟩
      refine ⟨hb12, [.bool true], _, rfl, by kernel_rfl, by kernel_rfl, fun g12 => ?_⟩
      replace r_a := g12.rdD r_a; replace r_b := g12.rdD r_b; replace r_s := g12.rdD r_s; replace r_x := g12.rdD r_x; replace r_d := g12.rdD r_d; replace r_y := g12.rdD r_y; replace r_m := g12.rdD r_m; replace r_z := g12.rdD r_z
      clear h12 hb12
      refine sat_true (by kernel_rfl) ?_
      refine sat_call #[.agg #[.bool d_d.neg, .slice A_d n_d c_d, .int .i64 d_d.e], .int .i64 x_d, .agg #[.bool d_y.neg, .slice A_y n_y c_y, .int .i64 d_y.e], .int .i64 x_y] (by kernel_rfl) fun w13 h13 => ?_
      refine (same2_any _ _ x_d x_y d_d d_y _ (h13.rdD r_d) (h13.rdD r_y)).mono ?_
      rw [same_of h_d h_y]
      rintro e v13 ⟨rfl, hb13⟩
      refine ⟨hb13, [.bool true], _, rfl, by kernel_rfl, by kernel_rfl, fun g13 => ?_⟩
      replace r_a := g13.rdD r_a; replace r_b := g13.rdD r_b; replace r_s := g13.rdD r_s; replace r_x := g13.rdD r_x; replace r_d := g13.rdD r_d; replace r_y := g13.rdD r_y; replace r_m := g13.rdD r_m; replace r_z := g13.rdD r_z
      clear h13 hb13
      refine sat_true (by kernel_rfl) ?_
      refine sat_call #[.agg #[.bool d_m.neg, .slice A_m n_m c_m, .int .i64 d_m.e], .int .i64 x_m, .agg #[.bool d_z.neg, .slice A_z n_z c_z, .int .i64 d_z.e], .int .i64 x_z] (by kernel_rfl) fun w14 h14 => ?_
      refine (same2_any _ _ x_m x_z d_m d_z _ (h14.rdD r_m) (h14.rdD r_z)).mono ?_
      rw [same_of h_m h_z]
      rintro e v14 ⟨rfl, hb14⟩
      refine ⟨hb14, [.bool true], _, rfl, by kernel_rfl, by kernel_rfl, fun g14 => ?_⟩
      replace r_a := g14.rdD r_a; replace r_b := g14.rdD r_b; replace r_s := g14.rdD r_s; replace r_x := g14.rdD r_x; replace r_d := g14.rdD r_d; replace r_y := g14.rdD r_y; replace r_m := g14.rdD r_m; replace r_z := g14.rdD r_z
      clear h14 hb14
      refine sat_true (by kernel_rfl) ?_
      refine sat_call #[.agg #[.bool a.neg, .slice A n c, .int .i64 a.e], .agg #[.bool b.neg, .slice B m d, .int .i64 b.e]] (by kernel_rfl) fun w15 h15 => ?_
      refine (cmpD_any _ _ a b _ (h15.rdD r_a) (h15.rdD r_b)).mono ?_
      rintro e v15 ⟨rfl, hb15⟩
      refine ⟨hb15, [.int .i64 (cmpD a b)], _, rfl, by kernel_rfl, by kernel_rfl, fun g15 => ?_⟩
      replace r_a := g15.rdD r_a; replace r_b := g15.rdD r_b; replace r_s := g15.rdD r_s; replace r_x := g15.rdD r_x; replace r_d := g15.rdD r_d; replace r_y := g15.rdD r_y; replace r_m := g15.rdD r_m; replace r_z := g15.rdD r_z
      clear h15 hb15
      refine sat_call #[.agg #[.bool a.neg, .slice A n c, .int .i64 a.e], .agg #[.bool b.neg, .slice B m d, .int .i64 b.e]] (by kernel_rfl) fun w16 h16 => ?_
      refine (rcmpD_any _ _ a b _ (h16.rdD r_a) (h16.rdD r_b)).mono ?_
      rintro e v16 ⟨rfl, hb16⟩
      refine ⟨hb16, [.int .i64 (cmpD a b)], _, rfl, by kernel_rfl, by kernel_rfl, fun g16 => ?_⟩
      replace r_a := g16.rdD r_a; replace r_b := g16.rdD r_b; replace r_s := g16.rdD r_s; replace r_x := g16.rdD r_x; replace r_d := g16.rdD r_d; replace r_y := g16.rdD r_y; replace r_m := g16.rdD r_m; replace r_z := g16.rdD r_z
      clear h16 hb16
      refine sat_prim (v := .bool (((cmpD a b) : Int) == (cmpD a b))) (by kernel_rfl) ?_
      refine sat_trueP (b := (((cmpD a b) : Int) == (cmpD a b))) (by kernel_rfl) (by simp) ?_
      refine sat_call #[.agg #[.bool a.neg, .slice A n c, .int .i64 a.e]] (by kernel_rfl) fun w17 h17 => ?_
      refine (signD_any _ a _ (h17.rdD r_a)).mono ?_
      rintro e v17 ⟨rfl, hb17⟩
      refine ⟨hb17, [.int .i64 (signD a)], _, rfl, by kernel_rfl, by kernel_rfl, fun g17 => ?_⟩
      replace r_a := g17.rdD r_a; replace r_b := g17.rdD r_b; replace r_s := g17.rdD r_s; replace r_x := g17.rdD r_x; replace r_d := g17.rdD r_d; replace r_y := g17.rdD r_y; replace r_m := g17.rdD r_m; replace r_z := g17.rdD r_z
      clear h17 hb17
      refine sat_call #[.agg #[.bool a.neg, .slice A n c, .int .i64 a.e]] (by kernel_rfl) fun w18 h18 => ?_
      refine (rsignD_any _ a _ (h18.rdD r_a)).mono ?_
      rintro e v18 ⟨rfl, hb18⟩
      refine ⟨hb18, [.int .i64 (signD a)], _, rfl, by kernel_rfl, by kernel_rfl, fun g18 => ?_⟩
      replace r_a := g18.rdD r_a; replace r_b := g18.rdD r_b; replace r_s := g18.rdD r_s; replace r_x := g18.rdD r_x; replace r_d := g18.rdD r_d; replace r_y := g18.rdD r_y; replace r_m := g18.rdD r_m; replace r_z := g18.rdD r_z
      clear h18 hb18
      refine sat_prim (v := .bool (((signD a) : Int) == (signD a))) (by kernel_rfl) ?_
      refine sat_trueP (b := (((signD a) : Int) == (signD a))) (by kernel_rfl) (by simp) ?_
      have ha6 : a.m.length ≤ 1000000 := by have := of_decide_eq_true hfa; omega
      refine sat_call #[.agg #[.bool a.neg, .slice A n c, .int .i64 a.e]] (by kernel_rfl) fun w19 h19 => ?_
      refine (negT _ a _ (h19.rdD r_a) ha6).mono ?_
      rintro e v19 ⟨⟨A_Neg, n_Neg, c_Neg, rfl, r_Neg⟩, hb19⟩
      refine ⟨hb19, [.bool (negS a).neg, .slice A_Neg n_Neg c_Neg, .int .i64 (negS a).e], _, rfl, by kernel_rfl, by kernel_rfl, fun g19 => ?_⟩
      replace r_a := g19.rdD r_a; replace r_b := g19.rdD r_b; replace r_s := g19.rdD r_s; replace r_x := g19.rdD r_x; replace r_d := g19.rdD r_d; replace r_y := g19.rdD r_y; replace r_m := g19.rdD r_m; replace r_z := g19.rdD r_z
      clear h19 hb19
      refine sat_call #[.agg #[.bool a.neg, .slice A n c, .int .i64 a.e]] (by kernel_rfl) fun w20 h20 => ?_
      refine (rnegR _ a _ (h20.rdD r_a)).mono ?_
      rintro e v20 ⟨⟨A_NegDyad, n_NegDyad, c_NegDyad, rfl, r_NegDyad⟩, hb20⟩
      refine ⟨hb20, [.bool (negS a).neg, .slice A_NegDyad n_NegDyad c_NegDyad, .int .i64 (negS a).e], _, rfl, by kernel_rfl, by kernel_rfl, fun g20 => ?_⟩
      replace r_a := g20.rdD r_a; replace r_b := g20.rdD r_b; replace r_s := g20.rdD r_s; replace r_x := g20.rdD r_x; replace r_d := g20.rdD r_d; replace r_y := g20.rdD r_y; replace r_m := g20.rdD r_m; replace r_z := g20.rdD r_z; replace r_Neg := g20.rdD r_Neg
      clear h20 hb20
      refine sat_call #[.agg #[.bool (negS a).neg, .slice A_Neg n_Neg c_Neg, .int .i64 (negS a).e], .agg #[.bool (negS a).neg, .slice A_NegDyad n_NegDyad c_NegDyad, .int .i64 (negS a).e]] (by kernel_rfl) fun w21 h21 => ?_
      refine (rsame_any _ _ (negS a) (negS a) _ (h21.rdD r_Neg) (h21.rdD r_NegDyad)).mono ?_
      rw [sameD_self]
      rintro e v21 ⟨rfl, hb21⟩
      refine ⟨hb21, [.bool true], _, rfl, by kernel_rfl, by kernel_rfl, fun g21 => ?_⟩
      replace r_a := g21.rdD r_a; replace r_b := g21.rdD r_b; replace r_s := g21.rdD r_s; replace r_x := g21.rdD r_x; replace r_d := g21.rdD r_d; replace r_y := g21.rdD r_y; replace r_m := g21.rdD r_m; replace r_z := g21.rdD r_z; replace r_Neg := g21.rdD r_Neg; replace r_NegDyad := g21.rdD r_NegDyad
      clear h21 hb21
      refine sat_true (by kernel_rfl) ?_
      refine sat_call #[.agg #[.bool a.neg, .slice A n c, .int .i64 a.e], .agg #[.bool b.neg, .slice B m d, .int .i64 b.e]] (by kernel_rfl) fun w22 h22 => ?_
      refine (sameD_any _ _ a b _ (h22.rdD r_a) (h22.rdD r_b)).mono ?_
      rintro e v22 ⟨rfl, hb22⟩
      refine ⟨hb22, [.bool (sameD a b)], _, rfl, by kernel_rfl, by kernel_rfl, fun g22 => ?_⟩
      replace r_a := g22.rdD r_a; replace r_b := g22.rdD r_b; replace r_s := g22.rdD r_s; replace r_x := g22.rdD r_x; replace r_d := g22.rdD r_d; replace r_y := g22.rdD r_y; replace r_m := g22.rdD r_m; replace r_z := g22.rdD r_z; replace r_Neg := g22.rdD r_Neg; replace r_NegDyad := g22.rdD r_NegDyad
      clear h22 hb22
      refine sat_call #[.agg #[.bool a.neg, .slice A n c, .int .i64 a.e], .agg #[.bool b.neg, .slice B m d, .int .i64 b.e]] (by kernel_rfl) fun w23 h23 => ?_
      refine (rsame_any _ _ a b _ (h23.rdD r_a) (h23.rdD r_b)).mono ?_
      rintro e v23 ⟨rfl, hb23⟩
      refine ⟨hb23, [.bool (sameD a b)], _, rfl, by kernel_rfl, by kernel_rfl, fun g23 => ?_⟩
      replace r_a := g23.rdD r_a; replace r_b := g23.rdD r_b; replace r_s := g23.rdD r_s; replace r_x := g23.rdD r_x; replace r_d := g23.rdD r_d; replace r_y := g23.rdD r_y; replace r_m := g23.rdD r_m; replace r_z := g23.rdD r_z; replace r_Neg := g23.rdD r_Neg; replace r_NegDyad := g23.rdD r_NegDyad
      clear h23 hb23
      refine sat_prim (v := .bool ((sameD a b) == (sameD a b))) (by kernel_rfl) ?_
      refine sat_trueP (b := ((sameD a b) == (sameD a b))) (by kernel_rfl) (by simp) ?_
      refine sat_call #[.agg #[.bool a.neg, .slice A n c, .int .i64 a.e], .agg #[.bool a.neg, .slice A n c, .int .i64 a.e]] (by kernel_rfl) fun w24 h24 => ?_
      refine (sameD_any _ _ a a _ (h24.rdD r_a) (h24.rdD r_a)).mono ?_
      rw [sameD_self]
      rintro e v24 ⟨rfl, hb24⟩
      refine ⟨hb24, [.bool true], _, rfl, by kernel_rfl, by kernel_rfl, fun g24 => ?_⟩
      replace r_a := g24.rdD r_a; replace r_b := g24.rdD r_b; replace r_s := g24.rdD r_s; replace r_x := g24.rdD r_x; replace r_d := g24.rdD r_d; replace r_y := g24.rdD r_y; replace r_m := g24.rdD r_m; replace r_z := g24.rdD r_z; replace r_Neg := g24.rdD r_Neg; replace r_NegDyad := g24.rdD r_NegDyad
      clear h24 hb24
      exact sat_ret (.bool true) (by kernel_rfl) fun w9 h9 => rfl

end Go.Proofs.YtaifjldpjkabjaaDoor
