/- sluicewayref1.SubDyad, sluicewaylaw2.same, and the walk of DyadAsks, by their trees. Printed by wip/mk_L2F.py. -/
import Derived.Test.YtbpfnooloemieaaGreatDoorSxGx
import Derived.Test.YtbpfnooloemieaaGreatDoorRfOx
import Derived.Test.YtbpfnooloemieaaGreatDoorRfDx
import Derived.Test.YtbpfnooloemieaaGreatDoorL2Ax
namespace Go.Proofs.YtbpfnooloemieaaGreatDoor
open Go.RowKit Pl
open Sx (sat_call sat_chk sat_prim sat_ite sat_true sat_false sat_trueP sat_falseP sat_ret all_nil all_cons okB okS okI)

def tr_rsub : Sx.Tree := .chk [.lf 0, .lf 1, .lf 2] (.chk [.lf 3, .lf 4, .lf 5] (.call 73 [.ag [.lf 3, .lf 4, .lf 5]] .one (.prim .not [.lf 6] (.ite (.lf 7) (.ret (.tup [(true, [.bit false, .nil, .num .i64 0]), (false, [.num .i64 1])])) (.call 109 [.ag [.lf 3, .lf 4, .lf 5]] (.ag 3) (.call 98 [.ag [.lf 0, .lf 1, .lf 2], .ag [.lf 8, .lf 9, .lf 10]] (.tup [(true, 3), (false, 1)]) (.chk [.lf 11, .lf 12, .lf 13] (.ret (.tup [(true, [.lf 11, .lf 12, .lf 13]), (false, [.lf 14])])))))))))
theorem tr_rsub_eq : Sx.treeOf Tryz.prog 86 = some tr_rsub := by kernel_rfl

theorem sub_two (a : Dy) {b : Dy} (hb : mayD b = true) : twoS a (negS b) (sumS a (negS b)) = twoS a b (subS a b) := by
  unfold twoS subS
  rw [negS_may hb, hb]
theorem rnegR (v : Value) (d : Dy) (w : World) (h : RdD w v d) : Calls Tryz.prog 109 #[v] w fun e w' => DyRet w' e (negS d) ∧ Below w.heap.size w w' := (rneg_any v d w h).mono fun _ _ h => h
theorem rsubD_any (u v : Value) (a b : Dy) (w : World) (h : RdD w u a) (k : RdD w v b) :
    Calls Tryz.prog 86 #[u, v] w fun e w' => DyTup w' e (twoS a b (subS a b)) ∧ Below w.heap.size w w' := by
  have r_a := h
  have r_b := k
  obtain ⟨A, n, c, rfl, _⟩ := h
  obtain ⟨B, m, d, rfl, _⟩ := k
  refine (Sx.run (ls := [.bool a.neg, .slice A n c, .int .i64 a.e, .bool b.neg, .slice B m d, .int .i64 b.e]) (shs := [(true, 3), (true, 3)]) (R := fun v w' => DyTup w' (.returned v) (twoS a b (subS a b))) (by kernel_rfl) tr_rsub_eq rfl (by decide) ?_).mono (fun e w' ⟨v, he, hv, hb⟩ => ⟨by rw [he]; exact hv, hb⟩)
  unfold tr_rsub
  refine sat_chk (all_cons (okB _) (all_cons (okS _ _ _) (all_cons (okI _) (all_nil)))) ?_
  refine sat_chk (all_cons (okB _) (all_cons (okS _ _ _) (all_cons (okI _) (all_nil)))) ?_
  cases hb : mayD b
  · refine sat_call #[.agg #[.bool b.neg, .slice B m d, .int .i64 b.e]] (by kernel_rfl) fun w1 h1 => ?_
    refine (rmayD_any _ b _ (h1.rdD r_b)).mono ?_
    rw [hb]
    rintro e v1 ⟨rfl, hb1⟩
    refine ⟨hb1, [.bool false], _, rfl, by kernel_rfl, by kernel_rfl, fun g1 => ?_⟩
    replace r_a := g1.rdD r_a; replace r_b := g1.rdD r_b
    clear h1 hb1
    refine sat_prim (v := .bool true) (by kernel_rfl) ?_
    refine sat_true (by kernel_rfl) ?_
    exact sat_ret (.tuple #[.agg #[.bool false, .slice none 0 0, .int .i64 0], .int .i64 1]) (by kernel_rfl) fun w9 h9 => ⟨Dy.zero, 1, none, 0, 0, hide (by unfold twoS; rw [hb, Bool.and_false]; rfl), rfl, RdD.zero _⟩
  · refine sat_call #[.agg #[.bool b.neg, .slice B m d, .int .i64 b.e]] (by kernel_rfl) fun w1 h1 => ?_
    refine (rmayD_any _ b _ (h1.rdD r_b)).mono ?_
    rw [hb]
    rintro e v1 ⟨rfl, hb1⟩
    refine ⟨hb1, [.bool true], _, rfl, by kernel_rfl, by kernel_rfl, fun g1 => ?_⟩
    replace r_a := g1.rdD r_a; replace r_b := g1.rdD r_b
    clear h1 hb1
    refine sat_prim (v := .bool false) (by kernel_rfl) ?_
    refine sat_false (by kernel_rfl) ?_
    refine sat_call #[.agg #[.bool b.neg, .slice B m d, .int .i64 b.e]] (by kernel_rfl) fun w2 h2 => ?_
    refine (rnegR _ b _ (h2.rdD r_b)).mono ?_
    rintro e v2 ⟨⟨A9, n9, c9, rfl, r_n⟩, hb2⟩
    refine ⟨hb2, [.bool (negS b).neg, .slice A9 n9 c9, .int .i64 (negS b).e], _, rfl, by kernel_rfl, by kernel_rfl, fun g2 => ?_⟩
    replace r_a := g2.rdD r_a; replace r_b := g2.rdD r_b
    clear h2 hb2
    refine sat_call #[.agg #[.bool a.neg, .slice A n c, .int .i64 a.e], .agg #[.bool (negS b).neg, .slice A9 n9 c9, .int .i64 (negS b).e]] (by kernel_rfl) fun w3 h3 => ?_
    refine (raddD_any _ _ a (negS b) _ (h3.rdD r_a) (h3.rdD r_n)).mono ?_
    rintro e v3 ⟨⟨d_z, x_z, A_z, n_z, c_z, h_z, rfl, r_z⟩, hb3⟩
    refine ⟨hb3, [.bool d_z.neg, .slice A_z n_z c_z, .int .i64 d_z.e, .int .i64 x_z], _, rfl, by kernel_rfl, by kernel_rfl, fun g3 => ?_⟩
    replace r_a := g3.rdD r_a; replace r_b := g3.rdD r_b; replace r_n := g3.rdD r_n
    clear h3 hb3
    refine sat_chk (all_cons (okB _) (all_cons (okS _ _ _) (all_cons (okI _) (all_nil)))) ?_
    exact sat_ret (.tuple #[.agg #[.bool d_z.neg, .slice A_z n_z c_z, .int .i64 d_z.e], .int .i64 x_z]) (by kernel_rfl) fun w9 h9 => ⟨d_z, x_z, A_z, n_z, c_z, hide (h_z.out.trans (sub_two a hb)), rfl, h9.rdD r_z⟩

end Go.Proofs.YtbpfnooloemieaaGreatDoor
