/- The walks of RoundBetween, RoundNear, RoundTwice, RoundExact, RoundHolds, by their trees. Printed by wip/mk_RnI.py. -/
import Derived.Test.YteodljieiloebaaDoorRnGx
import Derived.Test.YteodljieiloebaaDoorRnSx
import Derived.Test.YteodljieiloebaaDoorCntx
namespace Go.Proofs.YteodljieiloebaaDoor
open Go.RowKit Pl
open Sx (sat_call sat_chk sat_prim sat_ite sat_true sat_false sat_trueP sat_falseP sat_ret sat_row sat_callP all_nil all_cons okB okS okI)

def tr_roundBetween : Sx.Tree := .chk [.lf 0, .lf 1, .lf 2] (.prim (.cvt .u64) [.lf 3] (.prim (.bin .rem) [.lf 4, .num .u64 300] (.prim (.cvt .i64) [.lf 5] (.prim (.bin .add) [.num .i64 1, .lf 6] (.call 23 [.ag [.lf 0, .lf 1, .lf 2]] .one (.prim .not [.lf 8] (.ite (.lf 9) (.call 24 [] .one (.ret (.one (.lf 10)))) (.call 36 [.ag [.lf 0, .lf 1, .lf 2]] .one (.prim .not [.lf 10] (.ite (.lf 11) (.call 24 [] .one (.ret (.one (.lf 12)))) (.call 25 [.ag [.lf 0, .lf 1, .lf 2], .one (.lf 7)] (.tup [(true, 3), (false, 1)]) (.chk [.lf 12, .lf 13, .lf 14] (.call 26 [.ag [.lf 0, .lf 1, .lf 2], .one (.lf 7)] (.tup [(true, 3), (false, 1)]) (.chk [.lf 16, .lf 17, .lf 18] (.prim (.bin .neq) [.lf 15, .num .i64 0] (.ite (.lf 20) (.call 24 [] .one (.ret (.one (.lf 21)))) (.prim (.bin .neq) [.lf 19, .num .i64 0] (.ite (.lf 21) (.call 24 [] .one (.ret (.one (.lf 22)))) (.call 26 [.ag [.lf 12, .lf 13, .lf 14], .one (.lf 7)] (.tup [(true, 3), (false, 1)]) (.chk [.lf 22, .lf 23, .lf 24] (.call 39 [.ag [.lf 0, .lf 1, .lf 2]] (.ag 3) (.call 25 [.ag [.lf 26, .lf 27, .lf 28], .one (.lf 7)] (.tup [(true, 3), (false, 1)]) (.chk [.lf 29, .lf 30, .lf 31] (.call 24 [] .one (.ite (.lf 33) (.call 22 [.ag [.lf 12, .lf 13, .lf 14], .ag [.lf 0, .lf 1, .lf 2]] .one (.prim (.bin .leq) [.lf 34, .num .i64 0] (.ite (.lf 35) (.call 22 [.ag [.lf 0, .lf 1, .lf 2], .ag [.lf 16, .lf 17, .lf 18]] .one (.prim (.bin .leq) [.lf 36, .num .i64 0] (.ite (.lf 37) (.call 18 [.ag [.lf 12, .lf 13, .lf 14], .ag [.lf 16, .lf 17, .lf 18]] .one (.call 21 [.ag [.lf 0, .lf 1, .lf 2]] .one (.prim (.bin .leq) [.lf 39, .lf 7] (.prim (.bbin .eql) [.lf 38, .lf 40] (.ite (.lf 41) (.call 21 [.ag [.lf 12, .lf 13, .lf 14]] .one (.prim (.bin .leq) [.lf 42, .lf 7] (.ite (.lf 43) (.call 21 [.ag [.lf 16, .lf 17, .lf 18]] .one (.prim (.bin .leq) [.lf 44, .lf 7] (.ite (.lf 45) (.prim (.bin .eql) [.lf 25, .num .i64 0] (.ite (.lf 46) (.call 18 [.ag [.lf 22, .lf 23, .lf 24], .ag [.lf 12, .lf 13, .lf 14]] .one (.ite (.lf 47) (.prim (.bin .eql) [.lf 32, .num .i64 0] (.ite (.lf 48) (.call 39 [.ag [.lf 16, .lf 17, .lf 18]] (.ag 3) (.call 18 [.ag [.lf 29, .lf 30, .lf 31], .ag [.lf 49, .lf 50, .lf 51]] .one (.ret (.one (.lf 52))))) (.ret (.one (.bit false))))) (.ret (.one (.bit false))))) (.ret (.one (.bit false))))) (.ret (.one (.bit false)))))) (.ret (.one (.bit false)))))) (.ret (.one (.bit false)))))))) (.ret (.one (.bit false)))))) (.ret (.one (.bit false)))))) (.ret (.one (.bit false))))))))))))))))))))))))))))
theorem tr_roundBetween_eq : Sx.treeAt Tryd.prog 11 [] [] [(true, 3), (false, 1)] = some tr_roundBetween := by kernel_rfl

set_option maxRecDepth 100000 in
set_option maxHeartbeats 4000000 in
theorem roundBetween_any (v_d : Value) (d : Dy) (p : Int) (w : World) (h_d : RdD w v_d d) (hT : TabAt w) :
    Calls Tryd.prog 11 #[v_d, .int .i64 p] w fun e w' => e = .returned (.bool true) ∧ Below w.heap.size w w' := by
  have r_d := h_d
  obtain ⟨A_d, n_d, c_d, rfl, _⟩ := h_d
  refine (Sx.runA [] [] (ls := [.bool d.neg, .slice A_d n_d c_d, .int .i64 d.e, .int .i64 p]) (shs := [(true, 3), (false, 1)]) (R := fun v w' => v = .bool true) tr_roundBetween_eq rfl (by decide) (fun q h => by cases h) ?_).mono (fun e w' ⟨v, he, hv, hb⟩ => ⟨by rw [he, hv], hb⟩)
  unfold tr_roundBetween
  refine sat_chkB (by kernel_rfl) ?_
  refine sat_prim (v := .int .u64 (((p % 18446744073709551616).toNat : Nat) : Int)) (Eq.trans (by kernel_rfl) (pr_cvtu p)) ?_
  refine sat_prim (v := .int .u64 (((p % 18446744073709551616).toNat % 300 : Nat) : Int)) (Eq.trans (by kernel_rfl) (pr_rem (a := (p % 18446744073709551616).toNat) (b := 300) (by omega))) ?_
  refine sat_prim (v := .int .i64 (((p % 18446744073709551616).toNat % 300 : Nat) : Int)) (Eq.trans (by kernel_rfl) (pr_cvti (n := (p % 18446744073709551616).toNat % 300) (Nat.lt_of_lt_of_le (Nat.mod_lt _ (by omega)) (by omega)))) ?_
  obtain ⟨N1, e_N1, a_N1, b_N1⟩ : ∃ N, N = 1 + (p % 18446744073709551616).toNat % 300 ∧ 1 ≤ N ∧ N ≤ 300 := ⟨_, rfl, by omega, by have := Nat.mod_lt ((p % 18446744073709551616).toNat) (show 0 < 300 by omega); omega⟩
  refine sat_prim (v := .int .i64 ((N1 : Nat) : Int)) (Eq.trans (by kernel_rfl) (pr_one (m := (p % 18446744073709551616).toNat % 300) e_N1 (by omega))) ?_
  refine sat_call #[.agg #[.bool d.neg, .slice A_d n_d c_d, .int .i64 d.e]] (by kernel_rfl) fun w1 h1 => ?_
  refine (few2_any _ (d) _ (h1.rdD r_d)).mono ?_
  rintro e v1 ⟨rfl, hb1⟩
  refine ⟨hb1, [.bool (decide (d.m.length ≤ 70))], _, rfl, by kernel_rfl, by kernel_rfl, fun g1 => ?_⟩
  replace r_d := g1.rdD r_d
  clear h1 hb1
  refine sat_prim (v := .bool (!(decide (d.m.length ≤ 70)))) (by kernel_rfl) ?_
  cases hf : (decide (d.m.length ≤ 70))
  · refine sat_true (by kernel_rfl) ?_
    refine sat_call #[] (by kernel_rfl) fun w3 h3 => ?_
    refine (told3_any _ (h3.tab hT)).mono ?_
    rintro e v3 ⟨rfl, hb3⟩
    refine ⟨hb3, [.bool true], _, rfl, by kernel_rfl, by kernel_rfl, fun g3 => ?_⟩
    replace r_d := g3.rdD r_d
    clear h3 hb3
    exact sat_ret (.bool true) (by kernel_rfl) fun w9 h9 => rfl
  · refine sat_false (by kernel_rfl) ?_
    refine sat_call #[.agg #[.bool d.neg, .slice A_d n_d c_d, .int .i64 d.e]] (by kernel_rfl) fun w3 h3 => ?_
    refine (mayD_any _ (d) _ (h3.rdD r_d)).mono ?_
    rintro e v3 ⟨rfl, hb3⟩
    refine ⟨hb3, [.bool (mayD d)], _, rfl, by kernel_rfl, by kernel_rfl, fun g3 => ?_⟩
    replace r_d := g3.rdD r_d
    clear h3 hb3
    refine sat_prim (v := .bool (!(mayD d))) (by kernel_rfl) ?_
    cases hm : (mayD d)
    · refine sat_true (by kernel_rfl) ?_
      refine sat_call #[] (by kernel_rfl) fun w5 h5 => ?_
      refine (told3_any _ (h5.tab hT)).mono ?_
      rintro e v5 ⟨rfl, hb5⟩
      refine ⟨hb5, [.bool true], _, rfl, by kernel_rfl, by kernel_rfl, fun g5 => ?_⟩
      replace r_d := g5.rdD r_d
      clear h5 hb5
      exact sat_ret (.bool true) (by kernel_rfl) fun w9 h9 => rfl
    · refine sat_false (by kernel_rfl) ?_
      refine sat_call #[.agg #[.bool d.neg, .slice A_d n_d c_d, .int .i64 d.e], .int .i64 ((N1 : Nat) : Int)] (by kernel_rfl) fun w5 h5 => ?_
      refine (downT _ d ((N1 : Nat) : Int) _ (h5.rdD r_d) (h5.tab hT)).mono ?_
      rintro e v5 ⟨⟨d_t1, x_t1, A_t1, n_t1, c_t1, h_t1, rfl, r_t1⟩, hb5⟩
      refine ⟨hb5, [.bool d_t1.neg, .slice A_t1 n_t1 c_t1, .int .i64 d_t1.e, .int .i64 x_t1], _, rfl, by kernel_rfl, by kernel_rfl, fun g5 => ?_⟩
      replace r_d := g5.rdD r_d
      clear h5 hb5
      refine sat_chkB (by kernel_rfl) ?_
      refine sat_call #[.agg #[.bool d.neg, .slice A_d n_d c_d, .int .i64 d.e], .int .i64 ((N1 : Nat) : Int)] (by kernel_rfl) fun w6 h6 => ?_
      refine (upT _ d ((N1 : Nat) : Int) _ (h6.rdD r_d) (h6.tab hT)).mono ?_
      rintro e v6 ⟨⟨d_t2, x_t2, A_t2, n_t2, c_t2, h_t2, rfl, r_t2⟩, hb6⟩
      refine ⟨hb6, [.bool d_t2.neg, .slice A_t2 n_t2 c_t2, .int .i64 d_t2.e, .int .i64 x_t2], _, rfl, by kernel_rfl, by kernel_rfl, fun g6 => ?_⟩
      replace r_d := g6.rdD r_d; replace r_t1 := g6.rdD r_t1
      clear h6 hb6
      refine sat_chkB (by kernel_rfl) ?_
      refine sat_prim (v := .bool ((x_t1 : Int) != 0)) (by kernel_rfl) ?_
      cases hn_t1 : ((x_t1 : Int) != 0)
      · refine sat_false (by kernel_rfl) ?_
        refine sat_prim (v := .bool ((x_t2 : Int) != 0)) (by kernel_rfl) ?_
        cases hn_t2 : ((x_t2 : Int) != 0)
        · refine sat_false (by kernel_rfl) ?_
          have BT := Betw.mk' r_d.lim (d0 h_t1 hn_t1) (d0 h_t2 hn_t2)
          refine sat_call #[.agg #[.bool d_t1.neg, .slice A_t1 n_t1 c_t1, .int .i64 d_t1.e], .int .i64 ((N1 : Nat) : Int)] (by kernel_rfl) fun w9 h9 => ?_
          refine (upT _ d_t1 ((N1 : Nat) : Int) _ (h9.rdD r_t1) (h9.tab hT)).mono ?_
          rintro e v9 ⟨⟨d_t3, x_t3, A_t3, n_t3, c_t3, h_t3, rfl, r_t3⟩, hb9⟩
          obtain ⟨rfl, rfl⟩ := dx2r h_t3 BT.up
          refine ⟨hb9, [.bool d_t1.neg, .slice A_t3 n_t3 c_t3, .int .i64 d_t1.e, .int .i64 0], _, rfl, by kernel_rfl, by kernel_rfl, fun g9 => ?_⟩
          replace r_d := g9.rdD r_d; replace r_t1 := g9.rdD r_t1; replace r_t2 := g9.rdD r_t2
          clear h9 hb9
          refine sat_chkB (by kernel_rfl) ?_
          refine sat_call #[.agg #[.bool d.neg, .slice A_d n_d c_d, .int .i64 d.e]] (by kernel_rfl) fun w10 h10 => ?_
          refine (negT _ d _ (h10.rdD r_d) (len_may hm)).mono ?_
          rintro e v10 ⟨⟨A_ng1, n_ng1, c_ng1, rfl, r_ng1⟩, hb10⟩
          refine ⟨hb10, [.bool (negS d).neg, .slice A_ng1 n_ng1 c_ng1, .int .i64 (negS d).e], _, rfl, by kernel_rfl, by kernel_rfl, fun g10 => ?_⟩
          replace r_d := g10.rdD r_d; replace r_t1 := g10.rdD r_t1; replace r_t2 := g10.rdD r_t2; replace r_t3 := g10.rdD r_t3
          clear h10 hb10
          refine sat_call #[.agg #[.bool (negS d).neg, .slice A_ng1 n_ng1 c_ng1, .int .i64 (negS d).e], .int .i64 ((N1 : Nat) : Int)] (by kernel_rfl) fun w11 h11 => ?_
          refine (downT _ (negS d) ((N1 : Nat) : Int) _ (h11.rdD r_ng1) (h11.tab hT)).mono ?_
          rintro e v11 ⟨⟨d_t4, x_t4, A_t4, n_t4, c_t4, h_t4, rfl, r_t4⟩, hb11⟩
          obtain ⟨rfl, rfl⟩ := dx2r h_t4 BT.dn
          refine ⟨hb11, [.bool (negS d_t2).neg, .slice A_t4 n_t4 c_t4, .int .i64 (negS d_t2).e, .int .i64 0], _, rfl, by kernel_rfl, by kernel_rfl, fun g11 => ?_⟩
          replace r_d := g11.rdD r_d; replace r_t1 := g11.rdD r_t1; replace r_t2 := g11.rdD r_t2; replace r_t3 := g11.rdD r_t3; replace r_ng1 := g11.rdD r_ng1
          clear h11 hb11
          refine sat_chkB (by kernel_rfl) ?_
          refine sat_call #[] (by kernel_rfl) fun w12 h12 => ?_
          refine (told3_any _ (h12.tab hT)).mono ?_
          rintro e v12 ⟨rfl, hb12⟩
          refine ⟨hb12, [.bool true], _, rfl, by kernel_rfl, by kernel_rfl, fun g12 => ?_⟩
          replace r_d := g12.rdD r_d; replace r_t1 := g12.rdD r_t1; replace r_t2 := g12.rdD r_t2; replace r_t3 := g12.rdD r_t3; replace r_ng1 := g12.rdD r_ng1; replace r_t4 := g12.rdD r_t4
          clear h12 hb12
          refine sat_true (by kernel_rfl) ?_
          refine sat_call #[.agg #[.bool d_t1.neg, .slice A_t1 n_t1 c_t1, .int .i64 d_t1.e], .agg #[.bool d.neg, .slice A_d n_d c_d, .int .i64 d.e]] (by kernel_rfl) fun w13 h13 => ?_
          refine (cmpD_any _ _ (d_t1) (d) _ (h13.rdD r_t1) (h13.rdD r_d)).mono ?_
          rintro e v13 ⟨rfl, hb13⟩
          refine ⟨hb13, [.int .i64 (cmpD d_t1 d)], _, rfl, by kernel_rfl, by kernel_rfl, fun g13 => ?_⟩
          replace r_d := g13.rdD r_d; replace r_t1 := g13.rdD r_t1; replace r_t2 := g13.rdD r_t2; replace r_t3 := g13.rdD r_t3; replace r_ng1 := g13.rdD r_ng1; replace r_t4 := g13.rdD r_t4
          clear h13 hb13
          refine sat_prim (v := .bool (decide (((cmpD d_t1 d) : Int) ≤ 0))) (by kernel_rfl) ?_
          refine sat_trueP (b := (decide (((cmpD d_t1 d) : Int) ≤ 0))) (by kernel_rfl) (decide_eq_true BT.lo) ?_
          refine sat_call #[.agg #[.bool d.neg, .slice A_d n_d c_d, .int .i64 d.e], .agg #[.bool d_t2.neg, .slice A_t2 n_t2 c_t2, .int .i64 d_t2.e]] (by kernel_rfl) fun w14 h14 => ?_
          refine (cmpD_any _ _ (d) (d_t2) _ (h14.rdD r_d) (h14.rdD r_t2)).mono ?_
          rintro e v14 ⟨rfl, hb14⟩
          refine ⟨hb14, [.int .i64 (cmpD d d_t2)], _, rfl, by kernel_rfl, by kernel_rfl, fun g14 => ?_⟩
          replace r_d := g14.rdD r_d; replace r_t1 := g14.rdD r_t1; replace r_t2 := g14.rdD r_t2; replace r_t3 := g14.rdD r_t3; replace r_ng1 := g14.rdD r_ng1; replace r_t4 := g14.rdD r_t4
          clear h14 hb14
          refine sat_prim (v := .bool (decide (((cmpD d d_t2) : Int) ≤ 0))) (by kernel_rfl) ?_
          refine sat_trueP (b := (decide (((cmpD d d_t2) : Int) ≤ 0))) (by kernel_rfl) (decide_eq_true BT.hi) ?_
          refine sat_call #[.agg #[.bool d_t1.neg, .slice A_t1 n_t1 c_t1, .int .i64 d_t1.e], .agg #[.bool d_t2.neg, .slice A_t2 n_t2 c_t2, .int .i64 d_t2.e]] (by kernel_rfl) fun w15 h15 => ?_
          refine (sameD_any _ _ (d_t1) (d_t2) _ (h15.rdD r_t1) (h15.rdD r_t2)).mono ?_
          rintro e v15 ⟨rfl, hb15⟩
          refine ⟨hb15, [.bool (sameD d_t1 d_t2)], _, rfl, by kernel_rfl, by kernel_rfl, fun g15 => ?_⟩
          replace r_d := g15.rdD r_d; replace r_t1 := g15.rdD r_t1; replace r_t2 := g15.rdD r_t2; replace r_t3 := g15.rdD r_t3; replace r_ng1 := g15.rdD r_ng1; replace r_t4 := g15.rdD r_t4
          clear h15 hb15
          refine sat_call #[.agg #[.bool d.neg, .slice A_d n_d c_d, .int .i64 d.e]] (by kernel_rfl) fun w16 h16 => ?_
          refine (bitsD_any _ d _ (h16.rdD r_d)).mono ?_
          rintro e v16 ⟨rfl, hb16⟩
          refine ⟨hb16, [.int .i64 (bitsD d)], _, rfl, by kernel_rfl, by kernel_rfl, fun g16 => ?_⟩
          replace r_d := g16.rdD r_d; replace r_t1 := g16.rdD r_t1; replace r_t2 := g16.rdD r_t2; replace r_t3 := g16.rdD r_t3; replace r_ng1 := g16.rdD r_ng1; replace r_t4 := g16.rdD r_t4
          clear h16 hb16
          refine sat_prim (v := .bool (decide (((bitsD d) : Int) ≤ ((N1 : Nat) : Int)))) (by kernel_rfl) ?_
          refine sat_prim (v := .bool ((sameD d_t1 d_t2) == (decide (((bitsD d) : Int) ≤ ((N1 : Nat) : Int))))) (by kernel_rfl) ?_
          refine sat_trueP (b := ((sameD d_t1 d_t2) == (decide (((bitsD d) : Int) ≤ ((N1 : Nat) : Int))))) (by kernel_rfl) (BT.eq) ?_
          refine sat_call #[.agg #[.bool d_t1.neg, .slice A_t1 n_t1 c_t1, .int .i64 d_t1.e]] (by kernel_rfl) fun w17 h17 => ?_
          refine (bitsD_any _ d_t1 _ (h17.rdD r_t1)).mono ?_
          rintro e v17 ⟨rfl, hb17⟩
          refine ⟨hb17, [.int .i64 (bitsD d_t1)], _, rfl, by kernel_rfl, by kernel_rfl, fun g17 => ?_⟩
          replace r_d := g17.rdD r_d; replace r_t1 := g17.rdD r_t1; replace r_t2 := g17.rdD r_t2; replace r_t3 := g17.rdD r_t3; replace r_ng1 := g17.rdD r_ng1; replace r_t4 := g17.rdD r_t4
          clear h17 hb17
          refine sat_prim (v := .bool (decide (((bitsD d_t1) : Int) ≤ ((N1 : Nat) : Int)))) (by kernel_rfl) ?_
          refine sat_trueP (b := (decide (((bitsD d_t1) : Int) ≤ ((N1 : Nat) : Int)))) (by kernel_rfl) (decide_eq_true BT.bA) ?_
          refine sat_call #[.agg #[.bool d_t2.neg, .slice A_t2 n_t2 c_t2, .int .i64 d_t2.e]] (by kernel_rfl) fun w18 h18 => ?_
          refine (bitsD_any _ d_t2 _ (h18.rdD r_t2)).mono ?_
          rintro e v18 ⟨rfl, hb18⟩
          refine ⟨hb18, [.int .i64 (bitsD d_t2)], _, rfl, by kernel_rfl, by kernel_rfl, fun g18 => ?_⟩
          replace r_d := g18.rdD r_d; replace r_t1 := g18.rdD r_t1; replace r_t2 := g18.rdD r_t2; replace r_t3 := g18.rdD r_t3; replace r_ng1 := g18.rdD r_ng1; replace r_t4 := g18.rdD r_t4
          clear h18 hb18
          refine sat_prim (v := .bool (decide (((bitsD d_t2) : Int) ≤ ((N1 : Nat) : Int)))) (by kernel_rfl) ?_
          refine sat_trueP (b := (decide (((bitsD d_t2) : Int) ≤ ((N1 : Nat) : Int)))) (by kernel_rfl) (decide_eq_true BT.bB) ?_
          refine sat_prim (v := .bool true) (by kernel_rfl) ?_
          refine sat_true (by kernel_rfl) ?_
          refine sat_call #[.agg #[.bool d_t1.neg, .slice A_t3 n_t3 c_t3, .int .i64 d_t1.e], .agg #[.bool d_t1.neg, .slice A_t1 n_t1 c_t1, .int .i64 d_t1.e]] (by kernel_rfl) fun w19 h19 => ?_
          refine (sameD_any _ _ (d_t1) (d_t1) _ (h19.rdD r_t3) (h19.rdD r_t1)).mono ?_
          rintro e v19 ⟨rfl, hb19⟩
          refine ⟨hb19, [.bool (sameD d_t1 d_t1)], _, rfl, by kernel_rfl, by kernel_rfl, fun g19 => ?_⟩
          replace r_d := g19.rdD r_d; replace r_t1 := g19.rdD r_t1; replace r_t2 := g19.rdD r_t2; replace r_t3 := g19.rdD r_t3; replace r_ng1 := g19.rdD r_ng1; replace r_t4 := g19.rdD r_t4
          clear h19 hb19
          refine sat_trueP (b := (sameD d_t1 d_t1)) (by kernel_rfl) (sameD_self _) ?_
          refine sat_prim (v := .bool true) (by kernel_rfl) ?_
          refine sat_true (by kernel_rfl) ?_
          refine sat_call #[.agg #[.bool d_t2.neg, .slice A_t2 n_t2 c_t2, .int .i64 d_t2.e]] (by kernel_rfl) fun w20 h20 => ?_
          refine (negT _ d_t2 _ (h20.rdD r_t2) (len_may BT.gB.may)).mono ?_
          rintro e v20 ⟨⟨A_ng2, n_ng2, c_ng2, rfl, r_ng2⟩, hb20⟩
          refine ⟨hb20, [.bool (negS d_t2).neg, .slice A_ng2 n_ng2 c_ng2, .int .i64 (negS d_t2).e], _, rfl, by kernel_rfl, by kernel_rfl, fun g20 => ?_⟩
          replace r_d := g20.rdD r_d; replace r_t1 := g20.rdD r_t1; replace r_t2 := g20.rdD r_t2; replace r_t3 := g20.rdD r_t3; replace r_ng1 := g20.rdD r_ng1; replace r_t4 := g20.rdD r_t4
          clear h20 hb20
          refine sat_call #[.agg #[.bool (negS d_t2).neg, .slice A_t4 n_t4 c_t4, .int .i64 (negS d_t2).e], .agg #[.bool (negS d_t2).neg, .slice A_ng2 n_ng2 c_ng2, .int .i64 (negS d_t2).e]] (by kernel_rfl) fun w21 h21 => ?_
          refine (sameD_any _ _ ((negS d_t2)) ((negS d_t2)) _ (h21.rdD r_t4) (h21.rdD r_ng2)).mono ?_
          rintro e v21 ⟨rfl, hb21⟩
          refine ⟨hb21, [.bool (sameD (negS d_t2) (negS d_t2))], _, rfl, by kernel_rfl, by kernel_rfl, fun g21 => ?_⟩
          replace r_d := g21.rdD r_d; replace r_t1 := g21.rdD r_t1; replace r_t2 := g21.rdD r_t2; replace r_t3 := g21.rdD r_t3; replace r_ng1 := g21.rdD r_ng1; replace r_t4 := g21.rdD r_t4; replace r_ng2 := g21.rdD r_ng2
          clear h21 hb21
          exact sat_ret (.bool (sameD (negS d_t2) (negS d_t2))) (by kernel_rfl) fun w9 h9 => congrArg Value.bool (sameD_self _)
        · refine sat_true (by kernel_rfl) ?_
          refine sat_call #[] (by kernel_rfl) fun w9 h9 => ?_
          refine (told3_any _ (h9.tab hT)).mono ?_
          rintro e v9 ⟨rfl, hb9⟩
          refine ⟨hb9, [.bool true], _, rfl, by kernel_rfl, by kernel_rfl, fun g9 => ?_⟩
          replace r_d := g9.rdD r_d; replace r_t1 := g9.rdD r_t1; replace r_t2 := g9.rdD r_t2
          clear h9 hb9
          exact sat_ret (.bool true) (by kernel_rfl) fun w9 h9 => rfl
      · refine sat_true (by kernel_rfl) ?_
        refine sat_call #[] (by kernel_rfl) fun w8 h8 => ?_
        refine (told3_any _ (h8.tab hT)).mono ?_
        rintro e v8 ⟨rfl, hb8⟩
        refine ⟨hb8, [.bool true], _, rfl, by kernel_rfl, by kernel_rfl, fun g8 => ?_⟩
        replace r_d := g8.rdD r_d; replace r_t1 := g8.rdD r_t1; replace r_t2 := g8.rdD r_t2
        clear h8 hb8
        exact sat_ret (.bool true) (by kernel_rfl) fun w9 h9 => rfl

def tr_roundNear : Sx.Tree := .chk [.lf 0, .lf 1, .lf 2] (.chk [.lf 3, .lf 4, .lf 5] (.prim (.cvt .u64) [.lf 6] (.prim (.bin .rem) [.lf 7, .num .u64 200] (.prim (.cvt .i64) [.lf 8] (.prim (.bin .add) [.num .i64 1, .lf 9] (.call 23 [.ag [.lf 0, .lf 1, .lf 2]] .one (.prim .not [.lf 11] (.ite (.lf 12) (.call 24 [] .one (.ret (.one (.lf 13)))) (.call 23 [.ag [.lf 3, .lf 4, .lf 5]] .one (.prim .not [.lf 13] (.ite (.lf 14) (.call 24 [] .one (.ret (.one (.lf 15)))) (.call 36 [.ag [.lf 0, .lf 1, .lf 2]] .one (.prim .not [.lf 15] (.ite (.lf 16) (.call 24 [] .one (.ret (.one (.lf 17)))) (.call 36 [.ag [.lf 3, .lf 4, .lf 5]] .one (.prim .not [.lf 17] (.ite (.lf 18) (.call 24 [] .one (.ret (.one (.lf 19)))) (.call 21 [.ag [.lf 3, .lf 4, .lf 5]] .one (.prim (.bin .gtr) [.lf 19, .lf 10] (.ite (.lf 20) (.call 24 [] .one (.ret (.one (.lf 21)))) (.call 25 [.ag [.lf 0, .lf 1, .lf 2], .one (.lf 10)] (.tup [(true, 3), (false, 1)]) (.chk [.lf 21, .lf 22, .lf 23] (.call 26 [.ag [.lf 0, .lf 1, .lf 2], .one (.lf 10)] (.tup [(true, 3), (false, 1)]) (.chk [.lf 25, .lf 26, .lf 27] (.prim (.bin .eql) [.lf 24, .num .i64 0] (.ite (.lf 29) (.call 22 [.ag [.lf 3, .lf 4, .lf 5], .ag [.lf 0, .lf 1, .lf 2]] .one (.prim (.bin .leq) [.lf 30, .num .i64 0] (.ite (.lf 31) (.call 22 [.ag [.lf 21, .lf 22, .lf 23], .ag [.lf 3, .lf 4, .lf 5]] .one (.prim (.bin .lss) [.lf 32, .num .i64 0] (.ite (.lf 33) (.ret (.one (.bit false))) (.call 24 [] .one (.ite (.lf 34) (.prim (.bin .neq) [.lf 28, .num .i64 0] (.ite (.lf 35) (.ret (.one (.bit true))) (.call 22 [.ag [.lf 3, .lf 4, .lf 5], .ag [.lf 0, .lf 1, .lf 2]] .one (.prim (.bin .lss) [.lf 36, .num .i64 0] (.ite (.lf 37) (.ret (.one (.bit true))) (.call 22 [.ag [.lf 3, .lf 4, .lf 5], .ag [.lf 25, .lf 26, .lf 27]] .one (.prim (.bin .geq) [.lf 38, .num .i64 0] (.ret (.one (.lf 39)))))))))) (.ret (.one (.bit false)))))))) (.call 24 [] .one (.ite (.lf 32) (.prim (.bin .neq) [.lf 28, .num .i64 0] (.ite (.lf 33) (.ret (.one (.bit true))) (.call 22 [.ag [.lf 3, .lf 4, .lf 5], .ag [.lf 0, .lf 1, .lf 2]] .one (.prim (.bin .lss) [.lf 34, .num .i64 0] (.ite (.lf 35) (.ret (.one (.bit true))) (.call 22 [.ag [.lf 3, .lf 4, .lf 5], .ag [.lf 25, .lf 26, .lf 27]] .one (.prim (.bin .geq) [.lf 36, .num .i64 0] (.ret (.one (.lf 37)))))))))) (.ret (.one (.bit false)))))))) (.call 24 [] .one (.ite (.lf 30) (.prim (.bin .neq) [.lf 28, .num .i64 0] (.ite (.lf 31) (.ret (.one (.bit true))) (.call 22 [.ag [.lf 3, .lf 4, .lf 5], .ag [.lf 0, .lf 1, .lf 2]] .one (.prim (.bin .lss) [.lf 32, .num .i64 0] (.ite (.lf 33) (.ret (.one (.bit true))) (.call 22 [.ag [.lf 3, .lf 4, .lf 5], .ag [.lf 25, .lf 26, .lf 27]] .one (.prim (.bin .geq) [.lf 34, .num .i64 0] (.ret (.one (.lf 35)))))))))) (.ret (.one (.bit false)))))))))))))))))))))))))))))))
theorem tr_roundNear_eq : Sx.treeAt Tryd.prog 10 [] [] [(true, 3), (true, 3), (false, 1)] = some tr_roundNear := by kernel_rfl

set_option maxRecDepth 100000 in
set_option maxHeartbeats 4000000 in
theorem roundNear_any (v_d : Value) (v_c : Value) (d : Dy) (c : Dy) (p : Int) (w : World) (h_d : RdD w v_d d) (h_c : RdD w v_c c) (hT : TabAt w) :
    Calls Tryd.prog 10 #[v_d, v_c, .int .i64 p] w fun e w' => e = .returned (.bool true) ∧ Below w.heap.size w w' := by
  have r_d := h_d
  obtain ⟨A_d, n_d, c_d, rfl, _⟩ := h_d
  have r_c := h_c
  obtain ⟨A_c, n_c, c_c, rfl, _⟩ := h_c
  refine (Sx.runA [] [] (ls := [.bool d.neg, .slice A_d n_d c_d, .int .i64 d.e, .bool c.neg, .slice A_c n_c c_c, .int .i64 c.e, .int .i64 p]) (shs := [(true, 3), (true, 3), (false, 1)]) (R := fun v w' => v = .bool true) tr_roundNear_eq rfl (by decide) (fun q h => by cases h) ?_).mono (fun e w' ⟨v, he, hv, hb⟩ => ⟨by rw [he, hv], hb⟩)
  unfold tr_roundNear
  refine sat_chkB (by kernel_rfl) ?_
  refine sat_chkB (by kernel_rfl) ?_
  refine sat_prim (v := .int .u64 (((p % 18446744073709551616).toNat : Nat) : Int)) (Eq.trans (by kernel_rfl) (pr_cvtu p)) ?_
  refine sat_prim (v := .int .u64 (((p % 18446744073709551616).toNat % 200 : Nat) : Int)) (Eq.trans (by kernel_rfl) (pr_rem (a := (p % 18446744073709551616).toNat) (b := 200) (by omega))) ?_
  refine sat_prim (v := .int .i64 (((p % 18446744073709551616).toNat % 200 : Nat) : Int)) (Eq.trans (by kernel_rfl) (pr_cvti (n := (p % 18446744073709551616).toNat % 200) (Nat.lt_of_lt_of_le (Nat.mod_lt _ (by omega)) (by omega)))) ?_
  obtain ⟨N1, e_N1, a_N1, b_N1⟩ : ∃ N, N = 1 + (p % 18446744073709551616).toNat % 200 ∧ 1 ≤ N ∧ N ≤ 200 := ⟨_, rfl, by omega, by have := Nat.mod_lt ((p % 18446744073709551616).toNat) (show 0 < 200 by omega); omega⟩
  refine sat_prim (v := .int .i64 ((N1 : Nat) : Int)) (Eq.trans (by kernel_rfl) (pr_one (m := (p % 18446744073709551616).toNat % 200) e_N1 (by omega))) ?_
  refine sat_call #[.agg #[.bool d.neg, .slice A_d n_d c_d, .int .i64 d.e]] (by kernel_rfl) fun w1 h1 => ?_
  refine (few2_any _ (d) _ (h1.rdD r_d)).mono ?_
  rintro e v1 ⟨rfl, hb1⟩
  refine ⟨hb1, [.bool (decide (d.m.length ≤ 70))], _, rfl, by kernel_rfl, by kernel_rfl, fun g1 => ?_⟩
  replace r_d := g1.rdD r_d; replace r_c := g1.rdD r_c
  clear h1 hb1
  refine sat_prim (v := .bool (!(decide (d.m.length ≤ 70)))) (by kernel_rfl) ?_
  cases hf : (decide (d.m.length ≤ 70))
  · refine sat_true (by kernel_rfl) ?_
    refine sat_call #[] (by kernel_rfl) fun w3 h3 => ?_
    refine (told3_any _ (h3.tab hT)).mono ?_
    rintro e v3 ⟨rfl, hb3⟩
    refine ⟨hb3, [.bool true], _, rfl, by kernel_rfl, by kernel_rfl, fun g3 => ?_⟩
    replace r_d := g3.rdD r_d; replace r_c := g3.rdD r_c
    clear h3 hb3
    exact sat_ret (.bool true) (by kernel_rfl) fun w9 h9 => rfl
  · refine sat_false (by kernel_rfl) ?_
    refine sat_call #[.agg #[.bool c.neg, .slice A_c n_c c_c, .int .i64 c.e]] (by kernel_rfl) fun w3 h3 => ?_
    refine (few2_any _ (c) _ (h3.rdD r_c)).mono ?_
    rintro e v3 ⟨rfl, hb3⟩
    refine ⟨hb3, [.bool (decide (c.m.length ≤ 70))], _, rfl, by kernel_rfl, by kernel_rfl, fun g3 => ?_⟩
    replace r_d := g3.rdD r_d; replace r_c := g3.rdD r_c
    clear h3 hb3
    refine sat_prim (v := .bool (!(decide (c.m.length ≤ 70)))) (by kernel_rfl) ?_
    cases hfc : (decide (c.m.length ≤ 70))
    · refine sat_true (by kernel_rfl) ?_
      refine sat_call #[] (by kernel_rfl) fun w5 h5 => ?_
      refine (told3_any _ (h5.tab hT)).mono ?_
      rintro e v5 ⟨rfl, hb5⟩
      refine ⟨hb5, [.bool true], _, rfl, by kernel_rfl, by kernel_rfl, fun g5 => ?_⟩
      replace r_d := g5.rdD r_d; replace r_c := g5.rdD r_c
      clear h5 hb5
      exact sat_ret (.bool true) (by kernel_rfl) fun w9 h9 => rfl
    · refine sat_false (by kernel_rfl) ?_
      refine sat_call #[.agg #[.bool d.neg, .slice A_d n_d c_d, .int .i64 d.e]] (by kernel_rfl) fun w5 h5 => ?_
      refine (mayD_any _ (d) _ (h5.rdD r_d)).mono ?_
      rintro e v5 ⟨rfl, hb5⟩
      refine ⟨hb5, [.bool (mayD d)], _, rfl, by kernel_rfl, by kernel_rfl, fun g5 => ?_⟩
      replace r_d := g5.rdD r_d; replace r_c := g5.rdD r_c
      clear h5 hb5
      refine sat_prim (v := .bool (!(mayD d))) (by kernel_rfl) ?_
      cases hm : (mayD d)
      · refine sat_true (by kernel_rfl) ?_
        refine sat_call #[] (by kernel_rfl) fun w7 h7 => ?_
        refine (told3_any _ (h7.tab hT)).mono ?_
        rintro e v7 ⟨rfl, hb7⟩
        refine ⟨hb7, [.bool true], _, rfl, by kernel_rfl, by kernel_rfl, fun g7 => ?_⟩
        replace r_d := g7.rdD r_d; replace r_c := g7.rdD r_c
        clear h7 hb7
        exact sat_ret (.bool true) (by kernel_rfl) fun w9 h9 => rfl
      · refine sat_false (by kernel_rfl) ?_
        refine sat_call #[.agg #[.bool c.neg, .slice A_c n_c c_c, .int .i64 c.e]] (by kernel_rfl) fun w7 h7 => ?_
        refine (mayD_any _ (c) _ (h7.rdD r_c)).mono ?_
        rintro e v7 ⟨rfl, hb7⟩
        refine ⟨hb7, [.bool (mayD c)], _, rfl, by kernel_rfl, by kernel_rfl, fun g7 => ?_⟩
        replace r_d := g7.rdD r_d; replace r_c := g7.rdD r_c
        clear h7 hb7
        refine sat_prim (v := .bool (!(mayD c))) (by kernel_rfl) ?_
        cases hmc : (mayD c)
        · refine sat_true (by kernel_rfl) ?_
          refine sat_call #[] (by kernel_rfl) fun w9 h9 => ?_
          refine (told3_any _ (h9.tab hT)).mono ?_
          rintro e v9 ⟨rfl, hb9⟩
          refine ⟨hb9, [.bool true], _, rfl, by kernel_rfl, by kernel_rfl, fun g9 => ?_⟩
          replace r_d := g9.rdD r_d; replace r_c := g9.rdD r_c
          clear h9 hb9
          exact sat_ret (.bool true) (by kernel_rfl) fun w9 h9 => rfl
        · refine sat_false (by kernel_rfl) ?_
          refine sat_call #[.agg #[.bool c.neg, .slice A_c n_c c_c, .int .i64 c.e]] (by kernel_rfl) fun w9 h9 => ?_
          refine (bitsD_any _ c _ (h9.rdD r_c)).mono ?_
          rintro e v9 ⟨rfl, hb9⟩
          refine ⟨hb9, [.int .i64 (bitsD c)], _, rfl, by kernel_rfl, by kernel_rfl, fun g9 => ?_⟩
          replace r_d := g9.rdD r_d; replace r_c := g9.rdD r_c
          clear h9 hb9
          refine sat_prim (v := .bool (decide ((((N1 : Nat) : Int) : Int) < (bitsD c)))) (by kernel_rfl) ?_
          cases hb : (decide ((((N1 : Nat) : Int) : Int) < (bitsD c)))
          · refine sat_false (by kernel_rfl) ?_
            refine sat_call #[.agg #[.bool d.neg, .slice A_d n_d c_d, .int .i64 d.e], .int .i64 ((N1 : Nat) : Int)] (by kernel_rfl) fun w11 h11 => ?_
            refine (downT _ d ((N1 : Nat) : Int) _ (h11.rdD r_d) (h11.tab hT)).mono ?_
            rintro e v11 ⟨⟨d_t1, x_t1, A_t1, n_t1, c_t1, h_t1, rfl, r_t1⟩, hb11⟩
            refine ⟨hb11, [.bool d_t1.neg, .slice A_t1 n_t1 c_t1, .int .i64 d_t1.e, .int .i64 x_t1], _, rfl, by kernel_rfl, by kernel_rfl, fun g11 => ?_⟩
            replace r_d := g11.rdD r_d; replace r_c := g11.rdD r_c
            clear h11 hb11
            refine sat_chkB (by kernel_rfl) ?_
            refine sat_call #[.agg #[.bool d.neg, .slice A_d n_d c_d, .int .i64 d.e], .int .i64 ((N1 : Nat) : Int)] (by kernel_rfl) fun w12 h12 => ?_
            refine (upT _ d ((N1 : Nat) : Int) _ (h12.rdD r_d) (h12.tab hT)).mono ?_
            rintro e v12 ⟨⟨d_t2, x_t2, A_t2, n_t2, c_t2, h_t2, rfl, r_t2⟩, hb12⟩
            refine ⟨hb12, [.bool d_t2.neg, .slice A_t2 n_t2 c_t2, .int .i64 d_t2.e, .int .i64 x_t2], _, rfl, by kernel_rfl, by kernel_rfl, fun g12 => ?_⟩
            replace r_d := g12.rdD r_d; replace r_c := g12.rdD r_c; replace r_t1 := g12.rdD r_t1
            clear h12 hb12
            refine sat_chkB (by kernel_rfl) ?_
            refine sat_prim (v := .bool ((x_t1 : Int) == 0)) (by kernel_rfl) ?_
            cases he_t1 : ((x_t1 : Int) == 0)
            · refine sat_false (by kernel_rfl) ?_
              refine sat_call #[] (by kernel_rfl) fun w14 h14 => ?_
              refine (told3_any _ (h14.tab hT)).mono ?_
              rintro e v14 ⟨rfl, hb14⟩
              refine ⟨hb14, [.bool true], _, rfl, by kernel_rfl, by kernel_rfl, fun g14 => ?_⟩
              replace r_d := g14.rdD r_d; replace r_c := g14.rdD r_c; replace r_t1 := g14.rdD r_t1; replace r_t2 := g14.rdD r_t2
              clear h14 hb14
              refine sat_true (by kernel_rfl) ?_
              refine sat_prim (v := .bool ((x_t2 : Int) != 0)) (by kernel_rfl) ?_
              cases hn_t2 : ((x_t2 : Int) != 0)
              · refine sat_false (by kernel_rfl) ?_
                refine sat_call #[.agg #[.bool c.neg, .slice A_c n_c c_c, .int .i64 c.e], .agg #[.bool d.neg, .slice A_d n_d c_d, .int .i64 d.e]] (by kernel_rfl) fun w16 h16 => ?_
                refine (cmpD_any _ _ (c) (d) _ (h16.rdD r_c) (h16.rdD r_d)).mono ?_
                rintro e v16 ⟨rfl, hb16⟩
                refine ⟨hb16, [.int .i64 (cmpD c d)], _, rfl, by kernel_rfl, by kernel_rfl, fun g16 => ?_⟩
                replace r_d := g16.rdD r_d; replace r_c := g16.rdD r_c; replace r_t1 := g16.rdD r_t1; replace r_t2 := g16.rdD r_t2
                clear h16 hb16
                refine sat_prim (v := .bool (decide (((cmpD c d) : Int) < 0))) (by kernel_rfl) ?_
                cases hlt : (decide (((cmpD c d) : Int) < 0))
                · refine sat_false (by kernel_rfl) ?_
                  refine sat_call #[.agg #[.bool c.neg, .slice A_c n_c c_c, .int .i64 c.e], .agg #[.bool d_t2.neg, .slice A_t2 n_t2 c_t2, .int .i64 d_t2.e]] (by kernel_rfl) fun w18 h18 => ?_
                  refine (cmpD_any _ _ (c) (d_t2) _ (h18.rdD r_c) (h18.rdD r_t2)).mono ?_
                  rintro e v18 ⟨rfl, hb18⟩
                  refine ⟨hb18, [.int .i64 (cmpD c d_t2)], _, rfl, by kernel_rfl, by kernel_rfl, fun g18 => ?_⟩
                  replace r_d := g18.rdD r_d; replace r_c := g18.rdD r_c; replace r_t1 := g18.rdD r_t1; replace r_t2 := g18.rdD r_t2
                  clear h18 hb18
                  refine sat_prim (v := .bool (decide ((0 : Int) ≤ (cmpD c d_t2)))) (by kernel_rfl) ?_
                  exact sat_ret (.bool (decide ((0 : Int) ≤ (cmpD c d_t2)))) (by kernel_rfl) fun w9 h9 => congrArg Value.bool (near_hi ⟨hm, r_d.lim⟩ ⟨hmc, r_c.lim⟩ (d0 h_t2 hn_t2) hb hlt)
                · refine sat_true (by kernel_rfl) ?_
                  exact sat_ret (.bool true) (by kernel_rfl) fun w9 h9 => rfl
              · refine sat_true (by kernel_rfl) ?_
                exact sat_ret (.bool true) (by kernel_rfl) fun w9 h9 => rfl
            · refine sat_true (by kernel_rfl) ?_
              refine sat_call #[.agg #[.bool c.neg, .slice A_c n_c c_c, .int .i64 c.e], .agg #[.bool d.neg, .slice A_d n_d c_d, .int .i64 d.e]] (by kernel_rfl) fun w14 h14 => ?_
              refine (cmpD_any _ _ (c) (d) _ (h14.rdD r_c) (h14.rdD r_d)).mono ?_
              rintro e v14 ⟨rfl, hb14⟩
              refine ⟨hb14, [.int .i64 (cmpD c d)], _, rfl, by kernel_rfl, by kernel_rfl, fun g14 => ?_⟩
              replace r_d := g14.rdD r_d; replace r_c := g14.rdD r_c; replace r_t1 := g14.rdD r_t1; replace r_t2 := g14.rdD r_t2
              clear h14 hb14
              refine sat_prim (v := .bool (decide (((cmpD c d) : Int) ≤ 0))) (by kernel_rfl) ?_
              cases hcd : (decide (((cmpD c d) : Int) ≤ 0))
              · refine sat_false (by kernel_rfl) ?_
                refine sat_call #[] (by kernel_rfl) fun w16 h16 => ?_
                refine (told3_any _ (h16.tab hT)).mono ?_
                rintro e v16 ⟨rfl, hb16⟩
                refine ⟨hb16, [.bool true], _, rfl, by kernel_rfl, by kernel_rfl, fun g16 => ?_⟩
                replace r_d := g16.rdD r_d; replace r_c := g16.rdD r_c; replace r_t1 := g16.rdD r_t1; replace r_t2 := g16.rdD r_t2
                clear h16 hb16
                refine sat_true (by kernel_rfl) ?_
                refine sat_prim (v := .bool ((x_t2 : Int) != 0)) (by kernel_rfl) ?_
                cases hn_t2 : ((x_t2 : Int) != 0)
                · refine sat_false (by kernel_rfl) ?_
                  refine sat_call #[.agg #[.bool c.neg, .slice A_c n_c c_c, .int .i64 c.e], .agg #[.bool d.neg, .slice A_d n_d c_d, .int .i64 d.e]] (by kernel_rfl) fun w18 h18 => ?_
                  refine (cmpD_any _ _ (c) (d) _ (h18.rdD r_c) (h18.rdD r_d)).mono ?_
                  rintro e v18 ⟨rfl, hb18⟩
                  refine ⟨hb18, [.int .i64 (cmpD c d)], _, rfl, by kernel_rfl, by kernel_rfl, fun g18 => ?_⟩
                  replace r_d := g18.rdD r_d; replace r_c := g18.rdD r_c; replace r_t1 := g18.rdD r_t1; replace r_t2 := g18.rdD r_t2
                  clear h18 hb18
                  refine sat_prim (v := .bool (decide (((cmpD c d) : Int) < 0))) (by kernel_rfl) ?_
                  cases hlt : (decide (((cmpD c d) : Int) < 0))
                  · refine sat_false (by kernel_rfl) ?_
                    refine sat_call #[.agg #[.bool c.neg, .slice A_c n_c c_c, .int .i64 c.e], .agg #[.bool d_t2.neg, .slice A_t2 n_t2 c_t2, .int .i64 d_t2.e]] (by kernel_rfl) fun w20 h20 => ?_
                    refine (cmpD_any _ _ (c) (d_t2) _ (h20.rdD r_c) (h20.rdD r_t2)).mono ?_
                    rintro e v20 ⟨rfl, hb20⟩
                    refine ⟨hb20, [.int .i64 (cmpD c d_t2)], _, rfl, by kernel_rfl, by kernel_rfl, fun g20 => ?_⟩
                    replace r_d := g20.rdD r_d; replace r_c := g20.rdD r_c; replace r_t1 := g20.rdD r_t1; replace r_t2 := g20.rdD r_t2
                    clear h20 hb20
                    refine sat_prim (v := .bool (decide ((0 : Int) ≤ (cmpD c d_t2)))) (by kernel_rfl) ?_
                    exact sat_ret (.bool (decide ((0 : Int) ≤ (cmpD c d_t2)))) (by kernel_rfl) fun w9 h9 => congrArg Value.bool (near_hi ⟨hm, r_d.lim⟩ ⟨hmc, r_c.lim⟩ (d0 h_t2 hn_t2) hb hlt)
                  · refine sat_true (by kernel_rfl) ?_
                    exact sat_ret (.bool true) (by kernel_rfl) fun w9 h9 => rfl
                · refine sat_true (by kernel_rfl) ?_
                  exact sat_ret (.bool true) (by kernel_rfl) fun w9 h9 => rfl
              · refine sat_true (by kernel_rfl) ?_
                refine sat_call #[.agg #[.bool d_t1.neg, .slice A_t1 n_t1 c_t1, .int .i64 d_t1.e], .agg #[.bool c.neg, .slice A_c n_c c_c, .int .i64 c.e]] (by kernel_rfl) fun w16 h16 => ?_
                refine (cmpD_any _ _ (d_t1) (c) _ (h16.rdD r_t1) (h16.rdD r_c)).mono ?_
                rintro e v16 ⟨rfl, hb16⟩
                refine ⟨hb16, [.int .i64 (cmpD d_t1 c)], _, rfl, by kernel_rfl, by kernel_rfl, fun g16 => ?_⟩
                replace r_d := g16.rdD r_d; replace r_c := g16.rdD r_c; replace r_t1 := g16.rdD r_t1; replace r_t2 := g16.rdD r_t2
                clear h16 hb16
                refine sat_prim (v := .bool (decide (((cmpD d_t1 c) : Int) < 0))) (by kernel_rfl) ?_
                refine sat_falseP (b := (decide (((cmpD d_t1 c) : Int) < 0))) (by kernel_rfl) (near_lo ⟨hm, r_d.lim⟩ ⟨hmc, r_c.lim⟩ (d0' h_t1 he_t1) hb hcd) ?_
                refine sat_call #[] (by kernel_rfl) fun w17 h17 => ?_
                refine (told3_any _ (h17.tab hT)).mono ?_
                rintro e v17 ⟨rfl, hb17⟩
                refine ⟨hb17, [.bool true], _, rfl, by kernel_rfl, by kernel_rfl, fun g17 => ?_⟩
                replace r_d := g17.rdD r_d; replace r_c := g17.rdD r_c; replace r_t1 := g17.rdD r_t1; replace r_t2 := g17.rdD r_t2
                clear h17 hb17
                refine sat_true (by kernel_rfl) ?_
                refine sat_prim (v := .bool ((x_t2 : Int) != 0)) (by kernel_rfl) ?_
                cases hn_t2 : ((x_t2 : Int) != 0)
                · refine sat_false (by kernel_rfl) ?_
                  refine sat_call #[.agg #[.bool c.neg, .slice A_c n_c c_c, .int .i64 c.e], .agg #[.bool d.neg, .slice A_d n_d c_d, .int .i64 d.e]] (by kernel_rfl) fun w19 h19 => ?_
                  refine (cmpD_any _ _ (c) (d) _ (h19.rdD r_c) (h19.rdD r_d)).mono ?_
                  rintro e v19 ⟨rfl, hb19⟩
                  refine ⟨hb19, [.int .i64 (cmpD c d)], _, rfl, by kernel_rfl, by kernel_rfl, fun g19 => ?_⟩
                  replace r_d := g19.rdD r_d; replace r_c := g19.rdD r_c; replace r_t1 := g19.rdD r_t1; replace r_t2 := g19.rdD r_t2
                  clear h19 hb19
                  refine sat_prim (v := .bool (decide (((cmpD c d) : Int) < 0))) (by kernel_rfl) ?_
                  cases hlt : (decide (((cmpD c d) : Int) < 0))
                  · refine sat_false (by kernel_rfl) ?_
                    refine sat_call #[.agg #[.bool c.neg, .slice A_c n_c c_c, .int .i64 c.e], .agg #[.bool d_t2.neg, .slice A_t2 n_t2 c_t2, .int .i64 d_t2.e]] (by kernel_rfl) fun w21 h21 => ?_
                    refine (cmpD_any _ _ (c) (d_t2) _ (h21.rdD r_c) (h21.rdD r_t2)).mono ?_
                    rintro e v21 ⟨rfl, hb21⟩
                    refine ⟨hb21, [.int .i64 (cmpD c d_t2)], _, rfl, by kernel_rfl, by kernel_rfl, fun g21 => ?_⟩
                    replace r_d := g21.rdD r_d; replace r_c := g21.rdD r_c; replace r_t1 := g21.rdD r_t1; replace r_t2 := g21.rdD r_t2
                    clear h21 hb21
                    refine sat_prim (v := .bool (decide ((0 : Int) ≤ (cmpD c d_t2)))) (by kernel_rfl) ?_
                    exact sat_ret (.bool (decide ((0 : Int) ≤ (cmpD c d_t2)))) (by kernel_rfl) fun w9 h9 => congrArg Value.bool (near_hi ⟨hm, r_d.lim⟩ ⟨hmc, r_c.lim⟩ (d0 h_t2 hn_t2) hb hlt)
                  · refine sat_true (by kernel_rfl) ?_
                    exact sat_ret (.bool true) (by kernel_rfl) fun w9 h9 => rfl
                · refine sat_true (by kernel_rfl) ?_
                  exact sat_ret (.bool true) (by kernel_rfl) fun w9 h9 => rfl
          · refine sat_true (by kernel_rfl) ?_
            refine sat_call #[] (by kernel_rfl) fun w11 h11 => ?_
            refine (told3_any _ (h11.tab hT)).mono ?_
            rintro e v11 ⟨rfl, hb11⟩
            refine ⟨hb11, [.bool true], _, rfl, by kernel_rfl, by kernel_rfl, fun g11 => ?_⟩
            replace r_d := g11.rdD r_d; replace r_c := g11.rdD r_c
            clear h11 hb11
            exact sat_ret (.bool true) (by kernel_rfl) fun w9 h9 => rfl

def tr_roundTwice : Sx.Tree := .chk [.lf 0, .lf 1, .lf 2] (.prim (.cvt .u64) [.lf 3] (.prim (.bin .rem) [.lf 6, .num .u64 400] (.prim (.cvt .i64) [.lf 7] (.prim (.bin .add) [.num .i64 1, .lf 8] (.prim (.cvt .u64) [.lf 4] (.prim (.cvt .u64) [.lf 9] (.prim (.bin .rem) [.lf 10, .lf 11] (.prim (.cvt .i64) [.lf 12] (.prim (.bin .add) [.num .i64 1, .lf 13] (.prim .len [.lf 1] (.prim (.bin .gtr) [.lf 15, .num .i64 10] (.ite (.lf 16) (.call 24 [] .one (.ret (.one (.lf 17)))) (.call 36 [.ag [.lf 0, .lf 1, .lf 2]] .one (.prim .not [.lf 17] (.ite (.lf 18) (.call 24 [] .one (.ret (.one (.lf 19)))) (.prim (.bin .gtr) [.lf 2, .num .i64 1000] (.ite (.lf 19) (.call 24 [] .one (.ret (.one (.lf 20)))) (.prim (.bin .lss) [.lf 2, .num .i64 ((-1000))] (.ite (.lf 20) (.call 24 [] .one (.ret (.one (.lf 21)))) (.call 25 [.ag [.lf 0, .lf 1, .lf 2], .one (.lf 9)] (.tup [(true, 3), (false, 1)]) (.chk [.lf 21, .lf 22, .lf 23] (.call 25 [.ag [.lf 21, .lf 22, .lf 23], .one (.lf 14)] (.tup [(true, 3), (false, 1)]) (.chk [.lf 25, .lf 26, .lf 27] (.call 25 [.ag [.lf 0, .lf 1, .lf 2], .one (.lf 14)] (.tup [(true, 3), (false, 1)]) (.chk [.lf 29, .lf 30, .lf 31] (.ite (.lf 5) (.call 26 [.ag [.lf 0, .lf 1, .lf 2], .one (.lf 9)] (.tup [(true, 3), (false, 1)]) (.chk [.lf 33, .lf 34, .lf 35] (.call 26 [.ag [.lf 33, .lf 34, .lf 35], .one (.lf 14)] (.tup [(true, 3), (false, 1)]) (.chk [.lf 37, .lf 38, .lf 39] (.call 26 [.ag [.lf 0, .lf 1, .lf 2], .one (.lf 14)] (.tup [(true, 3), (false, 1)]) (.chk [.lf 41, .lf 42, .lf 43] (.call 24 [] .one (.ite (.lf 45) (.prim (.bin .add) [.lf 36, .lf 40] (.prim (.bin .add) [.lf 46, .lf 44] (.prim (.bin .eql) [.lf 47, .num .i64 0] (.ite (.lf 48) (.call 18 [.ag [.lf 37, .lf 38, .lf 39], .ag [.lf 41, .lf 42, .lf 43]] .one (.ret (.one (.lf 49)))) (.ret (.one (.bit false))))))) (.ret (.one (.bit false))))))))))) (.call 24 [] .one (.ite (.lf 33) (.prim (.bin .add) [.lf 24, .lf 28] (.prim (.bin .add) [.lf 34, .lf 32] (.prim (.bin .eql) [.lf 35, .num .i64 0] (.ite (.lf 36) (.call 18 [.ag [.lf 25, .lf 26, .lf 27], .ag [.lf 29, .lf 30, .lf 31]] .one (.ret (.one (.lf 37)))) (.ret (.one (.bit false))))))) (.ret (.one (.bit false)))))))))))))))))))))))))))))))
theorem tr_roundTwice_eq : Sx.treeAt Tryd.prog 8 [] [] [(true, 3), (false, 1), (false, 1), (false, 1)] = some tr_roundTwice := by kernel_rfl

set_option maxRecDepth 100000 in
set_option maxHeartbeats 4000000 in
theorem roundTwice_any (v_d : Value) (d : Dy) (p : Int) (q : Int) (up : Bool) (w : World) (h_d : RdD w v_d d) (hT : TabAt w) :
    Calls Tryd.prog 8 #[v_d, .int .i64 p, .int .i64 q, .bool up] w fun e w' => e = .returned (.bool true) ∧ Below w.heap.size w w' := by
  have r_d := h_d
  obtain ⟨A_d, n_d, c_d, rfl, _⟩ := h_d
  refine (Sx.runA [] [] (ls := [.bool d.neg, .slice A_d n_d c_d, .int .i64 d.e, .int .i64 p, .int .i64 q, .bool up]) (shs := [(true, 3), (false, 1), (false, 1), (false, 1)]) (R := fun v w' => v = .bool true) tr_roundTwice_eq rfl (by decide) (fun q h => by cases h) ?_).mono (fun e w' ⟨v, he, hv, hb⟩ => ⟨by rw [he, hv], hb⟩)
  unfold tr_roundTwice
  refine sat_chkB (by kernel_rfl) ?_
  refine sat_prim (v := .int .u64 (((p % 18446744073709551616).toNat : Nat) : Int)) (Eq.trans (by kernel_rfl) (pr_cvtu p)) ?_
  refine sat_prim (v := .int .u64 (((p % 18446744073709551616).toNat % 400 : Nat) : Int)) (Eq.trans (by kernel_rfl) (pr_rem (a := (p % 18446744073709551616).toNat) (b := 400) (by omega))) ?_
  refine sat_prim (v := .int .i64 (((p % 18446744073709551616).toNat % 400 : Nat) : Int)) (Eq.trans (by kernel_rfl) (pr_cvti (n := (p % 18446744073709551616).toNat % 400) (Nat.lt_of_lt_of_le (Nat.mod_lt _ (by omega)) (by omega)))) ?_
  obtain ⟨N1, e_N1, a_N1, b_N1⟩ : ∃ N, N = 1 + (p % 18446744073709551616).toNat % 400 ∧ 1 ≤ N ∧ N ≤ 400 := ⟨_, rfl, by omega, by have := Nat.mod_lt ((p % 18446744073709551616).toNat) (show 0 < 400 by omega); omega⟩
  refine sat_prim (v := .int .i64 ((N1 : Nat) : Int)) (Eq.trans (by kernel_rfl) (pr_one (m := (p % 18446744073709551616).toNat % 400) e_N1 (by omega))) ?_
  refine sat_prim (v := .int .u64 (((q % 18446744073709551616).toNat : Nat) : Int)) (Eq.trans (by kernel_rfl) (pr_cvtu q)) ?_
  refine sat_prim (v := .int .u64 ((N1 : Nat) : Int)) (Eq.trans (by kernel_rfl) (pr_cvtn (n := N1) (by omega))) ?_
  refine sat_prim (v := .int .u64 (((q % 18446744073709551616).toNat % N1 : Nat) : Int)) (Eq.trans (by kernel_rfl) (pr_rem (a := (q % 18446744073709551616).toNat) (b := N1) (by omega))) ?_
  refine sat_prim (v := .int .i64 (((q % 18446744073709551616).toNat % N1 : Nat) : Int)) (Eq.trans (by kernel_rfl) (pr_cvti (n := (q % 18446744073709551616).toNat % N1) (Nat.lt_of_lt_of_le (Nat.mod_lt _ (by omega)) (by omega)))) ?_
  obtain ⟨N2, e_N2, a_N2, b_N2⟩ : ∃ N, N = 1 + (q % 18446744073709551616).toNat % N1 ∧ 1 ≤ N ∧ N ≤ N1 := ⟨_, rfl, by omega, by have := Nat.mod_lt ((q % 18446744073709551616).toNat) (show 0 < N1 by omega); omega⟩
  refine sat_prim (v := .int .i64 ((N2 : Nat) : Int)) (Eq.trans (by kernel_rfl) (pr_one (m := (q % 18446744073709551616).toNat % N1) e_N2 (by omega))) ?_
  refine sat_prim (v := .int .i64 ((n_d : Nat) : Int)) (by kernel_rfl) ?_
  refine sat_prim (v := .bool (decide ((10 : Int) < ((n_d : Nat) : Int)))) (by kernel_rfl) ?_
  cases h10 : (decide ((10 : Int) < ((n_d : Nat) : Int)))
  · refine sat_false (by kernel_rfl) ?_
    refine sat_call #[.agg #[.bool d.neg, .slice A_d n_d c_d, .int .i64 d.e]] (by kernel_rfl) fun w2 h2 => ?_
    refine (mayD_any _ (d) _ (h2.rdD r_d)).mono ?_
    rintro e v2 ⟨rfl, hb2⟩
    refine ⟨hb2, [.bool (mayD d)], _, rfl, by kernel_rfl, by kernel_rfl, fun g2 => ?_⟩
    replace r_d := g2.rdD r_d
    clear h2 hb2
    refine sat_prim (v := .bool (!(mayD d))) (by kernel_rfl) ?_
    cases hm : (mayD d)
    · refine sat_true (by kernel_rfl) ?_
      refine sat_call #[] (by kernel_rfl) fun w4 h4 => ?_
      refine (told3_any _ (h4.tab hT)).mono ?_
      rintro e v4 ⟨rfl, hb4⟩
      refine ⟨hb4, [.bool true], _, rfl, by kernel_rfl, by kernel_rfl, fun g4 => ?_⟩
      replace r_d := g4.rdD r_d
      clear h4 hb4
      exact sat_ret (.bool true) (by kernel_rfl) fun w9 h9 => rfl
    · refine sat_false (by kernel_rfl) ?_
      refine sat_prim (v := .bool (decide ((1000 : Int) < d.e))) (by kernel_rfl) ?_
      cases hhi : (decide ((1000 : Int) < d.e))
      · refine sat_false (by kernel_rfl) ?_
        refine sat_prim (v := .bool (decide ((d.e : Int) < (-1000)))) (by kernel_rfl) ?_
        cases hlo : (decide ((d.e : Int) < (-1000)))
        · refine sat_false (by kernel_rfl) ?_
          obtain ⟨A_l, B_l, k_l1, k_l2, k_l3⟩ := twice_ok false r_d.lim hm (by have := r_d.length.1; have := nlt h10; omega) (nlt hlo) (nlt hhi) a_N1 b_N1 a_N2 b_N2
          refine sat_call #[.agg #[.bool d.neg, .slice A_d n_d c_d, .int .i64 d.e], .int .i64 ((N1 : Nat) : Int)] (by kernel_rfl) fun w6 h6 => ?_
          refine (downT _ d ((N1 : Nat) : Int) _ (h6.rdD r_d) (h6.tab hT)).mono ?_
          rintro e v6 ⟨⟨d_t1, x_t1, A_t1, n_t1, c_t1, h_t1, rfl, r_t1⟩, hb6⟩
          obtain ⟨rfl, rfl⟩ := dx2r h_t1 k_l1
          refine ⟨hb6, [.bool A_l.neg, .slice A_t1 n_t1 c_t1, .int .i64 A_l.e, .int .i64 0], _, rfl, by kernel_rfl, by kernel_rfl, fun g6 => ?_⟩
          replace r_d := g6.rdD r_d
          clear h6 hb6
          refine sat_chkB (by kernel_rfl) ?_
          refine sat_call #[.agg #[.bool A_l.neg, .slice A_t1 n_t1 c_t1, .int .i64 A_l.e], .int .i64 ((N2 : Nat) : Int)] (by kernel_rfl) fun w7 h7 => ?_
          refine (downT _ A_l ((N2 : Nat) : Int) _ (h7.rdD r_t1) (h7.tab hT)).mono ?_
          rintro e v7 ⟨⟨d_t2, x_t2, A_t2, n_t2, c_t2, h_t2, rfl, r_t2⟩, hb7⟩
          obtain ⟨rfl, rfl⟩ := dx2r h_t2 k_l2
          refine ⟨hb7, [.bool B_l.neg, .slice A_t2 n_t2 c_t2, .int .i64 B_l.e, .int .i64 0], _, rfl, by kernel_rfl, by kernel_rfl, fun g7 => ?_⟩
          replace r_d := g7.rdD r_d; replace r_t1 := g7.rdD r_t1
          clear h7 hb7
          refine sat_chkB (by kernel_rfl) ?_
          refine sat_call #[.agg #[.bool d.neg, .slice A_d n_d c_d, .int .i64 d.e], .int .i64 ((N2 : Nat) : Int)] (by kernel_rfl) fun w8 h8 => ?_
          refine (downT _ d ((N2 : Nat) : Int) _ (h8.rdD r_d) (h8.tab hT)).mono ?_
          rintro e v8 ⟨⟨d_t3, x_t3, A_t3, n_t3, c_t3, h_t3, rfl, r_t3⟩, hb8⟩
          obtain ⟨rfl, rfl⟩ := dx2r h_t3 k_l3
          refine ⟨hb8, [.bool B_l.neg, .slice A_t3 n_t3 c_t3, .int .i64 B_l.e, .int .i64 0], _, rfl, by kernel_rfl, by kernel_rfl, fun g8 => ?_⟩
          replace r_d := g8.rdD r_d; replace r_t1 := g8.rdD r_t1; replace r_t2 := g8.rdD r_t2
          clear h8 hb8
          refine sat_chkB (by kernel_rfl) ?_
          cases hup : (up)
          · refine sat_false (by kernel_rfl) ?_
            refine sat_call #[] (by kernel_rfl) fun w10 h10 => ?_
            refine (told3_any _ (h10.tab hT)).mono ?_
            rintro e v10 ⟨rfl, hb10⟩
            refine ⟨hb10, [.bool true], _, rfl, by kernel_rfl, by kernel_rfl, fun g10 => ?_⟩
            replace r_d := g10.rdD r_d; replace r_t1 := g10.rdD r_t1; replace r_t2 := g10.rdD r_t2; replace r_t3 := g10.rdD r_t3
            clear h10 hb10
            refine sat_true (by kernel_rfl) ?_
            refine sat_prim (v := .int .i64 0) (by kernel_rfl) ?_
            refine sat_prim (v := .int .i64 0) (by kernel_rfl) ?_
            refine sat_prim (v := .bool true) (by kernel_rfl) ?_
            refine sat_true (by kernel_rfl) ?_
            refine sat_call #[.agg #[.bool B_l.neg, .slice A_t2 n_t2 c_t2, .int .i64 B_l.e], .agg #[.bool B_l.neg, .slice A_t3 n_t3 c_t3, .int .i64 B_l.e]] (by kernel_rfl) fun w11 h11 => ?_
            refine (sameD_any _ _ (B_l) (B_l) _ (h11.rdD r_t2) (h11.rdD r_t3)).mono ?_
            rintro e v11 ⟨rfl, hb11⟩
            refine ⟨hb11, [.bool (sameD B_l B_l)], _, rfl, by kernel_rfl, by kernel_rfl, fun g11 => ?_⟩
            replace r_d := g11.rdD r_d; replace r_t1 := g11.rdD r_t1; replace r_t2 := g11.rdD r_t2; replace r_t3 := g11.rdD r_t3
            clear h11 hb11
            exact sat_ret (.bool (sameD B_l B_l)) (by kernel_rfl) fun w9 h9 => congrArg Value.bool (sameD_self _)
          · refine sat_true (by kernel_rfl) ?_
            obtain ⟨A_u, B_u, k_u1, k_u2, k_u3⟩ := twice_ok true r_d.lim hm (by have := r_d.length.1; have := nlt h10; omega) (nlt hlo) (nlt hhi) a_N1 b_N1 a_N2 b_N2
            refine sat_call #[.agg #[.bool d.neg, .slice A_d n_d c_d, .int .i64 d.e], .int .i64 ((N1 : Nat) : Int)] (by kernel_rfl) fun w10 h10 => ?_
            refine (upT _ d ((N1 : Nat) : Int) _ (h10.rdD r_d) (h10.tab hT)).mono ?_
            rintro e v10 ⟨⟨d_t4, x_t4, A_t4, n_t4, c_t4, h_t4, rfl, r_t4⟩, hb10⟩
            obtain ⟨rfl, rfl⟩ := dx2r h_t4 k_u1
            refine ⟨hb10, [.bool A_u.neg, .slice A_t4 n_t4 c_t4, .int .i64 A_u.e, .int .i64 0], _, rfl, by kernel_rfl, by kernel_rfl, fun g10 => ?_⟩
            replace r_d := g10.rdD r_d; replace r_t1 := g10.rdD r_t1; replace r_t2 := g10.rdD r_t2; replace r_t3 := g10.rdD r_t3
            clear h10 hb10
            refine sat_chkB (by kernel_rfl) ?_
            refine sat_call #[.agg #[.bool A_u.neg, .slice A_t4 n_t4 c_t4, .int .i64 A_u.e], .int .i64 ((N2 : Nat) : Int)] (by kernel_rfl) fun w11 h11 => ?_
            refine (upT _ A_u ((N2 : Nat) : Int) _ (h11.rdD r_t4) (h11.tab hT)).mono ?_
            rintro e v11 ⟨⟨d_t5, x_t5, A_t5, n_t5, c_t5, h_t5, rfl, r_t5⟩, hb11⟩
            obtain ⟨rfl, rfl⟩ := dx2r h_t5 k_u2
            refine ⟨hb11, [.bool B_u.neg, .slice A_t5 n_t5 c_t5, .int .i64 B_u.e, .int .i64 0], _, rfl, by kernel_rfl, by kernel_rfl, fun g11 => ?_⟩
            replace r_d := g11.rdD r_d; replace r_t1 := g11.rdD r_t1; replace r_t2 := g11.rdD r_t2; replace r_t3 := g11.rdD r_t3; replace r_t4 := g11.rdD r_t4
            clear h11 hb11
            refine sat_chkB (by kernel_rfl) ?_
            refine sat_call #[.agg #[.bool d.neg, .slice A_d n_d c_d, .int .i64 d.e], .int .i64 ((N2 : Nat) : Int)] (by kernel_rfl) fun w12 h12 => ?_
            refine (upT _ d ((N2 : Nat) : Int) _ (h12.rdD r_d) (h12.tab hT)).mono ?_
            rintro e v12 ⟨⟨d_t6, x_t6, A_t6, n_t6, c_t6, h_t6, rfl, r_t6⟩, hb12⟩
            obtain ⟨rfl, rfl⟩ := dx2r h_t6 k_u3
            refine ⟨hb12, [.bool B_u.neg, .slice A_t6 n_t6 c_t6, .int .i64 B_u.e, .int .i64 0], _, rfl, by kernel_rfl, by kernel_rfl, fun g12 => ?_⟩
            replace r_d := g12.rdD r_d; replace r_t1 := g12.rdD r_t1; replace r_t2 := g12.rdD r_t2; replace r_t3 := g12.rdD r_t3; replace r_t4 := g12.rdD r_t4; replace r_t5 := g12.rdD r_t5
            clear h12 hb12
            refine sat_chkB (by kernel_rfl) ?_
            refine sat_call #[] (by kernel_rfl) fun w13 h13 => ?_
            refine (told3_any _ (h13.tab hT)).mono ?_
            rintro e v13 ⟨rfl, hb13⟩
            refine ⟨hb13, [.bool true], _, rfl, by kernel_rfl, by kernel_rfl, fun g13 => ?_⟩
            replace r_d := g13.rdD r_d; replace r_t1 := g13.rdD r_t1; replace r_t2 := g13.rdD r_t2; replace r_t3 := g13.rdD r_t3; replace r_t4 := g13.rdD r_t4; replace r_t5 := g13.rdD r_t5; replace r_t6 := g13.rdD r_t6
            clear h13 hb13
            refine sat_true (by kernel_rfl) ?_
            refine sat_prim (v := .int .i64 0) (by kernel_rfl) ?_
            refine sat_prim (v := .int .i64 0) (by kernel_rfl) ?_
            refine sat_prim (v := .bool true) (by kernel_rfl) ?_
            refine sat_true (by kernel_rfl) ?_
            refine sat_call #[.agg #[.bool B_u.neg, .slice A_t5 n_t5 c_t5, .int .i64 B_u.e], .agg #[.bool B_u.neg, .slice A_t6 n_t6 c_t6, .int .i64 B_u.e]] (by kernel_rfl) fun w14 h14 => ?_
            refine (sameD_any _ _ (B_u) (B_u) _ (h14.rdD r_t5) (h14.rdD r_t6)).mono ?_
            rintro e v14 ⟨rfl, hb14⟩
            refine ⟨hb14, [.bool (sameD B_u B_u)], _, rfl, by kernel_rfl, by kernel_rfl, fun g14 => ?_⟩
            replace r_d := g14.rdD r_d; replace r_t1 := g14.rdD r_t1; replace r_t2 := g14.rdD r_t2; replace r_t3 := g14.rdD r_t3; replace r_t4 := g14.rdD r_t4; replace r_t5 := g14.rdD r_t5; replace r_t6 := g14.rdD r_t6
            clear h14 hb14
            exact sat_ret (.bool (sameD B_u B_u)) (by kernel_rfl) fun w9 h9 => congrArg Value.bool (sameD_self _)
        · refine sat_true (by kernel_rfl) ?_
          refine sat_call #[] (by kernel_rfl) fun w6 h6 => ?_
          refine (told3_any _ (h6.tab hT)).mono ?_
          rintro e v6 ⟨rfl, hb6⟩
          refine ⟨hb6, [.bool true], _, rfl, by kernel_rfl, by kernel_rfl, fun g6 => ?_⟩
          replace r_d := g6.rdD r_d
          clear h6 hb6
          exact sat_ret (.bool true) (by kernel_rfl) fun w9 h9 => rfl
      · refine sat_true (by kernel_rfl) ?_
        refine sat_call #[] (by kernel_rfl) fun w5 h5 => ?_
        refine (told3_any _ (h5.tab hT)).mono ?_
        rintro e v5 ⟨rfl, hb5⟩
        refine ⟨hb5, [.bool true], _, rfl, by kernel_rfl, by kernel_rfl, fun g5 => ?_⟩
        replace r_d := g5.rdD r_d
        clear h5 hb5
        exact sat_ret (.bool true) (by kernel_rfl) fun w9 h9 => rfl
  · refine sat_true (by kernel_rfl) ?_
    refine sat_call #[] (by kernel_rfl) fun w2 h2 => ?_
    refine (told3_any _ (h2.tab hT)).mono ?_
    rintro e v2 ⟨rfl, hb2⟩
    refine ⟨hb2, [.bool true], _, rfl, by kernel_rfl, by kernel_rfl, fun g2 => ?_⟩
    replace r_d := g2.rdD r_d
    clear h2 hb2
    exact sat_ret (.bool true) (by kernel_rfl) fun w9 h9 => rfl

def tr_roundExact : Sx.Tree := .chk [.lf 0, .lf 1, .lf 2] (.chk [.lf 3, .lf 4, .lf 5] (.prim .len [.lf 1] (.prim (.bin .gtr) [.lf 7, .num .i64 3] (.ite (.lf 8) (.call 24 [] .one (.ret (.one (.lf 9)))) (.prim .len [.lf 4] (.prim (.bin .gtr) [.lf 9, .num .i64 3] (.ite (.lf 10) (.call 24 [] .one (.ret (.one (.lf 11)))) (.call 36 [.ag [.lf 0, .lf 1, .lf 2]] .one (.prim .not [.lf 11] (.ite (.lf 12) (.call 24 [] .one (.ret (.one (.lf 13)))) (.call 36 [.ag [.lf 3, .lf 4, .lf 5]] .one (.prim .not [.lf 13] (.ite (.lf 14) (.call 24 [] .one (.ret (.one (.lf 15)))) (.call 37 [.ag [.lf 0, .lf 1, .lf 2]] .one (.prim (.bin .eql) [.lf 15, .num .i64 0] (.ite (.lf 16) (.call 24 [] .one (.ret (.one (.lf 17)))) (.call 37 [.ag [.lf 3, .lf 4, .lf 5]] .one (.prim (.bin .eql) [.lf 17, .num .i64 0] (.ite (.lf 18) (.call 24 [] .one (.ret (.one (.lf 19)))) (.prim (.bin .gtr) [.lf 2, .num .i64 1000] (.ite (.lf 19) (.call 24 [] .one (.ret (.one (.lf 20)))) (.prim (.bin .lss) [.lf 2, .num .i64 ((-1000))] (.ite (.lf 20) (.call 24 [] .one (.ret (.one (.lf 21)))) (.prim (.bin .gtr) [.lf 5, .num .i64 1000] (.ite (.lf 21) (.call 24 [] .one (.ret (.one (.lf 22)))) (.prim (.bin .lss) [.lf 5, .num .i64 ((-1000))] (.ite (.lf 22) (.call 24 [] .one (.ret (.one (.lf 23)))) (.call 38 [.ag [.lf 0, .lf 1, .lf 2], .ag [.lf 3, .lf 4, .lf 5]] (.tup [(true, 3), (false, 1)]) (.chk [.lf 23, .lf 24, .lf 25] (.call 32 [.ag [.lf 23, .lf 24, .lf 25], .ag [.lf 3, .lf 4, .lf 5], .one (.num .i64 200), .one (.lf 6)] (.tup [(true, 3), (false, 1)]) (.chk [.lf 27, .lf 28, .lf 29] (.call 38 [.ag [.lf 0, .lf 1, .lf 2], .ag [.lf 0, .lf 1, .lf 2]] (.tup [(true, 3), (false, 1)]) (.chk [.lf 31, .lf 32, .lf 33] (.call 34 [.ag [.lf 31, .lf 32, .lf 33], .one (.num .i64 200), .one (.lf 6)] (.tup [(true, 3), (false, 1)]) (.chk [.lf 35, .lf 36, .lf 37] (.chk [.lf 0, .lf 1, .lf 2] (.call 24 [] .one (.ite (.lf 39) (.prim (.bin .add) [.lf 26, .lf 30] (.prim (.bin .add) [.lf 40, .lf 34] (.prim (.bin .add) [.lf 41, .lf 38] (.prim (.bin .eql) [.lf 42, .num .i64 0] (.ite (.lf 43) (.call 18 [.ag [.lf 27, .lf 28, .lf 29], .ag [.lf 0, .lf 1, .lf 2]] .one (.ite (.lf 44) (.call 18 [.ag [.lf 35, .lf 36, .lf 37], .ag [.bit false, .lf 1, .lf 2]] .one (.ret (.one (.lf 45)))) (.ret (.one (.bit false))))) (.ret (.one (.bit false)))))))) (.ret (.one (.bit false)))))))))))))))))))))))))))))))))))))))))
theorem tr_roundExact_eq : Sx.treeAt Tryd.prog 9 [] [] [(true, 3), (true, 3), (false, 1)] = some tr_roundExact := by kernel_rfl

set_option maxRecDepth 100000 in
set_option maxHeartbeats 4000000 in
theorem roundExact_any (v_a : Value) (v_b : Value) (a : Dy) (b : Dy) (up : Bool) (w : World) (h_a : RdD w v_a a) (h_b : RdD w v_b b) (hT : TabAt w) :
    Calls Tryd.prog 9 #[v_a, v_b, .bool up] w fun e w' => e = .returned (.bool true) ∧ Below w.heap.size w w' := by
  have r_a := h_a
  obtain ⟨A_a, n_a, c_a, rfl, _⟩ := h_a
  have r_b := h_b
  obtain ⟨A_b, n_b, c_b, rfl, _⟩ := h_b
  refine (Sx.runA [] [] (ls := [.bool a.neg, .slice A_a n_a c_a, .int .i64 a.e, .bool b.neg, .slice A_b n_b c_b, .int .i64 b.e, .bool up]) (shs := [(true, 3), (true, 3), (false, 1)]) (R := fun v w' => v = .bool true) tr_roundExact_eq rfl (by decide) (fun q h => by cases h) ?_).mono (fun e w' ⟨v, he, hv, hb⟩ => ⟨by rw [he, hv], hb⟩)
  unfold tr_roundExact
  refine sat_chkB (by kernel_rfl) ?_
  refine sat_chkB (by kernel_rfl) ?_
  refine sat_prim (v := .int .i64 ((n_a : Nat) : Int)) (by kernel_rfl) ?_
  refine sat_prim (v := .bool (decide ((3 : Int) < ((n_a : Nat) : Int)))) (by kernel_rfl) ?_
  cases h3a : (decide ((3 : Int) < ((n_a : Nat) : Int)))
  · refine sat_false (by kernel_rfl) ?_
    refine sat_prim (v := .int .i64 ((n_b : Nat) : Int)) (by kernel_rfl) ?_
    refine sat_prim (v := .bool (decide ((3 : Int) < ((n_b : Nat) : Int)))) (by kernel_rfl) ?_
    cases h3b : (decide ((3 : Int) < ((n_b : Nat) : Int)))
    · refine sat_false (by kernel_rfl) ?_
      refine sat_call #[.agg #[.bool a.neg, .slice A_a n_a c_a, .int .i64 a.e]] (by kernel_rfl) fun w3 h3 => ?_
      refine (mayD_any _ (a) _ (h3.rdD r_a)).mono ?_
      rintro e v3 ⟨rfl, hb3⟩
      refine ⟨hb3, [.bool (mayD a)], _, rfl, by kernel_rfl, by kernel_rfl, fun g3 => ?_⟩
      replace r_a := g3.rdD r_a; replace r_b := g3.rdD r_b
      clear h3 hb3
      refine sat_prim (v := .bool (!(mayD a))) (by kernel_rfl) ?_
      cases hma : (mayD a)
      · refine sat_true (by kernel_rfl) ?_
        refine sat_call #[] (by kernel_rfl) fun w5 h5 => ?_
        refine (told3_any _ (h5.tab hT)).mono ?_
        rintro e v5 ⟨rfl, hb5⟩
        refine ⟨hb5, [.bool true], _, rfl, by kernel_rfl, by kernel_rfl, fun g5 => ?_⟩
        replace r_a := g5.rdD r_a; replace r_b := g5.rdD r_b
        clear h5 hb5
        exact sat_ret (.bool true) (by kernel_rfl) fun w9 h9 => rfl
      · refine sat_false (by kernel_rfl) ?_
        refine sat_call #[.agg #[.bool b.neg, .slice A_b n_b c_b, .int .i64 b.e]] (by kernel_rfl) fun w5 h5 => ?_
        refine (mayD_any _ (b) _ (h5.rdD r_b)).mono ?_
        rintro e v5 ⟨rfl, hb5⟩
        refine ⟨hb5, [.bool (mayD b)], _, rfl, by kernel_rfl, by kernel_rfl, fun g5 => ?_⟩
        replace r_a := g5.rdD r_a; replace r_b := g5.rdD r_b
        clear h5 hb5
        refine sat_prim (v := .bool (!(mayD b))) (by kernel_rfl) ?_
        cases hmb : (mayD b)
        · refine sat_true (by kernel_rfl) ?_
          refine sat_call #[] (by kernel_rfl) fun w7 h7 => ?_
          refine (told3_any _ (h7.tab hT)).mono ?_
          rintro e v7 ⟨rfl, hb7⟩
          refine ⟨hb7, [.bool true], _, rfl, by kernel_rfl, by kernel_rfl, fun g7 => ?_⟩
          replace r_a := g7.rdD r_a; replace r_b := g7.rdD r_b
          clear h7 hb7
          exact sat_ret (.bool true) (by kernel_rfl) fun w9 h9 => rfl
        · refine sat_false (by kernel_rfl) ?_
          refine sat_call #[.agg #[.bool a.neg, .slice A_a n_a c_a, .int .i64 a.e]] (by kernel_rfl) fun w7 h7 => ?_
          refine (signD_any _ (a) _ (h7.rdD r_a)).mono ?_
          rintro e v7 ⟨rfl, hb7⟩
          refine ⟨hb7, [.int .i64 (signD a)], _, rfl, by kernel_rfl, by kernel_rfl, fun g7 => ?_⟩
          replace r_a := g7.rdD r_a; replace r_b := g7.rdD r_b
          clear h7 hb7
          refine sat_prim (v := .bool (((signD a) : Int) == 0)) (by kernel_rfl) ?_
          cases hsa : (((signD a) : Int) == 0)
          · refine sat_false (by kernel_rfl) ?_
            refine sat_call #[.agg #[.bool b.neg, .slice A_b n_b c_b, .int .i64 b.e]] (by kernel_rfl) fun w9 h9 => ?_
            refine (signD_any _ (b) _ (h9.rdD r_b)).mono ?_
            rintro e v9 ⟨rfl, hb9⟩
            refine ⟨hb9, [.int .i64 (signD b)], _, rfl, by kernel_rfl, by kernel_rfl, fun g9 => ?_⟩
            replace r_a := g9.rdD r_a; replace r_b := g9.rdD r_b
            clear h9 hb9
            refine sat_prim (v := .bool (((signD b) : Int) == 0)) (by kernel_rfl) ?_
            cases hsb : (((signD b) : Int) == 0)
            · refine sat_false (by kernel_rfl) ?_
              refine sat_prim (v := .bool (decide ((1000 : Int) < a.e))) (by kernel_rfl) ?_
              cases ha2 : (decide ((1000 : Int) < a.e))
              · refine sat_false (by kernel_rfl) ?_
                refine sat_prim (v := .bool (decide ((a.e : Int) < (-1000)))) (by kernel_rfl) ?_
                cases ha1 : (decide ((a.e : Int) < (-1000)))
                · refine sat_false (by kernel_rfl) ?_
                  refine sat_prim (v := .bool (decide ((1000 : Int) < b.e))) (by kernel_rfl) ?_
                  cases hb2 : (decide ((1000 : Int) < b.e))
                  · refine sat_false (by kernel_rfl) ?_
                    refine sat_prim (v := .bool (decide ((b.e : Int) < (-1000)))) (by kernel_rfl) ?_
                    cases hb1 : (decide ((b.e : Int) < (-1000)))
                    · refine sat_false (by kernel_rfl) ?_
                      obtain ⟨M_m, M_s, k_1, k_2, k_3, k_4⟩ := exact_ok up ⟨hma, r_a.lim⟩ ⟨hmb, r_b.lim⟩ (sign_ne hma hsa) (sign_ne hmb hsb) (by have := r_a.length.1; have := nlt h3a; omega) (by have := r_b.length.1; have := nlt h3b; omega) (nlt ha1) (nlt ha2) (nlt hb1) (nlt hb2)
                      refine sat_call #[.agg #[.bool a.neg, .slice A_a n_a c_a, .int .i64 a.e], .agg #[.bool b.neg, .slice A_b n_b c_b, .int .i64 b.e]] (by kernel_rfl) fun w15 h15 => ?_
                      refine (mulT _ _ a b _ (h15.rdD r_a) (h15.rdD r_b) (h15.tab hT)).mono ?_
                      rintro e v15 ⟨⟨d_t1, x_t1, A_t1, n_t1, c_t1, h_t1, rfl, r_t1⟩, hb15⟩
                      obtain ⟨rfl, rfl⟩ := dx2r h_t1 k_1
                      refine ⟨hb15, [.bool M_m.neg, .slice A_t1 n_t1 c_t1, .int .i64 M_m.e, .int .i64 0], _, rfl, by kernel_rfl, by kernel_rfl, fun g15 => ?_⟩
                      replace r_a := g15.rdD r_a; replace r_b := g15.rdD r_b
                      clear h15 hb15
                      refine sat_chkB (by kernel_rfl) ?_
                      refine sat_call #[.agg #[.bool M_m.neg, .slice A_t1 n_t1 c_t1, .int .i64 M_m.e], .agg #[.bool b.neg, .slice A_b n_b c_b, .int .i64 b.e], .int .i64 200, .bool up] (by kernel_rfl) fun w16 h16 => ?_
                      refine (quotT _ _ M_m b 200 up _ (h16.rdD r_t1) (h16.rdD r_b) (h16.tab hT)).mono ?_
                      rintro e v16 ⟨⟨d_t2, x_t2, A_t2, n_t2, c_t2, h_t2, rfl, r_t2⟩, hb16⟩
                      obtain ⟨rfl, rfl⟩ := dx2r h_t2 k_2
                      refine ⟨hb16, [.bool a.neg, .slice A_t2 n_t2 c_t2, .int .i64 a.e, .int .i64 0], _, rfl, by kernel_rfl, by kernel_rfl, fun g16 => ?_⟩
                      replace r_a := g16.rdD r_a; replace r_b := g16.rdD r_b; replace r_t1 := g16.rdD r_t1
                      clear h16 hb16
                      refine sat_chkB (by kernel_rfl) ?_
                      refine sat_call #[.agg #[.bool a.neg, .slice A_a n_a c_a, .int .i64 a.e], .agg #[.bool a.neg, .slice A_a n_a c_a, .int .i64 a.e]] (by kernel_rfl) fun w17 h17 => ?_
                      refine (mulT _ _ a a _ (h17.rdD r_a) (h17.rdD r_a) (h17.tab hT)).mono ?_
                      rintro e v17 ⟨⟨d_t3, x_t3, A_t3, n_t3, c_t3, h_t3, rfl, r_t3⟩, hb17⟩
                      obtain ⟨rfl, rfl⟩ := dx2r h_t3 k_3
                      refine ⟨hb17, [.bool M_s.neg, .slice A_t3 n_t3 c_t3, .int .i64 M_s.e, .int .i64 0], _, rfl, by kernel_rfl, by kernel_rfl, fun g17 => ?_⟩
                      replace r_a := g17.rdD r_a; replace r_b := g17.rdD r_b; replace r_t1 := g17.rdD r_t1; replace r_t2 := g17.rdD r_t2
                      clear h17 hb17
                      refine sat_chkB (by kernel_rfl) ?_
                      refine sat_call #[.agg #[.bool M_s.neg, .slice A_t3 n_t3 c_t3, .int .i64 M_s.e], .int .i64 200, .bool up] (by kernel_rfl) fun w18 h18 => ?_
                      refine (rootT _ M_s 200 up _ (h18.rdD r_t3) (h18.tab hT)).mono ?_
                      rintro e v18 ⟨⟨d_t4, x_t4, A_t4, n_t4, c_t4, h_t4, rfl, r_t4⟩, hb18⟩
                      obtain ⟨rfl, rfl⟩ := dx2r h_t4 k_4
                      refine ⟨hb18, [.bool (⟨false, a.m, a.e⟩ : Dy).neg, .slice A_t4 n_t4 c_t4, .int .i64 (⟨false, a.m, a.e⟩ : Dy).e, .int .i64 0], _, rfl, by kernel_rfl, by kernel_rfl, fun g18 => ?_⟩
                      replace r_a := g18.rdD r_a; replace r_b := g18.rdD r_b; replace r_t1 := g18.rdD r_t1; replace r_t2 := g18.rdD r_t2; replace r_t3 := g18.rdD r_t3
                      clear h18 hb18
                      refine sat_chkB (by kernel_rfl) ?_
                      refine sat_chkB (by kernel_rfl) ?_
                      refine sat_call #[] (by kernel_rfl) fun w19 h19 => ?_
                      refine (told3_any _ (h19.tab hT)).mono ?_
                      rintro e v19 ⟨rfl, hb19⟩
                      refine ⟨hb19, [.bool true], _, rfl, by kernel_rfl, by kernel_rfl, fun g19 => ?_⟩
                      replace r_a := g19.rdD r_a; replace r_b := g19.rdD r_b; replace r_t1 := g19.rdD r_t1; replace r_t2 := g19.rdD r_t2; replace r_t3 := g19.rdD r_t3; replace r_t4 := g19.rdD r_t4
                      clear h19 hb19
                      refine sat_true (by kernel_rfl) ?_
                      refine sat_prim (v := .int .i64 0) (by kernel_rfl) ?_
                      refine sat_prim (v := .int .i64 0) (by kernel_rfl) ?_
                      refine sat_prim (v := .int .i64 0) (by kernel_rfl) ?_
                      refine sat_prim (v := .bool true) (by kernel_rfl) ?_
                      refine sat_true (by kernel_rfl) ?_
                      refine sat_call #[.agg #[.bool a.neg, .slice A_t2 n_t2 c_t2, .int .i64 a.e], .agg #[.bool a.neg, .slice A_a n_a c_a, .int .i64 a.e]] (by kernel_rfl) fun w20 h20 => ?_
                      refine (sameD_any _ _ (a) (a) _ (h20.rdD r_t2) (h20.rdD r_a)).mono ?_
                      rintro e v20 ⟨rfl, hb20⟩
                      refine ⟨hb20, [.bool (sameD a a)], _, rfl, by kernel_rfl, by kernel_rfl, fun g20 => ?_⟩
                      replace r_a := g20.rdD r_a; replace r_b := g20.rdD r_b; replace r_t1 := g20.rdD r_t1; replace r_t2 := g20.rdD r_t2; replace r_t3 := g20.rdD r_t3; replace r_t4 := g20.rdD r_t4
                      clear h20 hb20
                      refine sat_trueP (b := (sameD a a)) (by kernel_rfl) (sameD_self _) ?_
                      have r_abs := r_a.abs
                      refine sat_call #[.agg #[.bool (⟨false, a.m, a.e⟩ : Dy).neg, .slice A_t4 n_t4 c_t4, .int .i64 (⟨false, a.m, a.e⟩ : Dy).e], .agg #[.bool false, .slice A_a n_a c_a, .int .i64 a.e]] (by kernel_rfl) fun w21 h21 => ?_
                      refine (sameD_any _ _ ((⟨false, a.m, a.e⟩ : Dy)) ((⟨false, a.m, a.e⟩ : Dy)) _ (h21.rdD r_t4) (h21.rdD r_abs)).mono ?_
                      rintro e v21 ⟨rfl, hb21⟩
                      refine ⟨hb21, [.bool (sameD (⟨false, a.m, a.e⟩ : Dy) (⟨false, a.m, a.e⟩ : Dy))], _, rfl, by kernel_rfl, by kernel_rfl, fun g21 => ?_⟩
                      replace r_a := g21.rdD r_a; replace r_b := g21.rdD r_b; replace r_t1 := g21.rdD r_t1; replace r_t2 := g21.rdD r_t2; replace r_t3 := g21.rdD r_t3; replace r_t4 := g21.rdD r_t4; replace r_abs := g21.rdD r_abs
                      clear h21 hb21
                      exact sat_ret (.bool (sameD (⟨false, a.m, a.e⟩ : Dy) (⟨false, a.m, a.e⟩ : Dy))) (by kernel_rfl) fun w9 h9 => congrArg Value.bool (sameD_self _)
                    · refine sat_true (by kernel_rfl) ?_
                      refine sat_call #[] (by kernel_rfl) fun w15 h15 => ?_
                      refine (told3_any _ (h15.tab hT)).mono ?_
                      rintro e v15 ⟨rfl, hb15⟩
                      refine ⟨hb15, [.bool true], _, rfl, by kernel_rfl, by kernel_rfl, fun g15 => ?_⟩
                      replace r_a := g15.rdD r_a; replace r_b := g15.rdD r_b
                      clear h15 hb15
                      exact sat_ret (.bool true) (by kernel_rfl) fun w9 h9 => rfl
                  · refine sat_true (by kernel_rfl) ?_
                    refine sat_call #[] (by kernel_rfl) fun w14 h14 => ?_
                    refine (told3_any _ (h14.tab hT)).mono ?_
                    rintro e v14 ⟨rfl, hb14⟩
                    refine ⟨hb14, [.bool true], _, rfl, by kernel_rfl, by kernel_rfl, fun g14 => ?_⟩
                    replace r_a := g14.rdD r_a; replace r_b := g14.rdD r_b
                    clear h14 hb14
                    exact sat_ret (.bool true) (by kernel_rfl) fun w9 h9 => rfl
                · refine sat_true (by kernel_rfl) ?_
                  refine sat_call #[] (by kernel_rfl) fun w13 h13 => ?_
                  refine (told3_any _ (h13.tab hT)).mono ?_
                  rintro e v13 ⟨rfl, hb13⟩
                  refine ⟨hb13, [.bool true], _, rfl, by kernel_rfl, by kernel_rfl, fun g13 => ?_⟩
                  replace r_a := g13.rdD r_a; replace r_b := g13.rdD r_b
                  clear h13 hb13
                  exact sat_ret (.bool true) (by kernel_rfl) fun w9 h9 => rfl
              · refine sat_true (by kernel_rfl) ?_
                refine sat_call #[] (by kernel_rfl) fun w12 h12 => ?_
                refine (told3_any _ (h12.tab hT)).mono ?_
                rintro e v12 ⟨rfl, hb12⟩
                refine ⟨hb12, [.bool true], _, rfl, by kernel_rfl, by kernel_rfl, fun g12 => ?_⟩
                replace r_a := g12.rdD r_a; replace r_b := g12.rdD r_b
                clear h12 hb12
                exact sat_ret (.bool true) (by kernel_rfl) fun w9 h9 => rfl
            · refine sat_true (by kernel_rfl) ?_
              refine sat_call #[] (by kernel_rfl) fun w11 h11 => ?_
              refine (told3_any _ (h11.tab hT)).mono ?_
              rintro e v11 ⟨rfl, hb11⟩
              refine ⟨hb11, [.bool true], _, rfl, by kernel_rfl, by kernel_rfl, fun g11 => ?_⟩
              replace r_a := g11.rdD r_a; replace r_b := g11.rdD r_b
              clear h11 hb11
              exact sat_ret (.bool true) (by kernel_rfl) fun w9 h9 => rfl
          · refine sat_true (by kernel_rfl) ?_
            refine sat_call #[] (by kernel_rfl) fun w9 h9 => ?_
            refine (told3_any _ (h9.tab hT)).mono ?_
            rintro e v9 ⟨rfl, hb9⟩
            refine ⟨hb9, [.bool true], _, rfl, by kernel_rfl, by kernel_rfl, fun g9 => ?_⟩
            replace r_a := g9.rdD r_a; replace r_b := g9.rdD r_b
            clear h9 hb9
            exact sat_ret (.bool true) (by kernel_rfl) fun w9 h9 => rfl
    · refine sat_true (by kernel_rfl) ?_
      refine sat_call #[] (by kernel_rfl) fun w3 h3 => ?_
      refine (told3_any _ (h3.tab hT)).mono ?_
      rintro e v3 ⟨rfl, hb3⟩
      refine ⟨hb3, [.bool true], _, rfl, by kernel_rfl, by kernel_rfl, fun g3 => ?_⟩
      replace r_a := g3.rdD r_a; replace r_b := g3.rdD r_b
      clear h3 hb3
      exact sat_ret (.bool true) (by kernel_rfl) fun w9 h9 => rfl
  · refine sat_true (by kernel_rfl) ?_
    refine sat_call #[] (by kernel_rfl) fun w2 h2 => ?_
    refine (told3_any _ (h2.tab hT)).mono ?_
    rintro e v2 ⟨rfl, hb2⟩
    refine ⟨hb2, [.bool true], _, rfl, by kernel_rfl, by kernel_rfl, fun g2 => ?_⟩
    replace r_a := g2.rdD r_a; replace r_b := g2.rdD r_b
    clear h2 hb2
    exact sat_ret (.bool true) (by kernel_rfl) fun w9 h9 => rfl

def tr_roundHolds : Sx.Tree := .chk [.lf 0, .lf 1, .lf 2] (.chk [.lf 3, .lf 4, .lf 5] (.prim (.cvt .u64) [.lf 6] (.prim (.bin .rem) [.lf 7, .num .u64 150] (.prim (.cvt .i64) [.lf 8] (.prim (.bin .add) [.num .i64 1, .lf 9] (.prim .len [.lf 1] (.prim (.bin .gtr) [.lf 11, .num .i64 8] (.ite (.lf 12) (.call 24 [] .one (.ret (.one (.lf 13)))) (.prim .len [.lf 4] (.prim (.bin .gtr) [.lf 13, .num .i64 8] (.ite (.lf 14) (.call 24 [] .one (.ret (.one (.lf 15)))) (.call 36 [.ag [.lf 0, .lf 1, .lf 2]] .one (.prim .not [.lf 15] (.ite (.lf 16) (.call 24 [] .one (.ret (.one (.lf 17)))) (.call 36 [.ag [.lf 3, .lf 4, .lf 5]] .one (.prim .not [.lf 17] (.ite (.lf 18) (.call 24 [] .one (.ret (.one (.lf 19)))) (.call 37 [.ag [.lf 3, .lf 4, .lf 5]] .one (.prim (.bin .leq) [.lf 19, .num .i64 0] (.ite (.lf 20) (.call 24 [] .one (.ret (.one (.lf 21)))) (.call 32 [.ag [.lf 0, .lf 1, .lf 2], .ag [.lf 3, .lf 4, .lf 5], .one (.lf 10), .one (.bit false)] (.tup [(true, 3), (false, 1)]) (.chk [.lf 21, .lf 22, .lf 23] (.call 32 [.ag [.lf 0, .lf 1, .lf 2], .ag [.lf 3, .lf 4, .lf 5], .one (.lf 10), .one (.bit true)] (.tup [(true, 3), (false, 1)]) (.chk [.lf 25, .lf 26, .lf 27] (.prim (.bin .eql) [.lf 24, .num .i64 0] (.ite (.lf 29) (.prim (.bin .eql) [.lf 28, .num .i64 0] (.ite (.lf 30) (.call 38 [.ag [.lf 21, .lf 22, .lf 23], .ag [.lf 3, .lf 4, .lf 5]] (.tup [(true, 3), (false, 1)]) (.chk [.lf 31, .lf 32, .lf 33] (.call 38 [.ag [.lf 25, .lf 26, .lf 27], .ag [.lf 3, .lf 4, .lf 5]] (.tup [(true, 3), (false, 1)]) (.chk [.lf 35, .lf 36, .lf 37] (.prim (.bin .eql) [.lf 34, .num .i64 0] (.ite (.lf 39) (.prim (.bin .eql) [.lf 38, .num .i64 0] (.ite (.lf 40) (.call 22 [.ag [.lf 31, .lf 32, .lf 33], .ag [.lf 0, .lf 1, .lf 2]] .one (.prim (.bin .gtr) [.lf 41, .num .i64 0] (.ite (.lf 42) (.ret (.one (.bit false))) (.call 22 [.ag [.lf 0, .lf 1, .lf 2], .ag [.lf 35, .lf 36, .lf 37]] .one (.prim (.bin .gtr) [.lf 43, .num .i64 0] (.ite (.lf 44) (.ret (.one (.bit false))) (.call 34 [.ag [.lf 3, .lf 4, .lf 5], .one (.lf 10), .one (.bit false)] (.tup [(true, 3), (false, 1)]) (.chk [.lf 45, .lf 46, .lf 47] (.call 34 [.ag [.lf 3, .lf 4, .lf 5], .one (.lf 10), .one (.bit true)] (.tup [(true, 3), (false, 1)]) (.chk [.lf 49, .lf 50, .lf 51] (.prim (.bin .neq) [.lf 48, .num .i64 0] (.ite (.lf 53) (.call 24 [] .one (.ret (.one (.lf 54)))) (.prim (.bin .neq) [.lf 52, .num .i64 0] (.ite (.lf 54) (.call 24 [] .one (.ret (.one (.lf 55)))) (.call 38 [.ag [.lf 45, .lf 46, .lf 47], .ag [.lf 45, .lf 46, .lf 47]] (.tup [(true, 3), (false, 1)]) (.chk [.lf 55, .lf 56, .lf 57] (.call 38 [.ag [.lf 49, .lf 50, .lf 51], .ag [.lf 49, .lf 50, .lf 51]] (.tup [(true, 3), (false, 1)]) (.chk [.lf 59, .lf 60, .lf 61] (.call 24 [] .one (.ite (.lf 63) (.prim (.bin .neq) [.lf 58, .num .i64 0] (.ite (.lf 64) (.call 37 [.ag [.lf 45, .lf 46, .lf 47]] .one (.prim (.bin .gtr) [.lf 65, .num .i64 0] (.ite (.lf 66) (.call 21 [.ag [.lf 45, .lf 46, .lf 47]] .one (.prim (.bin .leq) [.lf 67, .lf 10] (.ite (.lf 68) (.call 21 [.ag [.lf 49, .lf 50, .lf 51]] .one (.prim (.bin .leq) [.lf 69, .lf 10] (.ret (.one (.lf 70))))) (.ret (.one (.bit false)))))) (.ret (.one (.bit false)))))) (.prim (.bin .neq) [.lf 62, .num .i64 0] (.ite (.lf 65) (.call 37 [.ag [.lf 45, .lf 46, .lf 47]] .one (.prim (.bin .gtr) [.lf 66, .num .i64 0] (.ite (.lf 67) (.call 21 [.ag [.lf 45, .lf 46, .lf 47]] .one (.prim (.bin .leq) [.lf 68, .lf 10] (.ite (.lf 69) (.call 21 [.ag [.lf 49, .lf 50, .lf 51]] .one (.prim (.bin .leq) [.lf 70, .lf 10] (.ret (.one (.lf 71))))) (.ret (.one (.bit false)))))) (.ret (.one (.bit false)))))) (.call 22 [.ag [.lf 55, .lf 56, .lf 57], .ag [.lf 3, .lf 4, .lf 5]] .one (.prim (.bin .leq) [.lf 66, .num .i64 0] (.ite (.lf 67) (.call 22 [.ag [.lf 3, .lf 4, .lf 5], .ag [.lf 59, .lf 60, .lf 61]] .one (.prim (.bin .leq) [.lf 68, .num .i64 0] (.ite (.lf 69) (.call 37 [.ag [.lf 45, .lf 46, .lf 47]] .one (.prim (.bin .gtr) [.lf 70, .num .i64 0] (.ite (.lf 71) (.call 21 [.ag [.lf 45, .lf 46, .lf 47]] .one (.prim (.bin .leq) [.lf 72, .lf 10] (.ite (.lf 73) (.call 21 [.ag [.lf 49, .lf 50, .lf 51]] .one (.prim (.bin .leq) [.lf 74, .lf 10] (.ret (.one (.lf 75))))) (.ret (.one (.bit false)))))) (.ret (.one (.bit false)))))) (.ret (.one (.bit false)))))) (.ret (.one (.bit false)))))))))) (.ret (.one (.bit false))))))))))))))))))))))) (.call 34 [.ag [.lf 3, .lf 4, .lf 5], .one (.lf 10), .one (.bit false)] (.tup [(true, 3), (false, 1)]) (.chk [.lf 41, .lf 42, .lf 43] (.call 34 [.ag [.lf 3, .lf 4, .lf 5], .one (.lf 10), .one (.bit true)] (.tup [(true, 3), (false, 1)]) (.chk [.lf 45, .lf 46, .lf 47] (.prim (.bin .neq) [.lf 44, .num .i64 0] (.ite (.lf 49) (.call 24 [] .one (.ret (.one (.lf 50)))) (.prim (.bin .neq) [.lf 48, .num .i64 0] (.ite (.lf 50) (.call 24 [] .one (.ret (.one (.lf 51)))) (.call 38 [.ag [.lf 41, .lf 42, .lf 43], .ag [.lf 41, .lf 42, .lf 43]] (.tup [(true, 3), (false, 1)]) (.chk [.lf 51, .lf 52, .lf 53] (.call 38 [.ag [.lf 45, .lf 46, .lf 47], .ag [.lf 45, .lf 46, .lf 47]] (.tup [(true, 3), (false, 1)]) (.chk [.lf 55, .lf 56, .lf 57] (.call 24 [] .one (.ite (.lf 59) (.prim (.bin .neq) [.lf 54, .num .i64 0] (.ite (.lf 60) (.call 37 [.ag [.lf 41, .lf 42, .lf 43]] .one (.prim (.bin .gtr) [.lf 61, .num .i64 0] (.ite (.lf 62) (.call 21 [.ag [.lf 41, .lf 42, .lf 43]] .one (.prim (.bin .leq) [.lf 63, .lf 10] (.ite (.lf 64) (.call 21 [.ag [.lf 45, .lf 46, .lf 47]] .one (.prim (.bin .leq) [.lf 65, .lf 10] (.ret (.one (.lf 66))))) (.ret (.one (.bit false)))))) (.ret (.one (.bit false)))))) (.prim (.bin .neq) [.lf 58, .num .i64 0] (.ite (.lf 61) (.call 37 [.ag [.lf 41, .lf 42, .lf 43]] .one (.prim (.bin .gtr) [.lf 62, .num .i64 0] (.ite (.lf 63) (.call 21 [.ag [.lf 41, .lf 42, .lf 43]] .one (.prim (.bin .leq) [.lf 64, .lf 10] (.ite (.lf 65) (.call 21 [.ag [.lf 45, .lf 46, .lf 47]] .one (.prim (.bin .leq) [.lf 66, .lf 10] (.ret (.one (.lf 67))))) (.ret (.one (.bit false)))))) (.ret (.one (.bit false)))))) (.call 22 [.ag [.lf 51, .lf 52, .lf 53], .ag [.lf 3, .lf 4, .lf 5]] .one (.prim (.bin .leq) [.lf 62, .num .i64 0] (.ite (.lf 63) (.call 22 [.ag [.lf 3, .lf 4, .lf 5], .ag [.lf 55, .lf 56, .lf 57]] .one (.prim (.bin .leq) [.lf 64, .num .i64 0] (.ite (.lf 65) (.call 37 [.ag [.lf 41, .lf 42, .lf 43]] .one (.prim (.bin .gtr) [.lf 66, .num .i64 0] (.ite (.lf 67) (.call 21 [.ag [.lf 41, .lf 42, .lf 43]] .one (.prim (.bin .leq) [.lf 68, .lf 10] (.ite (.lf 69) (.call 21 [.ag [.lf 45, .lf 46, .lf 47]] .one (.prim (.bin .leq) [.lf 70, .lf 10] (.ret (.one (.lf 71))))) (.ret (.one (.bit false)))))) (.ret (.one (.bit false)))))) (.ret (.one (.bit false)))))) (.ret (.one (.bit false)))))))))) (.ret (.one (.bit false))))))))))))))))))) (.call 34 [.ag [.lf 3, .lf 4, .lf 5], .one (.lf 10), .one (.bit false)] (.tup [(true, 3), (false, 1)]) (.chk [.lf 40, .lf 41, .lf 42] (.call 34 [.ag [.lf 3, .lf 4, .lf 5], .one (.lf 10), .one (.bit true)] (.tup [(true, 3), (false, 1)]) (.chk [.lf 44, .lf 45, .lf 46] (.prim (.bin .neq) [.lf 43, .num .i64 0] (.ite (.lf 48) (.call 24 [] .one (.ret (.one (.lf 49)))) (.prim (.bin .neq) [.lf 47, .num .i64 0] (.ite (.lf 49) (.call 24 [] .one (.ret (.one (.lf 50)))) (.call 38 [.ag [.lf 40, .lf 41, .lf 42], .ag [.lf 40, .lf 41, .lf 42]] (.tup [(true, 3), (false, 1)]) (.chk [.lf 50, .lf 51, .lf 52] (.call 38 [.ag [.lf 44, .lf 45, .lf 46], .ag [.lf 44, .lf 45, .lf 46]] (.tup [(true, 3), (false, 1)]) (.chk [.lf 54, .lf 55, .lf 56] (.call 24 [] .one (.ite (.lf 58) (.prim (.bin .neq) [.lf 53, .num .i64 0] (.ite (.lf 59) (.call 37 [.ag [.lf 40, .lf 41, .lf 42]] .one (.prim (.bin .gtr) [.lf 60, .num .i64 0] (.ite (.lf 61) (.call 21 [.ag [.lf 40, .lf 41, .lf 42]] .one (.prim (.bin .leq) [.lf 62, .lf 10] (.ite (.lf 63) (.call 21 [.ag [.lf 44, .lf 45, .lf 46]] .one (.prim (.bin .leq) [.lf 64, .lf 10] (.ret (.one (.lf 65))))) (.ret (.one (.bit false)))))) (.ret (.one (.bit false)))))) (.prim (.bin .neq) [.lf 57, .num .i64 0] (.ite (.lf 60) (.call 37 [.ag [.lf 40, .lf 41, .lf 42]] .one (.prim (.bin .gtr) [.lf 61, .num .i64 0] (.ite (.lf 62) (.call 21 [.ag [.lf 40, .lf 41, .lf 42]] .one (.prim (.bin .leq) [.lf 63, .lf 10] (.ite (.lf 64) (.call 21 [.ag [.lf 44, .lf 45, .lf 46]] .one (.prim (.bin .leq) [.lf 65, .lf 10] (.ret (.one (.lf 66))))) (.ret (.one (.bit false)))))) (.ret (.one (.bit false)))))) (.call 22 [.ag [.lf 50, .lf 51, .lf 52], .ag [.lf 3, .lf 4, .lf 5]] .one (.prim (.bin .leq) [.lf 61, .num .i64 0] (.ite (.lf 62) (.call 22 [.ag [.lf 3, .lf 4, .lf 5], .ag [.lf 54, .lf 55, .lf 56]] .one (.prim (.bin .leq) [.lf 63, .num .i64 0] (.ite (.lf 64) (.call 37 [.ag [.lf 40, .lf 41, .lf 42]] .one (.prim (.bin .gtr) [.lf 65, .num .i64 0] (.ite (.lf 66) (.call 21 [.ag [.lf 40, .lf 41, .lf 42]] .one (.prim (.bin .leq) [.lf 67, .lf 10] (.ite (.lf 68) (.call 21 [.ag [.lf 44, .lf 45, .lf 46]] .one (.prim (.bin .leq) [.lf 69, .lf 10] (.ret (.one (.lf 70))))) (.ret (.one (.bit false)))))) (.ret (.one (.bit false)))))) (.ret (.one (.bit false)))))) (.ret (.one (.bit false)))))))))) (.ret (.one (.bit false))))))))))))))))))))))) (.call 34 [.ag [.lf 3, .lf 4, .lf 5], .one (.lf 10), .one (.bit false)] (.tup [(true, 3), (false, 1)]) (.chk [.lf 31, .lf 32, .lf 33] (.call 34 [.ag [.lf 3, .lf 4, .lf 5], .one (.lf 10), .one (.bit true)] (.tup [(true, 3), (false, 1)]) (.chk [.lf 35, .lf 36, .lf 37] (.prim (.bin .neq) [.lf 34, .num .i64 0] (.ite (.lf 39) (.call 24 [] .one (.ret (.one (.lf 40)))) (.prim (.bin .neq) [.lf 38, .num .i64 0] (.ite (.lf 40) (.call 24 [] .one (.ret (.one (.lf 41)))) (.call 38 [.ag [.lf 31, .lf 32, .lf 33], .ag [.lf 31, .lf 32, .lf 33]] (.tup [(true, 3), (false, 1)]) (.chk [.lf 41, .lf 42, .lf 43] (.call 38 [.ag [.lf 35, .lf 36, .lf 37], .ag [.lf 35, .lf 36, .lf 37]] (.tup [(true, 3), (false, 1)]) (.chk [.lf 45, .lf 46, .lf 47] (.call 24 [] .one (.ite (.lf 49) (.prim (.bin .neq) [.lf 44, .num .i64 0] (.ite (.lf 50) (.call 37 [.ag [.lf 31, .lf 32, .lf 33]] .one (.prim (.bin .gtr) [.lf 51, .num .i64 0] (.ite (.lf 52) (.call 21 [.ag [.lf 31, .lf 32, .lf 33]] .one (.prim (.bin .leq) [.lf 53, .lf 10] (.ite (.lf 54) (.call 21 [.ag [.lf 35, .lf 36, .lf 37]] .one (.prim (.bin .leq) [.lf 55, .lf 10] (.ret (.one (.lf 56))))) (.ret (.one (.bit false)))))) (.ret (.one (.bit false)))))) (.prim (.bin .neq) [.lf 48, .num .i64 0] (.ite (.lf 51) (.call 37 [.ag [.lf 31, .lf 32, .lf 33]] .one (.prim (.bin .gtr) [.lf 52, .num .i64 0] (.ite (.lf 53) (.call 21 [.ag [.lf 31, .lf 32, .lf 33]] .one (.prim (.bin .leq) [.lf 54, .lf 10] (.ite (.lf 55) (.call 21 [.ag [.lf 35, .lf 36, .lf 37]] .one (.prim (.bin .leq) [.lf 56, .lf 10] (.ret (.one (.lf 57))))) (.ret (.one (.bit false)))))) (.ret (.one (.bit false)))))) (.call 22 [.ag [.lf 41, .lf 42, .lf 43], .ag [.lf 3, .lf 4, .lf 5]] .one (.prim (.bin .leq) [.lf 52, .num .i64 0] (.ite (.lf 53) (.call 22 [.ag [.lf 3, .lf 4, .lf 5], .ag [.lf 45, .lf 46, .lf 47]] .one (.prim (.bin .leq) [.lf 54, .num .i64 0] (.ite (.lf 55) (.call 37 [.ag [.lf 31, .lf 32, .lf 33]] .one (.prim (.bin .gtr) [.lf 56, .num .i64 0] (.ite (.lf 57) (.call 21 [.ag [.lf 31, .lf 32, .lf 33]] .one (.prim (.bin .leq) [.lf 58, .lf 10] (.ite (.lf 59) (.call 21 [.ag [.lf 35, .lf 36, .lf 37]] .one (.prim (.bin .leq) [.lf 60, .lf 10] (.ret (.one (.lf 61))))) (.ret (.one (.bit false)))))) (.ret (.one (.bit false)))))) (.ret (.one (.bit false)))))) (.ret (.one (.bit false)))))))))) (.ret (.one (.bit false))))))))))))))))))) (.call 34 [.ag [.lf 3, .lf 4, .lf 5], .one (.lf 10), .one (.bit false)] (.tup [(true, 3), (false, 1)]) (.chk [.lf 30, .lf 31, .lf 32] (.call 34 [.ag [.lf 3, .lf 4, .lf 5], .one (.lf 10), .one (.bit true)] (.tup [(true, 3), (false, 1)]) (.chk [.lf 34, .lf 35, .lf 36] (.prim (.bin .neq) [.lf 33, .num .i64 0] (.ite (.lf 38) (.call 24 [] .one (.ret (.one (.lf 39)))) (.prim (.bin .neq) [.lf 37, .num .i64 0] (.ite (.lf 39) (.call 24 [] .one (.ret (.one (.lf 40)))) (.call 38 [.ag [.lf 30, .lf 31, .lf 32], .ag [.lf 30, .lf 31, .lf 32]] (.tup [(true, 3), (false, 1)]) (.chk [.lf 40, .lf 41, .lf 42] (.call 38 [.ag [.lf 34, .lf 35, .lf 36], .ag [.lf 34, .lf 35, .lf 36]] (.tup [(true, 3), (false, 1)]) (.chk [.lf 44, .lf 45, .lf 46] (.call 24 [] .one (.ite (.lf 48) (.prim (.bin .neq) [.lf 43, .num .i64 0] (.ite (.lf 49) (.call 37 [.ag [.lf 30, .lf 31, .lf 32]] .one (.prim (.bin .gtr) [.lf 50, .num .i64 0] (.ite (.lf 51) (.call 21 [.ag [.lf 30, .lf 31, .lf 32]] .one (.prim (.bin .leq) [.lf 52, .lf 10] (.ite (.lf 53) (.call 21 [.ag [.lf 34, .lf 35, .lf 36]] .one (.prim (.bin .leq) [.lf 54, .lf 10] (.ret (.one (.lf 55))))) (.ret (.one (.bit false)))))) (.ret (.one (.bit false)))))) (.prim (.bin .neq) [.lf 47, .num .i64 0] (.ite (.lf 50) (.call 37 [.ag [.lf 30, .lf 31, .lf 32]] .one (.prim (.bin .gtr) [.lf 51, .num .i64 0] (.ite (.lf 52) (.call 21 [.ag [.lf 30, .lf 31, .lf 32]] .one (.prim (.bin .leq) [.lf 53, .lf 10] (.ite (.lf 54) (.call 21 [.ag [.lf 34, .lf 35, .lf 36]] .one (.prim (.bin .leq) [.lf 55, .lf 10] (.ret (.one (.lf 56))))) (.ret (.one (.bit false)))))) (.ret (.one (.bit false)))))) (.call 22 [.ag [.lf 40, .lf 41, .lf 42], .ag [.lf 3, .lf 4, .lf 5]] .one (.prim (.bin .leq) [.lf 51, .num .i64 0] (.ite (.lf 52) (.call 22 [.ag [.lf 3, .lf 4, .lf 5], .ag [.lf 44, .lf 45, .lf 46]] .one (.prim (.bin .leq) [.lf 53, .num .i64 0] (.ite (.lf 54) (.call 37 [.ag [.lf 30, .lf 31, .lf 32]] .one (.prim (.bin .gtr) [.lf 55, .num .i64 0] (.ite (.lf 56) (.call 21 [.ag [.lf 30, .lf 31, .lf 32]] .one (.prim (.bin .leq) [.lf 57, .lf 10] (.ite (.lf 58) (.call 21 [.ag [.lf 34, .lf 35, .lf 36]] .one (.prim (.bin .leq) [.lf 59, .lf 10] (.ret (.one (.lf 60))))) (.ret (.one (.bit false)))))) (.ret (.one (.bit false)))))) (.ret (.one (.bit false)))))) (.ret (.one (.bit false)))))))))) (.ret (.one (.bit false)))))))))))))))))))))))))))))))))))))))))))
theorem tr_roundHolds_eq : Sx.treeAt Tryd.prog 12 [] [] [(true, 3), (true, 3), (false, 1)] = some tr_roundHolds := by kernel_rfl

set_option maxRecDepth 100000 in
set_option maxHeartbeats 4000000 in
theorem roundHolds_any (v_a : Value) (v_b : Value) (a : Dy) (b : Dy) (p : Int) (w : World) (h_a : RdD w v_a a) (h_b : RdD w v_b b) (hT : TabAt w) :
    Calls Tryd.prog 12 #[v_a, v_b, .int .i64 p] w fun e w' => e = .returned (.bool true) ∧ Below w.heap.size w w' := by
  have r_a := h_a
  obtain ⟨A_a, n_a, c_a, rfl, _⟩ := h_a
  have r_b := h_b
  obtain ⟨A_b, n_b, c_b, rfl, _⟩ := h_b
  refine (Sx.runA [] [] (ls := [.bool a.neg, .slice A_a n_a c_a, .int .i64 a.e, .bool b.neg, .slice A_b n_b c_b, .int .i64 b.e, .int .i64 p]) (shs := [(true, 3), (true, 3), (false, 1)]) (R := fun v w' => v = .bool true) tr_roundHolds_eq rfl (by decide) (fun q h => by cases h) ?_).mono (fun e w' ⟨v, he, hv, hb⟩ => ⟨by rw [he, hv], hb⟩)
  unfold tr_roundHolds
  refine sat_chkB (by kernel_rfl) ?_
  refine sat_chkB (by kernel_rfl) ?_
  refine sat_prim (v := .int .u64 (((p % 18446744073709551616).toNat : Nat) : Int)) (Eq.trans (by kernel_rfl) (pr_cvtu p)) ?_
  refine sat_prim (v := .int .u64 (((p % 18446744073709551616).toNat % 150 : Nat) : Int)) (Eq.trans (by kernel_rfl) (pr_rem (a := (p % 18446744073709551616).toNat) (b := 150) (by omega))) ?_
  refine sat_prim (v := .int .i64 (((p % 18446744073709551616).toNat % 150 : Nat) : Int)) (Eq.trans (by kernel_rfl) (pr_cvti (n := (p % 18446744073709551616).toNat % 150) (Nat.lt_of_lt_of_le (Nat.mod_lt _ (by omega)) (by omega)))) ?_
  obtain ⟨N1, e_N1, a_N1, b_N1⟩ : ∃ N, N = 1 + (p % 18446744073709551616).toNat % 150 ∧ 1 ≤ N ∧ N ≤ 150 := ⟨_, rfl, by omega, by have := Nat.mod_lt ((p % 18446744073709551616).toNat) (show 0 < 150 by omega); omega⟩
  refine sat_prim (v := .int .i64 ((N1 : Nat) : Int)) (Eq.trans (by kernel_rfl) (pr_one (m := (p % 18446744073709551616).toNat % 150) e_N1 (by omega))) ?_
  refine sat_prim (v := .int .i64 ((n_a : Nat) : Int)) (by kernel_rfl) ?_
  refine sat_prim (v := .bool (decide ((8 : Int) < ((n_a : Nat) : Int)))) (by kernel_rfl) ?_
  cases h8a : (decide ((8 : Int) < ((n_a : Nat) : Int)))
  · refine sat_false (by kernel_rfl) ?_
    refine sat_prim (v := .int .i64 ((n_b : Nat) : Int)) (by kernel_rfl) ?_
    refine sat_prim (v := .bool (decide ((8 : Int) < ((n_b : Nat) : Int)))) (by kernel_rfl) ?_
    cases h8b : (decide ((8 : Int) < ((n_b : Nat) : Int)))
    · refine sat_false (by kernel_rfl) ?_
      refine sat_call #[.agg #[.bool a.neg, .slice A_a n_a c_a, .int .i64 a.e]] (by kernel_rfl) fun w3 h3 => ?_
      refine (mayD_any _ (a) _ (h3.rdD r_a)).mono ?_
      rintro e v3 ⟨rfl, hb3⟩
      refine ⟨hb3, [.bool (mayD a)], _, rfl, by kernel_rfl, by kernel_rfl, fun g3 => ?_⟩
      replace r_a := g3.rdD r_a; replace r_b := g3.rdD r_b
      clear h3 hb3
      refine sat_prim (v := .bool (!(mayD a))) (by kernel_rfl) ?_
      cases hma : (mayD a)
      · refine sat_true (by kernel_rfl) ?_
        refine sat_call #[] (by kernel_rfl) fun w5 h5 => ?_
        refine (told3_any _ (h5.tab hT)).mono ?_
        rintro e v5 ⟨rfl, hb5⟩
        refine ⟨hb5, [.bool true], _, rfl, by kernel_rfl, by kernel_rfl, fun g5 => ?_⟩
        replace r_a := g5.rdD r_a; replace r_b := g5.rdD r_b
        clear h5 hb5
        exact sat_ret (.bool true) (by kernel_rfl) fun w9 h9 => rfl
      · refine sat_false (by kernel_rfl) ?_
        refine sat_call #[.agg #[.bool b.neg, .slice A_b n_b c_b, .int .i64 b.e]] (by kernel_rfl) fun w5 h5 => ?_
        refine (mayD_any _ (b) _ (h5.rdD r_b)).mono ?_
        rintro e v5 ⟨rfl, hb5⟩
        refine ⟨hb5, [.bool (mayD b)], _, rfl, by kernel_rfl, by kernel_rfl, fun g5 => ?_⟩
        replace r_a := g5.rdD r_a; replace r_b := g5.rdD r_b
        clear h5 hb5
        refine sat_prim (v := .bool (!(mayD b))) (by kernel_rfl) ?_
        cases hmb : (mayD b)
        · refine sat_true (by kernel_rfl) ?_
          refine sat_call #[] (by kernel_rfl) fun w7 h7 => ?_
          refine (told3_any _ (h7.tab hT)).mono ?_
          rintro e v7 ⟨rfl, hb7⟩
          refine ⟨hb7, [.bool true], _, rfl, by kernel_rfl, by kernel_rfl, fun g7 => ?_⟩
          replace r_a := g7.rdD r_a; replace r_b := g7.rdD r_b
          clear h7 hb7
          exact sat_ret (.bool true) (by kernel_rfl) fun w9 h9 => rfl
        · refine sat_false (by kernel_rfl) ?_
          refine sat_call #[.agg #[.bool b.neg, .slice A_b n_b c_b, .int .i64 b.e]] (by kernel_rfl) fun w7 h7 => ?_
          refine (signD_any _ (b) _ (h7.rdD r_b)).mono ?_
          rintro e v7 ⟨rfl, hb7⟩
          refine ⟨hb7, [.int .i64 (signD b)], _, rfl, by kernel_rfl, by kernel_rfl, fun g7 => ?_⟩
          replace r_a := g7.rdD r_a; replace r_b := g7.rdD r_b
          clear h7 hb7
          refine sat_prim (v := .bool (decide (((signD b) : Int) ≤ 0))) (by kernel_rfl) ?_
          cases hsb : (decide (((signD b) : Int) ≤ 0))
          · refine sat_false (by kernel_rfl) ?_
            refine sat_call #[.agg #[.bool a.neg, .slice A_a n_a c_a, .int .i64 a.e], .agg #[.bool b.neg, .slice A_b n_b c_b, .int .i64 b.e], .int .i64 ((N1 : Nat) : Int), .bool false] (by kernel_rfl) fun w9 h9 => ?_
            refine (quotT _ _ a b ((N1 : Nat) : Int) false _ (h9.rdD r_a) (h9.rdD r_b) (h9.tab hT)).mono ?_
            rintro e v9 ⟨⟨d_t1, x_t1, A_t1, n_t1, c_t1, h_t1, rfl, r_t1⟩, hb9⟩
            refine ⟨hb9, [.bool d_t1.neg, .slice A_t1 n_t1 c_t1, .int .i64 d_t1.e, .int .i64 x_t1], _, rfl, by kernel_rfl, by kernel_rfl, fun g9 => ?_⟩
            replace r_a := g9.rdD r_a; replace r_b := g9.rdD r_b
            clear h9 hb9
            refine sat_chkB (by kernel_rfl) ?_
            refine sat_call #[.agg #[.bool a.neg, .slice A_a n_a c_a, .int .i64 a.e], .agg #[.bool b.neg, .slice A_b n_b c_b, .int .i64 b.e], .int .i64 ((N1 : Nat) : Int), .bool true] (by kernel_rfl) fun w10 h10 => ?_
            refine (quotT _ _ a b ((N1 : Nat) : Int) true _ (h10.rdD r_a) (h10.rdD r_b) (h10.tab hT)).mono ?_
            rintro e v10 ⟨⟨d_t2, x_t2, A_t2, n_t2, c_t2, h_t2, rfl, r_t2⟩, hb10⟩
            refine ⟨hb10, [.bool d_t2.neg, .slice A_t2 n_t2 c_t2, .int .i64 d_t2.e, .int .i64 x_t2], _, rfl, by kernel_rfl, by kernel_rfl, fun g10 => ?_⟩
            replace r_a := g10.rdD r_a; replace r_b := g10.rdD r_b; replace r_t1 := g10.rdD r_t1
            clear h10 hb10
            refine sat_chkB (by kernel_rfl) ?_
            refine sat_prim (v := .bool ((x_t1 : Int) == 0)) (by kernel_rfl) ?_
            cases he_t1 : ((x_t1 : Int) == 0)
            · refine sat_false (by kernel_rfl) ?_
              refine sat_call #[.agg #[.bool b.neg, .slice A_b n_b c_b, .int .i64 b.e], .int .i64 ((N1 : Nat) : Int), .bool false] (by kernel_rfl) fun w12 h12 => ?_
              refine (rootT _ b ((N1 : Nat) : Int) false _ (h12.rdD r_b) (h12.tab hT)).mono ?_
              rintro e v12 ⟨⟨d_t3, x_t3, A_t3, n_t3, c_t3, h_t3, rfl, r_t3⟩, hb12⟩
              refine ⟨hb12, [.bool d_t3.neg, .slice A_t3 n_t3 c_t3, .int .i64 d_t3.e, .int .i64 x_t3], _, rfl, by kernel_rfl, by kernel_rfl, fun g12 => ?_⟩
              replace r_a := g12.rdD r_a; replace r_b := g12.rdD r_b; replace r_t1 := g12.rdD r_t1; replace r_t2 := g12.rdD r_t2
              clear h12 hb12
              refine sat_chkB (by kernel_rfl) ?_
              refine sat_call #[.agg #[.bool b.neg, .slice A_b n_b c_b, .int .i64 b.e], .int .i64 ((N1 : Nat) : Int), .bool true] (by kernel_rfl) fun w13 h13 => ?_
              refine (rootT _ b ((N1 : Nat) : Int) true _ (h13.rdD r_b) (h13.tab hT)).mono ?_
              rintro e v13 ⟨⟨d_t4, x_t4, A_t4, n_t4, c_t4, h_t4, rfl, r_t4⟩, hb13⟩
              refine ⟨hb13, [.bool d_t4.neg, .slice A_t4 n_t4 c_t4, .int .i64 d_t4.e, .int .i64 x_t4], _, rfl, by kernel_rfl, by kernel_rfl, fun g13 => ?_⟩
              replace r_a := g13.rdD r_a; replace r_b := g13.rdD r_b; replace r_t1 := g13.rdD r_t1; replace r_t2 := g13.rdD r_t2; replace r_t3 := g13.rdD r_t3
              clear h13 hb13
              refine sat_chkB (by kernel_rfl) ?_
              refine sat_prim (v := .bool ((x_t3 : Int) != 0)) (by kernel_rfl) ?_
              cases hn_t3 : ((x_t3 : Int) != 0)
              · refine sat_false (by kernel_rfl) ?_
                refine sat_prim (v := .bool ((x_t4 : Int) != 0)) (by kernel_rfl) ?_
                cases hn_t4 : ((x_t4 : Int) != 0)
                · refine sat_false (by kernel_rfl) ?_
                  refine sat_call #[.agg #[.bool d_t3.neg, .slice A_t3 n_t3 c_t3, .int .i64 d_t3.e], .agg #[.bool d_t3.neg, .slice A_t3 n_t3 c_t3, .int .i64 d_t3.e]] (by kernel_rfl) fun w16 h16 => ?_
                  refine (mulT _ _ d_t3 d_t3 _ (h16.rdD r_t3) (h16.rdD r_t3) (h16.tab hT)).mono ?_
                  rintro e v16 ⟨⟨d_t5, x_t5, A_t5, n_t5, c_t5, h_t5, rfl, r_t5⟩, hb16⟩
                  refine ⟨hb16, [.bool d_t5.neg, .slice A_t5 n_t5 c_t5, .int .i64 d_t5.e, .int .i64 x_t5], _, rfl, by kernel_rfl, by kernel_rfl, fun g16 => ?_⟩
                  replace r_a := g16.rdD r_a; replace r_b := g16.rdD r_b; replace r_t1 := g16.rdD r_t1; replace r_t2 := g16.rdD r_t2; replace r_t3 := g16.rdD r_t3; replace r_t4 := g16.rdD r_t4
                  clear h16 hb16
                  refine sat_chkB (by kernel_rfl) ?_
                  refine sat_call #[.agg #[.bool d_t4.neg, .slice A_t4 n_t4 c_t4, .int .i64 d_t4.e], .agg #[.bool d_t4.neg, .slice A_t4 n_t4 c_t4, .int .i64 d_t4.e]] (by kernel_rfl) fun w17 h17 => ?_
                  refine (mulT _ _ d_t4 d_t4 _ (h17.rdD r_t4) (h17.rdD r_t4) (h17.tab hT)).mono ?_
                  rintro e v17 ⟨⟨d_t6, x_t6, A_t6, n_t6, c_t6, h_t6, rfl, r_t6⟩, hb17⟩
                  refine ⟨hb17, [.bool d_t6.neg, .slice A_t6 n_t6 c_t6, .int .i64 d_t6.e, .int .i64 x_t6], _, rfl, by kernel_rfl, by kernel_rfl, fun g17 => ?_⟩
                  replace r_a := g17.rdD r_a; replace r_b := g17.rdD r_b; replace r_t1 := g17.rdD r_t1; replace r_t2 := g17.rdD r_t2; replace r_t3 := g17.rdD r_t3; replace r_t4 := g17.rdD r_t4; replace r_t5 := g17.rdD r_t5
                  clear h17 hb17
                  refine sat_chkB (by kernel_rfl) ?_
                  refine sat_call #[] (by kernel_rfl) fun w18 h18 => ?_
                  refine (told3_any _ (h18.tab hT)).mono ?_
                  rintro e v18 ⟨rfl, hb18⟩
                  refine ⟨hb18, [.bool true], _, rfl, by kernel_rfl, by kernel_rfl, fun g18 => ?_⟩
                  replace r_a := g18.rdD r_a; replace r_b := g18.rdD r_b; replace r_t1 := g18.rdD r_t1; replace r_t2 := g18.rdD r_t2; replace r_t3 := g18.rdD r_t3; replace r_t4 := g18.rdD r_t4; replace r_t5 := g18.rdD r_t5; replace r_t6 := g18.rdD r_t6
                  clear h18 hb18
                  refine sat_true (by kernel_rfl) ?_
                  refine sat_prim (v := .bool ((x_t5 : Int) != 0)) (by kernel_rfl) ?_
                  cases hn_t5 : ((x_t5 : Int) != 0)
                  · refine sat_false (by kernel_rfl) ?_
                    refine sat_prim (v := .bool ((x_t6 : Int) != 0)) (by kernel_rfl) ?_
                    cases hn_t6 : ((x_t6 : Int) != 0)
                    · refine sat_false (by kernel_rfl) ?_
                      refine sat_call #[.agg #[.bool d_t5.neg, .slice A_t5 n_t5 c_t5, .int .i64 d_t5.e], .agg #[.bool b.neg, .slice A_b n_b c_b, .int .i64 b.e]] (by kernel_rfl) fun w21 h21 => ?_
                      refine (cmpD_any _ _ (d_t5) (b) _ (h21.rdD r_t5) (h21.rdD r_b)).mono ?_
                      rintro e v21 ⟨rfl, hb21⟩
                      refine ⟨hb21, [.int .i64 (cmpD d_t5 b)], _, rfl, by kernel_rfl, by kernel_rfl, fun g21 => ?_⟩
                      replace r_a := g21.rdD r_a; replace r_b := g21.rdD r_b; replace r_t1 := g21.rdD r_t1; replace r_t2 := g21.rdD r_t2; replace r_t3 := g21.rdD r_t3; replace r_t4 := g21.rdD r_t4; replace r_t5 := g21.rdD r_t5; replace r_t6 := g21.rdD r_t6
                      clear h21 hb21
                      refine sat_prim (v := .bool (decide (((cmpD d_t5 b) : Int) ≤ 0))) (by kernel_rfl) ?_
                      refine sat_trueP (b := (decide (((cmpD d_t5 b) : Int) ≤ 0))) (by kernel_rfl) (root_lo ⟨hmb, r_b.lim⟩ (d0 h_t3 hn_t3) (two_mul (root_may ⟨hmb, r_b.lim⟩ (d0 h_t3 hn_t3)) (root_may ⟨hmb, r_b.lim⟩ (d0 h_t3 hn_t3)) (d0 h_t5 hn_t5))) ?_
                      refine sat_call #[.agg #[.bool b.neg, .slice A_b n_b c_b, .int .i64 b.e], .agg #[.bool d_t6.neg, .slice A_t6 n_t6 c_t6, .int .i64 d_t6.e]] (by kernel_rfl) fun w22 h22 => ?_
                      refine (cmpD_any _ _ (b) (d_t6) _ (h22.rdD r_b) (h22.rdD r_t6)).mono ?_
                      rintro e v22 ⟨rfl, hb22⟩
                      refine ⟨hb22, [.int .i64 (cmpD b d_t6)], _, rfl, by kernel_rfl, by kernel_rfl, fun g22 => ?_⟩
                      replace r_a := g22.rdD r_a; replace r_b := g22.rdD r_b; replace r_t1 := g22.rdD r_t1; replace r_t2 := g22.rdD r_t2; replace r_t3 := g22.rdD r_t3; replace r_t4 := g22.rdD r_t4; replace r_t5 := g22.rdD r_t5; replace r_t6 := g22.rdD r_t6
                      clear h22 hb22
                      refine sat_prim (v := .bool (decide (((cmpD b d_t6) : Int) ≤ 0))) (by kernel_rfl) ?_
                      refine sat_trueP (b := (decide (((cmpD b d_t6) : Int) ≤ 0))) (by kernel_rfl) (root_hi ⟨hmb, r_b.lim⟩ (d0 h_t4 hn_t4) (two_mul (root_may ⟨hmb, r_b.lim⟩ (d0 h_t4 hn_t4)) (root_may ⟨hmb, r_b.lim⟩ (d0 h_t4 hn_t4)) (d0 h_t6 hn_t6))) ?_
                      refine sat_call #[.agg #[.bool d_t3.neg, .slice A_t3 n_t3 c_t3, .int .i64 d_t3.e]] (by kernel_rfl) fun w23 h23 => ?_
                      refine (signD_any _ (d_t3) _ (h23.rdD r_t3)).mono ?_
                      rintro e v23 ⟨rfl, hb23⟩
                      refine ⟨hb23, [.int .i64 (signD d_t3)], _, rfl, by kernel_rfl, by kernel_rfl, fun g23 => ?_⟩
                      replace r_a := g23.rdD r_a; replace r_b := g23.rdD r_b; replace r_t1 := g23.rdD r_t1; replace r_t2 := g23.rdD r_t2; replace r_t3 := g23.rdD r_t3; replace r_t4 := g23.rdD r_t4; replace r_t5 := g23.rdD r_t5; replace r_t6 := g23.rdD r_t6
                      clear h23 hb23
                      refine sat_prim (v := .bool (decide ((0 : Int) < (signD d_t3)))) (by kernel_rfl) ?_
                      refine sat_trueP (b := (decide ((0 : Int) < (signD d_t3)))) (by kernel_rfl) (root_sign ⟨hmb, r_b.lim⟩ (d0 h_t3 hn_t3) hsb) ?_
                      refine sat_call #[.agg #[.bool d_t3.neg, .slice A_t3 n_t3 c_t3, .int .i64 d_t3.e]] (by kernel_rfl) fun w24 h24 => ?_
                      refine (bitsD_any _ d_t3 _ (h24.rdD r_t3)).mono ?_
                      rintro e v24 ⟨rfl, hb24⟩
                      refine ⟨hb24, [.int .i64 (bitsD d_t3)], _, rfl, by kernel_rfl, by kernel_rfl, fun g24 => ?_⟩
                      replace r_a := g24.rdD r_a; replace r_b := g24.rdD r_b; replace r_t1 := g24.rdD r_t1; replace r_t2 := g24.rdD r_t2; replace r_t3 := g24.rdD r_t3; replace r_t4 := g24.rdD r_t4; replace r_t5 := g24.rdD r_t5; replace r_t6 := g24.rdD r_t6
                      clear h24 hb24
                      refine sat_prim (v := .bool (decide (((bitsD d_t3) : Int) ≤ ((N1 : Nat) : Int)))) (by kernel_rfl) ?_
                      refine sat_trueP (b := (decide (((bitsD d_t3) : Int) ≤ ((N1 : Nat) : Int)))) (by kernel_rfl) (root_bits ⟨hmb, r_b.lim⟩ (d0 h_t3 hn_t3)) ?_
                      refine sat_call #[.agg #[.bool d_t4.neg, .slice A_t4 n_t4 c_t4, .int .i64 d_t4.e]] (by kernel_rfl) fun w25 h25 => ?_
                      refine (bitsD_any _ d_t4 _ (h25.rdD r_t4)).mono ?_
                      rintro e v25 ⟨rfl, hb25⟩
                      refine ⟨hb25, [.int .i64 (bitsD d_t4)], _, rfl, by kernel_rfl, by kernel_rfl, fun g25 => ?_⟩
                      replace r_a := g25.rdD r_a; replace r_b := g25.rdD r_b; replace r_t1 := g25.rdD r_t1; replace r_t2 := g25.rdD r_t2; replace r_t3 := g25.rdD r_t3; replace r_t4 := g25.rdD r_t4; replace r_t5 := g25.rdD r_t5; replace r_t6 := g25.rdD r_t6
                      clear h25 hb25
                      refine sat_prim (v := .bool (decide (((bitsD d_t4) : Int) ≤ ((N1 : Nat) : Int)))) (by kernel_rfl) ?_
                      exact sat_ret (.bool (decide (((bitsD d_t4) : Int) ≤ ((N1 : Nat) : Int)))) (by kernel_rfl) fun w9 h9 => congrArg Value.bool (root_bits ⟨hmb, r_b.lim⟩ (d0 h_t4 hn_t4))
                    · refine sat_true (by kernel_rfl) ?_
                      refine sat_call #[.agg #[.bool d_t3.neg, .slice A_t3 n_t3 c_t3, .int .i64 d_t3.e]] (by kernel_rfl) fun w21 h21 => ?_
                      refine (signD_any _ (d_t3) _ (h21.rdD r_t3)).mono ?_
                      rintro e v21 ⟨rfl, hb21⟩
                      refine ⟨hb21, [.int .i64 (signD d_t3)], _, rfl, by kernel_rfl, by kernel_rfl, fun g21 => ?_⟩
                      replace r_a := g21.rdD r_a; replace r_b := g21.rdD r_b; replace r_t1 := g21.rdD r_t1; replace r_t2 := g21.rdD r_t2; replace r_t3 := g21.rdD r_t3; replace r_t4 := g21.rdD r_t4; replace r_t5 := g21.rdD r_t5; replace r_t6 := g21.rdD r_t6
                      clear h21 hb21
                      refine sat_prim (v := .bool (decide ((0 : Int) < (signD d_t3)))) (by kernel_rfl) ?_
                      refine sat_trueP (b := (decide ((0 : Int) < (signD d_t3)))) (by kernel_rfl) (root_sign ⟨hmb, r_b.lim⟩ (d0 h_t3 hn_t3) hsb) ?_
                      refine sat_call #[.agg #[.bool d_t3.neg, .slice A_t3 n_t3 c_t3, .int .i64 d_t3.e]] (by kernel_rfl) fun w22 h22 => ?_
                      refine (bitsD_any _ d_t3 _ (h22.rdD r_t3)).mono ?_
                      rintro e v22 ⟨rfl, hb22⟩
                      refine ⟨hb22, [.int .i64 (bitsD d_t3)], _, rfl, by kernel_rfl, by kernel_rfl, fun g22 => ?_⟩
                      replace r_a := g22.rdD r_a; replace r_b := g22.rdD r_b; replace r_t1 := g22.rdD r_t1; replace r_t2 := g22.rdD r_t2; replace r_t3 := g22.rdD r_t3; replace r_t4 := g22.rdD r_t4; replace r_t5 := g22.rdD r_t5; replace r_t6 := g22.rdD r_t6
                      clear h22 hb22
                      refine sat_prim (v := .bool (decide (((bitsD d_t3) : Int) ≤ ((N1 : Nat) : Int)))) (by kernel_rfl) ?_
                      refine sat_trueP (b := (decide (((bitsD d_t3) : Int) ≤ ((N1 : Nat) : Int)))) (by kernel_rfl) (root_bits ⟨hmb, r_b.lim⟩ (d0 h_t3 hn_t3)) ?_
                      refine sat_call #[.agg #[.bool d_t4.neg, .slice A_t4 n_t4 c_t4, .int .i64 d_t4.e]] (by kernel_rfl) fun w23 h23 => ?_
                      refine (bitsD_any _ d_t4 _ (h23.rdD r_t4)).mono ?_
                      rintro e v23 ⟨rfl, hb23⟩
                      refine ⟨hb23, [.int .i64 (bitsD d_t4)], _, rfl, by kernel_rfl, by kernel_rfl, fun g23 => ?_⟩
                      replace r_a := g23.rdD r_a; replace r_b := g23.rdD r_b; replace r_t1 := g23.rdD r_t1; replace r_t2 := g23.rdD r_t2; replace r_t3 := g23.rdD r_t3; replace r_t4 := g23.rdD r_t4; replace r_t5 := g23.rdD r_t5; replace r_t6 := g23.rdD r_t6
                      clear h23 hb23
                      refine sat_prim (v := .bool (decide (((bitsD d_t4) : Int) ≤ ((N1 : Nat) : Int)))) (by kernel_rfl) ?_
                      exact sat_ret (.bool (decide (((bitsD d_t4) : Int) ≤ ((N1 : Nat) : Int)))) (by kernel_rfl) fun w9 h9 => congrArg Value.bool (root_bits ⟨hmb, r_b.lim⟩ (d0 h_t4 hn_t4))
                  · refine sat_true (by kernel_rfl) ?_
                    refine sat_call #[.agg #[.bool d_t3.neg, .slice A_t3 n_t3 c_t3, .int .i64 d_t3.e]] (by kernel_rfl) fun w20 h20 => ?_
                    refine (signD_any _ (d_t3) _ (h20.rdD r_t3)).mono ?_
                    rintro e v20 ⟨rfl, hb20⟩
                    refine ⟨hb20, [.int .i64 (signD d_t3)], _, rfl, by kernel_rfl, by kernel_rfl, fun g20 => ?_⟩
                    replace r_a := g20.rdD r_a; replace r_b := g20.rdD r_b; replace r_t1 := g20.rdD r_t1; replace r_t2 := g20.rdD r_t2; replace r_t3 := g20.rdD r_t3; replace r_t4 := g20.rdD r_t4; replace r_t5 := g20.rdD r_t5; replace r_t6 := g20.rdD r_t6
                    clear h20 hb20
                    refine sat_prim (v := .bool (decide ((0 : Int) < (signD d_t3)))) (by kernel_rfl) ?_
                    refine sat_trueP (b := (decide ((0 : Int) < (signD d_t3)))) (by kernel_rfl) (root_sign ⟨hmb, r_b.lim⟩ (d0 h_t3 hn_t3) hsb) ?_
                    refine sat_call #[.agg #[.bool d_t3.neg, .slice A_t3 n_t3 c_t3, .int .i64 d_t3.e]] (by kernel_rfl) fun w21 h21 => ?_
                    refine (bitsD_any _ d_t3 _ (h21.rdD r_t3)).mono ?_
                    rintro e v21 ⟨rfl, hb21⟩
                    refine ⟨hb21, [.int .i64 (bitsD d_t3)], _, rfl, by kernel_rfl, by kernel_rfl, fun g21 => ?_⟩
                    replace r_a := g21.rdD r_a; replace r_b := g21.rdD r_b; replace r_t1 := g21.rdD r_t1; replace r_t2 := g21.rdD r_t2; replace r_t3 := g21.rdD r_t3; replace r_t4 := g21.rdD r_t4; replace r_t5 := g21.rdD r_t5; replace r_t6 := g21.rdD r_t6
                    clear h21 hb21
                    refine sat_prim (v := .bool (decide (((bitsD d_t3) : Int) ≤ ((N1 : Nat) : Int)))) (by kernel_rfl) ?_
                    refine sat_trueP (b := (decide (((bitsD d_t3) : Int) ≤ ((N1 : Nat) : Int)))) (by kernel_rfl) (root_bits ⟨hmb, r_b.lim⟩ (d0 h_t3 hn_t3)) ?_
                    refine sat_call #[.agg #[.bool d_t4.neg, .slice A_t4 n_t4 c_t4, .int .i64 d_t4.e]] (by kernel_rfl) fun w22 h22 => ?_
                    refine (bitsD_any _ d_t4 _ (h22.rdD r_t4)).mono ?_
                    rintro e v22 ⟨rfl, hb22⟩
                    refine ⟨hb22, [.int .i64 (bitsD d_t4)], _, rfl, by kernel_rfl, by kernel_rfl, fun g22 => ?_⟩
                    replace r_a := g22.rdD r_a; replace r_b := g22.rdD r_b; replace r_t1 := g22.rdD r_t1; replace r_t2 := g22.rdD r_t2; replace r_t3 := g22.rdD r_t3; replace r_t4 := g22.rdD r_t4; replace r_t5 := g22.rdD r_t5; replace r_t6 := g22.rdD r_t6
                    clear h22 hb22
                    refine sat_prim (v := .bool (decide (((bitsD d_t4) : Int) ≤ ((N1 : Nat) : Int)))) (by kernel_rfl) ?_
                    exact sat_ret (.bool (decide (((bitsD d_t4) : Int) ≤ ((N1 : Nat) : Int)))) (by kernel_rfl) fun w9 h9 => congrArg Value.bool (root_bits ⟨hmb, r_b.lim⟩ (d0 h_t4 hn_t4))
                · refine sat_true (by kernel_rfl) ?_
                  refine sat_call #[] (by kernel_rfl) fun w16 h16 => ?_
                  refine (told3_any _ (h16.tab hT)).mono ?_
                  rintro e v16 ⟨rfl, hb16⟩
                  refine ⟨hb16, [.bool true], _, rfl, by kernel_rfl, by kernel_rfl, fun g16 => ?_⟩
                  replace r_a := g16.rdD r_a; replace r_b := g16.rdD r_b; replace r_t1 := g16.rdD r_t1; replace r_t2 := g16.rdD r_t2; replace r_t3 := g16.rdD r_t3; replace r_t4 := g16.rdD r_t4
                  clear h16 hb16
                  exact sat_ret (.bool true) (by kernel_rfl) fun w9 h9 => rfl
              · refine sat_true (by kernel_rfl) ?_
                refine sat_call #[] (by kernel_rfl) fun w15 h15 => ?_
                refine (told3_any _ (h15.tab hT)).mono ?_
                rintro e v15 ⟨rfl, hb15⟩
                refine ⟨hb15, [.bool true], _, rfl, by kernel_rfl, by kernel_rfl, fun g15 => ?_⟩
                replace r_a := g15.rdD r_a; replace r_b := g15.rdD r_b; replace r_t1 := g15.rdD r_t1; replace r_t2 := g15.rdD r_t2; replace r_t3 := g15.rdD r_t3; replace r_t4 := g15.rdD r_t4
                clear h15 hb15
                exact sat_ret (.bool true) (by kernel_rfl) fun w9 h9 => rfl
            · refine sat_true (by kernel_rfl) ?_
              refine sat_prim (v := .bool ((x_t2 : Int) == 0)) (by kernel_rfl) ?_
              cases he_t2 : ((x_t2 : Int) == 0)
              · refine sat_false (by kernel_rfl) ?_
                refine sat_call #[.agg #[.bool b.neg, .slice A_b n_b c_b, .int .i64 b.e], .int .i64 ((N1 : Nat) : Int), .bool false] (by kernel_rfl) fun w13 h13 => ?_
                refine (rootT _ b ((N1 : Nat) : Int) false _ (h13.rdD r_b) (h13.tab hT)).mono ?_
                rintro e v13 ⟨⟨d_t3, x_t3, A_t3, n_t3, c_t3, h_t3, rfl, r_t3⟩, hb13⟩
                refine ⟨hb13, [.bool d_t3.neg, .slice A_t3 n_t3 c_t3, .int .i64 d_t3.e, .int .i64 x_t3], _, rfl, by kernel_rfl, by kernel_rfl, fun g13 => ?_⟩
                replace r_a := g13.rdD r_a; replace r_b := g13.rdD r_b; replace r_t1 := g13.rdD r_t1; replace r_t2 := g13.rdD r_t2
                clear h13 hb13
                refine sat_chkB (by kernel_rfl) ?_
                refine sat_call #[.agg #[.bool b.neg, .slice A_b n_b c_b, .int .i64 b.e], .int .i64 ((N1 : Nat) : Int), .bool true] (by kernel_rfl) fun w14 h14 => ?_
                refine (rootT _ b ((N1 : Nat) : Int) true _ (h14.rdD r_b) (h14.tab hT)).mono ?_
                rintro e v14 ⟨⟨d_t4, x_t4, A_t4, n_t4, c_t4, h_t4, rfl, r_t4⟩, hb14⟩
                refine ⟨hb14, [.bool d_t4.neg, .slice A_t4 n_t4 c_t4, .int .i64 d_t4.e, .int .i64 x_t4], _, rfl, by kernel_rfl, by kernel_rfl, fun g14 => ?_⟩
                replace r_a := g14.rdD r_a; replace r_b := g14.rdD r_b; replace r_t1 := g14.rdD r_t1; replace r_t2 := g14.rdD r_t2; replace r_t3 := g14.rdD r_t3
                clear h14 hb14
                refine sat_chkB (by kernel_rfl) ?_
                refine sat_prim (v := .bool ((x_t3 : Int) != 0)) (by kernel_rfl) ?_
                cases hn_t3 : ((x_t3 : Int) != 0)
                · refine sat_false (by kernel_rfl) ?_
                  refine sat_prim (v := .bool ((x_t4 : Int) != 0)) (by kernel_rfl) ?_
                  cases hn_t4 : ((x_t4 : Int) != 0)
                  · refine sat_false (by kernel_rfl) ?_
                    refine sat_call #[.agg #[.bool d_t3.neg, .slice A_t3 n_t3 c_t3, .int .i64 d_t3.e], .agg #[.bool d_t3.neg, .slice A_t3 n_t3 c_t3, .int .i64 d_t3.e]] (by kernel_rfl) fun w17 h17 => ?_
                    refine (mulT _ _ d_t3 d_t3 _ (h17.rdD r_t3) (h17.rdD r_t3) (h17.tab hT)).mono ?_
                    rintro e v17 ⟨⟨d_t5, x_t5, A_t5, n_t5, c_t5, h_t5, rfl, r_t5⟩, hb17⟩
                    refine ⟨hb17, [.bool d_t5.neg, .slice A_t5 n_t5 c_t5, .int .i64 d_t5.e, .int .i64 x_t5], _, rfl, by kernel_rfl, by kernel_rfl, fun g17 => ?_⟩
                    replace r_a := g17.rdD r_a; replace r_b := g17.rdD r_b; replace r_t1 := g17.rdD r_t1; replace r_t2 := g17.rdD r_t2; replace r_t3 := g17.rdD r_t3; replace r_t4 := g17.rdD r_t4
                    clear h17 hb17
                    refine sat_chkB (by kernel_rfl) ?_
                    refine sat_call #[.agg #[.bool d_t4.neg, .slice A_t4 n_t4 c_t4, .int .i64 d_t4.e], .agg #[.bool d_t4.neg, .slice A_t4 n_t4 c_t4, .int .i64 d_t4.e]] (by kernel_rfl) fun w18 h18 => ?_
                    refine (mulT _ _ d_t4 d_t4 _ (h18.rdD r_t4) (h18.rdD r_t4) (h18.tab hT)).mono ?_
                    rintro e v18 ⟨⟨d_t6, x_t6, A_t6, n_t6, c_t6, h_t6, rfl, r_t6⟩, hb18⟩
                    refine ⟨hb18, [.bool d_t6.neg, .slice A_t6 n_t6 c_t6, .int .i64 d_t6.e, .int .i64 x_t6], _, rfl, by kernel_rfl, by kernel_rfl, fun g18 => ?_⟩
                    replace r_a := g18.rdD r_a; replace r_b := g18.rdD r_b; replace r_t1 := g18.rdD r_t1; replace r_t2 := g18.rdD r_t2; replace r_t3 := g18.rdD r_t3; replace r_t4 := g18.rdD r_t4; replace r_t5 := g18.rdD r_t5
                    clear h18 hb18
                    refine sat_chkB (by kernel_rfl) ?_
                    refine sat_call #[] (by kernel_rfl) fun w19 h19 => ?_
                    refine (told3_any _ (h19.tab hT)).mono ?_
                    rintro e v19 ⟨rfl, hb19⟩
                    refine ⟨hb19, [.bool true], _, rfl, by kernel_rfl, by kernel_rfl, fun g19 => ?_⟩
                    replace r_a := g19.rdD r_a; replace r_b := g19.rdD r_b; replace r_t1 := g19.rdD r_t1; replace r_t2 := g19.rdD r_t2; replace r_t3 := g19.rdD r_t3; replace r_t4 := g19.rdD r_t4; replace r_t5 := g19.rdD r_t5; replace r_t6 := g19.rdD r_t6
                    clear h19 hb19
                    refine sat_true (by kernel_rfl) ?_
                    refine sat_prim (v := .bool ((x_t5 : Int) != 0)) (by kernel_rfl) ?_
                    cases hn_t5 : ((x_t5 : Int) != 0)
                    · refine sat_false (by kernel_rfl) ?_
                      refine sat_prim (v := .bool ((x_t6 : Int) != 0)) (by kernel_rfl) ?_
                      cases hn_t6 : ((x_t6 : Int) != 0)
                      · refine sat_false (by kernel_rfl) ?_
                        refine sat_call #[.agg #[.bool d_t5.neg, .slice A_t5 n_t5 c_t5, .int .i64 d_t5.e], .agg #[.bool b.neg, .slice A_b n_b c_b, .int .i64 b.e]] (by kernel_rfl) fun w22 h22 => ?_
                        refine (cmpD_any _ _ (d_t5) (b) _ (h22.rdD r_t5) (h22.rdD r_b)).mono ?_
                        rintro e v22 ⟨rfl, hb22⟩
                        refine ⟨hb22, [.int .i64 (cmpD d_t5 b)], _, rfl, by kernel_rfl, by kernel_rfl, fun g22 => ?_⟩
                        replace r_a := g22.rdD r_a; replace r_b := g22.rdD r_b; replace r_t1 := g22.rdD r_t1; replace r_t2 := g22.rdD r_t2; replace r_t3 := g22.rdD r_t3; replace r_t4 := g22.rdD r_t4; replace r_t5 := g22.rdD r_t5; replace r_t6 := g22.rdD r_t6
                        clear h22 hb22
                        refine sat_prim (v := .bool (decide (((cmpD d_t5 b) : Int) ≤ 0))) (by kernel_rfl) ?_
                        refine sat_trueP (b := (decide (((cmpD d_t5 b) : Int) ≤ 0))) (by kernel_rfl) (root_lo ⟨hmb, r_b.lim⟩ (d0 h_t3 hn_t3) (two_mul (root_may ⟨hmb, r_b.lim⟩ (d0 h_t3 hn_t3)) (root_may ⟨hmb, r_b.lim⟩ (d0 h_t3 hn_t3)) (d0 h_t5 hn_t5))) ?_
                        refine sat_call #[.agg #[.bool b.neg, .slice A_b n_b c_b, .int .i64 b.e], .agg #[.bool d_t6.neg, .slice A_t6 n_t6 c_t6, .int .i64 d_t6.e]] (by kernel_rfl) fun w23 h23 => ?_
                        refine (cmpD_any _ _ (b) (d_t6) _ (h23.rdD r_b) (h23.rdD r_t6)).mono ?_
                        rintro e v23 ⟨rfl, hb23⟩
                        refine ⟨hb23, [.int .i64 (cmpD b d_t6)], _, rfl, by kernel_rfl, by kernel_rfl, fun g23 => ?_⟩
                        replace r_a := g23.rdD r_a; replace r_b := g23.rdD r_b; replace r_t1 := g23.rdD r_t1; replace r_t2 := g23.rdD r_t2; replace r_t3 := g23.rdD r_t3; replace r_t4 := g23.rdD r_t4; replace r_t5 := g23.rdD r_t5; replace r_t6 := g23.rdD r_t6
                        clear h23 hb23
                        refine sat_prim (v := .bool (decide (((cmpD b d_t6) : Int) ≤ 0))) (by kernel_rfl) ?_
                        refine sat_trueP (b := (decide (((cmpD b d_t6) : Int) ≤ 0))) (by kernel_rfl) (root_hi ⟨hmb, r_b.lim⟩ (d0 h_t4 hn_t4) (two_mul (root_may ⟨hmb, r_b.lim⟩ (d0 h_t4 hn_t4)) (root_may ⟨hmb, r_b.lim⟩ (d0 h_t4 hn_t4)) (d0 h_t6 hn_t6))) ?_
                        refine sat_call #[.agg #[.bool d_t3.neg, .slice A_t3 n_t3 c_t3, .int .i64 d_t3.e]] (by kernel_rfl) fun w24 h24 => ?_
                        refine (signD_any _ (d_t3) _ (h24.rdD r_t3)).mono ?_
                        rintro e v24 ⟨rfl, hb24⟩
                        refine ⟨hb24, [.int .i64 (signD d_t3)], _, rfl, by kernel_rfl, by kernel_rfl, fun g24 => ?_⟩
                        replace r_a := g24.rdD r_a; replace r_b := g24.rdD r_b; replace r_t1 := g24.rdD r_t1; replace r_t2 := g24.rdD r_t2; replace r_t3 := g24.rdD r_t3; replace r_t4 := g24.rdD r_t4; replace r_t5 := g24.rdD r_t5; replace r_t6 := g24.rdD r_t6
                        clear h24 hb24
                        refine sat_prim (v := .bool (decide ((0 : Int) < (signD d_t3)))) (by kernel_rfl) ?_
                        refine sat_trueP (b := (decide ((0 : Int) < (signD d_t3)))) (by kernel_rfl) (root_sign ⟨hmb, r_b.lim⟩ (d0 h_t3 hn_t3) hsb) ?_
                        refine sat_call #[.agg #[.bool d_t3.neg, .slice A_t3 n_t3 c_t3, .int .i64 d_t3.e]] (by kernel_rfl) fun w25 h25 => ?_
                        refine (bitsD_any _ d_t3 _ (h25.rdD r_t3)).mono ?_
                        rintro e v25 ⟨rfl, hb25⟩
                        refine ⟨hb25, [.int .i64 (bitsD d_t3)], _, rfl, by kernel_rfl, by kernel_rfl, fun g25 => ?_⟩
                        replace r_a := g25.rdD r_a; replace r_b := g25.rdD r_b; replace r_t1 := g25.rdD r_t1; replace r_t2 := g25.rdD r_t2; replace r_t3 := g25.rdD r_t3; replace r_t4 := g25.rdD r_t4; replace r_t5 := g25.rdD r_t5; replace r_t6 := g25.rdD r_t6
                        clear h25 hb25
                        refine sat_prim (v := .bool (decide (((bitsD d_t3) : Int) ≤ ((N1 : Nat) : Int)))) (by kernel_rfl) ?_
                        refine sat_trueP (b := (decide (((bitsD d_t3) : Int) ≤ ((N1 : Nat) : Int)))) (by kernel_rfl) (root_bits ⟨hmb, r_b.lim⟩ (d0 h_t3 hn_t3)) ?_
                        refine sat_call #[.agg #[.bool d_t4.neg, .slice A_t4 n_t4 c_t4, .int .i64 d_t4.e]] (by kernel_rfl) fun w26 h26 => ?_
                        refine (bitsD_any _ d_t4 _ (h26.rdD r_t4)).mono ?_
                        rintro e v26 ⟨rfl, hb26⟩
                        refine ⟨hb26, [.int .i64 (bitsD d_t4)], _, rfl, by kernel_rfl, by kernel_rfl, fun g26 => ?_⟩
                        replace r_a := g26.rdD r_a; replace r_b := g26.rdD r_b; replace r_t1 := g26.rdD r_t1; replace r_t2 := g26.rdD r_t2; replace r_t3 := g26.rdD r_t3; replace r_t4 := g26.rdD r_t4; replace r_t5 := g26.rdD r_t5; replace r_t6 := g26.rdD r_t6
                        clear h26 hb26
                        refine sat_prim (v := .bool (decide (((bitsD d_t4) : Int) ≤ ((N1 : Nat) : Int)))) (by kernel_rfl) ?_
                        exact sat_ret (.bool (decide (((bitsD d_t4) : Int) ≤ ((N1 : Nat) : Int)))) (by kernel_rfl) fun w9 h9 => congrArg Value.bool (root_bits ⟨hmb, r_b.lim⟩ (d0 h_t4 hn_t4))
                      · refine sat_true (by kernel_rfl) ?_
                        refine sat_call #[.agg #[.bool d_t3.neg, .slice A_t3 n_t3 c_t3, .int .i64 d_t3.e]] (by kernel_rfl) fun w22 h22 => ?_
                        refine (signD_any _ (d_t3) _ (h22.rdD r_t3)).mono ?_
                        rintro e v22 ⟨rfl, hb22⟩
                        refine ⟨hb22, [.int .i64 (signD d_t3)], _, rfl, by kernel_rfl, by kernel_rfl, fun g22 => ?_⟩
                        replace r_a := g22.rdD r_a; replace r_b := g22.rdD r_b; replace r_t1 := g22.rdD r_t1; replace r_t2 := g22.rdD r_t2; replace r_t3 := g22.rdD r_t3; replace r_t4 := g22.rdD r_t4; replace r_t5 := g22.rdD r_t5; replace r_t6 := g22.rdD r_t6
                        clear h22 hb22
                        refine sat_prim (v := .bool (decide ((0 : Int) < (signD d_t3)))) (by kernel_rfl) ?_
                        refine sat_trueP (b := (decide ((0 : Int) < (signD d_t3)))) (by kernel_rfl) (root_sign ⟨hmb, r_b.lim⟩ (d0 h_t3 hn_t3) hsb) ?_
                        refine sat_call #[.agg #[.bool d_t3.neg, .slice A_t3 n_t3 c_t3, .int .i64 d_t3.e]] (by kernel_rfl) fun w23 h23 => ?_
                        refine (bitsD_any _ d_t3 _ (h23.rdD r_t3)).mono ?_
                        rintro e v23 ⟨rfl, hb23⟩
                        refine ⟨hb23, [.int .i64 (bitsD d_t3)], _, rfl, by kernel_rfl, by kernel_rfl, fun g23 => ?_⟩
                        replace r_a := g23.rdD r_a; replace r_b := g23.rdD r_b; replace r_t1 := g23.rdD r_t1; replace r_t2 := g23.rdD r_t2; replace r_t3 := g23.rdD r_t3; replace r_t4 := g23.rdD r_t4; replace r_t5 := g23.rdD r_t5; replace r_t6 := g23.rdD r_t6
                        clear h23 hb23
                        refine sat_prim (v := .bool (decide (((bitsD d_t3) : Int) ≤ ((N1 : Nat) : Int)))) (by kernel_rfl) ?_
                        refine sat_trueP (b := (decide (((bitsD d_t3) : Int) ≤ ((N1 : Nat) : Int)))) (by kernel_rfl) (root_bits ⟨hmb, r_b.lim⟩ (d0 h_t3 hn_t3)) ?_
                        refine sat_call #[.agg #[.bool d_t4.neg, .slice A_t4 n_t4 c_t4, .int .i64 d_t4.e]] (by kernel_rfl) fun w24 h24 => ?_
                        refine (bitsD_any _ d_t4 _ (h24.rdD r_t4)).mono ?_
                        rintro e v24 ⟨rfl, hb24⟩
                        refine ⟨hb24, [.int .i64 (bitsD d_t4)], _, rfl, by kernel_rfl, by kernel_rfl, fun g24 => ?_⟩
                        replace r_a := g24.rdD r_a; replace r_b := g24.rdD r_b; replace r_t1 := g24.rdD r_t1; replace r_t2 := g24.rdD r_t2; replace r_t3 := g24.rdD r_t3; replace r_t4 := g24.rdD r_t4; replace r_t5 := g24.rdD r_t5; replace r_t6 := g24.rdD r_t6
                        clear h24 hb24
                        refine sat_prim (v := .bool (decide (((bitsD d_t4) : Int) ≤ ((N1 : Nat) : Int)))) (by kernel_rfl) ?_
                        exact sat_ret (.bool (decide (((bitsD d_t4) : Int) ≤ ((N1 : Nat) : Int)))) (by kernel_rfl) fun w9 h9 => congrArg Value.bool (root_bits ⟨hmb, r_b.lim⟩ (d0 h_t4 hn_t4))
                    · refine sat_true (by kernel_rfl) ?_
                      refine sat_call #[.agg #[.bool d_t3.neg, .slice A_t3 n_t3 c_t3, .int .i64 d_t3.e]] (by kernel_rfl) fun w21 h21 => ?_
                      refine (signD_any _ (d_t3) _ (h21.rdD r_t3)).mono ?_
                      rintro e v21 ⟨rfl, hb21⟩
                      refine ⟨hb21, [.int .i64 (signD d_t3)], _, rfl, by kernel_rfl, by kernel_rfl, fun g21 => ?_⟩
                      replace r_a := g21.rdD r_a; replace r_b := g21.rdD r_b; replace r_t1 := g21.rdD r_t1; replace r_t2 := g21.rdD r_t2; replace r_t3 := g21.rdD r_t3; replace r_t4 := g21.rdD r_t4; replace r_t5 := g21.rdD r_t5; replace r_t6 := g21.rdD r_t6
                      clear h21 hb21
                      refine sat_prim (v := .bool (decide ((0 : Int) < (signD d_t3)))) (by kernel_rfl) ?_
                      refine sat_trueP (b := (decide ((0 : Int) < (signD d_t3)))) (by kernel_rfl) (root_sign ⟨hmb, r_b.lim⟩ (d0 h_t3 hn_t3) hsb) ?_
                      refine sat_call #[.agg #[.bool d_t3.neg, .slice A_t3 n_t3 c_t3, .int .i64 d_t3.e]] (by kernel_rfl) fun w22 h22 => ?_
                      refine (bitsD_any _ d_t3 _ (h22.rdD r_t3)).mono ?_
                      rintro e v22 ⟨rfl, hb22⟩
                      refine ⟨hb22, [.int .i64 (bitsD d_t3)], _, rfl, by kernel_rfl, by kernel_rfl, fun g22 => ?_⟩
                      replace r_a := g22.rdD r_a; replace r_b := g22.rdD r_b; replace r_t1 := g22.rdD r_t1; replace r_t2 := g22.rdD r_t2; replace r_t3 := g22.rdD r_t3; replace r_t4 := g22.rdD r_t4; replace r_t5 := g22.rdD r_t5; replace r_t6 := g22.rdD r_t6
                      clear h22 hb22
                      refine sat_prim (v := .bool (decide (((bitsD d_t3) : Int) ≤ ((N1 : Nat) : Int)))) (by kernel_rfl) ?_
                      refine sat_trueP (b := (decide (((bitsD d_t3) : Int) ≤ ((N1 : Nat) : Int)))) (by kernel_rfl) (root_bits ⟨hmb, r_b.lim⟩ (d0 h_t3 hn_t3)) ?_
                      refine sat_call #[.agg #[.bool d_t4.neg, .slice A_t4 n_t4 c_t4, .int .i64 d_t4.e]] (by kernel_rfl) fun w23 h23 => ?_
                      refine (bitsD_any _ d_t4 _ (h23.rdD r_t4)).mono ?_
                      rintro e v23 ⟨rfl, hb23⟩
                      refine ⟨hb23, [.int .i64 (bitsD d_t4)], _, rfl, by kernel_rfl, by kernel_rfl, fun g23 => ?_⟩
                      replace r_a := g23.rdD r_a; replace r_b := g23.rdD r_b; replace r_t1 := g23.rdD r_t1; replace r_t2 := g23.rdD r_t2; replace r_t3 := g23.rdD r_t3; replace r_t4 := g23.rdD r_t4; replace r_t5 := g23.rdD r_t5; replace r_t6 := g23.rdD r_t6
                      clear h23 hb23
                      refine sat_prim (v := .bool (decide (((bitsD d_t4) : Int) ≤ ((N1 : Nat) : Int)))) (by kernel_rfl) ?_
                      exact sat_ret (.bool (decide (((bitsD d_t4) : Int) ≤ ((N1 : Nat) : Int)))) (by kernel_rfl) fun w9 h9 => congrArg Value.bool (root_bits ⟨hmb, r_b.lim⟩ (d0 h_t4 hn_t4))
                  · refine sat_true (by kernel_rfl) ?_
                    refine sat_call #[] (by kernel_rfl) fun w17 h17 => ?_
                    refine (told3_any _ (h17.tab hT)).mono ?_
                    rintro e v17 ⟨rfl, hb17⟩
                    refine ⟨hb17, [.bool true], _, rfl, by kernel_rfl, by kernel_rfl, fun g17 => ?_⟩
                    replace r_a := g17.rdD r_a; replace r_b := g17.rdD r_b; replace r_t1 := g17.rdD r_t1; replace r_t2 := g17.rdD r_t2; replace r_t3 := g17.rdD r_t3; replace r_t4 := g17.rdD r_t4
                    clear h17 hb17
                    exact sat_ret (.bool true) (by kernel_rfl) fun w9 h9 => rfl
                · refine sat_true (by kernel_rfl) ?_
                  refine sat_call #[] (by kernel_rfl) fun w16 h16 => ?_
                  refine (told3_any _ (h16.tab hT)).mono ?_
                  rintro e v16 ⟨rfl, hb16⟩
                  refine ⟨hb16, [.bool true], _, rfl, by kernel_rfl, by kernel_rfl, fun g16 => ?_⟩
                  replace r_a := g16.rdD r_a; replace r_b := g16.rdD r_b; replace r_t1 := g16.rdD r_t1; replace r_t2 := g16.rdD r_t2; replace r_t3 := g16.rdD r_t3; replace r_t4 := g16.rdD r_t4
                  clear h16 hb16
                  exact sat_ret (.bool true) (by kernel_rfl) fun w9 h9 => rfl
              · refine sat_true (by kernel_rfl) ?_
                refine sat_call #[.agg #[.bool d_t1.neg, .slice A_t1 n_t1 c_t1, .int .i64 d_t1.e], .agg #[.bool b.neg, .slice A_b n_b c_b, .int .i64 b.e]] (by kernel_rfl) fun w13 h13 => ?_
                refine (mulT _ _ d_t1 b _ (h13.rdD r_t1) (h13.rdD r_b) (h13.tab hT)).mono ?_
                rintro e v13 ⟨⟨d_t3, x_t3, A_t3, n_t3, c_t3, h_t3, rfl, r_t3⟩, hb13⟩
                refine ⟨hb13, [.bool d_t3.neg, .slice A_t3 n_t3 c_t3, .int .i64 d_t3.e, .int .i64 x_t3], _, rfl, by kernel_rfl, by kernel_rfl, fun g13 => ?_⟩
                replace r_a := g13.rdD r_a; replace r_b := g13.rdD r_b; replace r_t1 := g13.rdD r_t1; replace r_t2 := g13.rdD r_t2
                clear h13 hb13
                refine sat_chkB (by kernel_rfl) ?_
                refine sat_call #[.agg #[.bool d_t2.neg, .slice A_t2 n_t2 c_t2, .int .i64 d_t2.e], .agg #[.bool b.neg, .slice A_b n_b c_b, .int .i64 b.e]] (by kernel_rfl) fun w14 h14 => ?_
                refine (mulT _ _ d_t2 b _ (h14.rdD r_t2) (h14.rdD r_b) (h14.tab hT)).mono ?_
                rintro e v14 ⟨⟨d_t4, x_t4, A_t4, n_t4, c_t4, h_t4, rfl, r_t4⟩, hb14⟩
                refine ⟨hb14, [.bool d_t4.neg, .slice A_t4 n_t4 c_t4, .int .i64 d_t4.e, .int .i64 x_t4], _, rfl, by kernel_rfl, by kernel_rfl, fun g14 => ?_⟩
                replace r_a := g14.rdD r_a; replace r_b := g14.rdD r_b; replace r_t1 := g14.rdD r_t1; replace r_t2 := g14.rdD r_t2; replace r_t3 := g14.rdD r_t3
                clear h14 hb14
                refine sat_chkB (by kernel_rfl) ?_
                refine sat_prim (v := .bool ((x_t3 : Int) == 0)) (by kernel_rfl) ?_
                cases he_t3 : ((x_t3 : Int) == 0)
                · refine sat_false (by kernel_rfl) ?_
                  refine sat_call #[.agg #[.bool b.neg, .slice A_b n_b c_b, .int .i64 b.e], .int .i64 ((N1 : Nat) : Int), .bool false] (by kernel_rfl) fun w16 h16 => ?_
                  refine (rootT _ b ((N1 : Nat) : Int) false _ (h16.rdD r_b) (h16.tab hT)).mono ?_
                  rintro e v16 ⟨⟨d_t5, x_t5, A_t5, n_t5, c_t5, h_t5, rfl, r_t5⟩, hb16⟩
                  refine ⟨hb16, [.bool d_t5.neg, .slice A_t5 n_t5 c_t5, .int .i64 d_t5.e, .int .i64 x_t5], _, rfl, by kernel_rfl, by kernel_rfl, fun g16 => ?_⟩
                  replace r_a := g16.rdD r_a; replace r_b := g16.rdD r_b; replace r_t1 := g16.rdD r_t1; replace r_t2 := g16.rdD r_t2; replace r_t3 := g16.rdD r_t3; replace r_t4 := g16.rdD r_t4
                  clear h16 hb16
                  refine sat_chkB (by kernel_rfl) ?_
                  refine sat_call #[.agg #[.bool b.neg, .slice A_b n_b c_b, .int .i64 b.e], .int .i64 ((N1 : Nat) : Int), .bool true] (by kernel_rfl) fun w17 h17 => ?_
                  refine (rootT _ b ((N1 : Nat) : Int) true _ (h17.rdD r_b) (h17.tab hT)).mono ?_
                  rintro e v17 ⟨⟨d_t6, x_t6, A_t6, n_t6, c_t6, h_t6, rfl, r_t6⟩, hb17⟩
                  refine ⟨hb17, [.bool d_t6.neg, .slice A_t6 n_t6 c_t6, .int .i64 d_t6.e, .int .i64 x_t6], _, rfl, by kernel_rfl, by kernel_rfl, fun g17 => ?_⟩
                  replace r_a := g17.rdD r_a; replace r_b := g17.rdD r_b; replace r_t1 := g17.rdD r_t1; replace r_t2 := g17.rdD r_t2; replace r_t3 := g17.rdD r_t3; replace r_t4 := g17.rdD r_t4; replace r_t5 := g17.rdD r_t5
                  clear h17 hb17
                  refine sat_chkB (by kernel_rfl) ?_
                  refine sat_prim (v := .bool ((x_t5 : Int) != 0)) (by kernel_rfl) ?_
                  cases hn_t5 : ((x_t5 : Int) != 0)
                  · refine sat_false (by kernel_rfl) ?_
                    refine sat_prim (v := .bool ((x_t6 : Int) != 0)) (by kernel_rfl) ?_
                    cases hn_t6 : ((x_t6 : Int) != 0)
                    · refine sat_false (by kernel_rfl) ?_
                      refine sat_call #[.agg #[.bool d_t5.neg, .slice A_t5 n_t5 c_t5, .int .i64 d_t5.e], .agg #[.bool d_t5.neg, .slice A_t5 n_t5 c_t5, .int .i64 d_t5.e]] (by kernel_rfl) fun w20 h20 => ?_
                      refine (mulT _ _ d_t5 d_t5 _ (h20.rdD r_t5) (h20.rdD r_t5) (h20.tab hT)).mono ?_
                      rintro e v20 ⟨⟨d_t7, x_t7, A_t7, n_t7, c_t7, h_t7, rfl, r_t7⟩, hb20⟩
                      refine ⟨hb20, [.bool d_t7.neg, .slice A_t7 n_t7 c_t7, .int .i64 d_t7.e, .int .i64 x_t7], _, rfl, by kernel_rfl, by kernel_rfl, fun g20 => ?_⟩
                      replace r_a := g20.rdD r_a; replace r_b := g20.rdD r_b; replace r_t1 := g20.rdD r_t1; replace r_t2 := g20.rdD r_t2; replace r_t3 := g20.rdD r_t3; replace r_t4 := g20.rdD r_t4; replace r_t5 := g20.rdD r_t5; replace r_t6 := g20.rdD r_t6
                      clear h20 hb20
                      refine sat_chkB (by kernel_rfl) ?_
                      refine sat_call #[.agg #[.bool d_t6.neg, .slice A_t6 n_t6 c_t6, .int .i64 d_t6.e], .agg #[.bool d_t6.neg, .slice A_t6 n_t6 c_t6, .int .i64 d_t6.e]] (by kernel_rfl) fun w21 h21 => ?_
                      refine (mulT _ _ d_t6 d_t6 _ (h21.rdD r_t6) (h21.rdD r_t6) (h21.tab hT)).mono ?_
                      rintro e v21 ⟨⟨d_t8, x_t8, A_t8, n_t8, c_t8, h_t8, rfl, r_t8⟩, hb21⟩
                      refine ⟨hb21, [.bool d_t8.neg, .slice A_t8 n_t8 c_t8, .int .i64 d_t8.e, .int .i64 x_t8], _, rfl, by kernel_rfl, by kernel_rfl, fun g21 => ?_⟩
                      replace r_a := g21.rdD r_a; replace r_b := g21.rdD r_b; replace r_t1 := g21.rdD r_t1; replace r_t2 := g21.rdD r_t2; replace r_t3 := g21.rdD r_t3; replace r_t4 := g21.rdD r_t4; replace r_t5 := g21.rdD r_t5; replace r_t6 := g21.rdD r_t6; replace r_t7 := g21.rdD r_t7
                      clear h21 hb21
                      refine sat_chkB (by kernel_rfl) ?_
                      refine sat_call #[] (by kernel_rfl) fun w22 h22 => ?_
                      refine (told3_any _ (h22.tab hT)).mono ?_
                      rintro e v22 ⟨rfl, hb22⟩
                      refine ⟨hb22, [.bool true], _, rfl, by kernel_rfl, by kernel_rfl, fun g22 => ?_⟩
                      replace r_a := g22.rdD r_a; replace r_b := g22.rdD r_b; replace r_t1 := g22.rdD r_t1; replace r_t2 := g22.rdD r_t2; replace r_t3 := g22.rdD r_t3; replace r_t4 := g22.rdD r_t4; replace r_t5 := g22.rdD r_t5; replace r_t6 := g22.rdD r_t6; replace r_t7 := g22.rdD r_t7; replace r_t8 := g22.rdD r_t8
                      clear h22 hb22
                      refine sat_true (by kernel_rfl) ?_
                      refine sat_prim (v := .bool ((x_t7 : Int) != 0)) (by kernel_rfl) ?_
                      cases hn_t7 : ((x_t7 : Int) != 0)
                      · refine sat_false (by kernel_rfl) ?_
                        refine sat_prim (v := .bool ((x_t8 : Int) != 0)) (by kernel_rfl) ?_
                        cases hn_t8 : ((x_t8 : Int) != 0)
                        · refine sat_false (by kernel_rfl) ?_
                          refine sat_call #[.agg #[.bool d_t7.neg, .slice A_t7 n_t7 c_t7, .int .i64 d_t7.e], .agg #[.bool b.neg, .slice A_b n_b c_b, .int .i64 b.e]] (by kernel_rfl) fun w25 h25 => ?_
                          refine (cmpD_any _ _ (d_t7) (b) _ (h25.rdD r_t7) (h25.rdD r_b)).mono ?_
                          rintro e v25 ⟨rfl, hb25⟩
                          refine ⟨hb25, [.int .i64 (cmpD d_t7 b)], _, rfl, by kernel_rfl, by kernel_rfl, fun g25 => ?_⟩
                          replace r_a := g25.rdD r_a; replace r_b := g25.rdD r_b; replace r_t1 := g25.rdD r_t1; replace r_t2 := g25.rdD r_t2; replace r_t3 := g25.rdD r_t3; replace r_t4 := g25.rdD r_t4; replace r_t5 := g25.rdD r_t5; replace r_t6 := g25.rdD r_t6; replace r_t7 := g25.rdD r_t7; replace r_t8 := g25.rdD r_t8
                          clear h25 hb25
                          refine sat_prim (v := .bool (decide (((cmpD d_t7 b) : Int) ≤ 0))) (by kernel_rfl) ?_
                          refine sat_trueP (b := (decide (((cmpD d_t7 b) : Int) ≤ 0))) (by kernel_rfl) (root_lo ⟨hmb, r_b.lim⟩ (d0 h_t5 hn_t5) (two_mul (root_may ⟨hmb, r_b.lim⟩ (d0 h_t5 hn_t5)) (root_may ⟨hmb, r_b.lim⟩ (d0 h_t5 hn_t5)) (d0 h_t7 hn_t7))) ?_
                          refine sat_call #[.agg #[.bool b.neg, .slice A_b n_b c_b, .int .i64 b.e], .agg #[.bool d_t8.neg, .slice A_t8 n_t8 c_t8, .int .i64 d_t8.e]] (by kernel_rfl) fun w26 h26 => ?_
                          refine (cmpD_any _ _ (b) (d_t8) _ (h26.rdD r_b) (h26.rdD r_t8)).mono ?_
                          rintro e v26 ⟨rfl, hb26⟩
                          refine ⟨hb26, [.int .i64 (cmpD b d_t8)], _, rfl, by kernel_rfl, by kernel_rfl, fun g26 => ?_⟩
                          replace r_a := g26.rdD r_a; replace r_b := g26.rdD r_b; replace r_t1 := g26.rdD r_t1; replace r_t2 := g26.rdD r_t2; replace r_t3 := g26.rdD r_t3; replace r_t4 := g26.rdD r_t4; replace r_t5 := g26.rdD r_t5; replace r_t6 := g26.rdD r_t6; replace r_t7 := g26.rdD r_t7; replace r_t8 := g26.rdD r_t8
                          clear h26 hb26
                          refine sat_prim (v := .bool (decide (((cmpD b d_t8) : Int) ≤ 0))) (by kernel_rfl) ?_
                          refine sat_trueP (b := (decide (((cmpD b d_t8) : Int) ≤ 0))) (by kernel_rfl) (root_hi ⟨hmb, r_b.lim⟩ (d0 h_t6 hn_t6) (two_mul (root_may ⟨hmb, r_b.lim⟩ (d0 h_t6 hn_t6)) (root_may ⟨hmb, r_b.lim⟩ (d0 h_t6 hn_t6)) (d0 h_t8 hn_t8))) ?_
                          refine sat_call #[.agg #[.bool d_t5.neg, .slice A_t5 n_t5 c_t5, .int .i64 d_t5.e]] (by kernel_rfl) fun w27 h27 => ?_
                          refine (signD_any _ (d_t5) _ (h27.rdD r_t5)).mono ?_
                          rintro e v27 ⟨rfl, hb27⟩
                          refine ⟨hb27, [.int .i64 (signD d_t5)], _, rfl, by kernel_rfl, by kernel_rfl, fun g27 => ?_⟩
                          replace r_a := g27.rdD r_a; replace r_b := g27.rdD r_b; replace r_t1 := g27.rdD r_t1; replace r_t2 := g27.rdD r_t2; replace r_t3 := g27.rdD r_t3; replace r_t4 := g27.rdD r_t4; replace r_t5 := g27.rdD r_t5; replace r_t6 := g27.rdD r_t6; replace r_t7 := g27.rdD r_t7; replace r_t8 := g27.rdD r_t8
                          clear h27 hb27
                          refine sat_prim (v := .bool (decide ((0 : Int) < (signD d_t5)))) (by kernel_rfl) ?_
                          refine sat_trueP (b := (decide ((0 : Int) < (signD d_t5)))) (by kernel_rfl) (root_sign ⟨hmb, r_b.lim⟩ (d0 h_t5 hn_t5) hsb) ?_
                          refine sat_call #[.agg #[.bool d_t5.neg, .slice A_t5 n_t5 c_t5, .int .i64 d_t5.e]] (by kernel_rfl) fun w28 h28 => ?_
                          refine (bitsD_any _ d_t5 _ (h28.rdD r_t5)).mono ?_
                          rintro e v28 ⟨rfl, hb28⟩
                          refine ⟨hb28, [.int .i64 (bitsD d_t5)], _, rfl, by kernel_rfl, by kernel_rfl, fun g28 => ?_⟩
                          replace r_a := g28.rdD r_a; replace r_b := g28.rdD r_b; replace r_t1 := g28.rdD r_t1; replace r_t2 := g28.rdD r_t2; replace r_t3 := g28.rdD r_t3; replace r_t4 := g28.rdD r_t4; replace r_t5 := g28.rdD r_t5; replace r_t6 := g28.rdD r_t6; replace r_t7 := g28.rdD r_t7; replace r_t8 := g28.rdD r_t8
                          clear h28 hb28
                          refine sat_prim (v := .bool (decide (((bitsD d_t5) : Int) ≤ ((N1 : Nat) : Int)))) (by kernel_rfl) ?_
                          refine sat_trueP (b := (decide (((bitsD d_t5) : Int) ≤ ((N1 : Nat) : Int)))) (by kernel_rfl) (root_bits ⟨hmb, r_b.lim⟩ (d0 h_t5 hn_t5)) ?_
                          refine sat_call #[.agg #[.bool d_t6.neg, .slice A_t6 n_t6 c_t6, .int .i64 d_t6.e]] (by kernel_rfl) fun w29 h29 => ?_
                          refine (bitsD_any _ d_t6 _ (h29.rdD r_t6)).mono ?_
                          rintro e v29 ⟨rfl, hb29⟩
                          refine ⟨hb29, [.int .i64 (bitsD d_t6)], _, rfl, by kernel_rfl, by kernel_rfl, fun g29 => ?_⟩
                          replace r_a := g29.rdD r_a; replace r_b := g29.rdD r_b; replace r_t1 := g29.rdD r_t1; replace r_t2 := g29.rdD r_t2; replace r_t3 := g29.rdD r_t3; replace r_t4 := g29.rdD r_t4; replace r_t5 := g29.rdD r_t5; replace r_t6 := g29.rdD r_t6; replace r_t7 := g29.rdD r_t7; replace r_t8 := g29.rdD r_t8
                          clear h29 hb29
                          refine sat_prim (v := .bool (decide (((bitsD d_t6) : Int) ≤ ((N1 : Nat) : Int)))) (by kernel_rfl) ?_
                          exact sat_ret (.bool (decide (((bitsD d_t6) : Int) ≤ ((N1 : Nat) : Int)))) (by kernel_rfl) fun w9 h9 => congrArg Value.bool (root_bits ⟨hmb, r_b.lim⟩ (d0 h_t6 hn_t6))
                        · refine sat_true (by kernel_rfl) ?_
                          refine sat_call #[.agg #[.bool d_t5.neg, .slice A_t5 n_t5 c_t5, .int .i64 d_t5.e]] (by kernel_rfl) fun w25 h25 => ?_
                          refine (signD_any _ (d_t5) _ (h25.rdD r_t5)).mono ?_
                          rintro e v25 ⟨rfl, hb25⟩
                          refine ⟨hb25, [.int .i64 (signD d_t5)], _, rfl, by kernel_rfl, by kernel_rfl, fun g25 => ?_⟩
                          replace r_a := g25.rdD r_a; replace r_b := g25.rdD r_b; replace r_t1 := g25.rdD r_t1; replace r_t2 := g25.rdD r_t2; replace r_t3 := g25.rdD r_t3; replace r_t4 := g25.rdD r_t4; replace r_t5 := g25.rdD r_t5; replace r_t6 := g25.rdD r_t6; replace r_t7 := g25.rdD r_t7; replace r_t8 := g25.rdD r_t8
                          clear h25 hb25
                          refine sat_prim (v := .bool (decide ((0 : Int) < (signD d_t5)))) (by kernel_rfl) ?_
                          refine sat_trueP (b := (decide ((0 : Int) < (signD d_t5)))) (by kernel_rfl) (root_sign ⟨hmb, r_b.lim⟩ (d0 h_t5 hn_t5) hsb) ?_
                          refine sat_call #[.agg #[.bool d_t5.neg, .slice A_t5 n_t5 c_t5, .int .i64 d_t5.e]] (by kernel_rfl) fun w26 h26 => ?_
                          refine (bitsD_any _ d_t5 _ (h26.rdD r_t5)).mono ?_
                          rintro e v26 ⟨rfl, hb26⟩
                          refine ⟨hb26, [.int .i64 (bitsD d_t5)], _, rfl, by kernel_rfl, by kernel_rfl, fun g26 => ?_⟩
                          replace r_a := g26.rdD r_a; replace r_b := g26.rdD r_b; replace r_t1 := g26.rdD r_t1; replace r_t2 := g26.rdD r_t2; replace r_t3 := g26.rdD r_t3; replace r_t4 := g26.rdD r_t4; replace r_t5 := g26.rdD r_t5; replace r_t6 := g26.rdD r_t6; replace r_t7 := g26.rdD r_t7; replace r_t8 := g26.rdD r_t8
                          clear h26 hb26
                          refine sat_prim (v := .bool (decide (((bitsD d_t5) : Int) ≤ ((N1 : Nat) : Int)))) (by kernel_rfl) ?_
                          refine sat_trueP (b := (decide (((bitsD d_t5) : Int) ≤ ((N1 : Nat) : Int)))) (by kernel_rfl) (root_bits ⟨hmb, r_b.lim⟩ (d0 h_t5 hn_t5)) ?_
                          refine sat_call #[.agg #[.bool d_t6.neg, .slice A_t6 n_t6 c_t6, .int .i64 d_t6.e]] (by kernel_rfl) fun w27 h27 => ?_
                          refine (bitsD_any _ d_t6 _ (h27.rdD r_t6)).mono ?_
                          rintro e v27 ⟨rfl, hb27⟩
                          refine ⟨hb27, [.int .i64 (bitsD d_t6)], _, rfl, by kernel_rfl, by kernel_rfl, fun g27 => ?_⟩
                          replace r_a := g27.rdD r_a; replace r_b := g27.rdD r_b; replace r_t1 := g27.rdD r_t1; replace r_t2 := g27.rdD r_t2; replace r_t3 := g27.rdD r_t3; replace r_t4 := g27.rdD r_t4; replace r_t5 := g27.rdD r_t5; replace r_t6 := g27.rdD r_t6; replace r_t7 := g27.rdD r_t7; replace r_t8 := g27.rdD r_t8
                          clear h27 hb27
                          refine sat_prim (v := .bool (decide (((bitsD d_t6) : Int) ≤ ((N1 : Nat) : Int)))) (by kernel_rfl) ?_
                          exact sat_ret (.bool (decide (((bitsD d_t6) : Int) ≤ ((N1 : Nat) : Int)))) (by kernel_rfl) fun w9 h9 => congrArg Value.bool (root_bits ⟨hmb, r_b.lim⟩ (d0 h_t6 hn_t6))
                      · refine sat_true (by kernel_rfl) ?_
                        refine sat_call #[.agg #[.bool d_t5.neg, .slice A_t5 n_t5 c_t5, .int .i64 d_t5.e]] (by kernel_rfl) fun w24 h24 => ?_
                        refine (signD_any _ (d_t5) _ (h24.rdD r_t5)).mono ?_
                        rintro e v24 ⟨rfl, hb24⟩
                        refine ⟨hb24, [.int .i64 (signD d_t5)], _, rfl, by kernel_rfl, by kernel_rfl, fun g24 => ?_⟩
                        replace r_a := g24.rdD r_a; replace r_b := g24.rdD r_b; replace r_t1 := g24.rdD r_t1; replace r_t2 := g24.rdD r_t2; replace r_t3 := g24.rdD r_t3; replace r_t4 := g24.rdD r_t4; replace r_t5 := g24.rdD r_t5; replace r_t6 := g24.rdD r_t6; replace r_t7 := g24.rdD r_t7; replace r_t8 := g24.rdD r_t8
                        clear h24 hb24
                        refine sat_prim (v := .bool (decide ((0 : Int) < (signD d_t5)))) (by kernel_rfl) ?_
                        refine sat_trueP (b := (decide ((0 : Int) < (signD d_t5)))) (by kernel_rfl) (root_sign ⟨hmb, r_b.lim⟩ (d0 h_t5 hn_t5) hsb) ?_
                        refine sat_call #[.agg #[.bool d_t5.neg, .slice A_t5 n_t5 c_t5, .int .i64 d_t5.e]] (by kernel_rfl) fun w25 h25 => ?_
                        refine (bitsD_any _ d_t5 _ (h25.rdD r_t5)).mono ?_
                        rintro e v25 ⟨rfl, hb25⟩
                        refine ⟨hb25, [.int .i64 (bitsD d_t5)], _, rfl, by kernel_rfl, by kernel_rfl, fun g25 => ?_⟩
                        replace r_a := g25.rdD r_a; replace r_b := g25.rdD r_b; replace r_t1 := g25.rdD r_t1; replace r_t2 := g25.rdD r_t2; replace r_t3 := g25.rdD r_t3; replace r_t4 := g25.rdD r_t4; replace r_t5 := g25.rdD r_t5; replace r_t6 := g25.rdD r_t6; replace r_t7 := g25.rdD r_t7; replace r_t8 := g25.rdD r_t8
                        clear h25 hb25
                        refine sat_prim (v := .bool (decide (((bitsD d_t5) : Int) ≤ ((N1 : Nat) : Int)))) (by kernel_rfl) ?_
                        refine sat_trueP (b := (decide (((bitsD d_t5) : Int) ≤ ((N1 : Nat) : Int)))) (by kernel_rfl) (root_bits ⟨hmb, r_b.lim⟩ (d0 h_t5 hn_t5)) ?_
                        refine sat_call #[.agg #[.bool d_t6.neg, .slice A_t6 n_t6 c_t6, .int .i64 d_t6.e]] (by kernel_rfl) fun w26 h26 => ?_
                        refine (bitsD_any _ d_t6 _ (h26.rdD r_t6)).mono ?_
                        rintro e v26 ⟨rfl, hb26⟩
                        refine ⟨hb26, [.int .i64 (bitsD d_t6)], _, rfl, by kernel_rfl, by kernel_rfl, fun g26 => ?_⟩
                        replace r_a := g26.rdD r_a; replace r_b := g26.rdD r_b; replace r_t1 := g26.rdD r_t1; replace r_t2 := g26.rdD r_t2; replace r_t3 := g26.rdD r_t3; replace r_t4 := g26.rdD r_t4; replace r_t5 := g26.rdD r_t5; replace r_t6 := g26.rdD r_t6; replace r_t7 := g26.rdD r_t7; replace r_t8 := g26.rdD r_t8
                        clear h26 hb26
                        refine sat_prim (v := .bool (decide (((bitsD d_t6) : Int) ≤ ((N1 : Nat) : Int)))) (by kernel_rfl) ?_
                        exact sat_ret (.bool (decide (((bitsD d_t6) : Int) ≤ ((N1 : Nat) : Int)))) (by kernel_rfl) fun w9 h9 => congrArg Value.bool (root_bits ⟨hmb, r_b.lim⟩ (d0 h_t6 hn_t6))
                    · refine sat_true (by kernel_rfl) ?_
                      refine sat_call #[] (by kernel_rfl) fun w20 h20 => ?_
                      refine (told3_any _ (h20.tab hT)).mono ?_
                      rintro e v20 ⟨rfl, hb20⟩
                      refine ⟨hb20, [.bool true], _, rfl, by kernel_rfl, by kernel_rfl, fun g20 => ?_⟩
                      replace r_a := g20.rdD r_a; replace r_b := g20.rdD r_b; replace r_t1 := g20.rdD r_t1; replace r_t2 := g20.rdD r_t2; replace r_t3 := g20.rdD r_t3; replace r_t4 := g20.rdD r_t4; replace r_t5 := g20.rdD r_t5; replace r_t6 := g20.rdD r_t6
                      clear h20 hb20
                      exact sat_ret (.bool true) (by kernel_rfl) fun w9 h9 => rfl
                  · refine sat_true (by kernel_rfl) ?_
                    refine sat_call #[] (by kernel_rfl) fun w19 h19 => ?_
                    refine (told3_any _ (h19.tab hT)).mono ?_
                    rintro e v19 ⟨rfl, hb19⟩
                    refine ⟨hb19, [.bool true], _, rfl, by kernel_rfl, by kernel_rfl, fun g19 => ?_⟩
                    replace r_a := g19.rdD r_a; replace r_b := g19.rdD r_b; replace r_t1 := g19.rdD r_t1; replace r_t2 := g19.rdD r_t2; replace r_t3 := g19.rdD r_t3; replace r_t4 := g19.rdD r_t4; replace r_t5 := g19.rdD r_t5; replace r_t6 := g19.rdD r_t6
                    clear h19 hb19
                    exact sat_ret (.bool true) (by kernel_rfl) fun w9 h9 => rfl
                · refine sat_true (by kernel_rfl) ?_
                  refine sat_prim (v := .bool ((x_t4 : Int) == 0)) (by kernel_rfl) ?_
                  cases he_t4 : ((x_t4 : Int) == 0)
                  · refine sat_false (by kernel_rfl) ?_
                    refine sat_call #[.agg #[.bool b.neg, .slice A_b n_b c_b, .int .i64 b.e], .int .i64 ((N1 : Nat) : Int), .bool false] (by kernel_rfl) fun w17 h17 => ?_
                    refine (rootT _ b ((N1 : Nat) : Int) false _ (h17.rdD r_b) (h17.tab hT)).mono ?_
                    rintro e v17 ⟨⟨d_t5, x_t5, A_t5, n_t5, c_t5, h_t5, rfl, r_t5⟩, hb17⟩
                    refine ⟨hb17, [.bool d_t5.neg, .slice A_t5 n_t5 c_t5, .int .i64 d_t5.e, .int .i64 x_t5], _, rfl, by kernel_rfl, by kernel_rfl, fun g17 => ?_⟩
                    replace r_a := g17.rdD r_a; replace r_b := g17.rdD r_b; replace r_t1 := g17.rdD r_t1; replace r_t2 := g17.rdD r_t2; replace r_t3 := g17.rdD r_t3; replace r_t4 := g17.rdD r_t4
                    clear h17 hb17
                    refine sat_chkB (by kernel_rfl) ?_
                    refine sat_call #[.agg #[.bool b.neg, .slice A_b n_b c_b, .int .i64 b.e], .int .i64 ((N1 : Nat) : Int), .bool true] (by kernel_rfl) fun w18 h18 => ?_
                    refine (rootT _ b ((N1 : Nat) : Int) true _ (h18.rdD r_b) (h18.tab hT)).mono ?_
                    rintro e v18 ⟨⟨d_t6, x_t6, A_t6, n_t6, c_t6, h_t6, rfl, r_t6⟩, hb18⟩
                    refine ⟨hb18, [.bool d_t6.neg, .slice A_t6 n_t6 c_t6, .int .i64 d_t6.e, .int .i64 x_t6], _, rfl, by kernel_rfl, by kernel_rfl, fun g18 => ?_⟩
                    replace r_a := g18.rdD r_a; replace r_b := g18.rdD r_b; replace r_t1 := g18.rdD r_t1; replace r_t2 := g18.rdD r_t2; replace r_t3 := g18.rdD r_t3; replace r_t4 := g18.rdD r_t4; replace r_t5 := g18.rdD r_t5
                    clear h18 hb18
                    refine sat_chkB (by kernel_rfl) ?_
                    refine sat_prim (v := .bool ((x_t5 : Int) != 0)) (by kernel_rfl) ?_
                    cases hn_t5 : ((x_t5 : Int) != 0)
                    · refine sat_false (by kernel_rfl) ?_
                      refine sat_prim (v := .bool ((x_t6 : Int) != 0)) (by kernel_rfl) ?_
                      cases hn_t6 : ((x_t6 : Int) != 0)
                      · refine sat_false (by kernel_rfl) ?_
                        refine sat_call #[.agg #[.bool d_t5.neg, .slice A_t5 n_t5 c_t5, .int .i64 d_t5.e], .agg #[.bool d_t5.neg, .slice A_t5 n_t5 c_t5, .int .i64 d_t5.e]] (by kernel_rfl) fun w21 h21 => ?_
                        refine (mulT _ _ d_t5 d_t5 _ (h21.rdD r_t5) (h21.rdD r_t5) (h21.tab hT)).mono ?_
                        rintro e v21 ⟨⟨d_t7, x_t7, A_t7, n_t7, c_t7, h_t7, rfl, r_t7⟩, hb21⟩
                        refine ⟨hb21, [.bool d_t7.neg, .slice A_t7 n_t7 c_t7, .int .i64 d_t7.e, .int .i64 x_t7], _, rfl, by kernel_rfl, by kernel_rfl, fun g21 => ?_⟩
                        replace r_a := g21.rdD r_a; replace r_b := g21.rdD r_b; replace r_t1 := g21.rdD r_t1; replace r_t2 := g21.rdD r_t2; replace r_t3 := g21.rdD r_t3; replace r_t4 := g21.rdD r_t4; replace r_t5 := g21.rdD r_t5; replace r_t6 := g21.rdD r_t6
                        clear h21 hb21
                        refine sat_chkB (by kernel_rfl) ?_
                        refine sat_call #[.agg #[.bool d_t6.neg, .slice A_t6 n_t6 c_t6, .int .i64 d_t6.e], .agg #[.bool d_t6.neg, .slice A_t6 n_t6 c_t6, .int .i64 d_t6.e]] (by kernel_rfl) fun w22 h22 => ?_
                        refine (mulT _ _ d_t6 d_t6 _ (h22.rdD r_t6) (h22.rdD r_t6) (h22.tab hT)).mono ?_
                        rintro e v22 ⟨⟨d_t8, x_t8, A_t8, n_t8, c_t8, h_t8, rfl, r_t8⟩, hb22⟩
                        refine ⟨hb22, [.bool d_t8.neg, .slice A_t8 n_t8 c_t8, .int .i64 d_t8.e, .int .i64 x_t8], _, rfl, by kernel_rfl, by kernel_rfl, fun g22 => ?_⟩
                        replace r_a := g22.rdD r_a; replace r_b := g22.rdD r_b; replace r_t1 := g22.rdD r_t1; replace r_t2 := g22.rdD r_t2; replace r_t3 := g22.rdD r_t3; replace r_t4 := g22.rdD r_t4; replace r_t5 := g22.rdD r_t5; replace r_t6 := g22.rdD r_t6; replace r_t7 := g22.rdD r_t7
                        clear h22 hb22
                        refine sat_chkB (by kernel_rfl) ?_
                        refine sat_call #[] (by kernel_rfl) fun w23 h23 => ?_
                        refine (told3_any _ (h23.tab hT)).mono ?_
                        rintro e v23 ⟨rfl, hb23⟩
                        refine ⟨hb23, [.bool true], _, rfl, by kernel_rfl, by kernel_rfl, fun g23 => ?_⟩
                        replace r_a := g23.rdD r_a; replace r_b := g23.rdD r_b; replace r_t1 := g23.rdD r_t1; replace r_t2 := g23.rdD r_t2; replace r_t3 := g23.rdD r_t3; replace r_t4 := g23.rdD r_t4; replace r_t5 := g23.rdD r_t5; replace r_t6 := g23.rdD r_t6; replace r_t7 := g23.rdD r_t7; replace r_t8 := g23.rdD r_t8
                        clear h23 hb23
                        refine sat_true (by kernel_rfl) ?_
                        refine sat_prim (v := .bool ((x_t7 : Int) != 0)) (by kernel_rfl) ?_
                        cases hn_t7 : ((x_t7 : Int) != 0)
                        · refine sat_false (by kernel_rfl) ?_
                          refine sat_prim (v := .bool ((x_t8 : Int) != 0)) (by kernel_rfl) ?_
                          cases hn_t8 : ((x_t8 : Int) != 0)
                          · refine sat_false (by kernel_rfl) ?_
                            refine sat_call #[.agg #[.bool d_t7.neg, .slice A_t7 n_t7 c_t7, .int .i64 d_t7.e], .agg #[.bool b.neg, .slice A_b n_b c_b, .int .i64 b.e]] (by kernel_rfl) fun w26 h26 => ?_
                            refine (cmpD_any _ _ (d_t7) (b) _ (h26.rdD r_t7) (h26.rdD r_b)).mono ?_
                            rintro e v26 ⟨rfl, hb26⟩
                            refine ⟨hb26, [.int .i64 (cmpD d_t7 b)], _, rfl, by kernel_rfl, by kernel_rfl, fun g26 => ?_⟩
                            replace r_a := g26.rdD r_a; replace r_b := g26.rdD r_b; replace r_t1 := g26.rdD r_t1; replace r_t2 := g26.rdD r_t2; replace r_t3 := g26.rdD r_t3; replace r_t4 := g26.rdD r_t4; replace r_t5 := g26.rdD r_t5; replace r_t6 := g26.rdD r_t6; replace r_t7 := g26.rdD r_t7; replace r_t8 := g26.rdD r_t8
                            clear h26 hb26
                            refine sat_prim (v := .bool (decide (((cmpD d_t7 b) : Int) ≤ 0))) (by kernel_rfl) ?_
                            refine sat_trueP (b := (decide (((cmpD d_t7 b) : Int) ≤ 0))) (by kernel_rfl) (root_lo ⟨hmb, r_b.lim⟩ (d0 h_t5 hn_t5) (two_mul (root_may ⟨hmb, r_b.lim⟩ (d0 h_t5 hn_t5)) (root_may ⟨hmb, r_b.lim⟩ (d0 h_t5 hn_t5)) (d0 h_t7 hn_t7))) ?_
                            refine sat_call #[.agg #[.bool b.neg, .slice A_b n_b c_b, .int .i64 b.e], .agg #[.bool d_t8.neg, .slice A_t8 n_t8 c_t8, .int .i64 d_t8.e]] (by kernel_rfl) fun w27 h27 => ?_
                            refine (cmpD_any _ _ (b) (d_t8) _ (h27.rdD r_b) (h27.rdD r_t8)).mono ?_
                            rintro e v27 ⟨rfl, hb27⟩
                            refine ⟨hb27, [.int .i64 (cmpD b d_t8)], _, rfl, by kernel_rfl, by kernel_rfl, fun g27 => ?_⟩
                            replace r_a := g27.rdD r_a; replace r_b := g27.rdD r_b; replace r_t1 := g27.rdD r_t1; replace r_t2 := g27.rdD r_t2; replace r_t3 := g27.rdD r_t3; replace r_t4 := g27.rdD r_t4; replace r_t5 := g27.rdD r_t5; replace r_t6 := g27.rdD r_t6; replace r_t7 := g27.rdD r_t7; replace r_t8 := g27.rdD r_t8
                            clear h27 hb27
                            refine sat_prim (v := .bool (decide (((cmpD b d_t8) : Int) ≤ 0))) (by kernel_rfl) ?_
                            refine sat_trueP (b := (decide (((cmpD b d_t8) : Int) ≤ 0))) (by kernel_rfl) (root_hi ⟨hmb, r_b.lim⟩ (d0 h_t6 hn_t6) (two_mul (root_may ⟨hmb, r_b.lim⟩ (d0 h_t6 hn_t6)) (root_may ⟨hmb, r_b.lim⟩ (d0 h_t6 hn_t6)) (d0 h_t8 hn_t8))) ?_
                            refine sat_call #[.agg #[.bool d_t5.neg, .slice A_t5 n_t5 c_t5, .int .i64 d_t5.e]] (by kernel_rfl) fun w28 h28 => ?_
                            refine (signD_any _ (d_t5) _ (h28.rdD r_t5)).mono ?_
                            rintro e v28 ⟨rfl, hb28⟩
                            refine ⟨hb28, [.int .i64 (signD d_t5)], _, rfl, by kernel_rfl, by kernel_rfl, fun g28 => ?_⟩
                            replace r_a := g28.rdD r_a; replace r_b := g28.rdD r_b; replace r_t1 := g28.rdD r_t1; replace r_t2 := g28.rdD r_t2; replace r_t3 := g28.rdD r_t3; replace r_t4 := g28.rdD r_t4; replace r_t5 := g28.rdD r_t5; replace r_t6 := g28.rdD r_t6; replace r_t7 := g28.rdD r_t7; replace r_t8 := g28.rdD r_t8
                            clear h28 hb28
                            refine sat_prim (v := .bool (decide ((0 : Int) < (signD d_t5)))) (by kernel_rfl) ?_
                            refine sat_trueP (b := (decide ((0 : Int) < (signD d_t5)))) (by kernel_rfl) (root_sign ⟨hmb, r_b.lim⟩ (d0 h_t5 hn_t5) hsb) ?_
                            refine sat_call #[.agg #[.bool d_t5.neg, .slice A_t5 n_t5 c_t5, .int .i64 d_t5.e]] (by kernel_rfl) fun w29 h29 => ?_
                            refine (bitsD_any _ d_t5 _ (h29.rdD r_t5)).mono ?_
                            rintro e v29 ⟨rfl, hb29⟩
                            refine ⟨hb29, [.int .i64 (bitsD d_t5)], _, rfl, by kernel_rfl, by kernel_rfl, fun g29 => ?_⟩
                            replace r_a := g29.rdD r_a; replace r_b := g29.rdD r_b; replace r_t1 := g29.rdD r_t1; replace r_t2 := g29.rdD r_t2; replace r_t3 := g29.rdD r_t3; replace r_t4 := g29.rdD r_t4; replace r_t5 := g29.rdD r_t5; replace r_t6 := g29.rdD r_t6; replace r_t7 := g29.rdD r_t7; replace r_t8 := g29.rdD r_t8
                            clear h29 hb29
                            refine sat_prim (v := .bool (decide (((bitsD d_t5) : Int) ≤ ((N1 : Nat) : Int)))) (by kernel_rfl) ?_
                            refine sat_trueP (b := (decide (((bitsD d_t5) : Int) ≤ ((N1 : Nat) : Int)))) (by kernel_rfl) (root_bits ⟨hmb, r_b.lim⟩ (d0 h_t5 hn_t5)) ?_
                            refine sat_call #[.agg #[.bool d_t6.neg, .slice A_t6 n_t6 c_t6, .int .i64 d_t6.e]] (by kernel_rfl) fun w30 h30 => ?_
                            refine (bitsD_any _ d_t6 _ (h30.rdD r_t6)).mono ?_
                            rintro e v30 ⟨rfl, hb30⟩
                            refine ⟨hb30, [.int .i64 (bitsD d_t6)], _, rfl, by kernel_rfl, by kernel_rfl, fun g30 => ?_⟩
                            replace r_a := g30.rdD r_a; replace r_b := g30.rdD r_b; replace r_t1 := g30.rdD r_t1; replace r_t2 := g30.rdD r_t2; replace r_t3 := g30.rdD r_t3; replace r_t4 := g30.rdD r_t4; replace r_t5 := g30.rdD r_t5; replace r_t6 := g30.rdD r_t6; replace r_t7 := g30.rdD r_t7; replace r_t8 := g30.rdD r_t8
                            clear h30 hb30
                            refine sat_prim (v := .bool (decide (((bitsD d_t6) : Int) ≤ ((N1 : Nat) : Int)))) (by kernel_rfl) ?_
                            exact sat_ret (.bool (decide (((bitsD d_t6) : Int) ≤ ((N1 : Nat) : Int)))) (by kernel_rfl) fun w9 h9 => congrArg Value.bool (root_bits ⟨hmb, r_b.lim⟩ (d0 h_t6 hn_t6))
                          · refine sat_true (by kernel_rfl) ?_
                            refine sat_call #[.agg #[.bool d_t5.neg, .slice A_t5 n_t5 c_t5, .int .i64 d_t5.e]] (by kernel_rfl) fun w26 h26 => ?_
                            refine (signD_any _ (d_t5) _ (h26.rdD r_t5)).mono ?_
                            rintro e v26 ⟨rfl, hb26⟩
                            refine ⟨hb26, [.int .i64 (signD d_t5)], _, rfl, by kernel_rfl, by kernel_rfl, fun g26 => ?_⟩
                            replace r_a := g26.rdD r_a; replace r_b := g26.rdD r_b; replace r_t1 := g26.rdD r_t1; replace r_t2 := g26.rdD r_t2; replace r_t3 := g26.rdD r_t3; replace r_t4 := g26.rdD r_t4; replace r_t5 := g26.rdD r_t5; replace r_t6 := g26.rdD r_t6; replace r_t7 := g26.rdD r_t7; replace r_t8 := g26.rdD r_t8
                            clear h26 hb26
                            refine sat_prim (v := .bool (decide ((0 : Int) < (signD d_t5)))) (by kernel_rfl) ?_
                            refine sat_trueP (b := (decide ((0 : Int) < (signD d_t5)))) (by kernel_rfl) (root_sign ⟨hmb, r_b.lim⟩ (d0 h_t5 hn_t5) hsb) ?_
                            refine sat_call #[.agg #[.bool d_t5.neg, .slice A_t5 n_t5 c_t5, .int .i64 d_t5.e]] (by kernel_rfl) fun w27 h27 => ?_
                            refine (bitsD_any _ d_t5 _ (h27.rdD r_t5)).mono ?_
                            rintro e v27 ⟨rfl, hb27⟩
                            refine ⟨hb27, [.int .i64 (bitsD d_t5)], _, rfl, by kernel_rfl, by kernel_rfl, fun g27 => ?_⟩
                            replace r_a := g27.rdD r_a; replace r_b := g27.rdD r_b; replace r_t1 := g27.rdD r_t1; replace r_t2 := g27.rdD r_t2; replace r_t3 := g27.rdD r_t3; replace r_t4 := g27.rdD r_t4; replace r_t5 := g27.rdD r_t5; replace r_t6 := g27.rdD r_t6; replace r_t7 := g27.rdD r_t7; replace r_t8 := g27.rdD r_t8
                            clear h27 hb27
                            refine sat_prim (v := .bool (decide (((bitsD d_t5) : Int) ≤ ((N1 : Nat) : Int)))) (by kernel_rfl) ?_
                            refine sat_trueP (b := (decide (((bitsD d_t5) : Int) ≤ ((N1 : Nat) : Int)))) (by kernel_rfl) (root_bits ⟨hmb, r_b.lim⟩ (d0 h_t5 hn_t5)) ?_
                            refine sat_call #[.agg #[.bool d_t6.neg, .slice A_t6 n_t6 c_t6, .int .i64 d_t6.e]] (by kernel_rfl) fun w28 h28 => ?_
                            refine (bitsD_any _ d_t6 _ (h28.rdD r_t6)).mono ?_
                            rintro e v28 ⟨rfl, hb28⟩
                            refine ⟨hb28, [.int .i64 (bitsD d_t6)], _, rfl, by kernel_rfl, by kernel_rfl, fun g28 => ?_⟩
                            replace r_a := g28.rdD r_a; replace r_b := g28.rdD r_b; replace r_t1 := g28.rdD r_t1; replace r_t2 := g28.rdD r_t2; replace r_t3 := g28.rdD r_t3; replace r_t4 := g28.rdD r_t4; replace r_t5 := g28.rdD r_t5; replace r_t6 := g28.rdD r_t6; replace r_t7 := g28.rdD r_t7; replace r_t8 := g28.rdD r_t8
                            clear h28 hb28
                            refine sat_prim (v := .bool (decide (((bitsD d_t6) : Int) ≤ ((N1 : Nat) : Int)))) (by kernel_rfl) ?_
                            exact sat_ret (.bool (decide (((bitsD d_t6) : Int) ≤ ((N1 : Nat) : Int)))) (by kernel_rfl) fun w9 h9 => congrArg Value.bool (root_bits ⟨hmb, r_b.lim⟩ (d0 h_t6 hn_t6))
                        · refine sat_true (by kernel_rfl) ?_
                          refine sat_call #[.agg #[.bool d_t5.neg, .slice A_t5 n_t5 c_t5, .int .i64 d_t5.e]] (by kernel_rfl) fun w25 h25 => ?_
                          refine (signD_any _ (d_t5) _ (h25.rdD r_t5)).mono ?_
                          rintro e v25 ⟨rfl, hb25⟩
                          refine ⟨hb25, [.int .i64 (signD d_t5)], _, rfl, by kernel_rfl, by kernel_rfl, fun g25 => ?_⟩
                          replace r_a := g25.rdD r_a; replace r_b := g25.rdD r_b; replace r_t1 := g25.rdD r_t1; replace r_t2 := g25.rdD r_t2; replace r_t3 := g25.rdD r_t3; replace r_t4 := g25.rdD r_t4; replace r_t5 := g25.rdD r_t5; replace r_t6 := g25.rdD r_t6; replace r_t7 := g25.rdD r_t7; replace r_t8 := g25.rdD r_t8
                          clear h25 hb25
                          refine sat_prim (v := .bool (decide ((0 : Int) < (signD d_t5)))) (by kernel_rfl) ?_
                          refine sat_trueP (b := (decide ((0 : Int) < (signD d_t5)))) (by kernel_rfl) (root_sign ⟨hmb, r_b.lim⟩ (d0 h_t5 hn_t5) hsb) ?_
                          refine sat_call #[.agg #[.bool d_t5.neg, .slice A_t5 n_t5 c_t5, .int .i64 d_t5.e]] (by kernel_rfl) fun w26 h26 => ?_
                          refine (bitsD_any _ d_t5 _ (h26.rdD r_t5)).mono ?_
                          rintro e v26 ⟨rfl, hb26⟩
                          refine ⟨hb26, [.int .i64 (bitsD d_t5)], _, rfl, by kernel_rfl, by kernel_rfl, fun g26 => ?_⟩
                          replace r_a := g26.rdD r_a; replace r_b := g26.rdD r_b; replace r_t1 := g26.rdD r_t1; replace r_t2 := g26.rdD r_t2; replace r_t3 := g26.rdD r_t3; replace r_t4 := g26.rdD r_t4; replace r_t5 := g26.rdD r_t5; replace r_t6 := g26.rdD r_t6; replace r_t7 := g26.rdD r_t7; replace r_t8 := g26.rdD r_t8
                          clear h26 hb26
                          refine sat_prim (v := .bool (decide (((bitsD d_t5) : Int) ≤ ((N1 : Nat) : Int)))) (by kernel_rfl) ?_
                          refine sat_trueP (b := (decide (((bitsD d_t5) : Int) ≤ ((N1 : Nat) : Int)))) (by kernel_rfl) (root_bits ⟨hmb, r_b.lim⟩ (d0 h_t5 hn_t5)) ?_
                          refine sat_call #[.agg #[.bool d_t6.neg, .slice A_t6 n_t6 c_t6, .int .i64 d_t6.e]] (by kernel_rfl) fun w27 h27 => ?_
                          refine (bitsD_any _ d_t6 _ (h27.rdD r_t6)).mono ?_
                          rintro e v27 ⟨rfl, hb27⟩
                          refine ⟨hb27, [.int .i64 (bitsD d_t6)], _, rfl, by kernel_rfl, by kernel_rfl, fun g27 => ?_⟩
                          replace r_a := g27.rdD r_a; replace r_b := g27.rdD r_b; replace r_t1 := g27.rdD r_t1; replace r_t2 := g27.rdD r_t2; replace r_t3 := g27.rdD r_t3; replace r_t4 := g27.rdD r_t4; replace r_t5 := g27.rdD r_t5; replace r_t6 := g27.rdD r_t6; replace r_t7 := g27.rdD r_t7; replace r_t8 := g27.rdD r_t8
                          clear h27 hb27
                          refine sat_prim (v := .bool (decide (((bitsD d_t6) : Int) ≤ ((N1 : Nat) : Int)))) (by kernel_rfl) ?_
                          exact sat_ret (.bool (decide (((bitsD d_t6) : Int) ≤ ((N1 : Nat) : Int)))) (by kernel_rfl) fun w9 h9 => congrArg Value.bool (root_bits ⟨hmb, r_b.lim⟩ (d0 h_t6 hn_t6))
                      · refine sat_true (by kernel_rfl) ?_
                        refine sat_call #[] (by kernel_rfl) fun w21 h21 => ?_
                        refine (told3_any _ (h21.tab hT)).mono ?_
                        rintro e v21 ⟨rfl, hb21⟩
                        refine ⟨hb21, [.bool true], _, rfl, by kernel_rfl, by kernel_rfl, fun g21 => ?_⟩
                        replace r_a := g21.rdD r_a; replace r_b := g21.rdD r_b; replace r_t1 := g21.rdD r_t1; replace r_t2 := g21.rdD r_t2; replace r_t3 := g21.rdD r_t3; replace r_t4 := g21.rdD r_t4; replace r_t5 := g21.rdD r_t5; replace r_t6 := g21.rdD r_t6
                        clear h21 hb21
                        exact sat_ret (.bool true) (by kernel_rfl) fun w9 h9 => rfl
                    · refine sat_true (by kernel_rfl) ?_
                      refine sat_call #[] (by kernel_rfl) fun w20 h20 => ?_
                      refine (told3_any _ (h20.tab hT)).mono ?_
                      rintro e v20 ⟨rfl, hb20⟩
                      refine ⟨hb20, [.bool true], _, rfl, by kernel_rfl, by kernel_rfl, fun g20 => ?_⟩
                      replace r_a := g20.rdD r_a; replace r_b := g20.rdD r_b; replace r_t1 := g20.rdD r_t1; replace r_t2 := g20.rdD r_t2; replace r_t3 := g20.rdD r_t3; replace r_t4 := g20.rdD r_t4; replace r_t5 := g20.rdD r_t5; replace r_t6 := g20.rdD r_t6
                      clear h20 hb20
                      exact sat_ret (.bool true) (by kernel_rfl) fun w9 h9 => rfl
                  · refine sat_true (by kernel_rfl) ?_
                    refine sat_call #[.agg #[.bool d_t3.neg, .slice A_t3 n_t3 c_t3, .int .i64 d_t3.e], .agg #[.bool a.neg, .slice A_a n_a c_a, .int .i64 a.e]] (by kernel_rfl) fun w17 h17 => ?_
                    refine (cmpD_any _ _ (d_t3) (a) _ (h17.rdD r_t3) (h17.rdD r_a)).mono ?_
                    rintro e v17 ⟨rfl, hb17⟩
                    refine ⟨hb17, [.int .i64 (cmpD d_t3 a)], _, rfl, by kernel_rfl, by kernel_rfl, fun g17 => ?_⟩
                    replace r_a := g17.rdD r_a; replace r_b := g17.rdD r_b; replace r_t1 := g17.rdD r_t1; replace r_t2 := g17.rdD r_t2; replace r_t3 := g17.rdD r_t3; replace r_t4 := g17.rdD r_t4
                    clear h17 hb17
                    refine sat_prim (v := .bool (decide ((0 : Int) < (cmpD d_t3 a)))) (by kernel_rfl) ?_
                    refine sat_falseP (b := (decide ((0 : Int) < (cmpD d_t3 a)))) (by kernel_rfl) (holds_lo ⟨hma, r_a.lim⟩ ⟨hmb, r_b.lim⟩ (sign_pos hmb hsb).1 (d0' h_t1 he_t1) (two_mul (quot_may ⟨hmb, r_b.lim⟩ (sign_pos hmb hsb).1 (d0' h_t1 he_t1)) hmb (d0' h_t3 he_t3))) ?_
                    refine sat_call #[.agg #[.bool a.neg, .slice A_a n_a c_a, .int .i64 a.e], .agg #[.bool d_t4.neg, .slice A_t4 n_t4 c_t4, .int .i64 d_t4.e]] (by kernel_rfl) fun w18 h18 => ?_
                    refine (cmpD_any _ _ (a) (d_t4) _ (h18.rdD r_a) (h18.rdD r_t4)).mono ?_
                    rintro e v18 ⟨rfl, hb18⟩
                    refine ⟨hb18, [.int .i64 (cmpD a d_t4)], _, rfl, by kernel_rfl, by kernel_rfl, fun g18 => ?_⟩
                    replace r_a := g18.rdD r_a; replace r_b := g18.rdD r_b; replace r_t1 := g18.rdD r_t1; replace r_t2 := g18.rdD r_t2; replace r_t3 := g18.rdD r_t3; replace r_t4 := g18.rdD r_t4
                    clear h18 hb18
                    refine sat_prim (v := .bool (decide ((0 : Int) < (cmpD a d_t4)))) (by kernel_rfl) ?_
                    refine sat_falseP (b := (decide ((0 : Int) < (cmpD a d_t4)))) (by kernel_rfl) (holds_hi ⟨hma, r_a.lim⟩ ⟨hmb, r_b.lim⟩ (sign_pos hmb hsb).1 (d0' h_t2 he_t2) (two_mul (quot_may ⟨hmb, r_b.lim⟩ (sign_pos hmb hsb).1 (d0' h_t2 he_t2)) hmb (d0' h_t4 he_t4))) ?_
                    refine sat_call #[.agg #[.bool b.neg, .slice A_b n_b c_b, .int .i64 b.e], .int .i64 ((N1 : Nat) : Int), .bool false] (by kernel_rfl) fun w19 h19 => ?_
                    refine (rootT _ b ((N1 : Nat) : Int) false _ (h19.rdD r_b) (h19.tab hT)).mono ?_
                    rintro e v19 ⟨⟨d_t5, x_t5, A_t5, n_t5, c_t5, h_t5, rfl, r_t5⟩, hb19⟩
                    refine ⟨hb19, [.bool d_t5.neg, .slice A_t5 n_t5 c_t5, .int .i64 d_t5.e, .int .i64 x_t5], _, rfl, by kernel_rfl, by kernel_rfl, fun g19 => ?_⟩
                    replace r_a := g19.rdD r_a; replace r_b := g19.rdD r_b; replace r_t1 := g19.rdD r_t1; replace r_t2 := g19.rdD r_t2; replace r_t3 := g19.rdD r_t3; replace r_t4 := g19.rdD r_t4
                    clear h19 hb19
                    refine sat_chkB (by kernel_rfl) ?_
                    refine sat_call #[.agg #[.bool b.neg, .slice A_b n_b c_b, .int .i64 b.e], .int .i64 ((N1 : Nat) : Int), .bool true] (by kernel_rfl) fun w20 h20 => ?_
                    refine (rootT _ b ((N1 : Nat) : Int) true _ (h20.rdD r_b) (h20.tab hT)).mono ?_
                    rintro e v20 ⟨⟨d_t6, x_t6, A_t6, n_t6, c_t6, h_t6, rfl, r_t6⟩, hb20⟩
                    refine ⟨hb20, [.bool d_t6.neg, .slice A_t6 n_t6 c_t6, .int .i64 d_t6.e, .int .i64 x_t6], _, rfl, by kernel_rfl, by kernel_rfl, fun g20 => ?_⟩
                    replace r_a := g20.rdD r_a; replace r_b := g20.rdD r_b; replace r_t1 := g20.rdD r_t1; replace r_t2 := g20.rdD r_t2; replace r_t3 := g20.rdD r_t3; replace r_t4 := g20.rdD r_t4; replace r_t5 := g20.rdD r_t5
                    clear h20 hb20
                    refine sat_chkB (by kernel_rfl) ?_
                    refine sat_prim (v := .bool ((x_t5 : Int) != 0)) (by kernel_rfl) ?_
                    cases hn_t5 : ((x_t5 : Int) != 0)
                    · refine sat_false (by kernel_rfl) ?_
                      refine sat_prim (v := .bool ((x_t6 : Int) != 0)) (by kernel_rfl) ?_
                      cases hn_t6 : ((x_t6 : Int) != 0)
                      · refine sat_false (by kernel_rfl) ?_
                        refine sat_call #[.agg #[.bool d_t5.neg, .slice A_t5 n_t5 c_t5, .int .i64 d_t5.e], .agg #[.bool d_t5.neg, .slice A_t5 n_t5 c_t5, .int .i64 d_t5.e]] (by kernel_rfl) fun w23 h23 => ?_
                        refine (mulT _ _ d_t5 d_t5 _ (h23.rdD r_t5) (h23.rdD r_t5) (h23.tab hT)).mono ?_
                        rintro e v23 ⟨⟨d_t7, x_t7, A_t7, n_t7, c_t7, h_t7, rfl, r_t7⟩, hb23⟩
                        refine ⟨hb23, [.bool d_t7.neg, .slice A_t7 n_t7 c_t7, .int .i64 d_t7.e, .int .i64 x_t7], _, rfl, by kernel_rfl, by kernel_rfl, fun g23 => ?_⟩
                        replace r_a := g23.rdD r_a; replace r_b := g23.rdD r_b; replace r_t1 := g23.rdD r_t1; replace r_t2 := g23.rdD r_t2; replace r_t3 := g23.rdD r_t3; replace r_t4 := g23.rdD r_t4; replace r_t5 := g23.rdD r_t5; replace r_t6 := g23.rdD r_t6
                        clear h23 hb23
                        refine sat_chkB (by kernel_rfl) ?_
                        refine sat_call #[.agg #[.bool d_t6.neg, .slice A_t6 n_t6 c_t6, .int .i64 d_t6.e], .agg #[.bool d_t6.neg, .slice A_t6 n_t6 c_t6, .int .i64 d_t6.e]] (by kernel_rfl) fun w24 h24 => ?_
                        refine (mulT _ _ d_t6 d_t6 _ (h24.rdD r_t6) (h24.rdD r_t6) (h24.tab hT)).mono ?_
                        rintro e v24 ⟨⟨d_t8, x_t8, A_t8, n_t8, c_t8, h_t8, rfl, r_t8⟩, hb24⟩
                        refine ⟨hb24, [.bool d_t8.neg, .slice A_t8 n_t8 c_t8, .int .i64 d_t8.e, .int .i64 x_t8], _, rfl, by kernel_rfl, by kernel_rfl, fun g24 => ?_⟩
                        replace r_a := g24.rdD r_a; replace r_b := g24.rdD r_b; replace r_t1 := g24.rdD r_t1; replace r_t2 := g24.rdD r_t2; replace r_t3 := g24.rdD r_t3; replace r_t4 := g24.rdD r_t4; replace r_t5 := g24.rdD r_t5; replace r_t6 := g24.rdD r_t6; replace r_t7 := g24.rdD r_t7
                        clear h24 hb24
                        refine sat_chkB (by kernel_rfl) ?_
                        refine sat_call #[] (by kernel_rfl) fun w25 h25 => ?_
                        refine (told3_any _ (h25.tab hT)).mono ?_
                        rintro e v25 ⟨rfl, hb25⟩
                        refine ⟨hb25, [.bool true], _, rfl, by kernel_rfl, by kernel_rfl, fun g25 => ?_⟩
                        replace r_a := g25.rdD r_a; replace r_b := g25.rdD r_b; replace r_t1 := g25.rdD r_t1; replace r_t2 := g25.rdD r_t2; replace r_t3 := g25.rdD r_t3; replace r_t4 := g25.rdD r_t4; replace r_t5 := g25.rdD r_t5; replace r_t6 := g25.rdD r_t6; replace r_t7 := g25.rdD r_t7; replace r_t8 := g25.rdD r_t8
                        clear h25 hb25
                        refine sat_true (by kernel_rfl) ?_
                        refine sat_prim (v := .bool ((x_t7 : Int) != 0)) (by kernel_rfl) ?_
                        cases hn_t7 : ((x_t7 : Int) != 0)
                        · refine sat_false (by kernel_rfl) ?_
                          refine sat_prim (v := .bool ((x_t8 : Int) != 0)) (by kernel_rfl) ?_
                          cases hn_t8 : ((x_t8 : Int) != 0)
                          · refine sat_false (by kernel_rfl) ?_
                            refine sat_call #[.agg #[.bool d_t7.neg, .slice A_t7 n_t7 c_t7, .int .i64 d_t7.e], .agg #[.bool b.neg, .slice A_b n_b c_b, .int .i64 b.e]] (by kernel_rfl) fun w28 h28 => ?_
                            refine (cmpD_any _ _ (d_t7) (b) _ (h28.rdD r_t7) (h28.rdD r_b)).mono ?_
                            rintro e v28 ⟨rfl, hb28⟩
                            refine ⟨hb28, [.int .i64 (cmpD d_t7 b)], _, rfl, by kernel_rfl, by kernel_rfl, fun g28 => ?_⟩
                            replace r_a := g28.rdD r_a; replace r_b := g28.rdD r_b; replace r_t1 := g28.rdD r_t1; replace r_t2 := g28.rdD r_t2; replace r_t3 := g28.rdD r_t3; replace r_t4 := g28.rdD r_t4; replace r_t5 := g28.rdD r_t5; replace r_t6 := g28.rdD r_t6; replace r_t7 := g28.rdD r_t7; replace r_t8 := g28.rdD r_t8
                            clear h28 hb28
                            refine sat_prim (v := .bool (decide (((cmpD d_t7 b) : Int) ≤ 0))) (by kernel_rfl) ?_
                            refine sat_trueP (b := (decide (((cmpD d_t7 b) : Int) ≤ 0))) (by kernel_rfl) (root_lo ⟨hmb, r_b.lim⟩ (d0 h_t5 hn_t5) (two_mul (root_may ⟨hmb, r_b.lim⟩ (d0 h_t5 hn_t5)) (root_may ⟨hmb, r_b.lim⟩ (d0 h_t5 hn_t5)) (d0 h_t7 hn_t7))) ?_
                            refine sat_call #[.agg #[.bool b.neg, .slice A_b n_b c_b, .int .i64 b.e], .agg #[.bool d_t8.neg, .slice A_t8 n_t8 c_t8, .int .i64 d_t8.e]] (by kernel_rfl) fun w29 h29 => ?_
                            refine (cmpD_any _ _ (b) (d_t8) _ (h29.rdD r_b) (h29.rdD r_t8)).mono ?_
                            rintro e v29 ⟨rfl, hb29⟩
                            refine ⟨hb29, [.int .i64 (cmpD b d_t8)], _, rfl, by kernel_rfl, by kernel_rfl, fun g29 => ?_⟩
                            replace r_a := g29.rdD r_a; replace r_b := g29.rdD r_b; replace r_t1 := g29.rdD r_t1; replace r_t2 := g29.rdD r_t2; replace r_t3 := g29.rdD r_t3; replace r_t4 := g29.rdD r_t4; replace r_t5 := g29.rdD r_t5; replace r_t6 := g29.rdD r_t6; replace r_t7 := g29.rdD r_t7; replace r_t8 := g29.rdD r_t8
                            clear h29 hb29
                            refine sat_prim (v := .bool (decide (((cmpD b d_t8) : Int) ≤ 0))) (by kernel_rfl) ?_
                            refine sat_trueP (b := (decide (((cmpD b d_t8) : Int) ≤ 0))) (by kernel_rfl) (root_hi ⟨hmb, r_b.lim⟩ (d0 h_t6 hn_t6) (two_mul (root_may ⟨hmb, r_b.lim⟩ (d0 h_t6 hn_t6)) (root_may ⟨hmb, r_b.lim⟩ (d0 h_t6 hn_t6)) (d0 h_t8 hn_t8))) ?_
                            refine sat_call #[.agg #[.bool d_t5.neg, .slice A_t5 n_t5 c_t5, .int .i64 d_t5.e]] (by kernel_rfl) fun w30 h30 => ?_
                            refine (signD_any _ (d_t5) _ (h30.rdD r_t5)).mono ?_
                            rintro e v30 ⟨rfl, hb30⟩
                            refine ⟨hb30, [.int .i64 (signD d_t5)], _, rfl, by kernel_rfl, by kernel_rfl, fun g30 => ?_⟩
                            replace r_a := g30.rdD r_a; replace r_b := g30.rdD r_b; replace r_t1 := g30.rdD r_t1; replace r_t2 := g30.rdD r_t2; replace r_t3 := g30.rdD r_t3; replace r_t4 := g30.rdD r_t4; replace r_t5 := g30.rdD r_t5; replace r_t6 := g30.rdD r_t6; replace r_t7 := g30.rdD r_t7; replace r_t8 := g30.rdD r_t8
                            clear h30 hb30
                            refine sat_prim (v := .bool (decide ((0 : Int) < (signD d_t5)))) (by kernel_rfl) ?_
                            refine sat_trueP (b := (decide ((0 : Int) < (signD d_t5)))) (by kernel_rfl) (root_sign ⟨hmb, r_b.lim⟩ (d0 h_t5 hn_t5) hsb) ?_
                            refine sat_call #[.agg #[.bool d_t5.neg, .slice A_t5 n_t5 c_t5, .int .i64 d_t5.e]] (by kernel_rfl) fun w31 h31 => ?_
                            refine (bitsD_any _ d_t5 _ (h31.rdD r_t5)).mono ?_
                            rintro e v31 ⟨rfl, hb31⟩
                            refine ⟨hb31, [.int .i64 (bitsD d_t5)], _, rfl, by kernel_rfl, by kernel_rfl, fun g31 => ?_⟩
                            replace r_a := g31.rdD r_a; replace r_b := g31.rdD r_b; replace r_t1 := g31.rdD r_t1; replace r_t2 := g31.rdD r_t2; replace r_t3 := g31.rdD r_t3; replace r_t4 := g31.rdD r_t4; replace r_t5 := g31.rdD r_t5; replace r_t6 := g31.rdD r_t6; replace r_t7 := g31.rdD r_t7; replace r_t8 := g31.rdD r_t8
                            clear h31 hb31
                            refine sat_prim (v := .bool (decide (((bitsD d_t5) : Int) ≤ ((N1 : Nat) : Int)))) (by kernel_rfl) ?_
                            refine sat_trueP (b := (decide (((bitsD d_t5) : Int) ≤ ((N1 : Nat) : Int)))) (by kernel_rfl) (root_bits ⟨hmb, r_b.lim⟩ (d0 h_t5 hn_t5)) ?_
                            refine sat_call #[.agg #[.bool d_t6.neg, .slice A_t6 n_t6 c_t6, .int .i64 d_t6.e]] (by kernel_rfl) fun w32 h32 => ?_
                            refine (bitsD_any _ d_t6 _ (h32.rdD r_t6)).mono ?_
                            rintro e v32 ⟨rfl, hb32⟩
                            refine ⟨hb32, [.int .i64 (bitsD d_t6)], _, rfl, by kernel_rfl, by kernel_rfl, fun g32 => ?_⟩
                            replace r_a := g32.rdD r_a; replace r_b := g32.rdD r_b; replace r_t1 := g32.rdD r_t1; replace r_t2 := g32.rdD r_t2; replace r_t3 := g32.rdD r_t3; replace r_t4 := g32.rdD r_t4; replace r_t5 := g32.rdD r_t5; replace r_t6 := g32.rdD r_t6; replace r_t7 := g32.rdD r_t7; replace r_t8 := g32.rdD r_t8
                            clear h32 hb32
                            refine sat_prim (v := .bool (decide (((bitsD d_t6) : Int) ≤ ((N1 : Nat) : Int)))) (by kernel_rfl) ?_
                            exact sat_ret (.bool (decide (((bitsD d_t6) : Int) ≤ ((N1 : Nat) : Int)))) (by kernel_rfl) fun w9 h9 => congrArg Value.bool (root_bits ⟨hmb, r_b.lim⟩ (d0 h_t6 hn_t6))
                          · refine sat_true (by kernel_rfl) ?_
                            refine sat_call #[.agg #[.bool d_t5.neg, .slice A_t5 n_t5 c_t5, .int .i64 d_t5.e]] (by kernel_rfl) fun w28 h28 => ?_
                            refine (signD_any _ (d_t5) _ (h28.rdD r_t5)).mono ?_
                            rintro e v28 ⟨rfl, hb28⟩
                            refine ⟨hb28, [.int .i64 (signD d_t5)], _, rfl, by kernel_rfl, by kernel_rfl, fun g28 => ?_⟩
                            replace r_a := g28.rdD r_a; replace r_b := g28.rdD r_b; replace r_t1 := g28.rdD r_t1; replace r_t2 := g28.rdD r_t2; replace r_t3 := g28.rdD r_t3; replace r_t4 := g28.rdD r_t4; replace r_t5 := g28.rdD r_t5; replace r_t6 := g28.rdD r_t6; replace r_t7 := g28.rdD r_t7; replace r_t8 := g28.rdD r_t8
                            clear h28 hb28
                            refine sat_prim (v := .bool (decide ((0 : Int) < (signD d_t5)))) (by kernel_rfl) ?_
                            refine sat_trueP (b := (decide ((0 : Int) < (signD d_t5)))) (by kernel_rfl) (root_sign ⟨hmb, r_b.lim⟩ (d0 h_t5 hn_t5) hsb) ?_
                            refine sat_call #[.agg #[.bool d_t5.neg, .slice A_t5 n_t5 c_t5, .int .i64 d_t5.e]] (by kernel_rfl) fun w29 h29 => ?_
                            refine (bitsD_any _ d_t5 _ (h29.rdD r_t5)).mono ?_
                            rintro e v29 ⟨rfl, hb29⟩
                            refine ⟨hb29, [.int .i64 (bitsD d_t5)], _, rfl, by kernel_rfl, by kernel_rfl, fun g29 => ?_⟩
                            replace r_a := g29.rdD r_a; replace r_b := g29.rdD r_b; replace r_t1 := g29.rdD r_t1; replace r_t2 := g29.rdD r_t2; replace r_t3 := g29.rdD r_t3; replace r_t4 := g29.rdD r_t4; replace r_t5 := g29.rdD r_t5; replace r_t6 := g29.rdD r_t6; replace r_t7 := g29.rdD r_t7; replace r_t8 := g29.rdD r_t8
                            clear h29 hb29
                            refine sat_prim (v := .bool (decide (((bitsD d_t5) : Int) ≤ ((N1 : Nat) : Int)))) (by kernel_rfl) ?_
                            refine sat_trueP (b := (decide (((bitsD d_t5) : Int) ≤ ((N1 : Nat) : Int)))) (by kernel_rfl) (root_bits ⟨hmb, r_b.lim⟩ (d0 h_t5 hn_t5)) ?_
                            refine sat_call #[.agg #[.bool d_t6.neg, .slice A_t6 n_t6 c_t6, .int .i64 d_t6.e]] (by kernel_rfl) fun w30 h30 => ?_
                            refine (bitsD_any _ d_t6 _ (h30.rdD r_t6)).mono ?_
                            rintro e v30 ⟨rfl, hb30⟩
                            refine ⟨hb30, [.int .i64 (bitsD d_t6)], _, rfl, by kernel_rfl, by kernel_rfl, fun g30 => ?_⟩
                            replace r_a := g30.rdD r_a; replace r_b := g30.rdD r_b; replace r_t1 := g30.rdD r_t1; replace r_t2 := g30.rdD r_t2; replace r_t3 := g30.rdD r_t3; replace r_t4 := g30.rdD r_t4; replace r_t5 := g30.rdD r_t5; replace r_t6 := g30.rdD r_t6; replace r_t7 := g30.rdD r_t7; replace r_t8 := g30.rdD r_t8
                            clear h30 hb30
                            refine sat_prim (v := .bool (decide (((bitsD d_t6) : Int) ≤ ((N1 : Nat) : Int)))) (by kernel_rfl) ?_
                            exact sat_ret (.bool (decide (((bitsD d_t6) : Int) ≤ ((N1 : Nat) : Int)))) (by kernel_rfl) fun w9 h9 => congrArg Value.bool (root_bits ⟨hmb, r_b.lim⟩ (d0 h_t6 hn_t6))
                        · refine sat_true (by kernel_rfl) ?_
                          refine sat_call #[.agg #[.bool d_t5.neg, .slice A_t5 n_t5 c_t5, .int .i64 d_t5.e]] (by kernel_rfl) fun w27 h27 => ?_
                          refine (signD_any _ (d_t5) _ (h27.rdD r_t5)).mono ?_
                          rintro e v27 ⟨rfl, hb27⟩
                          refine ⟨hb27, [.int .i64 (signD d_t5)], _, rfl, by kernel_rfl, by kernel_rfl, fun g27 => ?_⟩
                          replace r_a := g27.rdD r_a; replace r_b := g27.rdD r_b; replace r_t1 := g27.rdD r_t1; replace r_t2 := g27.rdD r_t2; replace r_t3 := g27.rdD r_t3; replace r_t4 := g27.rdD r_t4; replace r_t5 := g27.rdD r_t5; replace r_t6 := g27.rdD r_t6; replace r_t7 := g27.rdD r_t7; replace r_t8 := g27.rdD r_t8
                          clear h27 hb27
                          refine sat_prim (v := .bool (decide ((0 : Int) < (signD d_t5)))) (by kernel_rfl) ?_
                          refine sat_trueP (b := (decide ((0 : Int) < (signD d_t5)))) (by kernel_rfl) (root_sign ⟨hmb, r_b.lim⟩ (d0 h_t5 hn_t5) hsb) ?_
                          refine sat_call #[.agg #[.bool d_t5.neg, .slice A_t5 n_t5 c_t5, .int .i64 d_t5.e]] (by kernel_rfl) fun w28 h28 => ?_
                          refine (bitsD_any _ d_t5 _ (h28.rdD r_t5)).mono ?_
                          rintro e v28 ⟨rfl, hb28⟩
                          refine ⟨hb28, [.int .i64 (bitsD d_t5)], _, rfl, by kernel_rfl, by kernel_rfl, fun g28 => ?_⟩
                          replace r_a := g28.rdD r_a; replace r_b := g28.rdD r_b; replace r_t1 := g28.rdD r_t1; replace r_t2 := g28.rdD r_t2; replace r_t3 := g28.rdD r_t3; replace r_t4 := g28.rdD r_t4; replace r_t5 := g28.rdD r_t5; replace r_t6 := g28.rdD r_t6; replace r_t7 := g28.rdD r_t7; replace r_t8 := g28.rdD r_t8
                          clear h28 hb28
                          refine sat_prim (v := .bool (decide (((bitsD d_t5) : Int) ≤ ((N1 : Nat) : Int)))) (by kernel_rfl) ?_
                          refine sat_trueP (b := (decide (((bitsD d_t5) : Int) ≤ ((N1 : Nat) : Int)))) (by kernel_rfl) (root_bits ⟨hmb, r_b.lim⟩ (d0 h_t5 hn_t5)) ?_
                          refine sat_call #[.agg #[.bool d_t6.neg, .slice A_t6 n_t6 c_t6, .int .i64 d_t6.e]] (by kernel_rfl) fun w29 h29 => ?_
                          refine (bitsD_any _ d_t6 _ (h29.rdD r_t6)).mono ?_
                          rintro e v29 ⟨rfl, hb29⟩
                          refine ⟨hb29, [.int .i64 (bitsD d_t6)], _, rfl, by kernel_rfl, by kernel_rfl, fun g29 => ?_⟩
                          replace r_a := g29.rdD r_a; replace r_b := g29.rdD r_b; replace r_t1 := g29.rdD r_t1; replace r_t2 := g29.rdD r_t2; replace r_t3 := g29.rdD r_t3; replace r_t4 := g29.rdD r_t4; replace r_t5 := g29.rdD r_t5; replace r_t6 := g29.rdD r_t6; replace r_t7 := g29.rdD r_t7; replace r_t8 := g29.rdD r_t8
                          clear h29 hb29
                          refine sat_prim (v := .bool (decide (((bitsD d_t6) : Int) ≤ ((N1 : Nat) : Int)))) (by kernel_rfl) ?_
                          exact sat_ret (.bool (decide (((bitsD d_t6) : Int) ≤ ((N1 : Nat) : Int)))) (by kernel_rfl) fun w9 h9 => congrArg Value.bool (root_bits ⟨hmb, r_b.lim⟩ (d0 h_t6 hn_t6))
                      · refine sat_true (by kernel_rfl) ?_
                        refine sat_call #[] (by kernel_rfl) fun w23 h23 => ?_
                        refine (told3_any _ (h23.tab hT)).mono ?_
                        rintro e v23 ⟨rfl, hb23⟩
                        refine ⟨hb23, [.bool true], _, rfl, by kernel_rfl, by kernel_rfl, fun g23 => ?_⟩
                        replace r_a := g23.rdD r_a; replace r_b := g23.rdD r_b; replace r_t1 := g23.rdD r_t1; replace r_t2 := g23.rdD r_t2; replace r_t3 := g23.rdD r_t3; replace r_t4 := g23.rdD r_t4; replace r_t5 := g23.rdD r_t5; replace r_t6 := g23.rdD r_t6
                        clear h23 hb23
                        exact sat_ret (.bool true) (by kernel_rfl) fun w9 h9 => rfl
                    · refine sat_true (by kernel_rfl) ?_
                      refine sat_call #[] (by kernel_rfl) fun w22 h22 => ?_
                      refine (told3_any _ (h22.tab hT)).mono ?_
                      rintro e v22 ⟨rfl, hb22⟩
                      refine ⟨hb22, [.bool true], _, rfl, by kernel_rfl, by kernel_rfl, fun g22 => ?_⟩
                      replace r_a := g22.rdD r_a; replace r_b := g22.rdD r_b; replace r_t1 := g22.rdD r_t1; replace r_t2 := g22.rdD r_t2; replace r_t3 := g22.rdD r_t3; replace r_t4 := g22.rdD r_t4; replace r_t5 := g22.rdD r_t5; replace r_t6 := g22.rdD r_t6
                      clear h22 hb22
                      exact sat_ret (.bool true) (by kernel_rfl) fun w9 h9 => rfl
          · refine sat_true (by kernel_rfl) ?_
            refine sat_call #[] (by kernel_rfl) fun w9 h9 => ?_
            refine (told3_any _ (h9.tab hT)).mono ?_
            rintro e v9 ⟨rfl, hb9⟩
            refine ⟨hb9, [.bool true], _, rfl, by kernel_rfl, by kernel_rfl, fun g9 => ?_⟩
            replace r_a := g9.rdD r_a; replace r_b := g9.rdD r_b
            clear h9 hb9
            exact sat_ret (.bool true) (by kernel_rfl) fun w9 h9 => rfl
    · refine sat_true (by kernel_rfl) ?_
      refine sat_call #[] (by kernel_rfl) fun w3 h3 => ?_
      refine (told3_any _ (h3.tab hT)).mono ?_
      rintro e v3 ⟨rfl, hb3⟩
      refine ⟨hb3, [.bool true], _, rfl, by kernel_rfl, by kernel_rfl, fun g3 => ?_⟩
      replace r_a := g3.rdD r_a; replace r_b := g3.rdD r_b
      clear h3 hb3
      exact sat_ret (.bool true) (by kernel_rfl) fun w9 h9 => rfl
  · refine sat_true (by kernel_rfl) ?_
    refine sat_call #[] (by kernel_rfl) fun w2 h2 => ?_
    refine (told3_any _ (h2.tab hT)).mono ?_
    rintro e v2 ⟨rfl, hb2⟩
    refine ⟨hb2, [.bool true], _, rfl, by kernel_rfl, by kernel_rfl, fun g2 => ?_⟩
    replace r_a := g2.rdD r_a; replace r_b := g2.rdD r_b
    clear h2 hb2
    exact sat_ret (.bool true) (by kernel_rfl) fun w9 h9 => rfl

end Go.Proofs.YteodljieiloebaaDoor
