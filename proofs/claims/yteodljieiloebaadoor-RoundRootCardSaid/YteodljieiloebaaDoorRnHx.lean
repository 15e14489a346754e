/- The walks of RoundAsks, RoundQuot, RoundRoot, by their trees. Printed by wip/mk_RnH.py. -/
import Derived.Test.YteodljieiloebaaDoorRnGx
import Derived.Test.YteodljieiloebaaDoorRfPx
namespace Go.Proofs.YteodljieiloebaaDoor
open Go.RowKit Pl
open Sx (sat_call sat_chk sat_prim sat_ite sat_true sat_false sat_trueP sat_falseP sat_ret sat_row sat_callP all_nil all_cons okB okS okI)

theorem same3_of {r r' : Dy × Int} {d d' : Dy} {x x' : Int} (k : Hid ((d, x) = r)) (k' : Hid ((d', x') = r')) (e : r = r') : ((x == x') && sameD d d') = true := by
  obtain ⟨rfl, rfl⟩ := dx2 k (e.trans k'.out.symm)
  simp [sameD_self]
theorem blen_BB {X n k : Nat} (h : blen X ≤ k) (hk : k ≤ 64 * n) : X < BB ^ n :=
  Nat.lt_of_lt_of_le (blen_lt_pow X) (Nat.le_trans (Nat.pow_le_pow_right (by omega) (Nat.le_trans h hk)) (Nat.le_of_eq (pow_BB n).symm))
theorem fromB {u : Value} {X : Nat} {w : World} (h : R64 w u X) (hX : blen X ≤ 4096) : Calls Tryd.prog 30 #[u] w fun e w' => (∃ A n c, e = .returned (.slice A n c) ∧ R16 w' (.slice A n c) X) ∧ Below w.heap.size w w' :=
  (fromV u X w h (blen_BB hX (by decide))).mono fun _ _ ⟨z, he, hz, hb⟩ => ⟨sl16 ⟨z, he, hz⟩, hb⟩

def tr_roundAsks : Sx.Tree := .chk [.lf 0, .lf 1, .lf 2] (.call 23 [.ag [.lf 0, .lf 1, .lf 2]] .one (.prim .not [.lf 4] (.ite (.lf 5) (.call 24 [] .one (.ret (.one (.lf 6)))) (.call 25 [.ag [.lf 0, .lf 1, .lf 2], .one (.lf 3)] (.tup [(true, 3), (false, 1)]) (.chk [.lf 6, .lf 7, .lf 8] (.call 26 [.ag [.lf 0, .lf 1, .lf 2], .one (.lf 3)] (.tup [(true, 3), (false, 1)]) (.chk [.lf 10, .lf 11, .lf 12] (.call 27 [.ag [.lf 0, .lf 1, .lf 2], .one (.lf 3), .one (.bit false)] (.tup [(true, 3), (false, 1)]) (.chk [.lf 14, .lf 15, .lf 16] (.call 27 [.ag [.lf 0, .lf 1, .lf 2], .one (.lf 3), .one (.bit true)] (.tup [(true, 3), (false, 1)]) (.chk [.lf 18, .lf 19, .lf 20] (.call 28 [.ag [.lf 0, .lf 1, .lf 2]] .one (.ite (.lf 22) (.call 30 [.one (.lf 1)] .one (.call 29 [.one (.lf 23)] .one (.call 24 [] .one (.ite (.lf 25) (.call 31 [.ag [.lf 6, .lf 7, .lf 8], .one (.lf 9), .ag [.lf 14, .lf 15, .lf 16], .one (.lf 17)] .one (.ite (.lf 26) (.call 31 [.ag [.lf 10, .lf 11, .lf 12], .one (.lf 13), .ag [.lf 18, .lf 19, .lf 20], .one (.lf 21)] .one (.ite (.lf 27) (.call 21 [.ag [.lf 0, .lf 1, .lf 2]] .one (.prim (.bin .eql) [.lf 28, .lf 24] (.ret (.one (.lf 29))))) (.ret (.one (.bit false))))) (.ret (.one (.bit false))))) (.ret (.one (.bit false))))))) (.call 24 [] .one (.ite (.lf 23) (.call 31 [.ag [.lf 6, .lf 7, .lf 8], .one (.lf 9), .ag [.lf 14, .lf 15, .lf 16], .one (.lf 17)] .one (.ite (.lf 24) (.call 31 [.ag [.lf 10, .lf 11, .lf 12], .one (.lf 13), .ag [.lf 18, .lf 19, .lf 20], .one (.lf 21)] .one (.ite (.lf 25) (.call 21 [.ag [.lf 0, .lf 1, .lf 2]] .one (.prim (.bin .eql) [.lf 26, .num .i64 0] (.ret (.one (.lf 27))))) (.ret (.one (.bit false))))) (.ret (.one (.bit false))))) (.ret (.one (.bit false))))))))))))))))))
theorem tr_roundAsks_eq : Sx.treeAt Tryd.prog 5 [] [] [(true, 3), (false, 1)] = some tr_roundAsks := by kernel_rfl

set_option maxRecDepth 100000 in
set_option maxHeartbeats 4000000 in
theorem roundAsks_any (v_d : Value) (d : Dy) (p : Int) (w : World) (h_d : RdD w v_d d) (hT : TabAt w) :
    Calls Tryd.prog 5 #[v_d, .int .i64 p] w fun e w' => e = .returned (.bool true) ∧ Below w.heap.size w w' := by
  have r_d := h_d
  obtain ⟨A_d, n_d, c_d, rfl, _⟩ := h_d
  refine (Sx.runA [] [] (ls := [.bool d.neg, .slice A_d n_d c_d, .int .i64 d.e, .int .i64 p]) (shs := [(true, 3), (false, 1)]) (R := fun v w' => v = .bool true) tr_roundAsks_eq rfl (by decide) (fun q h => by cases h) ?_).mono (fun e w' ⟨v, he, hv, hb⟩ => ⟨by rw [he, hv], hb⟩)
  unfold tr_roundAsks
  refine sat_chkB (by kernel_rfl) ?_
  refine sat_call #[.agg #[.bool d.neg, .slice A_d n_d c_d, .int .i64 d.e]] (by kernel_rfl) fun w1 h1 => ?_
  refine (few2_any _ (d) _ (h1.rdD r_d)).mono ?_
  rintro e v1 ⟨rfl, hb1⟩
  refine ⟨hb1, [.bool (decide (d.m.length ≤ 70))], _, rfl, by kernel_rfl, by kernel_rfl, fun g1 => ?_⟩
  replace r_d := g1.rdD r_d
  clear h1 hb1
  refine sat_prim (v := .bool (!(decide (d.m.length ≤ 70)))) (by kernel_rfl) ?_
  cases hf : (decide (d.m.length ≤ 70))
  · refine sat_true (by kernel_rfl) ?_
    refine sat_call #[] (by kernel_rfl) fun w3 h3 => ?_
    refine (told3_any _ (h3.tab hT)).mono ?_
    rintro e v3 ⟨rfl, hb3⟩
    refine ⟨hb3, [.bool true], _, rfl, by kernel_rfl, by kernel_rfl, fun g3 => ?_⟩
    replace r_d := g3.rdD r_d
    clear h3 hb3
    exact sat_ret (.bool true) (by kernel_rfl) fun w9 h9 => rfl
  · refine sat_false (by kernel_rfl) ?_
    refine sat_call #[.agg #[.bool d.neg, .slice A_d n_d c_d, .int .i64 d.e], .int .i64 p] (by kernel_rfl) fun w3 h3 => ?_
    refine (downT _ d p _ (h3.rdD r_d) (h3.tab hT)).mono ?_
    rintro e v3 ⟨⟨d_t1, x_t1, A_t1, n_t1, c_t1, h_t1, rfl, r_t1⟩, hb3⟩
    refine ⟨hb3, [.bool d_t1.neg, .slice A_t1 n_t1 c_t1, .int .i64 d_t1.e, .int .i64 x_t1], _, rfl, by kernel_rfl, by kernel_rfl, fun g3 => ?_⟩
    replace r_d := g3.rdD r_d
    clear h3 hb3
    refine sat_chkB (by kernel_rfl) ?_
    refine sat_call #[.agg #[.bool d.neg, .slice A_d n_d c_d, .int .i64 d.e], .int .i64 p] (by kernel_rfl) fun w4 h4 => ?_
    refine (upT _ d p _ (h4.rdD r_d) (h4.tab hT)).mono ?_
    rintro e v4 ⟨⟨d_t2, x_t2, A_t2, n_t2, c_t2, h_t2, rfl, r_t2⟩, hb4⟩
    refine ⟨hb4, [.bool d_t2.neg, .slice A_t2 n_t2 c_t2, .int .i64 d_t2.e, .int .i64 x_t2], _, rfl, by kernel_rfl, by kernel_rfl, fun g4 => ?_⟩
    replace r_d := g4.rdD r_d; replace r_t1 := g4.rdD r_t1
    clear h4 hb4
    refine sat_chkB (by kernel_rfl) ?_
    refine sat_call #[.agg #[.bool d.neg, .slice A_d n_d c_d, .int .i64 d.e], .int .i64 p, .bool false] (by kernel_rfl) fun w5 h5 => ?_
    refine (rround_any _ d p false _ (h5.rdD r_d)).mono ?_
    rintro e v5 ⟨⟨d_t3, x_t3, A_t3, n_t3, c_t3, h_t3, rfl, r_t3⟩, hb5⟩
    refine ⟨hb5, [.bool d_t3.neg, .slice A_t3 n_t3 c_t3, .int .i64 d_t3.e, .int .i64 x_t3], _, rfl, by kernel_rfl, by kernel_rfl, fun g5 => ?_⟩
    replace r_d := g5.rdD r_d; replace r_t1 := g5.rdD r_t1; replace r_t2 := g5.rdD r_t2
    clear h5 hb5
    refine sat_chkB (by kernel_rfl) ?_
    refine sat_call #[.agg #[.bool d.neg, .slice A_d n_d c_d, .int .i64 d.e], .int .i64 p, .bool true] (by kernel_rfl) fun w6 h6 => ?_
    refine (rround_any _ d p true _ (h6.rdD r_d)).mono ?_
    rintro e v6 ⟨⟨d_t4, x_t4, A_t4, n_t4, c_t4, h_t4, rfl, r_t4⟩, hb6⟩
    refine ⟨hb6, [.bool d_t4.neg, .slice A_t4 n_t4 c_t4, .int .i64 d_t4.e, .int .i64 x_t4], _, rfl, by kernel_rfl, by kernel_rfl, fun g6 => ?_⟩
    replace r_d := g6.rdD r_d; replace r_t1 := g6.rdD r_t1; replace r_t2 := g6.rdD r_t2; replace r_t3 := g6.rdD r_t3
    clear h6 hb6
    refine sat_chkB (by kernel_rfl) ?_
    refine sat_call #[.agg #[.bool d.neg, .slice A_d n_d c_d, .int .i64 d.e]] (by kernel_rfl) fun w7 h7 => ?_
    refine (rmayD_any _ (d) _ (h7.rdD r_d)).mono ?_
    rintro e v7 ⟨rfl, hb7⟩
    refine ⟨hb7, [.bool (mayD d)], _, rfl, by kernel_rfl, by kernel_rfl, fun g7 => ?_⟩
    replace r_d := g7.rdD r_d; replace r_t1 := g7.rdD r_t1; replace r_t2 := g7.rdD r_t2; replace r_t3 := g7.rdD r_t3; replace r_t4 := g7.rdD r_t4
    clear h7 hb7
    cases hm : (mayD d)
    · refine sat_false (by kernel_rfl) ?_
      refine sat_call #[] (by kernel_rfl) fun w9 h9 => ?_
      refine (told3_any _ (h9.tab hT)).mono ?_
      rintro e v9 ⟨rfl, hb9⟩
      refine ⟨hb9, [.bool true], _, rfl, by kernel_rfl, by kernel_rfl, fun g9 => ?_⟩
      replace r_d := g9.rdD r_d; replace r_t1 := g9.rdD r_t1; replace r_t2 := g9.rdD r_t2; replace r_t3 := g9.rdD r_t3; replace r_t4 := g9.rdD r_t4
      clear h9 hb9
      refine sat_true (by kernel_rfl) ?_
      refine sat_call #[.agg #[.bool d_t1.neg, .slice A_t1 n_t1 c_t1, .int .i64 d_t1.e], .int .i64 x_t1, .agg #[.bool d_t3.neg, .slice A_t3 n_t3 c_t3, .int .i64 d_t3.e], .int .i64 x_t3] (by kernel_rfl) fun w10 h10 => ?_
      refine (same3_any _ _ d_t1 x_t1 d_t3 x_t3 _ (h10.rdD r_t1) (h10.rdD r_t3)).mono ?_
      rw [same3_of h_t1 h_t3 (rfl)]
      rintro e v10 ⟨rfl, hb10⟩
      refine ⟨hb10, [.bool true], _, rfl, by kernel_rfl, by kernel_rfl, fun g10 => ?_⟩
      replace r_d := g10.rdD r_d; replace r_t1 := g10.rdD r_t1; replace r_t2 := g10.rdD r_t2; replace r_t3 := g10.rdD r_t3; replace r_t4 := g10.rdD r_t4
      clear h10 hb10
      refine sat_true (by kernel_rfl) ?_
      refine sat_call #[.agg #[.bool d_t2.neg, .slice A_t2 n_t2 c_t2, .int .i64 d_t2.e], .int .i64 x_t2, .agg #[.bool d_t4.neg, .slice A_t4 n_t4 c_t4, .int .i64 d_t4.e], .int .i64 x_t4] (by kernel_rfl) fun w11 h11 => ?_
      refine (same3_any _ _ d_t2 x_t2 d_t4 x_t4 _ (h11.rdD r_t2) (h11.rdD r_t4)).mono ?_
      rw [same3_of h_t2 h_t4 (rfl)]
      rintro e v11 ⟨rfl, hb11⟩
      refine ⟨hb11, [.bool true], _, rfl, by kernel_rfl, by kernel_rfl, fun g11 => ?_⟩
      replace r_d := g11.rdD r_d; replace r_t1 := g11.rdD r_t1; replace r_t2 := g11.rdD r_t2; replace r_t3 := g11.rdD r_t3; replace r_t4 := g11.rdD r_t4
      clear h11 hb11
      refine sat_true (by kernel_rfl) ?_
      refine sat_call #[.agg #[.bool d.neg, .slice A_d n_d c_d, .int .i64 d.e]] (by kernel_rfl) fun w12 h12 => ?_
      refine (bitsD_any _ d _ (h12.rdD r_d)).mono ?_
      rintro e v12 ⟨rfl, hb12⟩
      refine ⟨hb12, [.int .i64 (bitsD d)], _, rfl, by kernel_rfl, by kernel_rfl, fun g12 => ?_⟩
      replace r_d := g12.rdD r_d; replace r_t1 := g12.rdD r_t1; replace r_t2 := g12.rdD r_t2; replace r_t3 := g12.rdD r_t3; replace r_t4 := g12.rdD r_t4
      clear h12 hb12
      refine sat_prim (v := .bool (((bitsD d) : Int) == 0)) (by kernel_rfl) ?_
      exact sat_ret (.bool (((bitsD d) : Int) == 0)) (by kernel_rfl) fun w9 h9 => by unfold bitsD; rw [hm]; simp
    · refine sat_true (by kernel_rfl) ?_
      refine sat_call #[.slice A_d n_d c_d] (by kernel_rfl) fun w9 h9 => ?_
      refine (fromB (mayD_rd (h9.rdD r_d).length.2 (h9.rdD r_d).lim hm) (mayD_blen (h9.rdD r_d).lim hm)).mono ?_
      rintro e v9 ⟨⟨A_n, n_n, c_n, rfl, r_n⟩, hb9⟩
      refine ⟨hb9, [.slice A_n n_n c_n], _, rfl, by kernel_rfl, by kernel_rfl, fun g9 => ?_⟩
      replace r_d := g9.rdD r_d; replace r_t1 := g9.rdD r_t1; replace r_t2 := g9.rdD r_t2; replace r_t3 := g9.rdD r_t3; replace r_t4 := g9.rdD r_t4
      clear h9 hb9
      refine sat_call #[.slice A_n n_n c_n] (by kernel_rfl) fun w10 h10 => ?_
      refine (rbitsB (h10.r16 r_n) (Nat.le_trans (mayD_blen r_d.lim hm) (by omega))).mono ?_
      rintro e v10 ⟨rfl, hb10⟩
      refine ⟨hb10, [.int .i64 ((blen (val BB d.m) : Nat) : Int)], _, rfl, by kernel_rfl, by kernel_rfl, fun g10 => ?_⟩
      replace r_d := g10.rdD r_d; replace r_t1 := g10.rdD r_t1; replace r_t2 := g10.rdD r_t2; replace r_t3 := g10.rdD r_t3; replace r_t4 := g10.rdD r_t4; replace r_n := g10.r16 r_n
      clear h10 hb10
      refine sat_call #[] (by kernel_rfl) fun w11 h11 => ?_
      refine (told3_any _ (h11.tab hT)).mono ?_
      rintro e v11 ⟨rfl, hb11⟩
      refine ⟨hb11, [.bool true], _, rfl, by kernel_rfl, by kernel_rfl, fun g11 => ?_⟩
      replace r_d := g11.rdD r_d; replace r_t1 := g11.rdD r_t1; replace r_t2 := g11.rdD r_t2; replace r_t3 := g11.rdD r_t3; replace r_t4 := g11.rdD r_t4; replace r_n := g11.r16 r_n
      clear h11 hb11
      refine sat_true (by kernel_rfl) ?_
      refine sat_call #[.agg #[.bool d_t1.neg, .slice A_t1 n_t1 c_t1, .int .i64 d_t1.e], .int .i64 x_t1, .agg #[.bool d_t3.neg, .slice A_t3 n_t3 c_t3, .int .i64 d_t3.e], .int .i64 x_t3] (by kernel_rfl) fun w12 h12 => ?_
      refine (same3_any _ _ d_t1 x_t1 d_t3 x_t3 _ (h12.rdD r_t1) (h12.rdD r_t3)).mono ?_
      rw [same3_of h_t1 h_t3 (rfl)]
      rintro e v12 ⟨rfl, hb12⟩
      refine ⟨hb12, [.bool true], _, rfl, by kernel_rfl, by kernel_rfl, fun g12 => ?_⟩
      replace r_d := g12.rdD r_d; replace r_t1 := g12.rdD r_t1; replace r_t2 := g12.rdD r_t2; replace r_t3 := g12.rdD r_t3; replace r_t4 := g12.rdD r_t4; replace r_n := g12.r16 r_n
      clear h12 hb12
      refine sat_true (by kernel_rfl) ?_
      refine sat_call #[.agg #[.bool d_t2.neg, .slice A_t2 n_t2 c_t2, .int .i64 d_t2.e], .int .i64 x_t2, .agg #[.bool d_t4.neg, .slice A_t4 n_t4 c_t4, .int .i64 d_t4.e], .int .i64 x_t4] (by kernel_rfl) fun w13 h13 => ?_
      refine (same3_any _ _ d_t2 x_t2 d_t4 x_t4 _ (h13.rdD r_t2) (h13.rdD r_t4)).mono ?_
      rw [same3_of h_t2 h_t4 (rfl)]
      rintro e v13 ⟨rfl, hb13⟩
      refine ⟨hb13, [.bool true], _, rfl, by kernel_rfl, by kernel_rfl, fun g13 => ?_⟩
      replace r_d := g13.rdD r_d; replace r_t1 := g13.rdD r_t1; replace r_t2 := g13.rdD r_t2; replace r_t3 := g13.rdD r_t3; replace r_t4 := g13.rdD r_t4; replace r_n := g13.r16 r_n
      clear h13 hb13
      refine sat_true (by kernel_rfl) ?_
      refine sat_call #[.agg #[.bool d.neg, .slice A_d n_d c_d, .int .i64 d.e]] (by kernel_rfl) fun w14 h14 => ?_
      refine (bitsD_any _ d _ (h14.rdD r_d)).mono ?_
      rintro e v14 ⟨rfl, hb14⟩
      refine ⟨hb14, [.int .i64 (bitsD d)], _, rfl, by kernel_rfl, by kernel_rfl, fun g14 => ?_⟩
      replace r_d := g14.rdD r_d; replace r_t1 := g14.rdD r_t1; replace r_t2 := g14.rdD r_t2; replace r_t3 := g14.rdD r_t3; replace r_t4 := g14.rdD r_t4; replace r_n := g14.r16 r_n
      clear h14 hb14
      refine sat_prim (v := .bool (((bitsD d) : Int) == ((blen (val BB d.m) : Nat) : Int))) (by kernel_rfl) ?_
      exact sat_ret (.bool (((bitsD d) : Int) == ((blen (val BB d.m) : Nat) : Int))) (by kernel_rfl) fun w9 h9 => by unfold bitsD; rw [hm]; simp

def tr_roundQuot : Sx.Tree := .chk [.lf 0, .lf 1, .lf 2] (.chk [.lf 3, .lf 4, .lf 5] (.prim .len [.lf 1] (.prim (.bin .gtr) [.lf 8, .num .i64 12] (.ite (.lf 9) (.call 24 [] .one (.ret (.one (.lf 10)))) (.prim .len [.lf 4] (.prim (.bin .gtr) [.lf 10, .num .i64 12] (.ite (.lf 11) (.call 24 [] .one (.ret (.one (.lf 12)))) (.prim (.bin .gtr) [.lf 6, .num .i64 300] (.ite (.lf 12) (.prim (.bin .leq) [.lf 6, .num .i64 2000] (.ite (.lf 13) (.call 24 [] .one (.ret (.one (.lf 14)))) (.call 32 [.ag [.lf 0, .lf 1, .lf 2], .ag [.lf 3, .lf 4, .lf 5], .one (.lf 6), .one (.lf 7)] (.tup [(true, 3), (false, 1)]) (.chk [.lf 14, .lf 15, .lf 16] (.call 33 [.ag [.lf 0, .lf 1, .lf 2], .ag [.lf 3, .lf 4, .lf 5], .one (.lf 6), .one (.lf 7)] (.tup [(true, 3), (false, 1)]) (.chk [.lf 18, .lf 19, .lf 20] (.call 24 [] .one (.ite (.lf 22) (.call 31 [.ag [.lf 14, .lf 15, .lf 16], .one (.lf 17), .ag [.lf 18, .lf 19, .lf 20], .one (.lf 21)] .one (.ret (.one (.lf 23)))) (.ret (.one (.bit false))))))))))) (.call 32 [.ag [.lf 0, .lf 1, .lf 2], .ag [.lf 3, .lf 4, .lf 5], .one (.lf 6), .one (.lf 7)] (.tup [(true, 3), (false, 1)]) (.chk [.lf 13, .lf 14, .lf 15] (.call 33 [.ag [.lf 0, .lf 1, .lf 2], .ag [.lf 3, .lf 4, .lf 5], .one (.lf 6), .one (.lf 7)] (.tup [(true, 3), (false, 1)]) (.chk [.lf 17, .lf 18, .lf 19] (.call 24 [] .one (.ite (.lf 21) (.call 31 [.ag [.lf 13, .lf 14, .lf 15], .one (.lf 16), .ag [.lf 17, .lf 18, .lf 19], .one (.lf 20)] .one (.ret (.one (.lf 22)))) (.ret (.one (.bit false))))))))))))))))))
theorem tr_roundQuot_eq : Sx.treeAt Tryd.prog 6 [] [] [(true, 3), (true, 3), (false, 1), (false, 1)] = some tr_roundQuot := by kernel_rfl

set_option maxRecDepth 100000 in
set_option maxHeartbeats 4000000 in
theorem roundQuot_any (v_a : Value) (v_b : Value) (a : Dy) (b : Dy) (p : Int) (up : Bool) (w : World) (h_a : RdD w v_a a) (h_b : RdD w v_b b) (hT : TabAt w) :
    Calls Tryd.prog 6 #[v_a, v_b, .int .i64 p, .bool up] w fun e w' => e = .returned (.bool true) ∧ Below w.heap.size w w' := by
  have r_a := h_a
  obtain ⟨A_a, n_a, c_a, rfl, _⟩ := h_a
  have r_b := h_b
  obtain ⟨A_b, n_b, c_b, rfl, _⟩ := h_b
  refine (Sx.runA [] [] (ls := [.bool a.neg, .slice A_a n_a c_a, .int .i64 a.e, .bool b.neg, .slice A_b n_b c_b, .int .i64 b.e, .int .i64 p, .bool up]) (shs := [(true, 3), (true, 3), (false, 1), (false, 1)]) (R := fun v w' => v = .bool true) tr_roundQuot_eq rfl (by decide) (fun q h => by cases h) ?_).mono (fun e w' ⟨v, he, hv, hb⟩ => ⟨by rw [he, hv], hb⟩)
  unfold tr_roundQuot
  refine sat_chkB (by kernel_rfl) ?_
  refine sat_chkB (by kernel_rfl) ?_
  refine sat_prim (v := .int .i64 ((n_a : Nat) : Int)) (by kernel_rfl) ?_
  refine sat_prim (v := .bool (decide ((12 : Int) < ((n_a : Nat) : Int)))) (by kernel_rfl) ?_
  cases hE1 : (decide ((12 : Int) < ((n_a : Nat) : Int)))
  · refine sat_false (by kernel_rfl) ?_
    refine sat_prim (v := .int .i64 ((n_b : Nat) : Int)) (by kernel_rfl) ?_
    refine sat_prim (v := .bool (decide ((12 : Int) < ((n_b : Nat) : Int)))) (by kernel_rfl) ?_
    cases hE2 : (decide ((12 : Int) < ((n_b : Nat) : Int)))
    · refine sat_false (by kernel_rfl) ?_
      refine sat_prim (v := .bool (decide ((300 : Int) < p))) (by kernel_rfl) ?_
      cases hE3 : (decide ((300 : Int) < p))
      · refine sat_false (by kernel_rfl) ?_
        refine sat_call #[.agg #[.bool a.neg, .slice A_a n_a c_a, .int .i64 a.e], .agg #[.bool b.neg, .slice A_b n_b c_b, .int .i64 b.e], .int .i64 p, .bool up] (by kernel_rfl) fun w4 h4 => ?_
        refine (quotT _ _ a b p up _ (h4.rdD r_a) (h4.rdD r_b) (h4.tab hT)).mono ?_
        rintro e v4 ⟨⟨d_t1, x_t1, A_t1, n_t1, c_t1, h_t1, rfl, r_t1⟩, hb4⟩
        refine ⟨hb4, [.bool d_t1.neg, .slice A_t1 n_t1 c_t1, .int .i64 d_t1.e, .int .i64 x_t1], _, rfl, by kernel_rfl, by kernel_rfl, fun g4 => ?_⟩
        replace r_a := g4.rdD r_a; replace r_b := g4.rdD r_b
        clear h4 hb4
        refine sat_chkB (by kernel_rfl) ?_
        refine sat_call #[.agg #[.bool a.neg, .slice A_a n_a c_a, .int .i64 a.e], .agg #[.bool b.neg, .slice A_b n_b c_b, .int .i64 b.e], .int .i64 p, .bool up] (by kernel_rfl) fun w5 h5 => ?_
        refine (rquot_any _ _ a b p up _ (h5.rdD r_a) (h5.rdD r_b)).mono ?_
        rintro e v5 ⟨⟨d_t2, x_t2, A_t2, n_t2, c_t2, h_t2, rfl, r_t2⟩, hb5⟩
        refine ⟨hb5, [.bool d_t2.neg, .slice A_t2 n_t2 c_t2, .int .i64 d_t2.e, .int .i64 x_t2], _, rfl, by kernel_rfl, by kernel_rfl, fun g5 => ?_⟩
        replace r_a := g5.rdD r_a; replace r_b := g5.rdD r_b; replace r_t1 := g5.rdD r_t1
        clear h5 hb5
        refine sat_chkB (by kernel_rfl) ?_
        refine sat_call #[] (by kernel_rfl) fun w6 h6 => ?_
        refine (told3_any _ (h6.tab hT)).mono ?_
        rintro e v6 ⟨rfl, hb6⟩
        refine ⟨hb6, [.bool true], _, rfl, by kernel_rfl, by kernel_rfl, fun g6 => ?_⟩
        replace r_a := g6.rdD r_a; replace r_b := g6.rdD r_b; replace r_t1 := g6.rdD r_t1; replace r_t2 := g6.rdD r_t2
        clear h6 hb6
        refine sat_true (by kernel_rfl) ?_
        refine sat_call #[.agg #[.bool d_t1.neg, .slice A_t1 n_t1 c_t1, .int .i64 d_t1.e], .int .i64 x_t1, .agg #[.bool d_t2.neg, .slice A_t2 n_t2 c_t2, .int .i64 d_t2.e], .int .i64 x_t2] (by kernel_rfl) fun w7 h7 => ?_
        refine (same3_any _ _ d_t1 x_t1 d_t2 x_t2 _ (h7.rdD r_t1) (h7.rdD r_t2)).mono ?_
        rw [same3_of h_t1 h_t2 (quotS_R r_a.lim r_b.lim)]
        rintro e v7 ⟨rfl, hb7⟩
        refine ⟨hb7, [.bool true], _, rfl, by kernel_rfl, by kernel_rfl, fun g7 => ?_⟩
        replace r_a := g7.rdD r_a; replace r_b := g7.rdD r_b; replace r_t1 := g7.rdD r_t1; replace r_t2 := g7.rdD r_t2
        clear h7 hb7
        exact sat_ret (.bool true) (by kernel_rfl) fun w9 h9 => rfl
      · refine sat_true (by kernel_rfl) ?_
        refine sat_prim (v := .bool (decide ((p : Int) ≤ 2000))) (by kernel_rfl) ?_
        cases hE4 : (decide ((p : Int) ≤ 2000))
        · refine sat_false (by kernel_rfl) ?_
          refine sat_call #[.agg #[.bool a.neg, .slice A_a n_a c_a, .int .i64 a.e], .agg #[.bool b.neg, .slice A_b n_b c_b, .int .i64 b.e], .int .i64 p, .bool up] (by kernel_rfl) fun w5 h5 => ?_
          refine (quotT _ _ a b p up _ (h5.rdD r_a) (h5.rdD r_b) (h5.tab hT)).mono ?_
          rintro e v5 ⟨⟨d_t1, x_t1, A_t1, n_t1, c_t1, h_t1, rfl, r_t1⟩, hb5⟩
          refine ⟨hb5, [.bool d_t1.neg, .slice A_t1 n_t1 c_t1, .int .i64 d_t1.e, .int .i64 x_t1], _, rfl, by kernel_rfl, by kernel_rfl, fun g5 => ?_⟩
          replace r_a := g5.rdD r_a; replace r_b := g5.rdD r_b
          clear h5 hb5
          refine sat_chkB (by kernel_rfl) ?_
          refine sat_call #[.agg #[.bool a.neg, .slice A_a n_a c_a, .int .i64 a.e], .agg #[.bool b.neg, .slice A_b n_b c_b, .int .i64 b.e], .int .i64 p, .bool up] (by kernel_rfl) fun w6 h6 => ?_
          refine (rquot_any _ _ a b p up _ (h6.rdD r_a) (h6.rdD r_b)).mono ?_
          rintro e v6 ⟨⟨d_t2, x_t2, A_t2, n_t2, c_t2, h_t2, rfl, r_t2⟩, hb6⟩
          refine ⟨hb6, [.bool d_t2.neg, .slice A_t2 n_t2 c_t2, .int .i64 d_t2.e, .int .i64 x_t2], _, rfl, by kernel_rfl, by kernel_rfl, fun g6 => ?_⟩
          replace r_a := g6.rdD r_a; replace r_b := g6.rdD r_b; replace r_t1 := g6.rdD r_t1
          clear h6 hb6
          refine sat_chkB (by kernel_rfl) ?_
          refine sat_call #[] (by kernel_rfl) fun w7 h7 => ?_
          refine (told3_any _ (h7.tab hT)).mono ?_
          rintro e v7 ⟨rfl, hb7⟩
          refine ⟨hb7, [.bool true], _, rfl, by kernel_rfl, by kernel_rfl, fun g7 => ?_⟩
          replace r_a := g7.rdD r_a; replace r_b := g7.rdD r_b; replace r_t1 := g7.rdD r_t1; replace r_t2 := g7.rdD r_t2
          clear h7 hb7
          refine sat_true (by kernel_rfl) ?_
          refine sat_call #[.agg #[.bool d_t1.neg, .slice A_t1 n_t1 c_t1, .int .i64 d_t1.e], .int .i64 x_t1, .agg #[.bool d_t2.neg, .slice A_t2 n_t2 c_t2, .int .i64 d_t2.e], .int .i64 x_t2] (by kernel_rfl) fun w8 h8 => ?_
          refine (same3_any _ _ d_t1 x_t1 d_t2 x_t2 _ (h8.rdD r_t1) (h8.rdD r_t2)).mono ?_
          rw [same3_of h_t1 h_t2 (quotS_R r_a.lim r_b.lim)]
          rintro e v8 ⟨rfl, hb8⟩
          refine ⟨hb8, [.bool true], _, rfl, by kernel_rfl, by kernel_rfl, fun g8 => ?_⟩
          replace r_a := g8.rdD r_a; replace r_b := g8.rdD r_b; replace r_t1 := g8.rdD r_t1; replace r_t2 := g8.rdD r_t2
          clear h8 hb8
          exact sat_ret (.bool true) (by kernel_rfl) fun w9 h9 => rfl
        · refine sat_true (by kernel_rfl) ?_
          refine sat_call #[] (by kernel_rfl) fun w5 h5 => ?_
          refine (told3_any _ (h5.tab hT)).mono ?_
          rintro e v5 ⟨rfl, hb5⟩
          refine ⟨hb5, [.bool true], _, rfl, by kernel_rfl, by kernel_rfl, fun g5 => ?_⟩
          replace r_a := g5.rdD r_a; replace r_b := g5.rdD r_b
          clear h5 hb5
          exact sat_ret (.bool true) (by kernel_rfl) fun w9 h9 => rfl
    · refine sat_true (by kernel_rfl) ?_
      refine sat_call #[] (by kernel_rfl) fun w3 h3 => ?_
      refine (told3_any _ (h3.tab hT)).mono ?_
      rintro e v3 ⟨rfl, hb3⟩
      refine ⟨hb3, [.bool true], _, rfl, by kernel_rfl, by kernel_rfl, fun g3 => ?_⟩
      replace r_a := g3.rdD r_a; replace r_b := g3.rdD r_b
      clear h3 hb3
      exact sat_ret (.bool true) (by kernel_rfl) fun w9 h9 => rfl
  · refine sat_true (by kernel_rfl) ?_
    refine sat_call #[] (by kernel_rfl) fun w2 h2 => ?_
    refine (told3_any _ (h2.tab hT)).mono ?_
    rintro e v2 ⟨rfl, hb2⟩
    refine ⟨hb2, [.bool true], _, rfl, by kernel_rfl, by kernel_rfl, fun g2 => ?_⟩
    replace r_a := g2.rdD r_a; replace r_b := g2.rdD r_b
    clear h2 hb2
    exact sat_ret (.bool true) (by kernel_rfl) fun w9 h9 => rfl

def tr_roundRoot : Sx.Tree := .chk [.lf 0, .lf 1, .lf 2] (.prim .len [.lf 1] (.prim (.bin .gtr) [.lf 5, .num .i64 8] (.ite (.lf 6) (.call 24 [] .one (.ret (.one (.lf 7)))) (.prim (.bin .gtr) [.lf 3, .num .i64 200] (.ite (.lf 7) (.prim (.bin .leq) [.lf 3, .num .i64 2000] (.ite (.lf 8) (.call 24 [] .one (.ret (.one (.lf 9)))) (.call 34 [.ag [.lf 0, .lf 1, .lf 2], .one (.lf 3), .one (.lf 4)] (.tup [(true, 3), (false, 1)]) (.chk [.lf 9, .lf 10, .lf 11] (.call 35 [.ag [.lf 0, .lf 1, .lf 2], .one (.lf 3), .one (.lf 4)] (.tup [(true, 3), (false, 1)]) (.chk [.lf 13, .lf 14, .lf 15] (.call 24 [] .one (.ite (.lf 17) (.call 31 [.ag [.lf 9, .lf 10, .lf 11], .one (.lf 12), .ag [.lf 13, .lf 14, .lf 15], .one (.lf 16)] .one (.ret (.one (.lf 18)))) (.ret (.one (.bit false))))))))))) (.call 34 [.ag [.lf 0, .lf 1, .lf 2], .one (.lf 3), .one (.lf 4)] (.tup [(true, 3), (false, 1)]) (.chk [.lf 8, .lf 9, .lf 10] (.call 35 [.ag [.lf 0, .lf 1, .lf 2], .one (.lf 3), .one (.lf 4)] (.tup [(true, 3), (false, 1)]) (.chk [.lf 12, .lf 13, .lf 14] (.call 24 [] .one (.ite (.lf 16) (.call 31 [.ag [.lf 8, .lf 9, .lf 10], .one (.lf 11), .ag [.lf 12, .lf 13, .lf 14], .one (.lf 15)] .one (.ret (.one (.lf 17)))) (.ret (.one (.bit false))))))))))))))
theorem tr_roundRoot_eq : Sx.treeAt Tryd.prog 7 [] [] [(true, 3), (false, 1), (false, 1)] = some tr_roundRoot := by kernel_rfl

set_option maxRecDepth 100000 in
set_option maxHeartbeats 4000000 in
theorem roundRoot_any (v_d : Value) (d : Dy) (p : Int) (up : Bool) (w : World) (h_d : RdD w v_d d) (hT : TabAt w) :
    Calls Tryd.prog 7 #[v_d, .int .i64 p, .bool up] w fun e w' => e = .returned (.bool true) ∧ Below w.heap.size w w' := by
  have r_d := h_d
  obtain ⟨A_d, n_d, c_d, rfl, _⟩ := h_d
  refine (Sx.runA [] [] (ls := [.bool d.neg, .slice A_d n_d c_d, .int .i64 d.e, .int .i64 p, .bool up]) (shs := [(true, 3), (false, 1), (false, 1)]) (R := fun v w' => v = .bool true) tr_roundRoot_eq rfl (by decide) (fun q h => by cases h) ?_).mono (fun e w' ⟨v, he, hv, hb⟩ => ⟨by rw [he, hv], hb⟩)
  unfold tr_roundRoot
  refine sat_chkB (by kernel_rfl) ?_
  refine sat_prim (v := .int .i64 ((n_d : Nat) : Int)) (by kernel_rfl) ?_
  refine sat_prim (v := .bool (decide ((8 : Int) < ((n_d : Nat) : Int)))) (by kernel_rfl) ?_
  cases hE1 : (decide ((8 : Int) < ((n_d : Nat) : Int)))
  · refine sat_false (by kernel_rfl) ?_
    refine sat_prim (v := .bool (decide ((200 : Int) < p))) (by kernel_rfl) ?_
    cases hE2 : (decide ((200 : Int) < p))
    · refine sat_false (by kernel_rfl) ?_
      refine sat_call #[.agg #[.bool d.neg, .slice A_d n_d c_d, .int .i64 d.e], .int .i64 p, .bool up] (by kernel_rfl) fun w3 h3 => ?_
      refine (rootT _ d p up _ (h3.rdD r_d) (h3.tab hT)).mono ?_
      rintro e v3 ⟨⟨d_t1, x_t1, A_t1, n_t1, c_t1, h_t1, rfl, r_t1⟩, hb3⟩
      refine ⟨hb3, [.bool d_t1.neg, .slice A_t1 n_t1 c_t1, .int .i64 d_t1.e, .int .i64 x_t1], _, rfl, by kernel_rfl, by kernel_rfl, fun g3 => ?_⟩
      replace r_d := g3.rdD r_d
      clear h3 hb3
      refine sat_chkB (by kernel_rfl) ?_
      refine sat_call #[.agg #[.bool d.neg, .slice A_d n_d c_d, .int .i64 d.e], .int .i64 p, .bool up] (by kernel_rfl) fun w4 h4 => ?_
      refine (rsqrt_any _ d p up _ (h4.rdD r_d)).mono ?_
      rintro e v4 ⟨⟨d_t2, x_t2, A_t2, n_t2, c_t2, h_t2, rfl, r_t2⟩, hb4⟩
      refine ⟨hb4, [.bool d_t2.neg, .slice A_t2 n_t2 c_t2, .int .i64 d_t2.e, .int .i64 x_t2], _, rfl, by kernel_rfl, by kernel_rfl, fun g4 => ?_⟩
      replace r_d := g4.rdD r_d; replace r_t1 := g4.rdD r_t1
      clear h4 hb4
      refine sat_chkB (by kernel_rfl) ?_
      refine sat_call #[] (by kernel_rfl) fun w5 h5 => ?_
      refine (told3_any _ (h5.tab hT)).mono ?_
      rintro e v5 ⟨rfl, hb5⟩
      refine ⟨hb5, [.bool true], _, rfl, by kernel_rfl, by kernel_rfl, fun g5 => ?_⟩
      replace r_d := g5.rdD r_d; replace r_t1 := g5.rdD r_t1; replace r_t2 := g5.rdD r_t2
      clear h5 hb5
      refine sat_true (by kernel_rfl) ?_
      refine sat_call #[.agg #[.bool d_t1.neg, .slice A_t1 n_t1 c_t1, .int .i64 d_t1.e], .int .i64 x_t1, .agg #[.bool d_t2.neg, .slice A_t2 n_t2 c_t2, .int .i64 d_t2.e], .int .i64 x_t2] (by kernel_rfl) fun w6 h6 => ?_
      refine (same3_any _ _ d_t1 x_t1 d_t2 x_t2 _ (h6.rdD r_t1) (h6.rdD r_t2)).mono ?_
      rw [same3_of h_t1 h_t2 (rootS_R r_d.lim)]
      rintro e v6 ⟨rfl, hb6⟩
      refine ⟨hb6, [.bool true], _, rfl, by kernel_rfl, by kernel_rfl, fun g6 => ?_⟩
      replace r_d := g6.rdD r_d; replace r_t1 := g6.rdD r_t1; replace r_t2 := g6.rdD r_t2
      clear h6 hb6
      exact sat_ret (.bool true) (by kernel_rfl) fun w9 h9 => rfl
    · refine sat_true (by kernel_rfl) ?_
      refine sat_prim (v := .bool (decide ((p : Int) ≤ 2000))) (by kernel_rfl) ?_
      cases hE3 : (decide ((p : Int) ≤ 2000))
      · refine sat_false (by kernel_rfl) ?_
        refine sat_call #[.agg #[.bool d.neg, .slice A_d n_d c_d, .int .i64 d.e], .int .i64 p, .bool up] (by kernel_rfl) fun w4 h4 => ?_
        refine (rootT _ d p up _ (h4.rdD r_d) (h4.tab hT)).mono ?_
        rintro e v4 ⟨⟨d_t1, x_t1, A_t1, n_t1, c_t1, h_t1, rfl, r_t1⟩, hb4⟩
        refine ⟨hb4, [.bool d_t1.neg, .slice A_t1 n_t1 c_t1, .int .i64 d_t1.e, .int .i64 x_t1], _, rfl, by kernel_rfl, by kernel_rfl, fun g4 => ?_⟩
        replace r_d := g4.rdD r_d
        clear h4 hb4
        refine sat_chkB (by kernel_rfl) ?_
        refine sat_call #[.agg #[.bool d.neg, .slice A_d n_d c_d, .int .i64 d.e], .int .i64 p, .bool up] (by kernel_rfl) fun w5 h5 => ?_
        refine (rsqrt_any _ d p up _ (h5.rdD r_d)).mono ?_
        rintro e v5 ⟨⟨d_t2, x_t2, A_t2, n_t2, c_t2, h_t2, rfl, r_t2⟩, hb5⟩
        refine ⟨hb5, [.bool d_t2.neg, .slice A_t2 n_t2 c_t2, .int .i64 d_t2.e, .int .i64 x_t2], _, rfl, by kernel_rfl, by kernel_rfl, fun g5 => ?_⟩
        replace r_d := g5.rdD r_d; replace r_t1 := g5.rdD r_t1
        clear h5 hb5
        refine sat_chkB (by kernel_rfl) ?_
        refine sat_call #[] (by kernel_rfl) fun w6 h6 => ?_
        refine (told3_any _ (h6.tab hT)).mono ?_
        rintro e v6 ⟨rfl, hb6⟩
        refine ⟨hb6, [.bool true], _, rfl, by kernel_rfl, by kernel_rfl, fun g6 => ?_⟩
        replace r_d := g6.rdD r_d; replace r_t1 := g6.rdD r_t1; replace r_t2 := g6.rdD r_t2
        clear h6 hb6
        refine sat_true (by kernel_rfl) ?_
        refine sat_call #[.agg #[.bool d_t1.neg, .slice A_t1 n_t1 c_t1, .int .i64 d_t1.e], .int .i64 x_t1, .agg #[.bool d_t2.neg, .slice A_t2 n_t2 c_t2, .int .i64 d_t2.e], .int .i64 x_t2] (by kernel_rfl) fun w7 h7 => ?_
        refine (same3_any _ _ d_t1 x_t1 d_t2 x_t2 _ (h7.rdD r_t1) (h7.rdD r_t2)).mono ?_
        rw [same3_of h_t1 h_t2 (rootS_R r_d.lim)]
        rintro e v7 ⟨rfl, hb7⟩
        refine ⟨hb7, [.bool true], _, rfl, by kernel_rfl, by kernel_rfl, fun g7 => ?_⟩
        replace r_d := g7.rdD r_d; replace r_t1 := g7.rdD r_t1; replace r_t2 := g7.rdD r_t2
        clear h7 hb7
        exact sat_ret (.bool true) (by kernel_rfl) fun w9 h9 => rfl
      · refine sat_true (by kernel_rfl) ?_
        refine sat_call #[] (by kernel_rfl) fun w4 h4 => ?_
        refine (told3_any _ (h4.tab hT)).mono ?_
        rintro e v4 ⟨rfl, hb4⟩
        refine ⟨hb4, [.bool true], _, rfl, by kernel_rfl, by kernel_rfl, fun g4 => ?_⟩
        replace r_d := g4.rdD r_d
        clear h4 hb4
        exact sat_ret (.bool true) (by kernel_rfl) fun w9 h9 => rfl
  · refine sat_true (by kernel_rfl) ?_
    refine sat_call #[] (by kernel_rfl) fun w2 h2 => ?_
    refine (told3_any _ (h2.tab hT)).mono ?_
    rintro e v2 ⟨rfl, hb2⟩
    refine ⟨hb2, [.bool true], _, rfl, by kernel_rfl, by kernel_rfl, fun g2 => ?_⟩
    replace r_d := g2.rdD r_d
    clear h2 hb2
    exact sat_ret (.bool true) (by kernel_rfl) fun w9 h9 => rfl

end Go.Proofs.YteodljieiloebaaDoor
