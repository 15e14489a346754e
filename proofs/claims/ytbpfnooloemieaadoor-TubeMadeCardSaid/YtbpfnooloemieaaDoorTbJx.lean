/- The walk of TubeMade, by its tree. Printed by wip/mk_TbJ.py. -/
import Derived.Test.YtbpfnooloemieaaDoorTbRx
import Derived.Test.YtbpfnooloemieaaDoorTbVx
namespace Go.Proofs.YtbpfnooloemieaaDoor
open Go.RowKit Pl
open Sx (sat_call sat_chk sat_prim sat_ite sat_true sat_false sat_trueP sat_falseP sat_ret sat_row sat_callP sat_loop sat_back sat_idx sat_el sat_elf sat_elc sat_load sat_rowN sat_app sat_callB sat_alt rows_one rows_two all_nil all_cons okB okS okI)

def tr_tubeMade : Sx.Tree := .chk [.lf 0, .lf 1, .lf 2, .lf 3, .lf 4, .lf 5] (.row 37 [.lf 0, .lf 1, .lf 2, .lf 3, .lf 4, .lf 5] 1 [] (.call 10 [.one (.lf 10)] .one (.prim .not [.lf 11] (.ite (.lf 12) (.call 25 [] .one (.ret (.one (.lf 13)))) (.call 45 [.ag [.lf 0, .lf 1, .lf 2, .lf 3, .lf 4, .lf 5]] .one (.prim .not [.lf 13] (.ite (.lf 14) (.call 25 [] .one (.ret (.one (.lf 15)))) (.prim (.cvt .u64) [.lf 6] (.prim (.bin .rem) [.lf 15, .num .u64 33] (.prim (.cvt .i64) [.lf 16] (.prim (.bin .sub) [.lf 17, .num .i64 16] (.call 46 [.one (.lf 18), .one (.num .i64 ((-3)))] (.tup [(true, 3), (false, 1)]) (.chk [.lf 19, .lf 20, .lf 21] (.prim (.cvt .u64) [.lf 7] (.prim (.bin .rem) [.lf 23, .num .u64 16] (.prim (.cvt .i64) [.lf 24] (.prim (.bin .add) [.num .i64 1, .lf 25] (.call 46 [.one (.lf 26), .one (.num .i64 ((-3)))] (.tup [(true, 3), (false, 1)]) (.chk [.lf 27, .lf 28, .lf 29] (.call 47 [.ag [.lf 19, .lf 20, .lf 21], .ag [.lf 27, .lf 28, .lf 29]] (.tup [(true, 3), (false, 1)]) (.chk [.lf 31, .lf 32, .lf 33] (.call 31 [.ag [.lf 19, .lf 20, .lf 21], .ag [.lf 31, .lf 32, .lf 33], .ag [.lf 0, .lf 1, .lf 2, .lf 3, .lf 4, .lf 5]] (.tup [(true, 2), (false, 1)]) (.chk [.lf 35, .lf 36] (.prim (.bin .add) [.lf 22, .lf 30] (.prim (.bin .add) [.lf 38, .lf 34] (.prim (.bin .add) [.lf 39, .lf 37] (.prim (.bin .neq) [.lf 40, .num .i64 0] (.ite (.lf 41) (.ret (.one (.bit false))) (.prim (.cvt .u64) [.lf 8] (.prim (.bin .rem) [.lf 42, .num .u64 6] (.prim (.cvt .i64) [.lf 43] (.loop 0 [.num .i64 0, .bit false, .lf 0, .lf 1, .lf 2, .lf 3, .lf 4, .lf 5, .lf 19, .lf 20, .lf 21, .lf 27, .lf 28, .lf 29, .lf 31, .lf 32, .lf 33, .lf 35, .lf 36] (.prim (.bin .lss) [.lf 45, .lf 44] (.ite (.lf 64) (.call 43 [.ag [.lf 62, .lf 63]] (.tup [(true, 2), (false, 1)]) (.chk [.lf 65, .lf 66] (.prim (.bin .neq) [.lf 67, .num .i64 0] (.ite (.lf 68) (.ret (.one (.bit false))) (.chk [.lf 65, .lf 66] (.prim (.bin .add) [.lf 45, .num .i64 1] (.back 0 [.lf 69, .lf 46, .lf 47, .lf 48, .lf 49, .lf 50, .lf 51, .lf 52, .lf 53, .lf 54, .lf 55, .lf 56, .lf 57, .lf 58, .lf 59, .lf 60, .lf 61, .lf 65, .lf 66]))))))) (.call 48 [.ag [.lf 56, .lf 57, .lf 58], .one (.num .i64 ((-6)))] (.tup [(true, 3), (false, 1)]) (.chk [.lf 65, .lf 66, .lf 67] (.prim (.cvt .u64) [.lf 9] (.prim (.bin .rem) [.lf 69, .num .u64 65] (.prim (.cvt .i64) [.lf 70] (.call 46 [.one (.lf 71), .one (.num .i64 0)] (.tup [(true, 3), (false, 1)]) (.chk [.lf 72, .lf 73, .lf 74] (.call 49 [.ag [.lf 65, .lf 66, .lf 67], .ag [.lf 72, .lf 73, .lf 74]] (.tup [(true, 3), (false, 1)]) (.chk [.lf 76, .lf 77, .lf 78] (.call 47 [.ag [.lf 53, .lf 54, .lf 55], .ag [.lf 76, .lf 77, .lf 78]] (.tup [(true, 3), (false, 1)]) (.chk [.lf 80, .lf 81, .lf 82] (.call 28 [.ag [.lf 62, .lf 63], .ag [.lf 80, .lf 81, .lf 82]] (.tup [(true, 6), (false, 1)]) (.chk [.lf 84, .lf 85, .lf 86, .lf 87, .lf 88, .lf 89] (.call 27 [.ag [.lf 62, .lf 63], .ag [.lf 53, .lf 54, .lf 55], .ag [.lf 59, .lf 60, .lf 61]] (.tup [(true, 6), (false, 1)]) (.chk [.lf 91, .lf 92, .lf 93, .lf 94, .lf 95, .lf 96] (.call 25 [] .one (.ite (.lf 98) (.prim (.bin .add) [.lf 68, .lf 75] (.prim (.bin .add) [.lf 99, .lf 79] (.prim (.bin .add) [.lf 100, .lf 83] (.prim (.bin .add) [.lf 101, .lf 90] (.prim (.bin .add) [.lf 102, .lf 97] (.prim (.bin .eql) [.lf 103, .num .i64 0] (.ite (.lf 104) (.prim .len [.lf 63] (.prim (.cvt .u64) [.lf 44] (.prim .shl [.num .i64 1, .lf 106] (.prim (.bin .eql) [.lf 105, .lf 107] (.ite (.lf 108) (.call 50 [.ag [.lf 84, .lf 85, .lf 86, .lf 87, .lf 88, .lf 89], .ag [.lf 47, .lf 48, .lf 49, .lf 50, .lf 51, .lf 52]] .one (.ite (.lf 109) (.call 50 [.ag [.lf 91, .lf 92, .lf 93, .lf 94, .lf 95, .lf 96], .ag [.lf 47, .lf 48, .lf 49, .lf 50, .lf 51, .lf 52]] .one (.ret (.one (.lf 110)))) (.ret (.one (.bit false))))) (.ret (.one (.bit false)))))))) (.ret (.one (.bit false)))))))))) (.ret (.one (.bit false))))))))))))))))))))))))))))))))))))))))))))))))))))))
theorem tr_tubeMade_eq : Sx.treeAt Tryd.prog 9 [] [0, 1, 2, 3, 4, 5, 6] [(true, 6), (false, 1), (false, 1), (false, 1), (false, 1)] = some tr_tubeMade := by kernel_rfl

set_option maxRecDepth 100000 in
set_option maxHeartbeats 4000000 in
theorem tubeMade_any (v_v : Value) (v : Iv) (fr : Int) (lo : Int) (nn : Int) (tt : Int) (w : World) (h_v : RdI w v_v v) (hT : TabAt w) :
    Calls Tryd.prog 9 #[v_v, .int .i64 fr, .int .i64 lo, .int .i64 nn, .int .i64 tt] w fun e w' => e = .returned (.bool true) ∧ Below w.heap.size w w' := by
  obtain ⟨A_v, n_v, c_v, B_v, m_v, k_v, rfl, r_vl, r_vh⟩ := h_v
  refine (Sx.runA [] [0, 1, 2, 3, 4, 5, 6] (ls := [.bool v.lo.neg, .slice A_v n_v c_v, .int .i64 v.lo.e, .bool v.hi.neg, .slice B_v m_v k_v, .int .i64 v.hi.e, .int .i64 fr, .int .i64 lo, .int .i64 nn, .int .i64 tt]) (shs := [(true, 6), (false, 1), (false, 1), (false, 1), (false, 1)]) (R := fun v w' => v = .bool true) tr_tubeMade_eq rfl (by decide) (fun q h => by cases h) ?_).mono (fun e w' ⟨v, he, hv, hb⟩ => ⟨by rw [he, hv], hb⟩)
  unfold tr_tubeMade
  refine sat_chkB (by kernel_rfl) ?_
  refine sat_rowN [.bool v.lo.neg, .slice A_v n_v c_v, .int .i64 v.lo.e, .bool v.hi.neg, .slice B_v m_v k_v, .int .i64 v.hi.e] (by kernel_rfl) (by intro x hx; cases hx) fun u1 h1 B1 NB1 => ?_
  replace r_vl := h1.rdD r_vl; replace r_vh := h1.rdD r_vh
  have F_R1 : Sx.Rows Sx.kI (Sx.NB _) _ (some ⟨u1.heap.size, 0, none⟩) 1 1 [v] := rows_one (k := Sx.kI) B1 NB1 ⟨_, _, _, _, _, _, rfl, r_vl, r_vh⟩
  generalize u1.heap.size = N_R1 at *
  generalize (u1.alloc _) = w_R1 at *
  clear B1 h1 NB1
  refine sat_call #[.slice (some ⟨N_R1, 0, none⟩) 1 1] (by kernel_rfl) fun w1 h1 => ?_
  refine (row8_any _ _ [v] _ ((F_R1.mv h1.mv).any)).mono ?_
  rintro e v1 ⟨rfl, hb1⟩
  refine ⟨hb1, [.bool (fewB [v])], _, rfl, by kernel_rfl, by kernel_rfl, fun g1 => ?_⟩
  replace r_vl := g1.rdD r_vl; replace r_vh := g1.rdD r_vh; replace F_R1 := F_R1.mv g1.mv
  clear h1 hb1
  refine sat_prim (v := .bool (!(fewB [v]))) (by kernel_rfl) ?_
  cases h_few : (fewB [v])
  · refine sat_true (by kernel_rfl) ?_
    refine sat_call #[] (by kernel_rfl) fun w3 h3 => ?_
    refine (told13_any _ (h3.tab hT)).mono ?_
    rintro e v3 ⟨rfl, hb3⟩
    refine ⟨hb3, [.bool true], _, rfl, by kernel_rfl, by kernel_rfl, fun g3 => ?_⟩
    replace r_vl := g3.rdD r_vl; replace r_vh := g3.rdD r_vh; replace F_R1 := F_R1.mv g3.mv
    clear h3 hb3
    exact sat_ret (.bool true) (by kernel_rfl) fun w9 h9 => rfl
  · refine sat_false (by kernel_rfl) ?_
    refine sat_call #[.agg #[.bool v.lo.neg, .slice A_v n_v c_v, .int .i64 v.lo.e, .bool v.hi.neg, .slice B_v m_v k_v, .int .i64 v.hi.e]] (by kernel_rfl) fun w3 h3 => ?_
    refine (mayI_any _ v _ (mkI (h3.rdD r_vl) (h3.rdD r_vh))).mono ?_
    rintro e v3 ⟨rfl, hb3⟩
    refine ⟨hb3, [.bool (mayI v)], _, rfl, by kernel_rfl, by kernel_rfl, fun g3 => ?_⟩
    replace r_vl := g3.rdD r_vl; replace r_vh := g3.rdD r_vh; replace F_R1 := F_R1.mv g3.mv
    clear h3 hb3
    refine sat_prim (v := .bool (!(mayI v))) (by kernel_rfl) ?_
    cases h_mv : (mayI v)
    · refine sat_true (by kernel_rfl) ?_
      refine sat_call #[] (by kernel_rfl) fun w5 h5 => ?_
      refine (told13_any _ (h5.tab hT)).mono ?_
      rintro e v5 ⟨rfl, hb5⟩
      refine ⟨hb5, [.bool true], _, rfl, by kernel_rfl, by kernel_rfl, fun g5 => ?_⟩
      replace r_vl := g5.rdD r_vl; replace r_vh := g5.rdD r_vh; replace F_R1 := F_R1.mv g5.mv
      clear h5 hb5
      exact sat_ret (.bool true) (by kernel_rfl) fun w9 h9 => rfl
    · refine sat_false (by kernel_rfl) ?_
      refine sat_prim (v := .int .u64 (((fr % 18446744073709551616).toNat : Nat) : Int)) (Eq.trans (by kernel_rfl) (pr_cvtu fr)) ?_
      refine sat_prim (v := .int .u64 (((fr % 18446744073709551616).toNat % 33 : Nat) : Int)) (Eq.trans (by kernel_rfl) (pr_rem (a := (fr % 18446744073709551616).toNat) (b := 33) (by omega))) ?_
      obtain ⟨K1_, e_K1_, b_K1_⟩ : ∃ N, N = (fr % 18446744073709551616).toNat % 33 ∧ N ≤ 32 := ⟨_, rfl, by have := Nat.mod_lt ((fr % 18446744073709551616).toNat) (show 0 < 33 by omega); omega⟩
      refine sat_prim (v := .int .i64 ((K1_ : Nat) : Int)) (Eq.trans (by kernel_rfl) ((pr_cvti (n := (fr % 18446744073709551616).toNat % 33) (by omega)).trans (by rw [e_K1_]))) ?_
      refine sat_prim (v := .int .i64 ((K1_ : Int) - 16)) (Eq.trans (b := some (.int .i64 (IntKind.i64.wrap (((K1_ : Nat) : Int) - 16)))) (by kernel_rfl) (sml rfl (by omega))) ?_
      have V : OkI v := by
        have g : GI v := ⟨⟨(by unfold mayI at h_mv; simp only [Bool.and_eq_true] at h_mv; exact h_mv.1.1), r_vl.lim⟩, ⟨(by unfold mayI at h_mv; simp only [Bool.and_eq_true] at h_mv; exact h_mv.1.2), r_vh.lim⟩⟩
        exact ⟨h_mv, g, g.may.1 h_mv⟩
      refine sat_call #[.int .i64 ((K1_ : Int) - 16), .int .i64 (-3)] (by kernel_rfl) fun w5 h5 => ?_
      refine (ofT (((K1_ : Int) - 16)) (-3) _ (by omega) (by omega) (by omega) (by omega) (h5.tab hT)).mono ?_
      rintro e v5 ⟨⟨d_b2, x_b2, A_b2, n_b2, c_b2, h_b2, rfl, r_b2⟩, hb5⟩
      obtain ⟨rfl, gA, zA⟩ := of_got (by omega) (by omega) h_b2
      refine ⟨hb5, [.bool d_b2.neg, .slice A_b2 n_b2 c_b2, .int .i64 d_b2.e, .int .i64 0], _, rfl, by kernel_rfl, by kernel_rfl, fun g5 => ?_⟩
      replace r_vl := g5.rdD r_vl; replace r_vh := g5.rdD r_vh; replace F_R1 := F_R1.mv g5.mv
      clear h5 hb5
      refine sat_chkB (by kernel_rfl) ?_
      refine sat_prim (v := .int .u64 (((lo % 18446744073709551616).toNat : Nat) : Int)) (Eq.trans (by kernel_rfl) (pr_cvtu lo)) ?_
      refine sat_prim (v := .int .u64 (((lo % 18446744073709551616).toNat % 16 : Nat) : Int)) (Eq.trans (by kernel_rfl) (pr_rem (a := (lo % 18446744073709551616).toNat) (b := 16) (by omega))) ?_
      refine sat_prim (v := .int .i64 (((lo % 18446744073709551616).toNat % 16 : Nat) : Int)) (Eq.trans (by kernel_rfl) (pr_cvti (n := (lo % 18446744073709551616).toNat % 16) (Nat.lt_of_lt_of_le (Nat.mod_lt _ (by omega)) (by omega)))) ?_
      obtain ⟨N3, e_N3, a_N3, b_N3⟩ : ∃ N, N = 1 + (lo % 18446744073709551616).toNat % 16 ∧ 1 ≤ N ∧ N ≤ 16 := ⟨_, rfl, by omega, by have := Nat.mod_lt ((lo % 18446744073709551616).toNat) (show 0 < 16 by omega); omega⟩
      refine sat_prim (v := .int .i64 ((N3 : Nat) : Int)) (Eq.trans (by kernel_rfl) (pr_one (m := (lo % 18446744073709551616).toNat % 16) e_N3 (by omega))) ?_
      refine sat_call #[.int .i64 ((N3 : Nat) : Int), .int .i64 (-3)] (by kernel_rfl) fun w6 h6 => ?_
      refine (ofT (((N3 : Nat) : Int)) (-3) _ (by omega) (by omega) (by omega) (by omega) (h6.tab hT)).mono ?_
      rintro e v6 ⟨⟨d_b4, x_b4, A_b4, n_b4, c_b4, h_b4, rfl, r_b4⟩, hb6⟩
      obtain ⟨rfl, gH, zH⟩ := of_got (by omega) (by omega) h_b4
      refine ⟨hb6, [.bool d_b4.neg, .slice A_b4 n_b4 c_b4, .int .i64 d_b4.e, .int .i64 0], _, rfl, by kernel_rfl, by kernel_rfl, fun g6 => ?_⟩
      replace r_vl := g6.rdD r_vl; replace r_vh := g6.rdD r_vh; replace F_R1 := F_R1.mv g6.mv; replace r_b2 := g6.rdD r_b2
      clear h6 hb6
      refine sat_chkB (by kernel_rfl) ?_
      refine sat_call #[.agg #[.bool d_b2.neg, .slice A_b2 n_b2 c_b2, .int .i64 d_b2.e], .agg #[.bool d_b4.neg, .slice A_b4 n_b4 c_b4, .int .i64 d_b4.e]] (by kernel_rfl) fun w7 h7 => ?_
      refine (addT _ _ (d_b2) (d_b4) _ (h7.rdD r_b2) (h7.rdD r_b4) (h7.tab hT)).mono ?_
      rintro e v7 ⟨⟨d_s5, x_s5, A_s5, n_s5, c_s5, h_s5, rfl, r_s5⟩, hb7⟩
      obtain ⟨rfl, gB, zB⟩ := add_got (M := ((K1_ : Int) - 16) * 131072 + (N3 : Int) * 131072) gA gH (by rw [zA, zH, ← Int.add_mul]) (by omega) (by omega) h_s5
      refine ⟨hb7, [.bool d_s5.neg, .slice A_s5 n_s5 c_s5, .int .i64 d_s5.e, .int .i64 0], _, rfl, by kernel_rfl, by kernel_rfl, fun g7 => ?_⟩
      replace r_vl := g7.rdD r_vl; replace r_vh := g7.rdD r_vh; replace F_R1 := F_R1.mv g7.mv; replace r_b2 := g7.rdD r_b2; replace r_b4 := g7.rdD r_b4
      clear h7 hb7
      obtain ⟨m1, m2, m3, _, _⟩ := made_bounds (A := ((K1_ : Int) - 16)) (N := (N3 : Int)) (R := 0) (by omega) (by omega) (by omega) (by omega) (by omega) (by omega)
      rw [← zA] at m1 m3
      rw [← zB] at m2 m3
      refine sat_chkB (by kernel_rfl) ?_
      refine sat_call #[.agg #[.bool d_b2.neg, .slice A_b2 n_b2 c_b2, .int .i64 d_b2.e], .agg #[.bool d_s5.neg, .slice A_s5 n_s5 c_s5, .int .i64 d_s5.e], .agg #[.bool v.lo.neg, .slice A_v n_v c_v, .int .i64 v.lo.e, .bool v.hi.neg, .slice B_v m_v k_v, .int .i64 v.hi.e]] (by kernel_rfl) fun w8 h8 => ?_
      refine (makeT_any _ _ _ (d_b2) (d_s5) v _ (h8.rdD r_b2) (h8.rdD r_s5) (mkI (h8.rdD r_vl) (h8.rdD r_vh))).mono ?_
      rintro e v8 ⟨⟨p_t6, q_t6, x_t6, A_t6, c_t6, B_t6, d_t6, rfl, h_t6, F_t61, F_t62⟩, hb8⟩
      obtain ⟨rfl, hp_, hq_⟩ := make_got gA gB m3 V h_t6
      refine ⟨hb8, [.slice A_t6 p_t6.length c_t6, .slice B_t6 q_t6.length d_t6, .int .i64 0], _, rfl, by kernel_rfl, by kernel_rfl, fun g8 => ?_⟩
      replace r_vl := g8.rdD r_vl; replace r_vh := g8.rdD r_vh; replace F_R1 := F_R1.mv g8.mv; replace r_b2 := g8.rdD r_b2; replace r_b4 := g8.rdD r_b4; replace r_s5 := g8.rdD r_s5
      replace F_t61 := F_t61.mv (Sx.Mv.fresh h8.wf)
      replace F_t62 := F_t62.mv (Sx.Mv.fresh h8.wf)
      clear h8 hb8
      have K0 : Mk ⟨p_t6, q_t6⟩ v (ZD d_b2) (ZD d_s5) (((2 ^ (17 - 0) : Nat) : Int) * uu) (2 ^ 0) := by
        rw [hp_, hq_]
        exact Mk.first gA gB m3 V ⟨((K1_ : Int) - 16), by rw [show ((2 ^ (17 - 0) : Nat) : Int) = 131072 from rfl, zA, Int.mul_assoc]⟩ ⟨((K1_ : Int) - 16) + (N3 : Int), by rw [show ((2 ^ (17 - 0) : Nat) : Int) = 131072 from rfl, zB, ← Int.add_mul, Int.mul_assoc]⟩
      clear hp_ hq_
      refine sat_chkB (by kernel_rfl) ?_
      refine sat_prim (v := .int .i64 0) (by kernel_rfl) ?_
      refine sat_prim (v := .int .i64 0) (by kernel_rfl) ?_
      refine sat_prim (v := .int .i64 0) (by kernel_rfl) ?_
      refine sat_prim (v := .bool false) (by kernel_rfl) ?_
      refine sat_false (by kernel_rfl) ?_
      refine sat_prim (v := .int .u64 (((nn % 18446744073709551616).toNat : Nat) : Int)) (Eq.trans (by kernel_rfl) (pr_cvtu nn)) ?_
      refine sat_prim (v := .int .u64 (((nn % 18446744073709551616).toNat % 6 : Nat) : Int)) (Eq.trans (by kernel_rfl) (pr_rem (a := (nn % 18446744073709551616).toNat) (b := 6) (by omega))) ?_
      obtain ⟨K3_, e_K3_, b_K3_⟩ : ∃ N, N = (nn % 18446744073709551616).toNat % 6 ∧ N ≤ 5 := ⟨_, rfl, by have := Nat.mod_lt ((nn % 18446744073709551616).toNat) (show 0 < 6 by omega); omega⟩
      refine sat_prim (v := .int .i64 ((K3_ : Nat) : Int)) (Eq.trans (by kernel_rfl) ((pr_cvti (n := (nn % 18446744073709551616).toNat % 6) (by omega)).trans (by rw [e_K3_]))) ?_
      refine sat_loop (fun Kn vs W => ∃ (i : Nat) (p : List Dy) (A_p : Option Addr) (c_p : Nat) (q : List Iv) (A_q : Option Addr) (c_q : Nat), vs = [.int .i64 ((i : Nat) : Int), .bool false, .bool v.lo.neg, .slice A_v n_v c_v, .int .i64 v.lo.e, .bool v.hi.neg, .slice B_v m_v k_v, .int .i64 v.hi.e, .bool d_b2.neg, .slice A_b2 n_b2 c_b2, .int .i64 d_b2.e, .bool d_b4.neg, .slice A_b4 n_b4 c_b4, .int .i64 d_b4.e, .bool d_s5.neg, .slice A_s5 n_s5 c_s5, .int .i64 d_s5.e, .slice A_p p.length c_p, .slice A_q q.length c_q] ∧ Kn = K3_ - i ∧ i ≤ K3_ ∧ (Sx.Rows Sx.kD (Sx.NB W) W.toWorld A_p p.length c_p p) ∧ (Sx.Rows Sx.kI (Sx.NB W) W.toWorld A_q q.length c_q q) ∧ (Mk ⟨p, q⟩ v (ZD d_b2) (ZD d_s5) (((2 ^ (17 - i) : Nat) : Int) * uu) (2 ^ i))) [.int .i64 0, .bool false, .bool v.lo.neg, .slice A_v n_v c_v, .int .i64 v.lo.e, .bool v.hi.neg, .slice B_v m_v k_v, .int .i64 v.hi.e, .bool d_b2.neg, .slice A_b2 n_b2 c_b2, .int .i64 d_b2.e, .bool d_b4.neg, .slice A_b4 n_b4 c_b4, .int .i64 d_b4.e, .bool d_s5.neg, .slice A_s5 n_s5 c_s5, .int .i64 d_s5.e, .slice A_t6 p_t6.length c_t6, .slice B_t6 q_t6.length d_t6] (by kernel_rfl) (fun w1 h1 => ⟨_, 0, p_t6, _, _, q_t6, _, _, rfl, rfl, Nat.zero_le _, F_t61.mv h1.mv, F_t62.mv h1.mv, K0⟩) ?_
      rintro Kn vs w9 h9 ⟨i, p, A_p, c_p, q, A_q, c_q, rfl, rfl, h_i, F_p, F_q, hK⟩
      replace r_vl := h9.rdD r_vl; replace r_vh := h9.rdD r_vh; replace F_R1 := F_R1.mv h9.mv; replace r_b2 := h9.rdD r_b2; replace r_b4 := h9.rdD r_b4; replace r_s5 := h9.rdD r_s5; replace F_t61 := F_t61.mv h9.mv; replace F_t62 := F_t62.mv h9.mv
      clear h9
      refine sat_prim (v := .bool (decide ((((i : Nat) : Int) : Int) < ((K3_ : Nat) : Int)))) (by kernel_rfl) ?_
      cases hlt : (decide ((((i : Nat) : Int) : Int) < ((K3_ : Nat) : Int)))
      · refine sat_false (by kernel_rfl) ?_
        have e_i : i = K3_ := by have := of_decide_eq_false hlt; omega
        rw [e_i] at hK
        refine sat_call #[.agg #[.bool d_b4.neg, .slice A_b4 n_b4 c_b4, .int .i64 d_b4.e], .int .i64 (-6)] (by kernel_rfl) fun w11 h11 => ?_
        refine (shiftT _ (d_b4) _ (h11.rdD r_b4) (h11.tab hT) (-6)).mono ?_
        rintro e v11 ⟨⟨d_s7, x_s7, A_s7, n_s7, c_s7, h_s7, rfl, r_s7⟩, hb11⟩
        obtain ⟨rfl, gD, zD⟩ := shift_got (M := (N3 : Int) * 2048) gH (by rw [zH, Int.mul_assoc (N3 : Int) 2048 64, show (2048 : Int) * 64 = 131072 from rfl]) (by omega) (by omega) h_s7
        refine ⟨hb11, [.bool d_s7.neg, .slice A_s7 n_s7 c_s7, .int .i64 d_s7.e, .int .i64 0], _, rfl, by kernel_rfl, by kernel_rfl, fun g11 => ?_⟩
        replace r_vl := g11.rdD r_vl; replace r_vh := g11.rdD r_vh; replace F_R1 := F_R1.mv g11.mv; replace r_b2 := g11.rdD r_b2; replace r_b4 := g11.rdD r_b4; replace r_s5 := g11.rdD r_s5; replace F_t61 := F_t61.mv g11.mv; replace F_t62 := F_t62.mv g11.mv; replace F_p := F_p.mv g11.mv; replace F_q := F_q.mv g11.mv
        clear h11 hb11
        refine sat_chkB (by kernel_rfl) ?_
        refine sat_prim (v := .int .u64 (((tt % 18446744073709551616).toNat : Nat) : Int)) (Eq.trans (by kernel_rfl) (pr_cvtu tt)) ?_
        refine sat_prim (v := .int .u64 (((tt % 18446744073709551616).toNat % 65 : Nat) : Int)) (Eq.trans (by kernel_rfl) (pr_rem (a := (tt % 18446744073709551616).toNat) (b := 65) (by omega))) ?_
        obtain ⟨K4_, e_K4_, b_K4_⟩ : ∃ N, N = (tt % 18446744073709551616).toNat % 65 ∧ N ≤ 64 := ⟨_, rfl, by have := Nat.mod_lt ((tt % 18446744073709551616).toNat) (show 0 < 65 by omega); omega⟩
        refine sat_prim (v := .int .i64 ((K4_ : Nat) : Int)) (Eq.trans (by kernel_rfl) ((pr_cvti (n := (tt % 18446744073709551616).toNat % 65) (by omega)).trans (by rw [e_K4_]))) ?_
        refine sat_call #[.int .i64 ((K4_ : Nat) : Int), .int .i64 0] (by kernel_rfl) fun w12 h12 => ?_
        refine (ofT (((K4_ : Nat) : Int)) 0 _ (by omega) (by omega) (by omega) (by omega) (h12.tab hT)).mono ?_
        rintro e v12 ⟨⟨d_b8, x_b8, A_b8, n_b8, c_b8, h_b8, rfl, r_b8⟩, hb12⟩
        obtain ⟨rfl, gP, zP⟩ := of0_got (by omega) (by omega) h_b8
        refine ⟨hb12, [.bool d_b8.neg, .slice A_b8 n_b8 c_b8, .int .i64 d_b8.e, .int .i64 0], _, rfl, by kernel_rfl, by kernel_rfl, fun g12 => ?_⟩
        replace r_vl := g12.rdD r_vl; replace r_vh := g12.rdD r_vh; replace F_R1 := F_R1.mv g12.mv; replace r_b2 := g12.rdD r_b2; replace r_b4 := g12.rdD r_b4; replace r_s5 := g12.rdD r_s5; replace F_t61 := F_t61.mv g12.mv; replace F_t62 := F_t62.mv g12.mv; replace F_p := F_p.mv g12.mv; replace F_q := F_q.mv g12.mv; replace r_s7 := g12.rdD r_s7
        clear h12 hb12
        refine sat_chkB (by kernel_rfl) ?_
        refine sat_call #[.agg #[.bool d_s7.neg, .slice A_s7 n_s7 c_s7, .int .i64 d_s7.e], .agg #[.bool d_b8.neg, .slice A_b8 n_b8 c_b8, .int .i64 d_b8.e]] (by kernel_rfl) fun w13 h13 => ?_
        refine (mulT _ _ (d_s7) (d_b8) _ (h13.rdD r_s7) (h13.rdD r_b8) (h13.tab hT)).mono ?_
        obtain ⟨R, hR, bR1⟩ : ∃ R : Nat, R = N3 * K4_ ∧ R ≤ 64 * N3 := ⟨_, rfl, by rw [Nat.mul_comm]; exact Nat.mul_le_mul_right _ (by omega)⟩
        rintro e v13 ⟨⟨d_s9, x_s9, A_s9, n_s9, c_s9, h_s9, rfl, r_s9⟩, hb13⟩
        obtain ⟨rfl, gQ, zQ⟩ := mul_got (M := (R : Int) * 2048) gD gP (mul_units (by rw [hR, Int.natCast_mul]) zD zP) (by omega) (by omega) h_s9
        refine ⟨hb13, [.bool d_s9.neg, .slice A_s9 n_s9 c_s9, .int .i64 d_s9.e, .int .i64 0], _, rfl, by kernel_rfl, by kernel_rfl, fun g13 => ?_⟩
        replace r_vl := g13.rdD r_vl; replace r_vh := g13.rdD r_vh; replace F_R1 := F_R1.mv g13.mv; replace r_b2 := g13.rdD r_b2; replace r_b4 := g13.rdD r_b4; replace r_s5 := g13.rdD r_s5; replace F_t61 := F_t61.mv g13.mv; replace F_t62 := F_t62.mv g13.mv; replace F_p := F_p.mv g13.mv; replace F_q := F_q.mv g13.mv; replace r_s7 := g13.rdD r_s7; replace r_b8 := g13.rdD r_b8
        clear h13 hb13
        refine sat_chkB (by kernel_rfl) ?_
        refine sat_call #[.agg #[.bool d_b2.neg, .slice A_b2 n_b2 c_b2, .int .i64 d_b2.e], .agg #[.bool d_s9.neg, .slice A_s9 n_s9 c_s9, .int .i64 d_s9.e]] (by kernel_rfl) fun w14 h14 => ?_
        refine (addT _ _ (d_b2) (d_s9) _ (h14.rdD r_b2) (h14.rdD r_s9) (h14.tab hT)).mono ?_
        rintro e v14 ⟨⟨d_s10, x_s10, A_s10, n_s10, c_s10, h_s10, rfl, r_s10⟩, hb14⟩
        obtain ⟨rfl, gC, zC⟩ := add_got (M := ((K1_ : Int) - 16) * 131072 + (R : Int) * 2048) gA gQ (by rw [zA, zQ, ← Int.add_mul]) (by omega) (by omega) h_s10
        refine ⟨hb14, [.bool d_s10.neg, .slice A_s10 n_s10 c_s10, .int .i64 d_s10.e, .int .i64 0], _, rfl, by kernel_rfl, by kernel_rfl, fun g14 => ?_⟩
        replace r_vl := g14.rdD r_vl; replace r_vh := g14.rdD r_vh; replace F_R1 := F_R1.mv g14.mv; replace r_b2 := g14.rdD r_b2; replace r_b4 := g14.rdD r_b4; replace r_s5 := g14.rdD r_s5; replace F_t61 := F_t61.mv g14.mv; replace F_t62 := F_t62.mv g14.mv; replace F_p := F_p.mv g14.mv; replace F_q := F_q.mv g14.mv; replace r_s7 := g14.rdD r_s7; replace r_b8 := g14.rdD r_b8; replace r_s9 := g14.rdD r_s9
        clear h14 hb14
        obtain ⟨_, _, _, m4, m5⟩ := made_bounds (A := ((K1_ : Int) - 16)) (N := (N3 : Int)) (R := (R : Int)) (by omega) (by omega) (by omega) (by omega) (by omega) (by omega)
        rw [← zA] at m4
        rw [← zC] at m4 m5
        rw [← zB] at m5
        refine sat_chkB (by kernel_rfl) ?_
        refine sat_call #[.agg #[.slice A_p p.length c_p, .slice A_q q.length c_q], .agg #[.bool d_s10.neg, .slice A_s10 n_s10 c_s10, .int .i64 d_s10.e]] (by kernel_rfl) fun w15 h15 => ?_
        refine (atT_any _ _ _ _ _ (⟨p, q⟩ : Tb) (d_s10) _ ((F_p.mv h15.mv).any) ((F_q.mv h15.mv).any) (h15.rdD r_s10)).mono ?_
        rintro e v15 ⟨⟨l_o11, g_o11, x_o11, A_o11, n_o11, c_o11, B_o11, m_o11, k_o11, h_o11, rfl, r_o11l, r_o11h⟩, hb15⟩
        obtain ⟨rfl, sE1⟩ := hK.over V gC gC m4 (Int.le_refl _) m5 h_o11
        refine ⟨hb15, [.bool l_o11.neg, .slice A_o11 n_o11 c_o11, .int .i64 l_o11.e, .bool g_o11.neg, .slice B_o11 m_o11 k_o11, .int .i64 g_o11.e, .int .i64 0], _, rfl, by kernel_rfl, by kernel_rfl, fun g15 => ?_⟩
        replace r_vl := g15.rdD r_vl; replace r_vh := g15.rdD r_vh; replace F_R1 := F_R1.mv g15.mv; replace r_b2 := g15.rdD r_b2; replace r_b4 := g15.rdD r_b4; replace r_s5 := g15.rdD r_s5; replace F_t61 := F_t61.mv g15.mv; replace F_t62 := F_t62.mv g15.mv; replace F_p := F_p.mv g15.mv; replace F_q := F_q.mv g15.mv; replace r_s7 := g15.rdD r_s7; replace r_b8 := g15.rdD r_b8; replace r_s9 := g15.rdD r_s9; replace r_s10 := g15.rdD r_s10
        clear h15 hb15
        refine sat_chkB (by kernel_rfl) ?_
        refine sat_call #[.agg #[.slice A_p p.length c_p, .slice A_q q.length c_q], .agg #[.bool d_b2.neg, .slice A_b2 n_b2 c_b2, .int .i64 d_b2.e], .agg #[.bool d_s5.neg, .slice A_s5 n_s5 c_s5, .int .i64 d_s5.e]] (by kernel_rfl) fun w16 h16 => ?_
        refine (overT_any _ _ _ _ _ _ (⟨p, q⟩ : Tb) (d_b2) (d_s5) _ ((F_p.mv h16.mv).any) ((F_q.mv h16.mv).any) (h16.rdD r_b2) (h16.rdD r_s5)).mono ?_
        rintro e v16 ⟨⟨l_o12, g_o12, x_o12, A_o12, n_o12, c_o12, B_o12, m_o12, k_o12, h_o12, rfl, r_o12l, r_o12h⟩, hb16⟩
        obtain ⟨rfl, sE2⟩ := hK.over V gA gB (Int.le_refl _) (Int.le_of_lt m3) (Int.le_refl _) h_o12
        refine ⟨hb16, [.bool l_o12.neg, .slice A_o12 n_o12 c_o12, .int .i64 l_o12.e, .bool g_o12.neg, .slice B_o12 m_o12 k_o12, .int .i64 g_o12.e, .int .i64 0], _, rfl, by kernel_rfl, by kernel_rfl, fun g16 => ?_⟩
        replace r_vl := g16.rdD r_vl; replace r_vh := g16.rdD r_vh; replace F_R1 := F_R1.mv g16.mv; replace r_b2 := g16.rdD r_b2; replace r_b4 := g16.rdD r_b4; replace r_s5 := g16.rdD r_s5; replace F_t61 := F_t61.mv g16.mv; replace F_t62 := F_t62.mv g16.mv; replace F_p := F_p.mv g16.mv; replace F_q := F_q.mv g16.mv; replace r_s7 := g16.rdD r_s7; replace r_b8 := g16.rdD r_b8; replace r_s9 := g16.rdD r_s9; replace r_s10 := g16.rdD r_s10; replace r_o11l := g16.rdD r_o11l; replace r_o11h := g16.rdD r_o11h
        clear h16 hb16
        refine sat_chkB (by kernel_rfl) ?_
        refine sat_call #[] (by kernel_rfl) fun w17 h17 => ?_
        refine (told13_any _ (h17.tab hT)).mono ?_
        rintro e v17 ⟨rfl, hb17⟩
        refine ⟨hb17, [.bool true], _, rfl, by kernel_rfl, by kernel_rfl, fun g17 => ?_⟩
        replace r_vl := g17.rdD r_vl; replace r_vh := g17.rdD r_vh; replace F_R1 := F_R1.mv g17.mv; replace r_b2 := g17.rdD r_b2; replace r_b4 := g17.rdD r_b4; replace r_s5 := g17.rdD r_s5; replace F_t61 := F_t61.mv g17.mv; replace F_t62 := F_t62.mv g17.mv; replace F_p := F_p.mv g17.mv; replace F_q := F_q.mv g17.mv; replace r_s7 := g17.rdD r_s7; replace r_b8 := g17.rdD r_b8; replace r_s9 := g17.rdD r_s9; replace r_s10 := g17.rdD r_s10; replace r_o11l := g17.rdD r_o11l; replace r_o11h := g17.rdD r_o11h; replace r_o12l := g17.rdD r_o12l; replace r_o12h := g17.rdD r_o12h
        clear h17 hb17
        refine sat_true (by kernel_rfl) ?_
        refine sat_prim (v := .int .i64 0) (by kernel_rfl) ?_
        refine sat_prim (v := .int .i64 0) (by kernel_rfl) ?_
        refine sat_prim (v := .int .i64 0) (by kernel_rfl) ?_
        refine sat_prim (v := .int .i64 0) (by kernel_rfl) ?_
        refine sat_prim (v := .int .i64 0) (by kernel_rfl) ?_
        refine sat_prim (v := .bool true) (by kernel_rfl) ?_
        refine sat_true (by kernel_rfl) ?_
        refine sat_prim (v := .int .i64 ((q.length : Nat) : Int)) (by kernel_rfl) ?_
        refine sat_prim (v := .int .u64 ((K3_ : Nat) : Int)) (Eq.trans (by kernel_rfl) (pr_cvtn (n := K3_) (by omega))) ?_
        refine sat_prim (v := .int .i64 ((2 ^ K3_ : Nat) : Int)) (Eq.trans (by kernel_rfl) (pr_shl1 b_K3_)) ?_
        refine sat_prim (v := .bool ((((q.length : Nat) : Int) : Int) == ((2 ^ K3_ : Nat) : Int))) (by kernel_rfl) ?_
        refine sat_trueP (b := ((((q.length : Nat) : Int) : Int) == ((2 ^ K3_ : Nat) : Int))) (by kernel_rfl) (by rw [show q.length = 2 ^ K3_ from hK.len]; simp) ?_
        refine sat_call #[.agg #[.bool l_o11.neg, .slice A_o11 n_o11 c_o11, .int .i64 l_o11.e, .bool g_o11.neg, .slice B_o11 m_o11 k_o11, .int .i64 g_o11.e], .agg #[.bool v.lo.neg, .slice A_v n_v c_v, .int .i64 v.lo.e, .bool v.hi.neg, .slice B_v m_v k_v, .int .i64 v.hi.e]] (by kernel_rfl) fun w18 h18 => ?_
        refine (sameI_any _ _ ⟨l_o11, g_o11⟩ v _ (mkI (h18.rdD r_o11l) (h18.rdD r_o11h)) (mkI (h18.rdD r_vl) (h18.rdD r_vh))).mono ?_
        rintro e v18 ⟨rfl, hb18⟩
        refine ⟨hb18, [.bool (sameI ⟨l_o11, g_o11⟩ v)], _, rfl, by kernel_rfl, by kernel_rfl, fun g18 => ?_⟩
        replace r_vl := g18.rdD r_vl; replace r_vh := g18.rdD r_vh; replace F_R1 := F_R1.mv g18.mv; replace r_b2 := g18.rdD r_b2; replace r_b4 := g18.rdD r_b4; replace r_s5 := g18.rdD r_s5; replace F_t61 := F_t61.mv g18.mv; replace F_t62 := F_t62.mv g18.mv; replace F_p := F_p.mv g18.mv; replace F_q := F_q.mv g18.mv; replace r_s7 := g18.rdD r_s7; replace r_b8 := g18.rdD r_b8; replace r_s9 := g18.rdD r_s9; replace r_s10 := g18.rdD r_s10; replace r_o11l := g18.rdD r_o11l; replace r_o11h := g18.rdD r_o11h; replace r_o12l := g18.rdD r_o12l; replace r_o12h := g18.rdD r_o12h
        clear h18 hb18
        refine sat_trueP (b := (sameI ⟨l_o11, g_o11⟩ v)) (by kernel_rfl) (sE1) ?_
        refine sat_call #[.agg #[.bool l_o12.neg, .slice A_o12 n_o12 c_o12, .int .i64 l_o12.e, .bool g_o12.neg, .slice B_o12 m_o12 k_o12, .int .i64 g_o12.e], .agg #[.bool v.lo.neg, .slice A_v n_v c_v, .int .i64 v.lo.e, .bool v.hi.neg, .slice B_v m_v k_v, .int .i64 v.hi.e]] (by kernel_rfl) fun w19 h19 => ?_
        refine (sameI_any _ _ ⟨l_o12, g_o12⟩ v _ (mkI (h19.rdD r_o12l) (h19.rdD r_o12h)) (mkI (h19.rdD r_vl) (h19.rdD r_vh))).mono ?_
        rintro e v19 ⟨rfl, hb19⟩
        refine ⟨hb19, [.bool (sameI ⟨l_o12, g_o12⟩ v)], _, rfl, by kernel_rfl, by kernel_rfl, fun g19 => ?_⟩
        replace r_vl := g19.rdD r_vl; replace r_vh := g19.rdD r_vh; replace F_R1 := F_R1.mv g19.mv; replace r_b2 := g19.rdD r_b2; replace r_b4 := g19.rdD r_b4; replace r_s5 := g19.rdD r_s5; replace F_t61 := F_t61.mv g19.mv; replace F_t62 := F_t62.mv g19.mv; replace F_p := F_p.mv g19.mv; replace F_q := F_q.mv g19.mv; replace r_s7 := g19.rdD r_s7; replace r_b8 := g19.rdD r_b8; replace r_s9 := g19.rdD r_s9; replace r_s10 := g19.rdD r_s10; replace r_o11l := g19.rdD r_o11l; replace r_o11h := g19.rdD r_o11h; replace r_o12l := g19.rdD r_o12l; replace r_o12h := g19.rdD r_o12h
        clear h19 hb19
        exact sat_ret (.bool (sameI ⟨l_o12, g_o12⟩ v)) (by kernel_rfl) fun w9 h9 => congrArg Value.bool (sE2)
      · refine sat_true (by kernel_rfl) ?_
        refine sat_call #[.agg #[.slice A_p p.length c_p, .slice A_q q.length c_q]] (by kernel_rfl) fun w11 h11 => ?_
        refine (halveT_any _ _ _ _ (⟨p, q⟩ : Tb) _ ((F_p.mv h11.mv).any) ((F_q.mv h11.mv).any) (h11.tab hT)).mono ?_
        rintro e v11 ⟨⟨p_t7, q_t7, x_t7, A_t7, c_t7, B_t7, d_t7, rfl, h_t7, F_t71, F_t72⟩, hb11⟩
        obtain ⟨rfl, K1⟩ := hK.half (by have := lt_of hlt; omega) m1 m2 h_t7
        refine ⟨hb11, [.slice A_t7 p_t7.length c_t7, .slice B_t7 q_t7.length d_t7, .int .i64 0], _, rfl, by kernel_rfl, by kernel_rfl, fun g11 => ?_⟩
        replace r_vl := g11.rdD r_vl; replace r_vh := g11.rdD r_vh; replace F_R1 := F_R1.mv g11.mv; replace r_b2 := g11.rdD r_b2; replace r_b4 := g11.rdD r_b4; replace r_s5 := g11.rdD r_s5; replace F_t61 := F_t61.mv g11.mv; replace F_t62 := F_t62.mv g11.mv; replace F_p := F_p.mv g11.mv; replace F_q := F_q.mv g11.mv
        replace F_t71 := F_t71.mv (Sx.Mv.fresh h11.wf)
        replace F_t72 := F_t72.mv (Sx.Mv.fresh h11.wf)
        clear h11 hb11
        refine sat_chkB (by kernel_rfl) ?_
        refine sat_prim (v := .bool false) (by kernel_rfl) ?_
        refine sat_false (by kernel_rfl) ?_
        refine sat_chkB (by kernel_rfl) ?_
        refine sat_prim (v := .int .i64 (((i + 1 : Nat)) : Int)) (Eq.trans (b := some (.int .i64 (IntKind.i64.wrap ((((i) : Nat) : Int) + 1)))) (by kernel_rfl) (by rw [Sx.wrap_succ (n := K3_) (lt_of hlt) (show K3_ ≤ maxLen by simp only [maxLen]; omega)])) ?_
        exact sat_back [.int .i64 (((i + 1 : Nat)) : Int), .bool false, .bool v.lo.neg, .slice A_v n_v c_v, .int .i64 v.lo.e, .bool v.hi.neg, .slice B_v m_v k_v, .int .i64 v.hi.e, .bool d_b2.neg, .slice A_b2 n_b2 c_b2, .int .i64 d_b2.e, .bool d_b4.neg, .slice A_b4 n_b4 c_b4, .int .i64 d_b4.e, .bool d_s5.neg, .slice A_s5 n_s5 c_s5, .int .i64 d_s5.e, .slice A_t7 p_t7.length c_t7, .slice B_t7 q_t7.length d_t7] (by kernel_rfl) fun w9 h9 => ⟨_, by have := lt_of hlt; omega, i + 1, p_t7, _, _, q_t7, _, _, rfl, rfl, by have := lt_of hlt; omega, F_t71.mv h9.mv, F_t72.mv h9.mv, K1⟩

end Go.Proofs.YtbpfnooloemieaaDoor
