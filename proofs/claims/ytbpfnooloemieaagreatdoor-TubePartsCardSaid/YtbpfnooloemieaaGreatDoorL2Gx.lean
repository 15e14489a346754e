/- sluicewayref1.Shift and the walk of DyadNorm, by their trees. Printed by wip/mk_L2G.py. -/
import Derived.Test.YtbpfnooloemieaaGreatDoorSxGx
import Derived.Test.YtbpfnooloemieaaGreatDoorRfMx
import Derived.Test.YtbpfnooloemieaaGreatDoorRfDx
import Derived.Test.YtbpfnooloemieaaGreatDoorL2Ax
namespace Go.Proofs.YtbpfnooloemieaaGreatDoor
open Go.RowKit Pl
open Sx (sat_call sat_chk sat_prim sat_ite sat_true sat_false sat_trueP sat_falseP sat_ret sat_row all_nil all_cons okB okS okI)

theorem shiftS_eq {d : Dy} {n : Int} (h : mayD d = true) (hl : Lim BB d.m) (h0 : d.m.length ≠ 0) :
    shiftS d n = if n ≤ 2097152 ∧ -2097152 ≤ n ∧ -1048576 ≤ d.e + n ∧ d.e + n ≤ 1048576 then (⟨d.neg, d.m, d.e + n⟩, 0) else (Dy.zero, 3) := by
  obtain ⟨hc, h64, _, _⟩ := mayD_limbs h
  obtain ⟨v1, v0⟩ := mayD_val h h0
  unfold shiftS
  rw [if_neg (by simp [h]), if_neg h0]
  by_cases hn : n ≤ 2097152 ∧ -2097152 ≤ n
  · rw [if_neg (by simpa using hn), fitS_eq v0, tz_odd v1, Nat.pow_zero, Nat.div_one, limbs_of BB_gt1 hl hc rfl, if_neg (by omega)]
    by_cases hr : -1048576 ≤ d.e + n ∧ d.e + n ≤ 1048576
    · rw [if_pos (by simpa using hr), if_pos ⟨hn.1, hn.2, hr.1, hr.2⟩]; simp
    · rw [if_neg (by simpa using hr), if_neg (fun q => hr ⟨q.2.2.1, q.2.2.2⟩)]
  · rw [if_pos hn, if_neg (fun q => hn ⟨q.1, q.2.1⟩)]
theorem shift_no {d : Dy} {n : Int} (h : mayD d = false) : (Dy.zero, (1 : Int)) = shiftS d n := by unfold shiftS; rw [if_pos h]
theorem shift_nil {d : Dy} {n : Int} (h : mayD d = true) (h0 : d.m.length = 0) : (d, (0 : Int)) = shiftS d n := by unfold shiftS; rw [if_neg (by simp [h]), if_pos h0]
theorem RdD.length {w : World} {d : Dy} {A : Option Addr} {n c : Nat} (h : RdD w (.agg #[.bool d.neg, .slice A n c, .int .i64 d.e]) d) : d.m.length = n ∧ RdN .u64 w A n c d.m := by
  obtain ⟨A', n', c', e, hr, _⟩ := h
  injection e with e
  have := congrArg Array.toList e
  simp only [List.cons.injEq, Value.slice.injEq, and_true, true_and] at this
  obtain ⟨rfl, rfl, rfl⟩ := this
  exact ⟨hr.len, hr⟩

theorem RdD.moved {w : World} {d : Dy} {A : Option Addr} {n c : Nat} {e : Int} (h : RdD w (.agg #[.bool d.neg, .slice A n c, .int .i64 d.e]) d) (h1 : -9223372036854775808 ≤ e) (h2 : e ≤ 9223372036854775807) :
    RdD w (.agg #[.bool d.neg, .slice A n c, .int .i64 e]) ⟨d.neg, d.m, e⟩ := ⟨A, n, c, rfl, h.length.2, h.lim, h1, h2⟩

def tr_rshift : Sx.Tree := .chk [.lf 0, .lf 1, .lf 2] (.call 73 [.ag [.lf 0, .lf 1, .lf 2]] .one (.prim .not [.lf 4] (.ite (.lf 5) (.ret (.tup [(true, [.bit false, .nil, .num .i64 0]), (false, [.num .i64 1])])) (.prim .len [.lf 1] (.prim (.bin .eql) [.lf 6, .num .i64 0] (.ite (.lf 7) (.chk [.lf 0, .lf 1, .lf 2] (.ret (.tup [(true, [.lf 0, .lf 1, .lf 2]), (false, [.num .i64 0])]))) (.prim (.bin .gtr) [.lf 3, .num .i64 4194304] (.ite (.lf 8) (.ret (.tup [(true, [.bit false, .nil, .num .i64 0]), (false, [.num .i64 3])])) (.prim (.bin .lss) [.lf 3, .num .i64 ((-4194304))] (.ite (.lf 9) (.ret (.tup [(true, [.bit false, .nil, .num .i64 0]), (false, [.num .i64 3])])) (.prim (.bin .add) [.lf 2, .lf 3] (.prim (.bin .gtr) [.lf 10, .num .i64 1048576] (.ite (.lf 11) (.ret (.tup [(true, [.bit false, .nil, .num .i64 0]), (false, [.num .i64 3])])) (.prim (.bin .add) [.lf 2, .lf 3] (.prim (.bin .lss) [.lf 12, .num .i64 ((-1048576))] (.ite (.lf 13) (.ret (.tup [(true, [.bit false, .nil, .num .i64 0]), (false, [.num .i64 3])])) (.prim (.bin .add) [.lf 2, .lf 3] (.chk [.lf 14] (.chk [.lf 0, .lf 1, .lf 14] (.ret (.tup [(true, [.lf 0, .lf 1, .lf 14]), (false, [.num .i64 0])])))))))))))))))))))))
theorem tr_rshift_eq : Sx.treeOf Tryz.prog 99 = some tr_rshift := by kernel_rfl

theorem rshiftD_any (v_d : Value) (d : Dy) (k : Int) (w : World) (h_d : RdD w v_d d) :
    Calls Tryz.prog 99 #[v_d, .int .i64 k] w fun e w' => DyTup w' e (shiftS d k) ∧ Below w.heap.size w w' := by
  have r_d := h_d
  obtain ⟨A_d, n_d, c_d, rfl, _⟩ := h_d
  refine (Sx.run (ls := [.bool d.neg, .slice A_d n_d c_d, .int .i64 d.e, .int .i64 k]) (shs := [(true, 3), (false, 1)]) (R := fun v w' => DyTup w' (.returned v) (shiftS d k)) (by kernel_rfl) tr_rshift_eq rfl (by decide) ?_).mono (fun e w' ⟨v, he, hv, hb⟩ => ⟨by rw [he]; exact hv, hb⟩)
  unfold tr_rshift
  refine sat_chkB (by kernel_rfl) ?_
  refine sat_call #[.agg #[.bool d.neg, .slice A_d n_d c_d, .int .i64 d.e]] (by kernel_rfl) fun w1 h1 => ?_
  refine (rmayD_any _ (d) _ (h1.rdD r_d)).mono ?_
  rintro e v1 ⟨rfl, hb1⟩
  refine ⟨hb1, [.bool (mayD d)], _, rfl, by kernel_rfl, by kernel_rfl, fun g1 => ?_⟩
  replace r_d := g1.rdD r_d
  clear h1 hb1
  refine sat_prim (v := .bool (!(mayD d))) (by kernel_rfl) ?_
  cases hm : (mayD d)
  · refine sat_true (by kernel_rfl) ?_
    exact sat_ret (.tuple #[.agg #[.bool false, .slice none 0 0, .int .i64 0], .int .i64 1]) (by kernel_rfl) fun w9 h9 => ⟨Dy.zero, 1, none, 0, 0, hide (shift_no hm), rfl, RdD.zero _⟩
  · refine sat_false (by kernel_rfl) ?_
    refine sat_prim (v := .int .i64 n_d) (by kernel_rfl) ?_
    refine sat_prim (v := .bool ((n_d : Int) == 0)) (by kernel_rfl) ?_
    cases h0 : ((n_d : Int) == 0)
    · refine sat_false (by kernel_rfl) ?_
      refine sat_prim (v := .bool (decide ((4194304 : Int) < k))) (by kernel_rfl) ?_
      cases hk1 : (decide ((4194304 : Int) < k))
      · refine sat_false (by kernel_rfl) ?_
        refine sat_prim (v := .bool (decide ((k : Int) < (-4194304)))) (by kernel_rfl) ?_
        cases hk2 : (decide ((k : Int) < (-4194304)))
        · refine sat_false (by kernel_rfl) ?_
          have hw : IntKind.i64.wrap (d.e + k) = d.e + k := IntWalk.i64_in _ (by obtain ⟨_, _, e1, e2⟩ := mayD_limbs hm; have := of_decide_eq_false hk1; have := of_decide_eq_false hk2; omega)
          refine sat_prim (v := .int .i64 (d.e + k)) (Eq.trans (b := some (.int .i64 (IntKind.i64.wrap (d.e + k)))) (by kernel_rfl) (by rw [hw])) ?_
          refine sat_prim (v := .bool (decide ((1048576 : Int) < d.e + k))) (by kernel_rfl) ?_
          cases hs1 : (decide ((1048576 : Int) < d.e + k))
          · refine sat_false (by kernel_rfl) ?_
            refine sat_prim (v := .int .i64 (d.e + k)) (Eq.trans (b := some (.int .i64 (IntKind.i64.wrap (d.e + k)))) (by kernel_rfl) (by rw [hw])) ?_
            refine sat_prim (v := .bool (decide ((d.e + k : Int) < (-1048576)))) (by kernel_rfl) ?_
            cases hs2 : (decide ((d.e + k : Int) < (-1048576)))
            · refine sat_false (by kernel_rfl) ?_
              refine sat_prim (v := .int .i64 (d.e + k)) (Eq.trans (b := some (.int .i64 (IntKind.i64.wrap (d.e + k)))) (by kernel_rfl) (by rw [hw])) ?_
              refine sat_chkB (by kernel_rfl) ?_
              refine sat_chkB (by kernel_rfl) ?_
              exact sat_ret (.tuple #[.agg #[.bool d.neg, .slice A_d n_d c_d, .int .i64 (d.e + k)], .int .i64 0]) (by kernel_rfl) fun w9 h9 => ⟨⟨d.neg, d.m, d.e + k⟩, 0, A_d, n_d, c_d, hide ((by obtain ⟨_, _, e1, e2⟩ := mayD_limbs hm; rw [shiftS_eq hm r_d.lim (by rw [r_d.length.1]; simpa using h0), if_pos (by have := of_decide_eq_false hk1; have := of_decide_eq_false hk2; have := of_decide_eq_false hs1; have := of_decide_eq_false hs2; omega)])), rfl, RdD.moved (d := d) (e := d.e + k) (h9.rdD r_d) (by obtain ⟨_, _, e1, e2⟩ := mayD_limbs hm; have := of_decide_eq_false hk1; have := of_decide_eq_false hk2; have := of_decide_eq_false hs1; have := of_decide_eq_false hs2; omega) (by have := of_decide_eq_false hk1; have := of_decide_eq_false hk2; have := of_decide_eq_false hs1; have := of_decide_eq_false hs2; omega)⟩
            · refine sat_true (by kernel_rfl) ?_
              exact sat_ret (.tuple #[.agg #[.bool false, .slice none 0 0, .int .i64 0], .int .i64 3]) (by kernel_rfl) fun w9 h9 => ⟨Dy.zero, 3, none, 0, 0, hide ((by rw [shiftS_eq hm r_d.lim (by rw [r_d.length.1]; simpa using h0), if_neg (by have := of_decide_eq_false hk1; have := of_decide_eq_false hk2; have := of_decide_eq_false hs1; have := of_decide_eq_true hs2; omega)])), rfl, RdD.zero _⟩
          · refine sat_true (by kernel_rfl) ?_
            exact sat_ret (.tuple #[.agg #[.bool false, .slice none 0 0, .int .i64 0], .int .i64 3]) (by kernel_rfl) fun w9 h9 => ⟨Dy.zero, 3, none, 0, 0, hide ((by rw [shiftS_eq hm r_d.lim (by rw [r_d.length.1]; simpa using h0), if_neg (by have := of_decide_eq_false hk1; have := of_decide_eq_false hk2; have := of_decide_eq_true hs1; omega)])), rfl, RdD.zero _⟩
        · refine sat_true (by kernel_rfl) ?_
          exact sat_ret (.tuple #[.agg #[.bool false, .slice none 0 0, .int .i64 0], .int .i64 3]) (by kernel_rfl) fun w9 h9 => ⟨Dy.zero, 3, none, 0, 0, hide ((by rw [shiftS_eq hm r_d.lim (by rw [r_d.length.1]; simpa using h0), if_neg (by have := of_decide_eq_false hk1; have := of_decide_eq_true hk2; omega)])), rfl, RdD.zero _⟩
      · refine sat_true (by kernel_rfl) ?_
        exact sat_ret (.tuple #[.agg #[.bool false, .slice none 0 0, .int .i64 0], .int .i64 3]) (by kernel_rfl) fun w9 h9 => ⟨Dy.zero, 3, none, 0, 0, hide ((by rw [shiftS_eq hm r_d.lim (by rw [r_d.length.1]; simpa using h0), if_neg (by have := of_decide_eq_true hk1; omega)])), rfl, RdD.zero _⟩
    · refine sat_true (by kernel_rfl) ?_
      refine sat_chkB (by kernel_rfl) ?_
      exact sat_ret (.tuple #[.agg #[.bool d.neg, .slice A_d n_d c_d, .int .i64 d.e], .int .i64 0]) (by kernel_rfl) fun w9 h9 => ⟨d, 0, A_d, n_d, c_d, hide (shift_nil hm (by rw [r_d.length.1]; simpa using h0)), rfl, h9.rdD r_d⟩

end Go.Proofs.YtbpfnooloemieaaGreatDoor
