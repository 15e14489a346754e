/- sluicewayref1.Shift and the walk of DyadNorm, by their trees. Printed by wip/mk_L2G.py. -/
import Derived.Test.YtaifjldpjkabjaaDoorSxGx
import Derived.Test.YtaifjldpjkabjaaDoorRfMx
import Derived.Test.YtaifjldpjkabjaaDoorRfDx
import Derived.Test.YtaifjldpjkabjaaDoorL2Ax
namespace Go.Proofs.YtaifjldpjkabjaaDoor
open Go.RowKit Pl
open Sx (sat_call sat_chk sat_prim sat_ite sat_true sat_false sat_trueP sat_falseP sat_ret sat_row all_nil all_cons okB okS okI)

theorem shiftS_eq {d : Dy} {n : Int} (h : mayD d = true) (hl : Lim BB d.m) (h0 : d.m.length ≠ 0) :
    shiftS d n = if n ≤ 2097152 ∧ -2097152 ≤ n ∧ -1048576 ≤ d.e + n ∧ d.e + n ≤ 1048576 then (⟨d.neg, d.m, d.e + n⟩, 0) else (Dy.zero, 3) := by
  obtain ⟨hc, h64, _, _⟩ := mayD_limbs h
  obtain ⟨v1, v0⟩ := mayD_val h h0
  unfold shiftS
  rw [if_neg (by simp [h]), if_neg h0]
  by_cases hn : n ≤ 2097152 ∧ -2097152 ≤ n
  · rw [if_neg (by simpa using hn), fitS_eq v0, tz_odd v1, Nat.pow_zero, Nat.div_one, limbs_of BB_gt1 hl hc rfl, if_neg (by omega)]
    by_cases hr : -1048576 ≤ d.e + n ∧ d.e + n ≤ 1048576
    · rw [if_pos (by simpa using hr), if_pos ⟨hn.1, hn.2, hr.1, hr.2⟩]; simp
    · rw [if_neg (by simpa using hr), if_neg (fun q => hr ⟨q.2.2.1, q.2.2.2⟩)]
  · rw [if_pos hn, if_neg (fun q => hn ⟨q.1, q.2.1⟩)]
theorem shift_no {d : Dy} {n : Int} (h : mayD d = false) : (Dy.zero, (1 : Int)) = shiftS d n := by unfold shiftS; rw [if_pos h]
theorem shift_nil {d : Dy} {n : Int} (h : mayD d = true) (h0 : d.m.length = 0) : (d, (0 : Int)) = shiftS d n := by unfold shiftS; rw [if_neg (by simp [h]), if_pos h0]
theorem RdD.length {w : World} {d : Dy} {A : Option Addr} {n c : Nat} (h : RdD w (.agg #[.bool d.neg, .slice A n c, .int .i64 d.e]) d) : d.m.length = n ∧ RdN .u64 w A n c d.m := by
  obtain ⟨A', n', c', e, hr, _⟩ := h
  injection e with e
  have := congrArg Array.toList e
  simp only [List.cons.injEq, Value.slice.injEq, and_true, true_and] at this
  obtain ⟨rfl, rfl, rfl⟩ := this
  exact ⟨hr.len, hr⟩

theorem RdD.moved {w : World} {d : Dy} {A : Option Addr} {n c : Nat} {e : Int} (h : RdD w (.agg #[.bool d.neg, .slice A n c, .int .i64 d.e]) d) (h1 : -9223372036854775808 ≤ e) (h2 : e ≤ 9223372036854775807) :
    RdD w (.agg #[.bool d.neg, .slice A n c, .int .i64 e]) ⟨d.neg, d.m, e⟩ := ⟨A, n, c, rfl, h.length.2, h.lim, h1, h2⟩

def tr_rshift : Sx.Tree := .chk [.lf 0, .lf 1, .lf 2] (.call 32 [.ag [.lf 0, .lf 1, .lf 2]] .one (.prim .not [.lf 4] (.ite (.lf 5) (.ret (.tup [(true, [.bit false, .nil, .num .i64 0]), (false, [.num .i64 1])])) (.prim .len [.lf 1] (.prim (.bin .eql) [.lf 6, .num .i64 0] (.ite (.lf 7) (.chk [.lf 0, .lf 1, .lf 2] (.ret (.tup [(true, [.lf 0, .lf 1, .lf 2]), (false, [.num .i64 0])]))) (.prim (.bin .gtr) [.lf 3, .num .i64 4194304] (.ite (.lf 8) (.ret (.tup [(true, [.bit false, .nil, .num .i64 0]), (false, [.num .i64 3])])) (.prim (.bin .lss) [.lf 3, .num .i64 ((-4194304))] (.ite (.lf 9) (.ret (.tup [(true, [.bit false, .nil, .num .i64 0]), (false, [.num .i64 3])])) (.prim (.bin .add) [.lf 2, .lf 3] (.prim (.bin .gtr) [.lf 10, .num .i64 1048576] (.ite (.lf 11) (.ret (.tup [(true, [.bit false, .nil, .num .i64 0]), (false, [.num .i64 3])])) (.prim (.bin .add) [.lf 2, .lf 3] (.prim (.bin .lss) [.lf 12, .num .i64 ((-1048576))] (.ite (.lf 13) (.ret (.tup [(true, [.bit false, .nil, .num .i64 0]), (false, [.num .i64 3])])) (.prim (.bin .add) [.lf 2, .lf 3] (.chk [.lf 14] (.chk [.lf 0, .lf 1, .lf 14] (.ret (.tup [(true, [.lf 0, .lf 1, .lf 14]), (false, [.num .i64 0])])))))))))))))))))))))
theorem tr_rshift_eq : Sx.treeOf Tryd.prog 24 = some tr_rshift := by kernel_rfl

theorem rshiftD_any (v_d : Value) (d : Dy) (k : Int) (w : World) (h_d : RdD w v_d d) :
    Calls Tryd.prog 24 #[v_d, .int .i64 k] w fun e w' => DyTup w' e (shiftS d k) ∧ Below w.heap.size w w' := by
  have r_d := h_d
  obtain ⟨A_d, n_d, c_d, rfl, _⟩ := h_d
  refine (Sx.run (ls := [.bool d.neg, .slice A_d n_d c_d, .int .i64 d.e, .int .i64 k]) (shs := [(true, 3), (false, 1)]) (R := fun v w' => DyTup w' (.returned v) (shiftS d k)) (by kernel_rfl) tr_rshift_eq rfl (by decide) ?_).mono (fun e w' ⟨v, he, hv, hb⟩ => ⟨by rw [he]; exact hv, hb⟩)
  unfold tr_rshift
  refine sat_chkB (by kernel_rfl) ?_
  refine sat_call #[.agg #[.bool d.neg, .slice A_d n_d c_d, .int .i64 d.e]] (by kernel_rfl) fun w1 h1 => ?_
  refine (rmayD_any _ (d) _ (h1.rdD r_d)).mono ?_
  rintro e v1 ⟨rfl, hb1⟩
  refine ⟨hb1, [.bool (mayD d)], _, rfl, by kernel_rfl, by kernel_rfl, fun g1 => ?_⟩
  replace r_d := g1.rdD r_d
  clear h1 hb1
  refine sat_prim (v := .bool (!(mayD d))) (by kernel_rfl) ?_
  cases hm : (mayD d)
  · refine sat_true (by kernel_rfl) ?_
    exact sat_ret (.tuple #[.agg #[.bool false, .slice none 0 0, .int .i64 0], .int .i64 1]) (by kernel_rfl) fun w9 h9 => ⟨Dy.zero, 1, none, 0, 0, hide (shift_no hm), rfl, RdD.zero _⟩
  · refine sat_false (by kernel_rfl) ?_
    refine sat_prim (v := .int .i64 n_d) (by kernel_rfl) ?_
    refine sat_prim (v := .bool ((n_d : Int) == 0)) (by kernel_rfl) ?_
    cases h0 : ((n_d : Int) == 0)
    · refine sat_false (by kernel_rfl) ?_
      refine sat_prim (v := .bool (decide ((4194304 : Int) < k))) (by kernel_rfl) ?_
      cases hk1 : (decide ((4194304 : Int) < k))
      · refine sat_false (by kernel_rfl) ?_
        refine sat_prim (v := .bool (decide ((k : Int) < (-4194304)))) (by kernel_rfl) ?_
        cases hk2 : (decide ((k : Int) < (-4194304)))
        · refine sat_false (by kernel_rfl) ?_
          have hw : IntKind.i64.wrap (d.e + k) = d.e + k := IntWalk.i64_in _ (by obtain ⟨_, _, e1, e2⟩ := mayD_limbs hm; have := of_decide_eq_false hk1; have := of_decide_eq_false hk2; omega)
          refine sat_prim (v := .int .i64 (d.e + k)) (Eq.trans (b := some (.int .i64 (IntKind.i64.wrap (d.e + k)))) (by kernel_rfl) (by rw [hw])) ?_
          refine sat_prim (v := .bool (decide ((1048576 : Int) < d.e + k))) (by kernel_rfl) ?_
          cases hs1 : (decide ((1048576 : Int) < d.e + k))
          · refine sat_false (by kernel_rfl) ?_
            refine sat_prim (v := .int .i64 (d.e + k)) (Eq.trans (b := some (.int .i64 (IntKind.i64.wrap (d.e + k)))) (by kernel_rfl) (by rw [hw])) ?_
            refine sat_prim (v := .bool (decide ((d.e + k : Int) < (-1048576)))) (by kernel_rfl) ?_
            cases hs2 : (decide ((d.e + k : Int) < (-1048576)))
            · refine sat_false (by kernel_rfl) ?_
              refine sat_prim (v := .int .i64 (d.e + k)) (Eq.trans (b := some (.int .i64 (IntKind.i64.wrap (d.e + k)))) (by kernel_rfl) (by rw [hw])) ?_
              refine sat_chkB (by kernel_rfl) ?_
              refine sat_chkB (by kernel_rfl) ?_
              exact sat_ret (.tuple #[.agg #[.bool d.neg, .slice A_d n_d c_d, .int .i64 (d.e + k)], .int .i64 0]) (by kernel_rfl) fun w9 h9 => ⟨⟨d.neg, d.m, d.e + k⟩, 0, A_d, n_d, c_d, hide ((by obtain ⟨_, _, e1, e2⟩ := mayD_limbs hm; rw [shiftS_eq hm r_d.lim (by rw [r_d.length.1]; simpa using h0), if_pos (by have := of_decide_eq_false hk1; have := of_decide_eq_false hk2; have := of_decide_eq_false hs1; have := of_decide_eq_false hs2; omega)])), rfl, RdD.moved (d := d) (e := d.e + k) (h9.rdD r_d) (by obtain ⟨_, _, e1, e2⟩ := mayD_limbs hm; have := of_decide_eq_false hk1; have := of_decide_eq_false hk2; have := of_decide_eq_false hs1; have := of_decide_eq_false hs2; omega) (by have := of_decide_eq_false hk1; have := of_decide_eq_false hk2; have := of_decide_eq_false hs1; have := of_decide_eq_false hs2; omega)⟩
            · refine sat_true (by kernel_rfl) ?_
              exact sat_ret (.tuple #[.agg #[.bool false, .slice none 0 0, .int .i64 0], .int .i64 3]) (by kernel_rfl) fun w9 h9 => ⟨Dy.zero, 3, none, 0, 0, hide ((by rw [shiftS_eq hm r_d.lim (by rw [r_d.length.1]; simpa using h0), if_neg (by have := of_decide_eq_false hk1; have := of_decide_eq_false hk2; have := of_decide_eq_false hs1; have := of_decide_eq_true hs2; omega)])), rfl, RdD.zero _⟩
          · refine sat_true (by kernel_rfl) ?_
            exact sat_ret (.tuple #[.agg #[.bool false, .slice none 0 0, .int .i64 0], .int .i64 3]) (by kernel_rfl) fun w9 h9 => ⟨Dy.zero, 3, none, 0, 0, hide ((by rw [shiftS_eq hm r_d.lim (by rw [r_d.length.1]; simpa using h0), if_neg (by have := of_decide_eq_false hk1; have := of_decide_eq_false hk2; have := of_decide_eq_true hs1; omega)])), rfl, RdD.zero _⟩
        · refine sat_true (by kernel_rfl) ?_
          exact sat_ret (.tuple #[.agg #[.bool false, .slice none 0 0, .int .i64 0], .int .i64 3]) (by kernel_rfl) fun w9 h9 => ⟨Dy.zero, 3, none, 0, 0, hide ((by rw [shiftS_eq hm r_d.lim (by rw [r_d.length.1]; simpa using h0), if_neg (by have := of_decide_eq_false hk1; have := of_decide_eq_true hk2; omega)])), rfl, RdD.zero _⟩
      · refine sat_true (by kernel_rfl) ?_
        exact sat_ret (.tuple #[.agg #[.bool false, .slice none 0 0, .int .i64 0], .int .i64 3]) (by kernel_rfl) fun w9 h9 => ⟨Dy.zero, 3, none, 0, 0, hide ((by rw [shiftS_eq hm r_d.lim (by rw [r_d.length.1]; simpa using h0), if_neg (by have := of_decide_eq_true hk1; omega)])), rfl, RdD.zero _⟩
    · refine sat_true (by kernel_rfl) ?_
      refine sat_chkB (by kernel_rfl) ?_
      exact sat_ret (.tuple #[.agg #[.bool d.neg, .slice A_d n_d c_d, .int .i64 d.e], .int .i64 0]) (by kernel_rfl) fun w9 h9 => ⟨d, 0, A_d, n_d, c_d, hide (shift_nil hm (by rw [r_d.length.1]; simpa using h0)), rfl, h9.rdD r_d⟩

def tr_same2b : Sx.Tree := .chk [.lf 0, .lf 1, .lf 2] (.chk [.lf 4, .lf 5, .lf 6] (.prim (.bin .eql) [.lf 3, .lf 7] (.ite (.lf 8) (.call 17 [.ag [.lf 0, .lf 1, .lf 2], .ag [.lf 4, .lf 5, .lf 6]] .one (.ret (.one (.lf 9)))) (.ret (.one (.bit false))))))
theorem tr_same2b_eq : Sx.treeOf Tryd.prog 20 = some tr_same2b := by kernel_rfl

theorem same2b_any (u v : Value) (x y : Int) (a b : Dy) (w : World) (h : RdD w u a) (k : RdD w v b) :
    Calls Tryd.prog 20 #[u, .int .i64 x, v, .int .i64 y] w fun e w' => e = .returned (.bool ((x == y) && sameD a b)) ∧ Below w.heap.size w w' := by
  have r_a := h
  have r_b := k
  obtain ⟨A, n, c, rfl, _⟩ := h
  obtain ⟨B, m, d, rfl, _⟩ := k
  refine (Sx.run (ls := [.bool a.neg, .slice A n c, .int .i64 a.e, .int .i64 x, .bool b.neg, .slice B m d, .int .i64 b.e, .int .i64 y]) (shs := [(true, 3), (false, 1), (true, 3), (false, 1)]) (R := fun v _ => v = .bool ((x == y) && sameD a b)) (by kernel_rfl) tr_same2b_eq rfl (by decide) ?_).mono (fun e w' ⟨v, he, hv, hb⟩ => ⟨by rw [he, hv], hb⟩)
  unfold tr_same2b
  refine sat_chk (all_cons (okB _) (all_cons (okS _ _ _) (all_cons (okI _) (all_nil)))) ?_
  refine sat_chk (all_cons (okB _) (all_cons (okS _ _ _) (all_cons (okI _) (all_nil)))) ?_
  refine sat_prim (v := .bool ((x : Int) == y)) (by kernel_rfl) ?_
  cases hE1 : ((x : Int) == y)
  · refine sat_false (by kernel_rfl) ?_
    exact sat_ret (.bool false) (by kernel_rfl) fun w9 h9 => rfl
  · refine sat_true (by kernel_rfl) ?_
    refine sat_call #[.agg #[.bool a.neg, .slice A n c, .int .i64 a.e], .agg #[.bool b.neg, .slice B m d, .int .i64 b.e]] (by kernel_rfl) fun w2 h2 => ?_
    refine (rsame_any _ _ a b _ (h2.rdD r_a) (h2.rdD r_b)).mono ?_
    rintro e v2 ⟨rfl, hb2⟩
    refine ⟨hb2, [.bool (sameD a b)], _, rfl, by kernel_rfl, by kernel_rfl, fun g2 => ?_⟩
    replace r_a := g2.rdD r_a; replace r_b := g2.rdD r_b
    clear h2 hb2
    exact sat_ret (.bool (sameD a b)) (by kernel_rfl) fun w9 h9 => rfl

theorem same_of2 {r : Dy × Int} {d1 d2 : Dy} {x1 x2 : Int} (h : Hid ((d1, x1) = r)) (k : Hid ((d2, x2) = r)) : ((x1 == x2) && sameD d1 d2) = true := by
  have e := h.out.trans k.out.symm
  injection e with e1 e2
  rw [e1, e2, sameD_self]
  simp
theorem dx2n {d d' : Dy} {x x' : Int} {r : Dy × Int} (k : Hid ((d, x) = r)) (e : r = (d', x')) : d = d' ∧ x = x' := by
  have := k.out.trans e
  injection this with h1 h2
  exact ⟨h1, h2⟩
theorem norm_no {g : Bool} {xs : List Nat} {e : Int} (h : mayN xs = false) : normS g xs e = (Dy.zero, 1) := by unfold normS; rw [if_neg (by simp [h])]
theorem norm_yes {g : Bool} {xs : List Nat} {e : Int} (h : mayN xs = true) (hl : Lim BB xs) (hn : xs.length ≤ 70) : normR g (val BB xs) e = normS g xs e := by
  unfold normS
  rw [if_pos h]
  by_cases h0 : val BB xs = 0
  · rw [h0]; unfold normR; rw [if_pos rfl, fitS_zero]
  · exact normR_S (.inl (by have := tz_len hl h0; omega))
theorem norm_of {j e : Int} (h1 : -9223372036854775808 ≤ j) (h2 : j ≤ 9223372036854775807) : normR (decide (j < 0)) j.natAbs e = ofS j e := by
  unfold ofS
  by_cases h0 : j.natAbs = 0
  · rw [h0]; unfold normR; rw [if_pos rfl, fitS_zero]
  · refine normR_S (.inl ?_)
    have a := tz_lt_blen h0
    have b : blen j.natAbs ≤ 64 := blen_le.2 (by omega)
    omega
theorem cvt_neg {j : Int} (h : j < 0) (h1 : -9223372036854775808 ≤ j) : IntKind.u64.wrap (0 - IntKind.u64.wrap j) = ((j.natAbs : Nat) : Int) := by
  rw [IntKind.wrap_u64, IntKind.wrap_u64]; omega
theorem cvt_pos {j : Int} (h : 0 ≤ j) (h1 : j ≤ 9223372036854775807) : IntKind.u64.wrap j = ((j.natAbs : Nat) : Int) := by
  rw [IntKind.wrap_u64]; omega
theorem normD_any (g : Bool) (A : Option Addr) (n c : Nat) (xs : List Nat) (e : Int) (w : World) (h : RdD w (.agg #[.bool (Dy.mk g xs e).neg, .slice A n c, .int .i64 (Dy.mk g xs e).e]) (Dy.mk g xs e)) (hT : TabAt w) :
    Calls Tryd.prog 15 #[.bool g, .slice A n c, .int .i64 e] w fun x w' => DyTup w' x (normS g xs e) ∧ Below w.heap.size w w' := by
  have hr := h.length.2
  have hl := h.lim
  obtain ⟨_, _, _, _, _, _, e1, e2⟩ := h
  exact (normF_any g A n c xs e w hr hl e1 e2 hT).mono fun _ _ h => h.tup
theorem rmayM_any (g : Bool) (A : Option Addr) (n c : Nat) (xs : List Nat) (e : Int) (w : World) (h : RdD w (.agg #[.bool (Dy.mk g xs e).neg, .slice A n c, .int .i64 (Dy.mk g xs e).e]) (Dy.mk g xs e)) :
    Calls Tryd.prog 16 #[.slice A n c] w fun x w' => x = .returned (.bool (mayN xs)) ∧ Below w.heap.size w w' :=
  (rmay_any A n c xs w h.length.2).mono fun _ _ ⟨e, hw⟩ => ⟨e, hw ▸ Below.refl _ _⟩
theorem fromM_any (g : Bool) (A : Option Addr) (n c : Nat) (xs : List Nat) (e : Int) (w : World) (h : RdD w (.agg #[.bool (Dy.mk g xs e).neg, .slice A n c, .int .i64 (Dy.mk g xs e).e]) (Dy.mk g xs e)) (hn : n ≤ 70) :
    Calls Tryd.prog 19 #[.slice A n c] w fun x w' => (∃ B m k, x = .returned (.slice B m k) ∧ R16 w' (.slice B m k) (val BB xs)) ∧ Below w.heap.size w w' :=
  (from_any A n c xs w h.length.2 h.lim (by omega)).mono fun _ _ ⟨B, m, k, e, hr, hb⟩ => ⟨⟨B, m, k, e, _, _, _, rfl, hr⟩, hb⟩
theorem smallM_any (N : Nat) (w : World) (hN : N < BB) :
    Calls Tryd.prog 22 #[.int .u64 (N : Int)] w fun x w' => (∃ B m k, x = .returned (.slice B m k) ∧ R16 w' (.slice B m k) N) ∧ Below w.heap.size w w' :=
  (small_any N w hN).mono fun _ _ ⟨⟨z, e, hz⟩, hb⟩ => ⟨by
    have h2 := hz
    obtain ⟨B, m, k, rfl, _⟩ := hz
    exact ⟨B, m, k, e, h2⟩, hb⟩

def tr_dyadNorm : Sx.Tree := .chk [.lf 4, .lf 5, .lf 6] (.prim .len [.lf 1] (.prim (.bin .gtr) [.lf 8, .num .i64 70] (.ite (.lf 9) (.call 14 [] .one (.ret (.one (.lf 10)))) (.call 13 [.ag [.lf 4, .lf 5, .lf 6]] .one (.prim .not [.lf 10] (.ite (.lf 11) (.call 14 [] .one (.ret (.one (.lf 12)))) (.call 15 [.one (.lf 0), .one (.lf 1), .one (.lf 2)] (.tup [(true, 3), (false, 1)]) (.chk [.lf 12, .lf 13, .lf 14] (.call 16 [.one (.lf 1)] .one (.prim .not [.lf 16] (.ite (.lf 17) (.prim (.bin .neq) [.lf 15, .num .i64 1] (.ite (.lf 18) (.ret (.one (.bit false))) (.call 17 [.ag [.lf 12, .lf 13, .lf 14], .ag [.bit false, .nil, .num .i64 0]] .one (.prim .not [.lf 19] (.ite (.lf 20) (.ret (.one (.bit false))) (.prim (.cvt .u64) [.lf 3] (.prim (.bin .lss) [.lf 3, .num .i64 0] (.ite (.lf 22) (.prim .neg [.lf 21] (.call 21 [.one (.lf 3), .one (.lf 2)] (.tup [(true, 3), (false, 1)]) (.chk [.lf 24, .lf 25, .lf 26] (.prim (.bin .lss) [.lf 3, .num .i64 0] (.call 22 [.one (.lf 23)] .one (.chk [.lf 28, .lf 29, .lf 2] (.call 18 [.ag [.lf 28, .lf 29, .lf 2]] (.tup [(true, 3), (false, 1)]) (.chk [.lf 30, .lf 31, .lf 32] (.call 23 [.ag [.lf 4, .lf 5, .lf 6], .one (.lf 7)] (.tup [(true, 3), (false, 1)]) (.chk [.lf 34, .lf 35, .lf 36] (.call 24 [.ag [.lf 4, .lf 5, .lf 6], .one (.lf 7)] (.tup [(true, 3), (false, 1)]) (.chk [.lf 38, .lf 39, .lf 40] (.call 14 [] .one (.ite (.lf 42) (.call 20 [.ag [.lf 24, .lf 25, .lf 26], .one (.lf 27), .ag [.lf 30, .lf 31, .lf 32], .one (.lf 33)] .one (.ite (.lf 43) (.call 20 [.ag [.lf 34, .lf 35, .lf 36], .one (.lf 37), .ag [.lf 38, .lf 39, .lf 40], .one (.lf 41)] .one (.ret (.one (.lf 44)))) (.ret (.one (.bit false))))) (.ret (.one (.bit false))))))))))))))))) (.call 21 [.one (.lf 3), .one (.lf 2)] (.tup [(true, 3), (false, 1)]) (.chk [.lf 23, .lf 24, .lf 25] (.prim (.bin .lss) [.lf 3, .num .i64 0] (.call 22 [.one (.lf 21)] .one (.chk [.lf 27, .lf 28, .lf 2] (.call 18 [.ag [.lf 27, .lf 28, .lf 2]] (.tup [(true, 3), (false, 1)]) (.chk [.lf 29, .lf 30, .lf 31] (.call 23 [.ag [.lf 4, .lf 5, .lf 6], .one (.lf 7)] (.tup [(true, 3), (false, 1)]) (.chk [.lf 33, .lf 34, .lf 35] (.call 24 [.ag [.lf 4, .lf 5, .lf 6], .one (.lf 7)] (.tup [(true, 3), (false, 1)]) (.chk [.lf 37, .lf 38, .lf 39] (.call 14 [] .one (.ite (.lf 41) (.call 20 [.ag [.lf 23, .lf 24, .lf 25], .one (.lf 26), .ag [.lf 29, .lf 30, .lf 31], .one (.lf 32)] .one (.ite (.lf 42) (.call 20 [.ag [.lf 33, .lf 34, .lf 35], .one (.lf 36), .ag [.lf 37, .lf 38, .lf 39], .one (.lf 40)] .one (.ret (.one (.lf 43)))) (.ret (.one (.bit false))))) (.ret (.one (.bit false)))))))))))))))))))))))) (.call 19 [.one (.lf 1)] .one (.chk [.lf 0, .lf 18, .lf 2] (.call 18 [.ag [.lf 0, .lf 18, .lf 2]] (.tup [(true, 3), (false, 1)]) (.chk [.lf 19, .lf 20, .lf 21] (.call 20 [.ag [.lf 12, .lf 13, .lf 14], .one (.lf 15), .ag [.lf 19, .lf 20, .lf 21], .one (.lf 22)] .one (.prim .not [.lf 23] (.ite (.lf 24) (.ret (.one (.bit false))) (.prim (.cvt .u64) [.lf 3] (.prim (.bin .lss) [.lf 3, .num .i64 0] (.ite (.lf 26) (.prim .neg [.lf 25] (.call 21 [.one (.lf 3), .one (.lf 2)] (.tup [(true, 3), (false, 1)]) (.chk [.lf 28, .lf 29, .lf 30] (.prim (.bin .lss) [.lf 3, .num .i64 0] (.call 22 [.one (.lf 27)] .one (.chk [.lf 32, .lf 33, .lf 2] (.call 18 [.ag [.lf 32, .lf 33, .lf 2]] (.tup [(true, 3), (false, 1)]) (.chk [.lf 34, .lf 35, .lf 36] (.call 23 [.ag [.lf 4, .lf 5, .lf 6], .one (.lf 7)] (.tup [(true, 3), (false, 1)]) (.chk [.lf 38, .lf 39, .lf 40] (.call 24 [.ag [.lf 4, .lf 5, .lf 6], .one (.lf 7)] (.tup [(true, 3), (false, 1)]) (.chk [.lf 42, .lf 43, .lf 44] (.call 14 [] .one (.ite (.lf 46) (.call 20 [.ag [.lf 28, .lf 29, .lf 30], .one (.lf 31), .ag [.lf 34, .lf 35, .lf 36], .one (.lf 37)] .one (.ite (.lf 47) (.call 20 [.ag [.lf 38, .lf 39, .lf 40], .one (.lf 41), .ag [.lf 42, .lf 43, .lf 44], .one (.lf 45)] .one (.ret (.one (.lf 48)))) (.ret (.one (.bit false))))) (.ret (.one (.bit false))))))))))))))))) (.call 21 [.one (.lf 3), .one (.lf 2)] (.tup [(true, 3), (false, 1)]) (.chk [.lf 27, .lf 28, .lf 29] (.prim (.bin .lss) [.lf 3, .num .i64 0] (.call 22 [.one (.lf 25)] .one (.chk [.lf 31, .lf 32, .lf 2] (.call 18 [.ag [.lf 31, .lf 32, .lf 2]] (.tup [(true, 3), (false, 1)]) (.chk [.lf 33, .lf 34, .lf 35] (.call 23 [.ag [.lf 4, .lf 5, .lf 6], .one (.lf 7)] (.tup [(true, 3), (false, 1)]) (.chk [.lf 37, .lf 38, .lf 39] (.call 24 [.ag [.lf 4, .lf 5, .lf 6], .one (.lf 7)] (.tup [(true, 3), (false, 1)]) (.chk [.lf 41, .lf 42, .lf 43] (.call 14 [] .one (.ite (.lf 45) (.call 20 [.ag [.lf 27, .lf 28, .lf 29], .one (.lf 30), .ag [.lf 33, .lf 34, .lf 35], .one (.lf 36)] .one (.ite (.lf 46) (.call 20 [.ag [.lf 37, .lf 38, .lf 39], .one (.lf 40), .ag [.lf 41, .lf 42, .lf 43], .one (.lf 44)] .one (.ret (.one (.lf 47)))) (.ret (.one (.bit false))))) (.ret (.one (.bit false)))))))))))))))))))))))))))))))))))))
theorem tr_dyadNorm_eq : Sx.treeOf Tryd.prog 3 = some tr_dyadNorm := by kernel_rfl

set_option maxRecDepth 100000 in
set_option maxHeartbeats 4000000 in
theorem dyadNorm_any (g : Bool) (A_m : Option Addr) (n_m c_m : Nat) (xs : List Nat) (e j : Int) (v_d : Value) (d : Dy) (k : Int) (w : World) (hr : RdN .u64 w A_m n_m c_m xs) (hl : Lim BB xs) (he1 : -9223372036854775808 ≤ e) (he2 : e ≤ 9223372036854775807)
    (hj1 : -9223372036854775808 ≤ j) (hj2 : j ≤ 9223372036854775807) (h_d : RdD w v_d d) (hT : TabAt w) :
    Calls Tryd.prog 3 #[.bool g, .slice A_m n_m c_m, .int .i64 e, .int .i64 j, v_d, .int .i64 k] w fun e w' => e = .returned (.bool true) ∧ Below w.heap.size w w' := by
  have r_d := h_d
  obtain ⟨A_d, n_d, c_d, rfl, _⟩ := h_d
  have r_m : RdD w (.agg #[.bool (Dy.mk g xs e).neg, .slice A_m n_m c_m, .int .i64 (Dy.mk g xs e).e]) (Dy.mk g xs e) := ⟨_, _, _, rfl, hr, hl, he1, he2⟩
  have r_zz := RdD.zero w
  clear hr hl
  cases hj : decide (j < 0)
  · have hj0 := of_decide_eq_false hj
    refine (Sx.run (ls := [.bool g, .slice A_m n_m c_m, .int .i64 e, .int .i64 j, .bool d.neg, .slice A_d n_d c_d, .int .i64 d.e, .int .i64 k]) (shs := [(false, 1), (false, 1), (false, 1), (false, 1), (true, 3), (false, 1)]) (R := fun v _ => v = .bool true) (by kernel_rfl) tr_dyadNorm_eq rfl (by decide) ?_).mono (fun e w' ⟨v, he, hv, hb⟩ => ⟨by rw [he, hv], hb⟩)
    unfold tr_dyadNorm
    refine sat_chkB (by kernel_rfl) ?_
    refine sat_prim (v := .int .i64 n_m) (by kernel_rfl) ?_
    refine sat_prim (v := .bool (decide ((70 : Int) < n_m))) (by kernel_rfl) ?_
    cases hL : (decide ((70 : Int) < n_m))
    · refine sat_false (by kernel_rfl) ?_
      refine sat_call #[.agg #[.bool d.neg, .slice A_d n_d c_d, .int .i64 d.e]] (by kernel_rfl) fun w2 h2 => ?_
      refine (few2_any _ (d) _ (h2.rdD r_d)).mono ?_
      rintro e v2 ⟨rfl, hb2⟩
      refine ⟨hb2, [.bool (decide (d.m.length ≤ 70))], _, rfl, by kernel_rfl, by kernel_rfl, fun g2 => ?_⟩
      replace r_d := g2.rdD r_d; replace r_m := g2.rdD r_m; replace r_zz := g2.rdD r_zz
      clear h2 hb2
      refine sat_prim (v := .bool (!(decide (d.m.length ≤ 70)))) (by kernel_rfl) ?_
      cases hF : (decide (d.m.length ≤ 70))
      · refine sat_true (by kernel_rfl) ?_
        refine sat_call #[] (by kernel_rfl) fun w4 h4 => ?_
        refine (told2_any _ (h4.tab hT)).mono ?_
        rintro e v4 ⟨rfl, hb4⟩
        refine ⟨hb4, [.bool true], _, rfl, by kernel_rfl, by kernel_rfl, fun g4 => ?_⟩
        replace r_d := g4.rdD r_d; replace r_m := g4.rdD r_m; replace r_zz := g4.rdD r_zz
        clear h4 hb4
        exact sat_ret (.bool true) (by kernel_rfl) fun w9 h9 => rfl
      · refine sat_false (by kernel_rfl) ?_
        refine sat_call #[.bool g, .slice A_m n_m c_m, .int .i64 e] (by kernel_rfl) fun w4 h4 => ?_
        refine (normD_any g A_m n_m c_m xs e _ (h4.rdD r_m) (h4.tab hT)).mono ?_
        rintro e v4 ⟨⟨d_p, x_p, A_p, n_p, c_p, h_p, rfl, r_p⟩, hb4⟩
        refine ⟨hb4, [.bool d_p.neg, .slice A_p n_p c_p, .int .i64 d_p.e, .int .i64 x_p], _, rfl, by kernel_rfl, by kernel_rfl, fun g4 => ?_⟩
        replace r_d := g4.rdD r_d; replace r_m := g4.rdD r_m; replace r_zz := g4.rdD r_zz
        clear h4 hb4
        refine sat_chkB (by kernel_rfl) ?_
        cases hN : mayN xs
        · obtain ⟨rfl, rfl⟩ := dx2n h_p (norm_no hN)
          refine sat_call #[.slice A_m n_m c_m] (by kernel_rfl) fun w5 h5 => ?_
          refine (rmayM_any g A_m n_m c_m xs e _ (h5.rdD r_m)).mono ?_
          rw [hN]
          rintro e v5 ⟨rfl, hb5⟩
          refine ⟨hb5, [.bool false], _, rfl, by kernel_rfl, by kernel_rfl, fun g5 => ?_⟩
          replace r_d := g5.rdD r_d; replace r_m := g5.rdD r_m; replace r_zz := g5.rdD r_zz; replace r_p := g5.rdD r_p
          clear h5 hb5
          refine sat_prim (v := .bool true) (by kernel_rfl) ?_
          refine sat_true (by kernel_rfl) ?_
          refine sat_prim (v := .bool ((1 : Int) != 1)) (by kernel_rfl) ?_
          refine sat_false (by kernel_rfl) ?_
          refine sat_call #[.agg #[.bool Dy.zero.neg, .slice A_p n_p c_p, .int .i64 Dy.zero.e], .agg #[.bool false, .slice none 0 0, .int .i64 0]] (by kernel_rfl) fun w6 h6 => ?_
          refine (rsame_any _ _ Dy.zero Dy.zero _ (h6.rdD r_p) (h6.rdD r_zz)).mono ?_
          rw [sameD_self]
          rintro e v6 ⟨rfl, hb6⟩
          refine ⟨hb6, [.bool true], _, rfl, by kernel_rfl, by kernel_rfl, fun g6 => ?_⟩
          replace r_d := g6.rdD r_d; replace r_m := g6.rdD r_m; replace r_zz := g6.rdD r_zz; replace r_p := g6.rdD r_p
          clear h6 hb6
          refine sat_prim (v := .bool false) (by kernel_rfl) ?_
          refine sat_false (by kernel_rfl) ?_
          refine sat_prim (v := .int .u64 ((j.natAbs : Nat) : Int)) (Eq.trans (b := some (.int .u64 (IntKind.u64.wrap j))) (by kernel_rfl) (by rw [cvt_pos (by omega) hj2])) ?_
          refine sat_prim (v := .bool false) (Eq.trans (b := some (.bool (decide (j < 0)))) (by kernel_rfl) (by rw [hj])) ?_
          refine sat_false (by kernel_rfl) ?_
          refine sat_call #[.int .i64 j, .int .i64 e] (by kernel_rfl) fun w7 h7 => ?_
          refine (ofT j e _ hj1 hj2 he1 he2 (h7.tab hT)).mono ?_
          rintro e v7 ⟨⟨d_b, x_b, A_b, n_b, c_b, h_b, rfl, r_b⟩, hb7⟩
          refine ⟨hb7, [.bool d_b.neg, .slice A_b n_b c_b, .int .i64 d_b.e, .int .i64 x_b], _, rfl, by kernel_rfl, by kernel_rfl, fun g7 => ?_⟩
          replace r_d := g7.rdD r_d; replace r_m := g7.rdD r_m; replace r_zz := g7.rdD r_zz; replace r_p := g7.rdD r_p
          clear h7 hb7
          refine sat_chkB (by kernel_rfl) ?_
          refine sat_prim (v := .bool false) (Eq.trans (b := some (.bool (decide (j < 0)))) (by kernel_rfl) (by rw [hj])) ?_
          refine sat_call #[.int .u64 ((j.natAbs : Nat) : Int)] (by kernel_rfl) fun w8 h8 => ?_
          refine (smallM_any j.natAbs _ (by unfold BB; omega)).mono ?_
          rintro e v8 ⟨⟨B_s, m_s, k_s, rfl, r_s⟩, hb8⟩
          refine ⟨hb8, [.slice B_s m_s k_s], _, rfl, by kernel_rfl, by kernel_rfl, fun g8 => ?_⟩
          replace r_d := g8.rdD r_d; replace r_m := g8.rdD r_m; replace r_zz := g8.rdD r_zz; replace r_p := g8.rdD r_p; replace r_b := g8.rdD r_b
          clear h8 hb8
          refine sat_chkB (by kernel_rfl) ?_
          refine sat_call #[.agg #[.bool false, .slice B_s m_s k_s, .int .i64 e]] (by kernel_rfl) fun w9 h9 => ?_
          refine (rnorm_any false _ j.natAbs e _ (h9.r16 r_s) (by have : blen j.natAbs ≤ 64 := blen_le.2 (by omega); omega) he1 he2).mono ?_
          rintro e v9 ⟨⟨d_y, x_y, A_y, n_y, c_y, h_y, rfl, r_y⟩, hb9⟩
          refine ⟨hb9, [.bool d_y.neg, .slice A_y n_y c_y, .int .i64 d_y.e, .int .i64 x_y], _, rfl, by kernel_rfl, by kernel_rfl, fun g9 => ?_⟩
          replace r_d := g9.rdD r_d; replace r_m := g9.rdD r_m; replace r_zz := g9.rdD r_zz; replace r_p := g9.rdD r_p; replace r_b := g9.rdD r_b; replace r_s := g9.r16 r_s
          clear h9 hb9
          refine sat_chkB (by kernel_rfl) ?_
          refine sat_call #[.agg #[.bool d.neg, .slice A_d n_d c_d, .int .i64 d.e], .int .i64 k] (by kernel_rfl) fun w10 h10 => ?_
          refine (shiftT _ d _ (h10.rdD r_d) (h10.tab hT) k).mono ?_
          rintro e v10 ⟨⟨d_c, x_c, A_c, n_c, c_c, h_c, rfl, r_c⟩, hb10⟩
          refine ⟨hb10, [.bool d_c.neg, .slice A_c n_c c_c, .int .i64 d_c.e, .int .i64 x_c], _, rfl, by kernel_rfl, by kernel_rfl, fun g10 => ?_⟩
          replace r_d := g10.rdD r_d; replace r_m := g10.rdD r_m; replace r_zz := g10.rdD r_zz; replace r_p := g10.rdD r_p; replace r_b := g10.rdD r_b; replace r_s := g10.r16 r_s; replace r_y := g10.rdD r_y
          clear h10 hb10
          refine sat_chkB (by kernel_rfl) ?_
          refine sat_call #[.agg #[.bool d.neg, .slice A_d n_d c_d, .int .i64 d.e], .int .i64 k] (by kernel_rfl) fun w11 h11 => ?_
          refine (rshiftD_any _ d k _ (h11.rdD r_d)).mono ?_
          rintro e v11 ⟨⟨d_z, x_z, A_z, n_z, c_z, h_z, rfl, r_z⟩, hb11⟩
          refine ⟨hb11, [.bool d_z.neg, .slice A_z n_z c_z, .int .i64 d_z.e, .int .i64 x_z], _, rfl, by kernel_rfl, by kernel_rfl, fun g11 => ?_⟩
          replace r_d := g11.rdD r_d; replace r_m := g11.rdD r_m; replace r_zz := g11.rdD r_zz; replace r_p := g11.rdD r_p; replace r_b := g11.rdD r_b; replace r_s := g11.r16 r_s; replace r_y := g11.rdD r_y; replace r_c := g11.rdD r_c
          clear h11 hb11
          refine sat_chkB (by kernel_rfl) ?_
          refine sat_call #[] (by kernel_rfl) fun w12 h12 => ?_
          refine (told2_any _ (h12.tab hT)).mono ?_
          rintro e v12 ⟨rfl, hb12⟩
          refine ⟨hb12, [.bool true], _, rfl, by kernel_rfl, by kernel_rfl, fun g12 => ?_⟩
          replace r_d := g12.rdD r_d; replace r_m := g12.rdD r_m; replace r_zz := g12.rdD r_zz; replace r_p := g12.rdD r_p; replace r_b := g12.rdD r_b; replace r_s := g12.r16 r_s; replace r_y := g12.rdD r_y; replace r_c := g12.rdD r_c; replace r_z := g12.rdD r_z
          clear h12 hb12
          refine sat_true (by kernel_rfl) ?_
          refine sat_call #[.agg #[.bool d_b.neg, .slice A_b n_b c_b, .int .i64 d_b.e], .int .i64 x_b, .agg #[.bool d_y.neg, .slice A_y n_y c_y, .int .i64 d_y.e], .int .i64 x_y] (by kernel_rfl) fun w13 h13 => ?_
          refine (same2b_any _ _ x_b x_y d_b d_y _ (h13.rdD r_b) (h13.rdD r_y)).mono ?_
          rw [same_of2 h_b (hide (h_y.out.trans (hj ▸ norm_of hj1 hj2)))]
          rintro e v13 ⟨rfl, hb13⟩
          refine ⟨hb13, [.bool true], _, rfl, by kernel_rfl, by kernel_rfl, fun g13 => ?_⟩
          replace r_d := g13.rdD r_d; replace r_m := g13.rdD r_m; replace r_zz := g13.rdD r_zz; replace r_p := g13.rdD r_p; replace r_b := g13.rdD r_b; replace r_s := g13.r16 r_s; replace r_y := g13.rdD r_y; replace r_c := g13.rdD r_c; replace r_z := g13.rdD r_z
          clear h13 hb13
          refine sat_true (by kernel_rfl) ?_
          refine sat_call #[.agg #[.bool d_c.neg, .slice A_c n_c c_c, .int .i64 d_c.e], .int .i64 x_c, .agg #[.bool d_z.neg, .slice A_z n_z c_z, .int .i64 d_z.e], .int .i64 x_z] (by kernel_rfl) fun w14 h14 => ?_
          refine (same2b_any _ _ x_c x_z d_c d_z _ (h14.rdD r_c) (h14.rdD r_z)).mono ?_
          rw [same_of2 h_c h_z]
          rintro e v14 ⟨rfl, hb14⟩
          refine ⟨hb14, [.bool true], _, rfl, by kernel_rfl, by kernel_rfl, fun g14 => ?_⟩
          replace r_d := g14.rdD r_d; replace r_m := g14.rdD r_m; replace r_zz := g14.rdD r_zz; replace r_p := g14.rdD r_p; replace r_b := g14.rdD r_b; replace r_s := g14.r16 r_s; replace r_y := g14.rdD r_y; replace r_c := g14.rdD r_c; replace r_z := g14.rdD r_z
          clear h14 hb14
          exact sat_ret (.bool true) (by kernel_rfl) fun w9 h9 => rfl
        · refine sat_call #[.slice A_m n_m c_m] (by kernel_rfl) fun w5 h5 => ?_
          refine (rmayM_any g A_m n_m c_m xs e _ (h5.rdD r_m)).mono ?_
          rw [hN]
          rintro e v5 ⟨rfl, hb5⟩
          refine ⟨hb5, [.bool true], _, rfl, by kernel_rfl, by kernel_rfl, fun g5 => ?_⟩
          replace r_d := g5.rdD r_d; replace r_m := g5.rdD r_m; replace r_zz := g5.rdD r_zz; replace r_p := g5.rdD r_p
          clear h5 hb5
          refine sat_prim (v := .bool false) (by kernel_rfl) ?_
          refine sat_false (by kernel_rfl) ?_
          refine sat_call #[.slice A_m n_m c_m] (by kernel_rfl) fun w6 h6 => ?_
          refine (fromM_any g A_m n_m c_m xs e _ (h6.rdD r_m) (by have := of_decide_eq_false hL; omega)).mono ?_
          rintro e v6 ⟨⟨B_f, m_f, k_f, rfl, r_f⟩, hb6⟩
          refine ⟨hb6, [.slice B_f m_f k_f], _, rfl, by kernel_rfl, by kernel_rfl, fun g6 => ?_⟩
          replace r_d := g6.rdD r_d; replace r_m := g6.rdD r_m; replace r_zz := g6.rdD r_zz; replace r_p := g6.rdD r_p
          clear h6 hb6
          refine sat_chkB (by kernel_rfl) ?_
          refine sat_call #[.agg #[.bool g, .slice B_f m_f k_f, .int .i64 e]] (by kernel_rfl) fun w7 h7 => ?_
          refine (rnorm_any g _ (val BB xs) e _ (h7.r16 r_f) (by have := val_blen r_m.lim; have := r_m.length.1; have := of_decide_eq_false hL; dsimp only at *; omega) he1 he2).mono ?_
          rintro e v7 ⟨⟨d_x, x_x, A_x, n_x, c_x, h_x, rfl, r_x⟩, hb7⟩
          refine ⟨hb7, [.bool d_x.neg, .slice A_x n_x c_x, .int .i64 d_x.e, .int .i64 x_x], _, rfl, by kernel_rfl, by kernel_rfl, fun g7 => ?_⟩
          replace r_d := g7.rdD r_d; replace r_m := g7.rdD r_m; replace r_zz := g7.rdD r_zz; replace r_p := g7.rdD r_p; replace r_f := g7.r16 r_f
          clear h7 hb7
          refine sat_chkB (by kernel_rfl) ?_
          refine sat_call #[.agg #[.bool d_p.neg, .slice A_p n_p c_p, .int .i64 d_p.e], .int .i64 x_p, .agg #[.bool d_x.neg, .slice A_x n_x c_x, .int .i64 d_x.e], .int .i64 x_x] (by kernel_rfl) fun w8 h8 => ?_
          refine (same2b_any _ _ x_p x_x d_p d_x _ (h8.rdD r_p) (h8.rdD r_x)).mono ?_
          rw [same_of2 h_p (hide (h_x.out.trans (norm_yes hN r_m.lim (by have := r_m.length.1; have := of_decide_eq_false hL; dsimp only at *; omega))))]
          rintro e v8 ⟨rfl, hb8⟩
          refine ⟨hb8, [.bool true], _, rfl, by kernel_rfl, by kernel_rfl, fun g8 => ?_⟩
          replace r_d := g8.rdD r_d; replace r_m := g8.rdD r_m; replace r_zz := g8.rdD r_zz; replace r_p := g8.rdD r_p; replace r_f := g8.r16 r_f; replace r_x := g8.rdD r_x
          clear h8 hb8
          refine sat_prim (v := .bool false) (by kernel_rfl) ?_
          refine sat_false (by kernel_rfl) ?_
          refine sat_prim (v := .int .u64 ((j.natAbs : Nat) : Int)) (Eq.trans (b := some (.int .u64 (IntKind.u64.wrap j))) (by kernel_rfl) (by rw [cvt_pos (by omega) hj2])) ?_
          refine sat_prim (v := .bool false) (Eq.trans (b := some (.bool (decide (j < 0)))) (by kernel_rfl) (by rw [hj])) ?_
          refine sat_false (by kernel_rfl) ?_
          refine sat_call #[.int .i64 j, .int .i64 e] (by kernel_rfl) fun w9 h9 => ?_
          refine (ofT j e _ hj1 hj2 he1 he2 (h9.tab hT)).mono ?_
          rintro e v9 ⟨⟨d_b, x_b, A_b, n_b, c_b, h_b, rfl, r_b⟩, hb9⟩
          refine ⟨hb9, [.bool d_b.neg, .slice A_b n_b c_b, .int .i64 d_b.e, .int .i64 x_b], _, rfl, by kernel_rfl, by kernel_rfl, fun g9 => ?_⟩
          replace r_d := g9.rdD r_d; replace r_m := g9.rdD r_m; replace r_zz := g9.rdD r_zz; replace r_p := g9.rdD r_p; replace r_f := g9.r16 r_f; replace r_x := g9.rdD r_x
          clear h9 hb9
          refine sat_chkB (by kernel_rfl) ?_
          refine sat_prim (v := .bool false) (Eq.trans (b := some (.bool (decide (j < 0)))) (by kernel_rfl) (by rw [hj])) ?_
          refine sat_call #[.int .u64 ((j.natAbs : Nat) : Int)] (by kernel_rfl) fun w10 h10 => ?_
          refine (smallM_any j.natAbs _ (by unfold BB; omega)).mono ?_
          rintro e v10 ⟨⟨B_s, m_s, k_s, rfl, r_s⟩, hb10⟩
          refine ⟨hb10, [.slice B_s m_s k_s], _, rfl, by kernel_rfl, by kernel_rfl, fun g10 => ?_⟩
          replace r_d := g10.rdD r_d; replace r_m := g10.rdD r_m; replace r_zz := g10.rdD r_zz; replace r_p := g10.rdD r_p; replace r_f := g10.r16 r_f; replace r_x := g10.rdD r_x; replace r_b := g10.rdD r_b
          clear h10 hb10
          refine sat_chkB (by kernel_rfl) ?_
          refine sat_call #[.agg #[.bool false, .slice B_s m_s k_s, .int .i64 e]] (by kernel_rfl) fun w11 h11 => ?_
          refine (rnorm_any false _ j.natAbs e _ (h11.r16 r_s) (by have : blen j.natAbs ≤ 64 := blen_le.2 (by omega); omega) he1 he2).mono ?_
          rintro e v11 ⟨⟨d_y, x_y, A_y, n_y, c_y, h_y, rfl, r_y⟩, hb11⟩
          refine ⟨hb11, [.bool d_y.neg, .slice A_y n_y c_y, .int .i64 d_y.e, .int .i64 x_y], _, rfl, by kernel_rfl, by kernel_rfl, fun g11 => ?_⟩
          replace r_d := g11.rdD r_d; replace r_m := g11.rdD r_m; replace r_zz := g11.rdD r_zz; replace r_p := g11.rdD r_p; replace r_f := g11.r16 r_f; replace r_x := g11.rdD r_x; replace r_b := g11.rdD r_b; replace r_s := g11.r16 r_s
          clear h11 hb11
          refine sat_chkB (by kernel_rfl) ?_
          refine sat_call #[.agg #[.bool d.neg, .slice A_d n_d c_d, .int .i64 d.e], .int .i64 k] (by kernel_rfl) fun w12 h12 => ?_
          refine (shiftT _ d _ (h12.rdD r_d) (h12.tab hT) k).mono ?_
          rintro e v12 ⟨⟨d_c, x_c, A_c, n_c, c_c, h_c, rfl, r_c⟩, hb12⟩
          refine ⟨hb12, [.bool d_c.neg, .slice A_c n_c c_c, .int .i64 d_c.e, .int .i64 x_c], _, rfl, by kernel_rfl, by kernel_rfl, fun g12 => ?_⟩
          replace r_d := g12.rdD r_d; replace r_m := g12.rdD r_m; replace r_zz := g12.rdD r_zz; replace r_p := g12.rdD r_p; replace r_f := g12.r16 r_f; replace r_x := g12.rdD r_x; replace r_b := g12.rdD r_b; replace r_s := g12.r16 r_s; replace r_y := g12.rdD r_y
          clear h12 hb12
          refine sat_chkB (by kernel_rfl) ?_
          refine sat_call #[.agg #[.bool d.neg, .slice A_d n_d c_d, .int .i64 d.e], .int .i64 k] (by kernel_rfl) fun w13 h13 => ?_
          refine (rshiftD_any _ d k _ (h13.rdD r_d)).mono ?_
          rintro e v13 ⟨⟨d_z, x_z, A_z, n_z, c_z, h_z, rfl, r_z⟩, hb13⟩
          refine ⟨hb13, [.bool d_z.neg, .slice A_z n_z c_z, .int .i64 d_z.e, .int .i64 x_z], _, rfl, by kernel_rfl, by kernel_rfl, fun g13 => ?_⟩
          replace r_d := g13.rdD r_d; replace r_m := g13.rdD r_m; replace r_zz := g13.rdD r_zz; replace r_p := g13.rdD r_p; replace r_f := g13.r16 r_f; replace r_x := g13.rdD r_x; replace r_b := g13.rdD r_b; replace r_s := g13.r16 r_s; replace r_y := g13.rdD r_y; replace r_c := g13.rdD r_c
          clear h13 hb13
          refine sat_chkB (by kernel_rfl) ?_
          refine sat_call #[] (by kernel_rfl) fun w14 h14 => ?_
          refine (told2_any _ (h14.tab hT)).mono ?_
          rintro e v14 ⟨rfl, hb14⟩
          refine ⟨hb14, [.bool true], _, rfl, by kernel_rfl, by kernel_rfl, fun g14 => ?_⟩
          replace r_d := g14.rdD r_d; replace r_m := g14.rdD r_m; replace r_zz := g14.rdD r_zz; replace r_p := g14.rdD r_p; replace r_f := g14.r16 r_f; replace r_x := g14.rdD r_x; replace r_b := g14.rdD r_b; replace r_s := g14.r16 r_s; replace r_y := g14.rdD r_y; replace r_c := g14.rdD r_c; replace r_z := g14.rdD r_z
          clear h14 hb14
          refine sat_true (by kernel_rfl) ?_
          refine sat_call #[.agg #[.bool d_b.neg, .slice A_b n_b c_b, .int .i64 d_b.e], .int .i64 x_b, .agg #[.bool d_y.neg, .slice A_y n_y c_y, .int .i64 d_y.e], .int .i64 x_y] (by kernel_rfl) fun w15 h15 => ?_
          refine (same2b_any _ _ x_b x_y d_b d_y _ (h15.rdD r_b) (h15.rdD r_y)).mono ?_
          rw [same_of2 h_b (hide (h_y.out.trans (hj ▸ norm_of hj1 hj2)))]
          rintro e v15 ⟨rfl, hb15⟩
          refine ⟨hb15, [.bool true], _, rfl, by kernel_rfl, by kernel_rfl, fun g15 => ?_⟩
          replace r_d := g15.rdD r_d; replace r_m := g15.rdD r_m; replace r_zz := g15.rdD r_zz; replace r_p := g15.rdD r_p; replace r_f := g15.r16 r_f; replace r_x := g15.rdD r_x; replace r_b := g15.rdD r_b; replace r_s := g15.r16 r_s; replace r_y := g15.rdD r_y; replace r_c := g15.rdD r_c; replace r_z := g15.rdD r_z
          clear h15 hb15
          refine sat_true (by kernel_rfl) ?_
          refine sat_call #[.agg #[.bool d_c.neg, .slice A_c n_c c_c, .int .i64 d_c.e], .int .i64 x_c, .agg #[.bool d_z.neg, .slice A_z n_z c_z, .int .i64 d_z.e], .int .i64 x_z] (by kernel_rfl) fun w16 h16 => ?_
          refine (same2b_any _ _ x_c x_z d_c d_z _ (h16.rdD r_c) (h16.rdD r_z)).mono ?_
          rw [same_of2 h_c h_z]
          rintro e v16 ⟨rfl, hb16⟩
          refine ⟨hb16, [.bool true], _, rfl, by kernel_rfl, by kernel_rfl, fun g16 => ?_⟩
          replace r_d := g16.rdD r_d; replace r_m := g16.rdD r_m; replace r_zz := g16.rdD r_zz; replace r_p := g16.rdD r_p; replace r_f := g16.r16 r_f; replace r_x := g16.rdD r_x; replace r_b := g16.rdD r_b; replace r_s := g16.r16 r_s; replace r_y := g16.rdD r_y; replace r_c := g16.rdD r_c; replace r_z := g16.rdD r_z
          clear h16 hb16
          exact sat_ret (.bool true) (by kernel_rfl) fun w9 h9 => rfl
    · refine sat_true (by kernel_rfl) ?_
      refine sat_call #[] (by kernel_rfl) fun w2 h2 => ?_
      refine (told2_any _ (h2.tab hT)).mono ?_
      rintro e v2 ⟨rfl, hb2⟩
      refine ⟨hb2, [.bool true], _, rfl, by kernel_rfl, by kernel_rfl, fun g2 => ?_⟩
      replace r_d := g2.rdD r_d; replace r_m := g2.rdD r_m; replace r_zz := g2.rdD r_zz
      clear h2 hb2
      exact sat_ret (.bool true) (by kernel_rfl) fun w9 h9 => rfl
  · have hj0 := of_decide_eq_true hj
    refine (Sx.run (ls := [.bool g, .slice A_m n_m c_m, .int .i64 e, .int .i64 j, .bool d.neg, .slice A_d n_d c_d, .int .i64 d.e, .int .i64 k]) (shs := [(false, 1), (false, 1), (false, 1), (false, 1), (true, 3), (false, 1)]) (R := fun v _ => v = .bool true) (by kernel_rfl) tr_dyadNorm_eq rfl (by decide) ?_).mono (fun e w' ⟨v, he, hv, hb⟩ => ⟨by rw [he, hv], hb⟩)
    unfold tr_dyadNorm
    refine sat_chkB (by kernel_rfl) ?_
    refine sat_prim (v := .int .i64 n_m) (by kernel_rfl) ?_
    refine sat_prim (v := .bool (decide ((70 : Int) < n_m))) (by kernel_rfl) ?_
    cases hL : (decide ((70 : Int) < n_m))
    · refine sat_false (by kernel_rfl) ?_
      refine sat_call #[.agg #[.bool d.neg, .slice A_d n_d c_d, .int .i64 d.e]] (by kernel_rfl) fun w2 h2 => ?_
      refine (few2_any _ (d) _ (h2.rdD r_d)).mono ?_
      rintro e v2 ⟨rfl, hb2⟩
      refine ⟨hb2, [.bool (decide (d.m.length ≤ 70))], _, rfl, by kernel_rfl, by kernel_rfl, fun g2 => ?_⟩
      replace r_d := g2.rdD r_d; replace r_m := g2.rdD r_m; replace r_zz := g2.rdD r_zz
      clear h2 hb2
      refine sat_prim (v := .bool (!(decide (d.m.length ≤ 70)))) (by kernel_rfl) ?_
      cases hF : (decide (d.m.length ≤ 70))
      · refine sat_true (by kernel_rfl) ?_
        refine sat_call #[] (by kernel_rfl) fun w4 h4 => ?_
        refine (told2_any _ (h4.tab hT)).mono ?_
        rintro e v4 ⟨rfl, hb4⟩
        refine ⟨hb4, [.bool true], _, rfl, by kernel_rfl, by kernel_rfl, fun g4 => ?_⟩
        replace r_d := g4.rdD r_d; replace r_m := g4.rdD r_m; replace r_zz := g4.rdD r_zz
        clear h4 hb4
        exact sat_ret (.bool true) (by kernel_rfl) fun w9 h9 => rfl
      · refine sat_false (by kernel_rfl) ?_
        refine sat_call #[.bool g, .slice A_m n_m c_m, .int .i64 e] (by kernel_rfl) fun w4 h4 => ?_
        refine (normD_any g A_m n_m c_m xs e _ (h4.rdD r_m) (h4.tab hT)).mono ?_
        rintro e v4 ⟨⟨d_p, x_p, A_p, n_p, c_p, h_p, rfl, r_p⟩, hb4⟩
        refine ⟨hb4, [.bool d_p.neg, .slice A_p n_p c_p, .int .i64 d_p.e, .int .i64 x_p], _, rfl, by kernel_rfl, by kernel_rfl, fun g4 => ?_⟩
        replace r_d := g4.rdD r_d; replace r_m := g4.rdD r_m; replace r_zz := g4.rdD r_zz
        clear h4 hb4
        refine sat_chkB (by kernel_rfl) ?_
        cases hN : mayN xs
        · obtain ⟨rfl, rfl⟩ := dx2n h_p (norm_no hN)
          refine sat_call #[.slice A_m n_m c_m] (by kernel_rfl) fun w5 h5 => ?_
          refine (rmayM_any g A_m n_m c_m xs e _ (h5.rdD r_m)).mono ?_
          rw [hN]
          rintro e v5 ⟨rfl, hb5⟩
          refine ⟨hb5, [.bool false], _, rfl, by kernel_rfl, by kernel_rfl, fun g5 => ?_⟩
          replace r_d := g5.rdD r_d; replace r_m := g5.rdD r_m; replace r_zz := g5.rdD r_zz; replace r_p := g5.rdD r_p
          clear h5 hb5
          refine sat_prim (v := .bool true) (by kernel_rfl) ?_
          refine sat_true (by kernel_rfl) ?_
          refine sat_prim (v := .bool ((1 : Int) != 1)) (by kernel_rfl) ?_
          refine sat_false (by kernel_rfl) ?_
          refine sat_call #[.agg #[.bool Dy.zero.neg, .slice A_p n_p c_p, .int .i64 Dy.zero.e], .agg #[.bool false, .slice none 0 0, .int .i64 0]] (by kernel_rfl) fun w6 h6 => ?_
          refine (rsame_any _ _ Dy.zero Dy.zero _ (h6.rdD r_p) (h6.rdD r_zz)).mono ?_
          rw [sameD_self]
          rintro e v6 ⟨rfl, hb6⟩
          refine ⟨hb6, [.bool true], _, rfl, by kernel_rfl, by kernel_rfl, fun g6 => ?_⟩
          replace r_d := g6.rdD r_d; replace r_m := g6.rdD r_m; replace r_zz := g6.rdD r_zz; replace r_p := g6.rdD r_p
          clear h6 hb6
          refine sat_prim (v := .bool false) (by kernel_rfl) ?_
          refine sat_false (by kernel_rfl) ?_
          refine sat_prim (v := .int .u64 (IntKind.u64.wrap j)) (by kernel_rfl) ?_
          refine sat_prim (v := .bool true) (Eq.trans (b := some (.bool (decide (j < 0)))) (by kernel_rfl) (by rw [hj])) ?_
          refine sat_true (by kernel_rfl) ?_
          refine sat_prim (v := .int .u64 ((j.natAbs : Nat) : Int)) (Eq.trans (b := some (.int .u64 (IntKind.u64.wrap (0 - IntKind.u64.wrap j)))) (by kernel_rfl) (by rw [cvt_neg (by omega) hj1])) ?_
          refine sat_call #[.int .i64 j, .int .i64 e] (by kernel_rfl) fun w7 h7 => ?_
          refine (ofT j e _ hj1 hj2 he1 he2 (h7.tab hT)).mono ?_
          rintro e v7 ⟨⟨d_b, x_b, A_b, n_b, c_b, h_b, rfl, r_b⟩, hb7⟩
          refine ⟨hb7, [.bool d_b.neg, .slice A_b n_b c_b, .int .i64 d_b.e, .int .i64 x_b], _, rfl, by kernel_rfl, by kernel_rfl, fun g7 => ?_⟩
          replace r_d := g7.rdD r_d; replace r_m := g7.rdD r_m; replace r_zz := g7.rdD r_zz; replace r_p := g7.rdD r_p
          clear h7 hb7
          refine sat_chkB (by kernel_rfl) ?_
          refine sat_prim (v := .bool true) (Eq.trans (b := some (.bool (decide (j < 0)))) (by kernel_rfl) (by rw [hj])) ?_
          refine sat_call #[.int .u64 ((j.natAbs : Nat) : Int)] (by kernel_rfl) fun w8 h8 => ?_
          refine (smallM_any j.natAbs _ (by unfold BB; omega)).mono ?_
          rintro e v8 ⟨⟨B_s, m_s, k_s, rfl, r_s⟩, hb8⟩
          refine ⟨hb8, [.slice B_s m_s k_s], _, rfl, by kernel_rfl, by kernel_rfl, fun g8 => ?_⟩
          replace r_d := g8.rdD r_d; replace r_m := g8.rdD r_m; replace r_zz := g8.rdD r_zz; replace r_p := g8.rdD r_p; replace r_b := g8.rdD r_b
          clear h8 hb8
          refine sat_chkB (by kernel_rfl) ?_
          refine sat_call #[.agg #[.bool true, .slice B_s m_s k_s, .int .i64 e]] (by kernel_rfl) fun w9 h9 => ?_
          refine (rnorm_any true _ j.natAbs e _ (h9.r16 r_s) (by have : blen j.natAbs ≤ 64 := blen_le.2 (by omega); omega) he1 he2).mono ?_
          rintro e v9 ⟨⟨d_y, x_y, A_y, n_y, c_y, h_y, rfl, r_y⟩, hb9⟩
          refine ⟨hb9, [.bool d_y.neg, .slice A_y n_y c_y, .int .i64 d_y.e, .int .i64 x_y], _, rfl, by kernel_rfl, by kernel_rfl, fun g9 => ?_⟩
          replace r_d := g9.rdD r_d; replace r_m := g9.rdD r_m; replace r_zz := g9.rdD r_zz; replace r_p := g9.rdD r_p; replace r_b := g9.rdD r_b; replace r_s := g9.r16 r_s
          clear h9 hb9
          refine sat_chkB (by kernel_rfl) ?_
          refine sat_call #[.agg #[.bool d.neg, .slice A_d n_d c_d, .int .i64 d.e], .int .i64 k] (by kernel_rfl) fun w10 h10 => ?_
          refine (shiftT _ d _ (h10.rdD r_d) (h10.tab hT) k).mono ?_
          rintro e v10 ⟨⟨d_c, x_c, A_c, n_c, c_c, h_c, rfl, r_c⟩, hb10⟩
          refine ⟨hb10, [.bool d_c.neg, .slice A_c n_c c_c, .int .i64 d_c.e, .int .i64 x_c], _, rfl, by kernel_rfl, by kernel_rfl, fun g10 => ?_⟩
          replace r_d := g10.rdD r_d; replace r_m := g10.rdD r_m; replace r_zz := g10.rdD r_zz; replace r_p := g10.rdD r_p; replace r_b := g10.rdD r_b; replace r_s := g10.r16 r_s; replace r_y := g10.rdD r_y
          clear h10 hb10
          refine sat_chkB (by kernel_rfl) ?_
          refine sat_call #[.agg #[.bool d.neg, .slice A_d n_d c_d, .int .i64 d.e], .int .i64 k] (by kernel_rfl) fun w11 h11 => ?_
          refine (rshiftD_any _ d k _ (h11.rdD r_d)).mono ?_
          rintro e v11 ⟨⟨d_z, x_z, A_z, n_z, c_z, h_z, rfl, r_z⟩, hb11⟩
          refine ⟨hb11, [.bool d_z.neg, .slice A_z n_z c_z, .int .i64 d_z.e, .int .i64 x_z], _, rfl, by kernel_rfl, by kernel_rfl, fun g11 => ?_⟩
          replace r_d := g11.rdD r_d; replace r_m := g11.rdD r_m; replace r_zz := g11.rdD r_zz; replace r_p := g11.rdD r_p; replace r_b := g11.rdD r_b; replace r_s := g11.r16 r_s; replace r_y := g11.rdD r_y; replace r_c := g11.rdD r_c
          clear h11 hb11
          refine sat_chkB (by kernel_rfl) ?_
          refine sat_call #[] (by kernel_rfl) fun w12 h12 => ?_
          refine (told2_any _ (h12.tab hT)).mono ?_
          rintro e v12 ⟨rfl, hb12⟩
          refine ⟨hb12, [.bool true], _, rfl, by kernel_rfl, by kernel_rfl, fun g12 => ?_⟩
          replace r_d := g12.rdD r_d; replace r_m := g12.rdD r_m; replace r_zz := g12.rdD r_zz; replace r_p := g12.rdD r_p; replace r_b := g12.rdD r_b; replace r_s := g12.r16 r_s; replace r_y := g12.rdD r_y; replace r_c := g12.rdD r_c; replace r_z := g12.rdD r_z
          clear h12 hb12
          refine sat_true (by kernel_rfl) ?_
          refine sat_call #[.agg #[.bool d_b.neg, .slice A_b n_b c_b, .int .i64 d_b.e], .int .i64 x_b, .agg #[.bool d_y.neg, .slice A_y n_y c_y, .int .i64 d_y.e], .int .i64 x_y] (by kernel_rfl) fun w13 h13 => ?_
          refine (same2b_any _ _ x_b x_y d_b d_y _ (h13.rdD r_b) (h13.rdD r_y)).mono ?_
          rw [same_of2 h_b (hide (h_y.out.trans (hj ▸ norm_of hj1 hj2)))]
          rintro e v13 ⟨rfl, hb13⟩
          refine ⟨hb13, [.bool true], _, rfl, by kernel_rfl, by kernel_rfl, fun g13 => ?_⟩
          replace r_d := g13.rdD r_d; replace r_m := g13.rdD r_m; replace r_zz := g13.rdD r_zz; replace r_p := g13.rdD r_p; replace r_b := g13.rdD r_b; replace r_s := g13.r16 r_s; replace r_y := g13.rdD r_y; replace r_c := g13.rdD r_c; replace r_z := g13.rdD r_z
          clear h13 hb13
          refine sat_true (by kernel_rfl) ?_
          refine sat_call #[.agg #[.bool d_c.neg, .slice A_c n_c c_c, .int .i64 d_c.e], .int .i64 x_c, .agg #[.bool d_z.neg, .slice A_z n_z c_z, .int .i64 d_z.e], .int .i64 x_z] (by kernel_rfl) fun w14 h14 => ?_
          refine (same2b_any _ _ x_c x_z d_c d_z _ (h14.rdD r_c) (h14.rdD r_z)).mono ?_
          rw [same_of2 h_c h_z]
          rintro e v14 ⟨rfl, hb14⟩
          refine ⟨hb14, [.bool true], _, rfl, by kernel_rfl, by kernel_rfl, fun g14 => ?_⟩
          replace r_d := g14.rdD r_d; replace r_m := g14.rdD r_m; replace r_zz := g14.rdD r_zz; replace r_p := g14.rdD r_p; replace r_b := g14.rdD r_b; replace r_s := g14.r16 r_s; replace r_y := g14.rdD r_y; replace r_c := g14.rdD r_c; replace r_z := g14.rdD r_z
          clear h14 hb14
          exact sat_ret (.bool true) (by kernel_rfl) fun w9 h9 => rfl
        · refine sat_call #[.slice A_m n_m c_m] (by kernel_rfl) fun w5 h5 => ?_
          refine (rmayM_any g A_m n_m c_m xs e _ (h5.rdD r_m)).mono ?_
          rw [hN]
          rintro e v5 ⟨rfl, hb5⟩
          refine ⟨hb5, [.bool true], _, rfl, by kernel_rfl, by kernel_rfl, fun g5 => ?_⟩
          replace r_d := g5.rdD r_d; replace r_m := g5.rdD r_m; replace r_zz := g5.rdD r_zz; replace r_p := g5.rdD r_p
          clear h5 hb5
          refine sat_prim (v := .bool false) (by kernel_rfl) ?_
          refine sat_false (by kernel_rfl) ?_
          refine sat_call #[.slice A_m n_m c_m] (by kernel_rfl) fun w6 h6 => ?_
          refine (fromM_any g A_m n_m c_m xs e _ (h6.rdD r_m) (by have := of_decide_eq_false hL; omega)).mono ?_
          rintro e v6 ⟨⟨B_f, m_f, k_f, rfl, r_f⟩, hb6⟩
          refine ⟨hb6, [.slice B_f m_f k_f], _, rfl, by kernel_rfl, by kernel_rfl, fun g6 => ?_⟩
          replace r_d := g6.rdD r_d; replace r_m := g6.rdD r_m; replace r_zz := g6.rdD r_zz; replace r_p := g6.rdD r_p
          clear h6 hb6
          refine sat_chkB (by kernel_rfl) ?_
          refine sat_call #[.agg #[.bool g, .slice B_f m_f k_f, .int .i64 e]] (by kernel_rfl) fun w7 h7 => ?_
          refine (rnorm_any g _ (val BB xs) e _ (h7.r16 r_f) (by have := val_blen r_m.lim; have := r_m.length.1; have := of_decide_eq_false hL; dsimp only at *; omega) he1 he2).mono ?_
          rintro e v7 ⟨⟨d_x, x_x, A_x, n_x, c_x, h_x, rfl, r_x⟩, hb7⟩
          refine ⟨hb7, [.bool d_x.neg, .slice A_x n_x c_x, .int .i64 d_x.e, .int .i64 x_x], _, rfl, by kernel_rfl, by kernel_rfl, fun g7 => ?_⟩
          replace r_d := g7.rdD r_d; replace r_m := g7.rdD r_m; replace r_zz := g7.rdD r_zz; replace r_p := g7.rdD r_p; replace r_f := g7.r16 r_f
          clear h7 hb7
          refine sat_chkB (by kernel_rfl) ?_
          refine sat_call #[.agg #[.bool d_p.neg, .slice A_p n_p c_p, .int .i64 d_p.e], .int .i64 x_p, .agg #[.bool d_x.neg, .slice A_x n_x c_x, .int .i64 d_x.e], .int .i64 x_x] (by kernel_rfl) fun w8 h8 => ?_
          refine (same2b_any _ _ x_p x_x d_p d_x _ (h8.rdD r_p) (h8.rdD r_x)).mono ?_
          rw [same_of2 h_p (hide (h_x.out.trans (norm_yes hN r_m.lim (by have := r_m.length.1; have := of_decide_eq_false hL; dsimp only at *; omega))))]
          rintro e v8 ⟨rfl, hb8⟩
          refine ⟨hb8, [.bool true], _, rfl, by kernel_rfl, by kernel_rfl, fun g8 => ?_⟩
          replace r_d := g8.rdD r_d; replace r_m := g8.rdD r_m; replace r_zz := g8.rdD r_zz; replace r_p := g8.rdD r_p; replace r_f := g8.r16 r_f; replace r_x := g8.rdD r_x
          clear h8 hb8
          refine sat_prim (v := .bool false) (by kernel_rfl) ?_
          refine sat_false (by kernel_rfl) ?_
          refine sat_prim (v := .int .u64 (IntKind.u64.wrap j)) (by kernel_rfl) ?_
          refine sat_prim (v := .bool true) (Eq.trans (b := some (.bool (decide (j < 0)))) (by kernel_rfl) (by rw [hj])) ?_
          refine sat_true (by kernel_rfl) ?_
          refine sat_prim (v := .int .u64 ((j.natAbs : Nat) : Int)) (Eq.trans (b := some (.int .u64 (IntKind.u64.wrap (0 - IntKind.u64.wrap j)))) (by kernel_rfl) (by rw [cvt_neg (by omega) hj1])) ?_
          refine sat_call #[.int .i64 j, .int .i64 e] (by kernel_rfl) fun w9 h9 => ?_
          refine (ofT j e _ hj1 hj2 he1 he2 (h9.tab hT)).mono ?_
          rintro e v9 ⟨⟨d_b, x_b, A_b, n_b, c_b, h_b, rfl, r_b⟩, hb9⟩
          refine ⟨hb9, [.bool d_b.neg, .slice A_b n_b c_b, .int .i64 d_b.e, .int .i64 x_b], _, rfl, by kernel_rfl, by kernel_rfl, fun g9 => ?_⟩
          replace r_d := g9.rdD r_d; replace r_m := g9.rdD r_m; replace r_zz := g9.rdD r_zz; replace r_p := g9.rdD r_p; replace r_f := g9.r16 r_f; replace r_x := g9.rdD r_x
          clear h9 hb9
          refine sat_chkB (by kernel_rfl) ?_
          refine sat_prim (v := .bool true) (Eq.trans (b := some (.bool (decide (j < 0)))) (by kernel_rfl) (by rw [hj])) ?_
          refine sat_call #[.int .u64 ((j.natAbs : Nat) : Int)] (by kernel_rfl) fun w10 h10 => ?_
          refine (smallM_any j.natAbs _ (by unfold BB; omega)).mono ?_
          rintro e v10 ⟨⟨B_s, m_s, k_s, rfl, r_s⟩, hb10⟩
          refine ⟨hb10, [.slice B_s m_s k_s], _, rfl, by kernel_rfl, by kernel_rfl, fun g10 => ?_⟩
          replace r_d := g10.rdD r_d; replace r_m := g10.rdD r_m; replace r_zz := g10.rdD r_zz; replace r_p := g10.rdD r_p; replace r_f := g10.r16 r_f; replace r_x := g10.rdD r_x; replace r_b := g10.rdD r_b
          clear h10 hb10
          refine sat_chkB (by kernel_rfl) ?_
          refine sat_call #[.agg #[.bool true, .slice B_s m_s k_s, .int .i64 e]] (by kernel_rfl) fun w11 h11 => ?_
          refine (rnorm_any true _ j.natAbs e _ (h11.r16 r_s) (by have : blen j.natAbs ≤ 64 := blen_le.2 (by omega); omega) he1 he2).mono ?_
          rintro e v11 ⟨⟨d_y, x_y, A_y, n_y, c_y, h_y, rfl, r_y⟩, hb11⟩
          refine ⟨hb11, [.bool d_y.neg, .slice A_y n_y c_y, .int .i64 d_y.e, .int .i64 x_y], _, rfl, by kernel_rfl, by kernel_rfl, fun g11 => ?_⟩
          replace r_d := g11.rdD r_d; replace r_m := g11.rdD r_m; replace r_zz := g11.rdD r_zz; replace r_p := g11.rdD r_p; replace r_f := g11.r16 r_f; replace r_x := g11.rdD r_x; replace r_b := g11.rdD r_b; replace r_s := g11.r16 r_s
          clear h11 hb11
          refine sat_chkB (by kernel_rfl) ?_
          refine sat_call #[.agg #[.bool d.neg, .slice A_d n_d c_d, .int .i64 d.e], .int .i64 k] (by kernel_rfl) fun w12 h12 => ?_
          refine (shiftT _ d _ (h12.rdD r_d) (h12.tab hT) k).mono ?_
          rintro e v12 ⟨⟨d_c, x_c, A_c, n_c, c_c, h_c, rfl, r_c⟩, hb12⟩
          refine ⟨hb12, [.bool d_c.neg, .slice A_c n_c c_c, .int .i64 d_c.e, .int .i64 x_c], _, rfl, by kernel_rfl, by kernel_rfl, fun g12 => ?_⟩
          replace r_d := g12.rdD r_d; replace r_m := g12.rdD r_m; replace r_zz := g12.rdD r_zz; replace r_p := g12.rdD r_p; replace r_f := g12.r16 r_f; replace r_x := g12.rdD r_x; replace r_b := g12.rdD r_b; replace r_s := g12.r16 r_s; replace r_y := g12.rdD r_y
          clear h12 hb12
          refine sat_chkB (by kernel_rfl) ?_
          refine sat_call #[.agg #[.bool d.neg, .slice A_d n_d c_d, .int .i64 d.e], .int .i64 k] (by kernel_rfl) fun w13 h13 => ?_
          refine (rshiftD_any _ d k _ (h13.rdD r_d)).mono ?_
          rintro e v13 ⟨⟨d_z, x_z, A_z, n_z, c_z, h_z, rfl, r_z⟩, hb13⟩
          refine ⟨hb13, [.bool d_z.neg, .slice A_z n_z c_z, .int .i64 d_z.e, .int .i64 x_z], _, rfl, by kernel_rfl, by kernel_rfl, fun g13 => ?_⟩
          replace r_d := g13.rdD r_d; replace r_m := g13.rdD r_m; replace r_zz := g13.rdD r_zz; replace r_p := g13.rdD r_p; replace r_f := g13.r16 r_f; replace r_x := g13.rdD r_x; replace r_b := g13.rdD r_b; replace r_s := g13.r16 r_s; replace r_y := g13.rdD r_y; replace r_c := g13.rdD r_c
          clear h13 hb13
          refine sat_chkB (by kernel_rfl) ?_
          refine sat_call #[] (by kernel_rfl) fun w14 h14 => ?_
          refine (told2_any _ (h14.tab hT)).mono ?_
          rintro e v14 ⟨rfl, hb14⟩
          refine ⟨hb14, [.bool true], _, rfl, by kernel_rfl, by kernel_rfl, fun g14 => ?_⟩
          replace r_d := g14.rdD r_d; replace r_m := g14.rdD r_m; replace r_zz := g14.rdD r_zz; replace r_p := g14.rdD r_p; replace r_f := g14.r16 r_f; replace r_x := g14.rdD r_x; replace r_b := g14.rdD r_b; replace r_s := g14.r16 r_s; replace r_y := g14.rdD r_y; replace r_c := g14.rdD r_c; replace r_z := g14.rdD r_z
          clear h14 hb14
          refine sat_true (by kernel_rfl) ?_
          refine sat_call #[.agg #[.bool d_b.neg, .slice A_b n_b c_b, .int .i64 d_b.e], .int .i64 x_b, .agg #[.bool d_y.neg, .slice A_y n_y c_y, .int .i64 d_y.e], .int .i64 x_y] (by kernel_rfl) fun w15 h15 => ?_
          refine (same2b_any _ _ x_b x_y d_b d_y _ (h15.rdD r_b) (h15.rdD r_y)).mono ?_
          rw [same_of2 h_b (hide (h_y.out.trans (hj ▸ norm_of hj1 hj2)))]
          rintro e v15 ⟨rfl, hb15⟩
          refine ⟨hb15, [.bool true], _, rfl, by kernel_rfl, by kernel_rfl, fun g15 => ?_⟩
          replace r_d := g15.rdD r_d; replace r_m := g15.rdD r_m; replace r_zz := g15.rdD r_zz; replace r_p := g15.rdD r_p; replace r_f := g15.r16 r_f; replace r_x := g15.rdD r_x; replace r_b := g15.rdD r_b; replace r_s := g15.r16 r_s; replace r_y := g15.rdD r_y; replace r_c := g15.rdD r_c; replace r_z := g15.rdD r_z
          clear h15 hb15
          refine sat_true (by kernel_rfl) ?_
          refine sat_call #[.agg #[.bool d_c.neg, .slice A_c n_c c_c, .int .i64 d_c.e], .int .i64 x_c, .agg #[.bool d_z.neg, .slice A_z n_z c_z, .int .i64 d_z.e], .int .i64 x_z] (by kernel_rfl) fun w16 h16 => ?_
          refine (same2b_any _ _ x_c x_z d_c d_z _ (h16.rdD r_c) (h16.rdD r_z)).mono ?_
          rw [same_of2 h_c h_z]
          rintro e v16 ⟨rfl, hb16⟩
          refine ⟨hb16, [.bool true], _, rfl, by kernel_rfl, by kernel_rfl, fun g16 => ?_⟩
          replace r_d := g16.rdD r_d; replace r_m := g16.rdD r_m; replace r_zz := g16.rdD r_zz; replace r_p := g16.rdD r_p; replace r_f := g16.r16 r_f; replace r_x := g16.rdD r_x; replace r_b := g16.rdD r_b; replace r_s := g16.r16 r_s; replace r_y := g16.rdD r_y; replace r_c := g16.rdD r_c; replace r_z := g16.rdD r_z
          clear h16 hb16
          exact sat_ret (.bool true) (by kernel_rfl) fun w9 h9 => rfl
    · refine sat_true (by kernel_rfl) ?_
      refine sat_call #[] (by kernel_rfl) fun w2 h2 => ?_
      refine (told2_any _ (h2.tab hT)).mono ?_
      rintro e v2 ⟨rfl, hb2⟩
      refine ⟨hb2, [.bool true], _, rfl, by kernel_rfl, by kernel_rfl, fun g2 => ?_⟩
      replace r_d := g2.rdD r_d; replace r_m := g2.rdD r_m; replace r_zz := g2.rdD r_zz
      clear h2 hb2
      exact sat_ret (.bool true) (by kernel_rfl) fun w9 h9 => rfl

end Go.Proofs.YtaifjldpjkabjaaDoor
