/- sluicewayref1.Shift and the walk of DyadNorm, by their trees. Printed by wip/mk_L2G.py. -/
import Derived.Test.YteodljieiloebaaDoorSxGx
import Derived.Test.YteodljieiloebaaDoorRfMx
import Derived.Test.YteodljieiloebaaDoorRfDx
import Derived.Test.YteodljieiloebaaDoorL2Ax
namespace Go.Proofs.YteodljieiloebaaDoor
open Go.RowKit Pl
open Sx (sat_call sat_chk sat_prim sat_ite sat_true sat_false sat_trueP sat_falseP sat_ret sat_row all_nil all_cons okB okS okI)

theorem shiftS_eq {d : Dy} {n : Int} (h : mayD d = true) (hl : Lim BB d.m) (h0 : d.m.length ≠ 0) :
    shiftS d n = if n ≤ 2097152 ∧ -2097152 ≤ n ∧ -1048576 ≤ d.e + n ∧ d.e + n ≤ 1048576 then (⟨d.neg, d.m, d.e + n⟩, 0) else (Dy.zero, 3) := by
  obtain ⟨hc, h64, _, _⟩ := mayD_limbs h
  obtain ⟨v1, v0⟩ := mayD_val h h0
  unfold shiftS
  rw [if_neg (by simp [h]), if_neg h0]
  by_cases hn : n ≤ 2097152 ∧ -2097152 ≤ n
  · rw [if_neg (by simpa using hn), fitS_eq v0, tz_odd v1, Nat.pow_zero, Nat.div_one, limbs_of BB_gt1 hl hc rfl, if_neg (by omega)]
    by_cases hr : -1048576 ≤ d.e + n ∧ d.e + n ≤ 1048576
    · rw [if_pos (by simpa using hr), if_pos ⟨hn.1, hn.2, hr.1, hr.2⟩]; simp
    · rw [if_neg (by simpa using hr), if_neg (fun q => hr ⟨q.2.2.1, q.2.2.2⟩)]
  · rw [if_pos hn, if_neg (fun q => hn ⟨q.1, q.2.1⟩)]
theorem shift_no {d : Dy} {n : Int} (h : mayD d = false) : (Dy.zero, (1 : Int)) = shiftS d n := by unfold shiftS; rw [if_pos h]
theorem shift_nil {d : Dy} {n : Int} (h : mayD d = true) (h0 : d.m.length = 0) : (d, (0 : Int)) = shiftS d n := by unfold shiftS; rw [if_neg (by simp [h]), if_pos h0]
theorem RdD.length {w : World} {d : Dy} {A : Option Addr} {n c : Nat} (h : RdD w (.agg #[.bool d.neg, .slice A n c, .int .i64 d.e]) d) : d.m.length = n ∧ RdN .u64 w A n c d.m := by
  obtain ⟨A', n', c', e, hr, _⟩ := h
  injection e with e
  have := congrArg Array.toList e
  simp only [List.cons.injEq, Value.slice.injEq, and_true, true_and] at this
  obtain ⟨rfl, rfl, rfl⟩ := this
  exact ⟨hr.len, hr⟩

theorem RdD.moved {w : World} {d : Dy} {A : Option Addr} {n c : Nat} {e : Int} (h : RdD w (.agg #[.bool d.neg, .slice A n c, .int .i64 d.e]) d) (h1 : -9223372036854775808 ≤ e) (h2 : e ≤ 9223372036854775807) :
    RdD w (.agg #[.bool d.neg, .slice A n c, .int .i64 e]) ⟨d.neg, d.m, e⟩ := ⟨A, n, c, rfl, h.length.2, h.lim, h1, h2⟩

def tr_rshift : Sx.Tree := .chk [.lf 0, .lf 1, .lf 2] (.call 28 [.ag [.lf 0, .lf 1, .lf 2]] .one (.prim .not [.lf 4] (.ite (.lf 5) (.ret (.tup [(true, [.bit false, .nil, .num .i64 0]), (false, [.num .i64 1])])) (.prim .len [.lf 1] (.prim (.bin .eql) [.lf 6, .num .i64 0] (.ite (.lf 7) (.chk [.lf 0, .lf 1, .lf 2] (.ret (.tup [(true, [.lf 0, .lf 1, .lf 2]), (false, [.num .i64 0])]))) (.prim (.bin .gtr) [.lf 3, .num .i64 4194304] (.ite (.lf 8) (.ret (.tup [(true, [.bit false, .nil, .num .i64 0]), (false, [.num .i64 3])])) (.prim (.bin .lss) [.lf 3, .num .i64 ((-4194304))] (.ite (.lf 9) (.ret (.tup [(true, [.bit false, .nil, .num .i64 0]), (false, [.num .i64 3])])) (.prim (.bin .add) [.lf 2, .lf 3] (.prim (.bin .gtr) [.lf 10, .num .i64 1048576] (.ite (.lf 11) (.ret (.tup [(true, [.bit false, .nil, .num .i64 0]), (false, [.num .i64 3])])) (.prim (.bin .add) [.lf 2, .lf 3] (.prim (.bin .lss) [.lf 12, .num .i64 ((-1048576))] (.ite (.lf 13) (.ret (.tup [(true, [.bit false, .nil, .num .i64 0]), (false, [.num .i64 3])])) (.prim (.bin .add) [.lf 2, .lf 3] (.chk [.lf 14] (.chk [.lf 0, .lf 1, .lf 14] (.ret (.tup [(true, [.lf 0, .lf 1, .lf 14]), (false, [.num .i64 0])])))))))))))))))))))))
def tr_same2b : Sx.Tree := .chk [.lf 0, .lf 1, .lf 2] (.chk [.lf 4, .lf 5, .lf 6] (.prim (.bin .eql) [.lf 3, .lf 7] (.ite (.lf 8) (.call 61 [.ag [.lf 0, .lf 1, .lf 2], .ag [.lf 4, .lf 5, .lf 6]] .one (.ret (.one (.lf 9)))) (.ret (.one (.bit false))))))
theorem same_of2 {r : Dy × Int} {d1 d2 : Dy} {x1 x2 : Int} (h : Hid ((d1, x1) = r)) (k : Hid ((d2, x2) = r)) : ((x1 == x2) && sameD d1 d2) = true := by
  have e := h.out.trans k.out.symm
  injection e with e1 e2
  rw [e1, e2, sameD_self]
  simp
theorem dx2n {d d' : Dy} {x x' : Int} {r : Dy × Int} (k : Hid ((d, x) = r)) (e : r = (d', x')) : d = d' ∧ x = x' := by
  have := k.out.trans e
  injection this with h1 h2
  exact ⟨h1, h2⟩
theorem norm_no {g : Bool} {xs : List Nat} {e : Int} (h : mayN xs = false) : normS g xs e = (Dy.zero, 1) := by unfold normS; rw [if_neg (by simp [h])]
theorem norm_yes {g : Bool} {xs : List Nat} {e : Int} (h : mayN xs = true) (hl : Lim BB xs) (hn : xs.length ≤ 70) : normR g (val BB xs) e = normS g xs e := by
  unfold normS
  rw [if_pos h]
  by_cases h0 : val BB xs = 0
  · rw [h0]; unfold normR; rw [if_pos rfl, fitS_zero]
  · exact normR_S (.inl (by have := tz_len hl h0; omega))
theorem norm_of {j e : Int} (h1 : -9223372036854775808 ≤ j) (h2 : j ≤ 9223372036854775807) : normR (decide (j < 0)) j.natAbs e = ofS j e := by
  unfold ofS
  by_cases h0 : j.natAbs = 0
  · rw [h0]; unfold normR; rw [if_pos rfl, fitS_zero]
  · refine normR_S (.inl ?_)
    have a := tz_lt_blen h0
    have b : blen j.natAbs ≤ 64 := blen_le.2 (by omega)
    omega
theorem cvt_neg {j : Int} (h : j < 0) (h1 : -9223372036854775808 ≤ j) : IntKind.u64.wrap (0 - IntKind.u64.wrap j) = ((j.natAbs : Nat) : Int) := by
  rw [IntKind.wrap_u64, IntKind.wrap_u64]; omega
theorem cvt_pos {j : Int} (h : 0 ≤ j) (h1 : j ≤ 9223372036854775807) : IntKind.u64.wrap j = ((j.natAbs : Nat) : Int) := by
  rw [IntKind.wrap_u64]; omega
theorem rmayM_any (g : Bool) (A : Option Addr) (n c : Nat) (xs : List Nat) (e : Int) (w : World) (h : RdD w (.agg #[.bool (Dy.mk g xs e).neg, .slice A n c, .int .i64 (Dy.mk g xs e).e]) (Dy.mk g xs e)) :
    Calls Tryd.prog 59 #[.slice A n c] w fun x w' => x = .returned (.bool (mayN xs)) ∧ Below w.heap.size w w' :=
  (rmay_any A n c xs w h.length.2).mono fun _ _ ⟨e, hw⟩ => ⟨e, hw ▸ Below.refl _ _⟩
theorem fromM_any (g : Bool) (A : Option Addr) (n c : Nat) (xs : List Nat) (e : Int) (w : World) (h : RdD w (.agg #[.bool (Dy.mk g xs e).neg, .slice A n c, .int .i64 (Dy.mk g xs e).e]) (Dy.mk g xs e)) (hn : n ≤ 70) :
    Calls Tryd.prog 30 #[.slice A n c] w fun x w' => (∃ B m k, x = .returned (.slice B m k) ∧ R16 w' (.slice B m k) (val BB xs)) ∧ Below w.heap.size w w' :=
  (from_any A n c xs w h.length.2 h.lim (by omega)).mono fun _ _ ⟨B, m, k, e, hr, hb⟩ => ⟨⟨B, m, k, e, _, _, _, rfl, hr⟩, hb⟩
end Go.Proofs.YteodljieiloebaaDoor
