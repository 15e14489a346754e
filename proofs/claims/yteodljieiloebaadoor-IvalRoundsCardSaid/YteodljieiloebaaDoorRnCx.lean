/- round.Bits, by its tree. Printed by wip/mk_RnC.py. -/
import Derived.Test.YteodljieiloebaaDoorRnBx
import Derived.Test.YteodljieiloebaaDoorL2Gx
namespace Go.Proofs.YteodljieiloebaaDoor
open Go.RowKit Pl
open Sx (sat_call sat_chk sat_prim sat_ite sat_true sat_false sat_trueP sat_falseP sat_ret sat_row all_nil all_cons okB okS okI)

/-- round.Bits. -/
def bitsD (d : Dy) : Int := bif mayD d then ((blen (val BB d.m) : Nat) : Int) else 0
theorem sizeM_any {w : World} {d : Dy} {A : Option Addr} {n c : Nat} (h : RdD w (.agg #[.bool d.neg, .slice A n c, .int .i64 d.e]) d) (hm : mayD d = true) :
    Calls Tryd.prog 53 #[.slice A n c] w fun e w' => e = .returned (.int .i64 ((blen (val BB d.m) : Nat) : Int)) ∧ Below w.heap.size w w' :=
  sizeB (mayD_rd h.length.2 h.lim hm) (by have := mayD_blen h.lim hm; omega)

def tr_rbits : Sx.Tree := .chk [.lf 0, .lf 1, .lf 2] (.call 36 [.ag [.lf 0, .lf 1, .lf 2]] .one (.prim .not [.lf 3] (.ite (.lf 4) (.ret (.one (.num .i64 0))) (.call 53 [.one (.lf 1)] .one (.ret (.one (.lf 5)))))))
theorem tr_rbits_eq : Sx.treeOf Tryd.prog 21 = some tr_rbits := by kernel_rfl

theorem bitsD_any (v_d : Value) (d : Dy) (w : World) (h_d : RdD w v_d d) :
    Calls Tryd.prog 21 #[v_d] w fun e w' => e = .returned (.int .i64 (bitsD d)) ∧ Below w.heap.size w w' := by
  have r_d := h_d
  obtain ⟨A_d, n_d, c_d, rfl, _⟩ := h_d
  refine (Sx.run (ls := [.bool d.neg, .slice A_d n_d c_d, .int .i64 d.e]) (shs := [(true, 3)]) (R := fun v _ => v = .int .i64 (bitsD d)) (by kernel_rfl) tr_rbits_eq rfl (by decide) ?_).mono (fun e w' ⟨v, he, hv, hb⟩ => ⟨by rw [he, hv], hb⟩)
  unfold tr_rbits
  refine sat_chkB (by kernel_rfl) ?_
  refine sat_call #[.agg #[.bool d.neg, .slice A_d n_d c_d, .int .i64 d.e]] (by kernel_rfl) fun w1 h1 => ?_
  refine (mayD_any _ (d) _ (h1.rdD r_d)).mono ?_
  rintro e v1 ⟨rfl, hb1⟩
  refine ⟨hb1, [.bool (mayD d)], _, rfl, by kernel_rfl, by kernel_rfl, fun g1 => ?_⟩
  replace r_d := g1.rdD r_d
  clear h1 hb1
  refine sat_prim (v := .bool (!(mayD d))) (by kernel_rfl) ?_
  cases hm : (mayD d)
  · refine sat_true (by kernel_rfl) ?_
    exact sat_ret (.int .i64 0) (by kernel_rfl) fun w9 h9 => by unfold bitsD; rw [hm]; rfl
  · refine sat_false (by kernel_rfl) ?_
    refine sat_call #[.slice A_d n_d c_d] (by kernel_rfl) fun w3 h3 => ?_
    refine (sizeM_any (h3.rdD r_d) hm).mono ?_
    rintro e v3 ⟨rfl, hb3⟩
    refine ⟨hb3, [.int .i64 ((blen (val BB d.m) : Nat) : Int)], _, rfl, by kernel_rfl, by kernel_rfl, fun g3 => ?_⟩
    replace r_d := g3.rdD r_d
    clear h3 hb3
    exact sat_ret (.int .i64 ((blen (val BB d.m) : Nat) : Int)) (by kernel_rfl) fun w9 h9 => by unfold bitsD; rw [hm]; rfl

end Go.Proofs.YteodljieiloebaaDoor
