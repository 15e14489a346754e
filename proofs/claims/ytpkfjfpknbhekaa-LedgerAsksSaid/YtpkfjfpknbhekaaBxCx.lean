/- The boxes of sluicewayref11, the walk of BoxAsks, by their trees. Printed by wip/mk_BxC.py. -/
import Derived.Test.YtpkfjfpknbhekaaBxBx
import Derived.Test.YtpkfjfpknbhekaaBxQx
import Derived.Test.YtpkfjfpknbhekaaRfOx
namespace Go.Proofs.Ytpkfjfpknbhekaa
open Go.RowKit Pl
open Sx (sat_call sat_chk sat_prim sat_ite sat_true sat_false sat_trueP sat_falseP sat_ret sat_row sat_callP sat_loop sat_back sat_idx sat_el sat_elf sat_elc sat_load sat_rowN sat_app rows_one rows_two all_nil all_cons okB okS okI)

def tr_r11may : Sx.Tree := .loop 0 [.num .i64 0, .bit false] (.prim .len [.lf 0] (.prim (.bin .lss) [.lf 1, .lf 3] (.ite (.lf 4) (.prim (.idx 6) [.lf 0, .lf 1] (.load 61 (.lf 5) (.ag 6) (.call 74 [.ag [.lf 6, .lf 7, .lf 8, .lf 9, .lf 10, .lf 11]] .one (.prim .not [.lf 12] (.ite (.lf 13) (.ret (.one (.bit false))) (.prim (.bin .add) [.lf 1, .num .i64 1] (.back 0 [.lf 14, .lf 2]))))))) (.ret (.one (.bit true))))))
theorem tr_r11may_eq : Sx.treeAt Try.prog 20 [] [] [(false, 1)] = some tr_r11may := by kernel_rfl

theorem rmayB_any (A_l : Option Addr) (c_l : Nat) (l : List Iv) (w : World) (h_l : Sx.Rows Sx.kI (fun _ => True) w A_l l.length c_l l) :
    Calls Try.prog 20 #[.slice A_l l.length c_l] w fun e w' => e = .returned (.bool (mayB l)) ∧ Below w.heap.size w w' := by
  have F_l := h_l.start
  have M_l := h_l.le
  clear h_l
  refine (Sx.runA [] [] (ls := [.slice A_l l.length c_l]) (shs := [(false, 1)]) (R := fun v _ => v = .bool (mayB l)) tr_r11may_eq rfl (by decide) (fun q h => by cases h) ?_).mono (fun e w' ⟨v, he, hv, hb⟩ => ⟨by rw [he, hv], hb⟩)
  unfold tr_r11may
  refine sat_loop (fun Kn vs W => ∃ (i : Nat), vs = [.int .i64 ((i : Nat) : Int), .bool false] ∧ Kn = l.length - i ∧ i ≤ l.length ∧ (mayB l = mayB (l.drop i))) [.int .i64 0, .bool false] (by kernel_rfl) (fun w1 h1 => ⟨_, 0, rfl, rfl, Nat.zero_le _, rfl⟩) ?_
  rintro Kn vs w1 h1 ⟨i, rfl, rfl, h_i, hm⟩
  replace F_l := F_l.mv h1.mv
  clear h1
  refine sat_prim (v := .int .i64 ((l.length : Nat) : Int)) (by kernel_rfl) ?_
  refine sat_prim (v := .bool (decide ((((i : Nat) : Int) : Int) < ((l.length : Nat) : Int)))) (by kernel_rfl) ?_
  cases hlt : (decide ((((i : Nat) : Int) : Int) < ((l.length : Nat) : Int)))
  · refine sat_false (by kernel_rfl) ?_
    exact sat_ret (.bool true) (by kernel_rfl) fun w9 h9 => congrArg Value.bool (by rw [hm, drop_end hlt]; rfl)
  · refine sat_true (by kernel_rfl) ?_
    refine sat_idx (A := A_l) (c := c_l) (kk := .i64) (i) (by kernel_rfl) (by kernel_rfl) (lt_of hlt) F_l.addr fun g3 o3 e3 => ?_
    obtain ⟨x1, h_x1⟩ : ∃ x_, l[(i)]? = some x_ := ⟨_, List.getElem?_eq_getElem (lt_of hlt)⟩
    refine sat_el F_l e3 h_x1 rfl (by kernel_rfl) (by kernel_rfl) (by kernel_rfl) ?_
    rintro _ ⟨A_L2, n_L2, c_L2, B_L2, m_L2, k_L2, rfl, r_L2l, r_L2h⟩
    refine sat_call #[.agg #[.bool x1.lo.neg, .slice A_L2 n_L2 c_L2, .int .i64 x1.lo.e, .bool x1.hi.neg, .slice B_L2 m_L2 k_L2, .int .i64 x1.hi.e]] (by kernel_rfl) fun w4 h4 => ?_
    refine (rmayI_any _ x1 _ (mkI (h4.rdD r_L2l) (h4.rdD r_L2h))).mono ?_
    rintro e v4 ⟨rfl, hb4⟩
    refine ⟨hb4, [.bool (mayI x1)], _, rfl, by kernel_rfl, by kernel_rfl, fun g4 => ?_⟩
    replace F_l := F_l.mv g4.mv; replace r_L2l := g4.rdD r_L2l; replace r_L2h := g4.rdD r_L2h
    clear h4 hb4
    refine sat_prim (v := .bool (!(mayI x1))) (by kernel_rfl) ?_
    cases hm2 : (mayI x1)
    · refine sat_true (by kernel_rfl) ?_
      exact sat_ret (.bool false) (by kernel_rfl) fun w9 h9 => congrArg Value.bool (by rw [hm, mayB_cons h_x1, hm2]; rfl)
    · refine sat_false (by kernel_rfl) ?_
      refine sat_prim (v := .int .i64 (((i + 1 : Nat)) : Int)) (Eq.trans (b := some (.int .i64 (IntKind.i64.wrap ((((i) : Nat) : Int) + 1)))) (by kernel_rfl) (by rw [Sx.wrap_succ (n := l.length) (lt_of hlt) M_l])) ?_
      exact sat_back [.int .i64 (((i + 1 : Nat)) : Int), .bool false] (by kernel_rfl) fun w9 h9 => ⟨_, by have := lt_of hlt; omega, i + 1, rfl, rfl, by have := lt_of hlt; omega, by rw [hm, mayB_cons h_x1, hm2, Bool.true_and]⟩

end Go.Proofs.Ytpkfjfpknbhekaa
