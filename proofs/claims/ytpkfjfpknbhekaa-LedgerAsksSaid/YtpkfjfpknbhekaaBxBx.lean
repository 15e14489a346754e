/- box.Corner, Width, sluicewaylaw8.Row, sluicewaylaw11.told, by their trees. Printed by wip/mk_BxB.py. -/
import Derived.Test.YtpkfjfpknbhekaaBxAx
import Derived.Test.YtpkfjfpknbhekaaIvCx
namespace Go.Proofs.Ytpkfjfpknbhekaa
open Go.RowKit Pl
open Sx (sat_call sat_chk sat_prim sat_ite sat_true sat_false sat_trueP sat_falseP sat_ret sat_row sat_callP sat_loop sat_back sat_idx sat_el sat_elf sat_elc sat_load sat_rowN sat_app sat_callB sat_alt rows_one rows_two all_nil all_cons okB okS okI)

def tr_row8 : Sx.Tree := .prim .len [.lf 0] (.prim (.bin .gtr) [.lf 1, .num .i64 8] (.ite (.lf 2) (.ret (.one (.bit false))) (.loop 0 [.num .i64 0, .bit false] (.prim .len [.lf 0] (.prim (.bin .lss) [.lf 3, .lf 5] (.ite (.lf 6) (.prim (.idx 6) [.lf 0, .lf 3] (.prim (.fld 0) [.lf 7] (.prim (.fld 1) [.lf 8] (.load 22 (.lf 9) .one (.prim .len [.lf 10] (.prim (.bin .gtr) [.lf 11, .num .i64 6] (.ite (.lf 12) (.ret (.one (.bit false))) (.prim (.idx 6) [.lf 0, .lf 3] (.prim (.fld 3) [.lf 13] (.prim (.fld 1) [.lf 14] (.load 22 (.lf 15) .one (.prim .len [.lf 16] (.prim (.bin .gtr) [.lf 17, .num .i64 6] (.ite (.lf 18) (.ret (.one (.bit false))) (.prim (.bin .add) [.lf 3, .num .i64 1] (.back 0 [.lf 19, .lf 4])))))))))))))))) (.ret (.one (.bit true)))))))))
theorem tr_row8_eq : Sx.treeAt Try.prog 17 [] [] [(false, 1)] = some tr_row8 := by kernel_rfl

theorem row8_any (A_l : Option Addr) (c_l : Nat) (l : List Iv) (w : World) (h_l : Sx.Rows Sx.kI (fun _ => True) w A_l l.length c_l l) :
    Calls Try.prog 17 #[.slice A_l l.length c_l] w fun e w' => e = .returned (.bool (fewB l)) ∧ Below w.heap.size w w' := by
  have F_l := h_l.start
  have M_l := h_l.le
  clear h_l
  refine (Sx.runA [] [] (ls := [.slice A_l l.length c_l]) (shs := [(false, 1)]) (R := fun v _ => v = .bool (fewB l)) tr_row8_eq rfl (by decide) (fun q h => by cases h) ?_).mono (fun e w' ⟨v, he, hv, hb⟩ => ⟨by rw [he, hv], hb⟩)
  unfold tr_row8
  refine sat_prim (v := .int .i64 ((l.length : Nat) : Int)) (by kernel_rfl) ?_
  refine sat_prim (v := .bool (decide ((8 : Int) < ((l.length : Nat) : Int)))) (by kernel_rfl) ?_
  cases h8 : (decide ((8 : Int) < ((l.length : Nat) : Int)))
  · refine sat_false (by kernel_rfl) ?_
    refine sat_loop (fun Kn vs W => ∃ (i : Nat), vs = [.int .i64 ((i : Nat) : Int), .bool false] ∧ Kn = l.length - i ∧ i ≤ l.length ∧ (fewB l = (l.drop i).all few6)) [.int .i64 0, .bool false] (by kernel_rfl) (fun w1 h1 => ⟨_, 0, rfl, rfl, Nat.zero_le _, few_one h8⟩) ?_
    rintro Kn vs w2 h2 ⟨i, rfl, rfl, h_i, hm⟩
    replace F_l := F_l.mv h2.mv
    clear h2
    refine sat_prim (v := .int .i64 ((l.length : Nat) : Int)) (by kernel_rfl) ?_
    refine sat_prim (v := .bool (decide ((((i : Nat) : Int) : Int) < ((l.length : Nat) : Int)))) (by kernel_rfl) ?_
    cases hlt : (decide ((((i : Nat) : Int) : Int) < ((l.length : Nat) : Int)))
    · refine sat_false (by kernel_rfl) ?_
      exact sat_ret (.bool true) (by kernel_rfl) fun w9 h9 => congrArg Value.bool (few_end hm hlt)
    · refine sat_true (by kernel_rfl) ?_
      refine sat_idx (A := A_l) (c := c_l) (kk := .i64) (i) (by kernel_rfl) (by kernel_rfl) (lt_of hlt) F_l.addr fun g4 o4 e4 => ?_
      refine sat_prim (v := .pointer (some ⟨g4, o4 + (i) * 6 + 0, none⟩)) (by kernel_rfl) ?_
      refine sat_prim (v := .pointer (some ⟨g4, o4 + (i) * 6 + 1, none⟩)) (by kernel_rfl) ?_
      obtain ⟨x1, h_x1⟩ : ∃ x_, l[(i)]? = some x_ := ⟨_, List.getElem?_eq_getElem (lt_of hlt)⟩
      refine sat_elc (d := 1) F_l e4 h_x1 rfl (by kernel_rfl) (by kernel_rfl) ?_
      rintro _ ⟨A_L2, n_L2, c_L2, B_L2, m_L2, k_L2, rfl, r_L2l, r_L2h⟩
      obtain rfl := r_L2l.few
      refine ⟨_, rfl, ?_⟩
      clear r_L2l r_L2h
      refine sat_prim (v := .int .i64 ((x1.lo.m.length : Nat) : Int)) (by kernel_rfl) ?_
      refine sat_prim (v := .bool (decide ((6 : Int) < ((x1.lo.m.length : Nat) : Int)))) (by kernel_rfl) ?_
      cases hA : (decide ((6 : Int) < ((x1.lo.m.length : Nat) : Int)))
      · refine sat_false (by kernel_rfl) ?_
        refine sat_idx (A := A_l) (c := c_l) (kk := .i64) (i) (by kernel_rfl) (by kernel_rfl) (lt_of hlt) F_l.addr fun g6 o6 e6 => ?_
        refine sat_prim (v := .pointer (some ⟨g6, o6 + (i) * 6 + 3, none⟩)) (by kernel_rfl) ?_
        refine sat_prim (v := .pointer (some ⟨g6, o6 + (i) * 6 + 4, none⟩)) (by kernel_rfl) ?_
        refine sat_elc (d := 4) F_l e6 h_x1 rfl (by kernel_rfl) (by kernel_rfl) ?_
        rintro _ ⟨A_L3, n_L3, c_L3, B_L3, m_L3, k_L3, rfl, r_L3l, r_L3h⟩
        obtain rfl := r_L3h.few
        refine ⟨_, rfl, ?_⟩
        clear r_L3l r_L3h
        refine sat_prim (v := .int .i64 ((x1.hi.m.length : Nat) : Int)) (by kernel_rfl) ?_
        refine sat_prim (v := .bool (decide ((6 : Int) < ((x1.hi.m.length : Nat) : Int)))) (by kernel_rfl) ?_
        cases hB : (decide ((6 : Int) < ((x1.hi.m.length : Nat) : Int)))
        · refine sat_false (by kernel_rfl) ?_
          refine sat_prim (v := .int .i64 (((i + 1 : Nat)) : Int)) (Eq.trans (b := some (.int .i64 (IntKind.i64.wrap ((((i) : Nat) : Int) + 1)))) (by kernel_rfl) (by rw [Sx.wrap_succ (n := l.length) (lt_of hlt) M_l])) ?_
          exact sat_back [.int .i64 (((i + 1 : Nat)) : Int), .bool false] (by kernel_rfl) fun w9 h9 => ⟨_, by have := lt_of hlt; omega, i + 1, rfl, rfl, by have := lt_of hlt; omega, few_step hm h_x1 hA hB⟩
        · refine sat_true (by kernel_rfl) ?_
          exact sat_ret (.bool false) (by kernel_rfl) fun w9 h9 => congrArg Value.bool (few_no hm h_x1 (.inr hB))
      · refine sat_true (by kernel_rfl) ?_
        exact sat_ret (.bool false) (by kernel_rfl) fun w9 h9 => congrArg Value.bool (few_no hm h_x1 (.inl hA))
  · refine sat_true (by kernel_rfl) ?_
    exact sat_ret (.bool false) (by kernel_rfl) fun w9 h9 => congrArg Value.bool (few_long h8)

theorem gD1 : GD D1 := ⟨by decide, lim_D1⟩
theorem g11 : GI ⟨D1, D1⟩ := ⟨gD1, gD1⟩
def B1 : List Iv := [⟨Dy.zero, D1⟩, ⟨D1, D1⟩]
end Go.Proofs.Ytpkfjfpknbhekaa
