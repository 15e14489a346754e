/- sluicewayref11's tubes, by their trees. Printed by wip/mk_TbR.py. The walk of TubeAsks, by its tree. Printed by wip/mk_TbF.py. -/
import Derived.Test.YtbpfnooloemieaaDoorTbEx
import Derived.Test.YtbpfnooloemieaaDoorBxCx
namespace Go.Proofs.YtbpfnooloemieaaDoor
open Go.RowKit Pl
open Sx (sat_call sat_chk sat_prim sat_ite sat_true sat_false sat_trueP sat_falseP sat_ret sat_row sat_callP sat_loop sat_back sat_idx sat_el sat_elf sat_elc sat_load sat_rowN sat_app sat_callB sat_alt rows_one rows_two all_nil all_cons okB okS okI)

def tr_r11mayT : Sx.Tree := .chk [.lf 0, .lf 1] (.prim .len [.lf 1] (.prim (.bin .lss) [.lf 2, .num .i64 1] (.ite (.lf 3) (.ret (.one (.bit false))) (.prim .len [.lf 1] (.prim (.bin .gtr) [.lf 4, .num .i64 256] (.ite (.lf 5) (.ret (.one (.bit false))) (.prim .len [.lf 0] (.prim .len [.lf 1] (.prim (.bin .add) [.lf 7, .num .i64 1] (.prim (.bin .neq) [.lf 6, .lf 8] (.ite (.lf 9) (.ret (.one (.bit false))) (.call 79 [.one (.lf 1)] .one (.prim .not [.lf 10] (.ite (.lf 11) (.ret (.one (.bit false))) (.loop 0 [.num .i64 0, .bit false] (.prim .len [.lf 0] (.prim (.bin .lss) [.lf 12, .lf 14] (.ite (.lf 15) (.prim (.idx 3) [.lf 0, .lf 12] (.load 35 (.lf 16) (.ag 3) (.call 72 [.ag [.lf 17, .lf 18, .lf 19]] .one (.prim .not [.lf 20] (.ite (.lf 21) (.ret (.one (.bit false))) (.prim (.bin .gtr) [.lf 12, .num .i64 0] (.ite (.lf 22) (.prim (.bin .sub) [.lf 12, .num .i64 1] (.prim (.idx 3) [.lf 0, .lf 23] (.load 35 (.lf 24) (.ag 3) (.prim (.idx 3) [.lf 0, .lf 12] (.load 35 (.lf 28) (.ag 3) (.call 73 [.ag [.lf 25, .lf 26, .lf 27], .ag [.lf 29, .lf 30, .lf 31]] .one (.prim .not [.lf 32] (.ite (.lf 33) (.ret (.one (.bit false))) (.prim (.bin .add) [.lf 12, .num .i64 1] (.back 0 [.lf 34, .lf 13])))))))))) (.prim (.bin .add) [.lf 12, .num .i64 1] (.back 0 [.lf 23, .lf 13]))))))))) (.ret (.one (.bit true)))))))))))))))))))))
theorem tr_r11mayT_eq : Sx.treeAt Tryd.prog 37 [] [] [(true, 2)] = some tr_r11mayT := by kernel_rfl

theorem rmayT_any (A_t : Option Addr) (c_t : Nat) (B_t : Option Addr) (d_t : Nat) (t : Tb) (w : World) (h_t1 : Sx.Rows Sx.kD (fun _ => True) w A_t t.at_.length c_t t.at_) (h_t2 : Sx.Rows Sx.kI (fun _ => True) w B_t t.v.length d_t t.v) :
    Calls Tryd.prog 37 #[.agg #[.slice A_t t.at_.length c_t, .slice B_t t.v.length d_t]] w fun e w' => e = .returned (.bool (mayT t)) ∧ Below w.heap.size w w' := by
  have F_t1 := h_t1.start
  have M_t1 := h_t1.le
  clear h_t1
  have F_t2 := h_t2.start
  have M_t2 := h_t2.le
  clear h_t2
  refine (Sx.runA [] [] (ls := [.slice A_t t.at_.length c_t, .slice B_t t.v.length d_t]) (shs := [(true, 2)]) (R := fun v _ => v = .bool (mayT t)) tr_r11mayT_eq rfl (by decide) (fun q h => by cases h) ?_).mono (fun e w' ⟨v, he, hv, hb⟩ => ⟨by rw [he, hv], hb⟩)
  unfold tr_r11mayT
  refine sat_chkB (by kernel_rfl) ?_
  refine sat_prim (v := .int .i64 ((t.v.length : Nat) : Int)) (by kernel_rfl) ?_
  refine sat_prim (v := .bool (decide ((((t.v.length : Nat) : Int) : Int) < 1))) (by kernel_rfl) ?_
  cases h1 : (decide ((((t.v.length : Nat) : Int) : Int) < 1))
  · refine sat_false (by kernel_rfl) ?_
    refine sat_prim (v := .int .i64 ((t.v.length : Nat) : Int)) (by kernel_rfl) ?_
    refine sat_prim (v := .bool (decide ((256 : Int) < ((t.v.length : Nat) : Int)))) (by kernel_rfl) ?_
    cases h2 : (decide ((256 : Int) < ((t.v.length : Nat) : Int)))
    · refine sat_false (by kernel_rfl) ?_
      refine sat_prim (v := .int .i64 ((t.at_.length : Nat) : Int)) (by kernel_rfl) ?_
      refine sat_prim (v := .int .i64 ((t.v.length : Nat) : Int)) (by kernel_rfl) ?_
      refine sat_prim (v := .int .i64 ((t.v.length + 1 : Nat) : Int)) (Eq.trans (b := some (.int .i64 (IntKind.i64.wrap (((t.v.length : Nat) : Int) + 1)))) (by kernel_rfl) (sml (by have := of_decide_eq_false h2; omega) (by have := of_decide_eq_false h2; omega))) ?_
      refine sat_prim (v := .bool ((((t.at_.length : Nat) : Int) : Int) != ((t.v.length + 1 : Nat) : Int))) (by kernel_rfl) ?_
      cases h3 : ((((t.at_.length : Nat) : Int) : Int) != ((t.v.length + 1 : Nat) : Int))
      · refine sat_false (by kernel_rfl) ?_
        refine sat_call #[.slice B_t t.v.length d_t] (by kernel_rfl) fun w4 h4 => ?_
        refine (rmayB_any _ _ t.v _ ((F_t2.mv h4.mv).any)).mono ?_
        rintro e v4 ⟨rfl, hb4⟩
        refine ⟨hb4, [.bool (mayB t.v)], _, rfl, by kernel_rfl, by kernel_rfl, fun g4 => ?_⟩
        replace F_t1 := F_t1.mv g4.mv; replace F_t2 := F_t2.mv g4.mv
        clear h4 hb4
        refine sat_prim (v := .bool (!(mayB t.v))) (by kernel_rfl) ?_
        cases hB : (mayB t.v)
        · refine sat_true (by kernel_rfl) ?_
          exact sat_ret (.bool false) (by kernel_rfl) fun w9 h9 => congrArg Value.bool (by rw [may_ok h1 h2 h3, hB, Bool.and_false])
        · refine sat_false (by kernel_rfl) ?_
          have hm0 := may_ok h1 h2 h3
          rw [hB, Bool.and_true] at hm0
          refine sat_loop (fun Kn vs W => ∃ (i : Nat), vs = [.int .i64 ((i : Nat) : Int), .bool false] ∧ Kn = t.at_.length - i ∧ i ≤ t.at_.length ∧ (mayT t = (allT t.at_ i && true))) [.int .i64 0, .bool false] (by kernel_rfl) (fun w1 h1 => ⟨_, 0, rfl, rfl, Nat.zero_le _, (by rw [Bool.and_true]; exact hm0)⟩) ?_
          rintro Kn vs w6 h6 ⟨i, rfl, rfl, h_i, hm⟩
          replace F_t1 := F_t1.mv h6.mv; replace F_t2 := F_t2.mv h6.mv
          clear h6
          refine sat_prim (v := .int .i64 ((t.at_.length : Nat) : Int)) (by kernel_rfl) ?_
          refine sat_prim (v := .bool (decide ((((i : Nat) : Int) : Int) < ((t.at_.length : Nat) : Int)))) (by kernel_rfl) ?_
          cases hlt : (decide ((((i : Nat) : Int) : Int) < ((t.at_.length : Nat) : Int)))
          · refine sat_false (by kernel_rfl) ?_
            exact sat_ret (.bool true) (by kernel_rfl) fun w9 h9 => congrArg Value.bool (by rw [hm, allT_end hlt]; rfl)
          · refine sat_true (by kernel_rfl) ?_
            refine sat_idx (A := A_t) (c := c_t) (kk := .i64) (i) (by kernel_rfl) (by kernel_rfl) (by have := lt_of hlt; omega) F_t1.addr fun g8 o8 e8 => ?_
            obtain ⟨x1, h_x1⟩ : ∃ x_, t.at_[(i)]? = some x_ := ⟨_, List.getElem?_eq_getElem (by have := lt_of hlt; omega)⟩
            refine sat_el F_t1 e8 h_x1 rfl (by kernel_rfl) (by kernel_rfl) (by kernel_rfl) ?_
            rintro _ ⟨A_L2, n_L2, c_L2, rfl, r_L2⟩
            refine sat_call #[.agg #[.bool x1.neg, .slice A_L2 n_L2 c_L2, .int .i64 x1.e]] (by kernel_rfl) fun w9 h9 => ?_
            refine (rmayD_any _ (x1) _ (h9.rdD r_L2)).mono ?_
            rintro e v9 ⟨rfl, hb9⟩
            refine ⟨hb9, [.bool (mayD x1)], _, rfl, by kernel_rfl, by kernel_rfl, fun g9 => ?_⟩
            replace F_t1 := F_t1.mv g9.mv; replace F_t2 := F_t2.mv g9.mv; replace r_L2 := g9.rdD r_L2
            clear h9 hb9
            refine sat_prim (v := .bool (!(mayD x1))) (by kernel_rfl) ?_
            cases hd : (mayD x1)
            · refine sat_true (by kernel_rfl) ?_
              exact sat_ret (.bool false) (by kernel_rfl) fun w9 h9 => congrArg Value.bool (all_no hm (lt_of hlt) (step_no1 h_x1 hd))
            · refine sat_false (by kernel_rfl) ?_
              refine sat_prim (v := .bool (decide ((0 : Int) < ((i : Nat) : Int)))) (by kernel_rfl) ?_
              cases h0 : (decide ((0 : Int) < ((i : Nat) : Int)))
              · refine sat_false (by kernel_rfl) ?_
                refine sat_prim (v := .int .i64 (((i + 1 : Nat)) : Int)) (Eq.trans (b := some (.int .i64 (IntKind.i64.wrap ((((i) : Nat) : Int) + 1)))) (by kernel_rfl) (by rw [Sx.wrap_succ (n := t.at_.length) (lt_of hlt) M_t1])) ?_
                exact sat_back [.int .i64 (((i + 1 : Nat)) : Int), .bool false] (by kernel_rfl) fun w9 h9 => ⟨_, by have := lt_of hlt; omega, i + 1, rfl, rfl, by have := lt_of hlt; omega, all_step hm (lt_of hlt) (step_first h_x1 hd h0)⟩
              · refine sat_true (by kernel_rfl) ?_
                obtain ⟨j, hj⟩ : ∃ j, j + 1 = i := ⟨i - 1, by have := of_decide_eq_true h0; omega⟩
                refine sat_prim (v := .int .i64 ((j : Nat) : Int)) (Eq.trans (b := some (.int .i64 (IntKind.i64.wrap (((i : Nat) : Int) - 1)))) (by kernel_rfl) (sml (by omega) (by have := lt_of hlt; simp only [maxLen] at M_t1; omega))) ?_
                refine sat_idx (A := A_t) (c := c_t) (kk := .i64) (j) (by kernel_rfl) (by kernel_rfl) (by have := lt_of hlt; omega) F_t1.addr fun g12 o12 e12 => ?_
                obtain ⟨x3, h_x3⟩ : ∃ x_, t.at_[(j)]? = some x_ := ⟨_, List.getElem?_eq_getElem (by have := lt_of hlt; omega)⟩
                refine sat_el F_t1 e12 h_x3 rfl (by kernel_rfl) (by kernel_rfl) (by kernel_rfl) ?_
                rintro _ ⟨A_L4, n_L4, c_L4, rfl, r_L4⟩
                refine sat_idx (A := A_t) (c := c_t) (kk := .i64) (i) (by kernel_rfl) (by kernel_rfl) (by have := lt_of hlt; omega) F_t1.addr fun g13 o13 e13 => ?_
                refine sat_el F_t1 e13 h_x1 rfl (by kernel_rfl) (by kernel_rfl) (by kernel_rfl) ?_
                rintro _ ⟨A_L5, n_L5, c_L5, rfl, r_L5⟩
                refine sat_call #[.agg #[.bool x3.neg, .slice A_L4 n_L4 c_L4, .int .i64 x3.e], .agg #[.bool x1.neg, .slice A_L5 n_L5 c_L5, .int .i64 x1.e]] (by kernel_rfl) fun w14 h14 => ?_
                refine (less_any _ _ (x3) (x1) _ (h14.rdD r_L4) (h14.rdD r_L5)).mono ?_
                rw [lt_ge (x3) (x1)]
                rintro e v14 ⟨rfl, hb14⟩
                refine ⟨hb14, [.bool (!(decide (0 ≤ cmpD x3 x1)))], _, rfl, by kernel_rfl, by kernel_rfl, fun g14 => ?_⟩
                replace F_t1 := F_t1.mv g14.mv; replace F_t2 := F_t2.mv g14.mv; replace r_L2 := g14.rdD r_L2; replace r_L4 := g14.rdD r_L4; replace r_L5 := g14.rdD r_L5
                clear h14 hb14
                refine sat_prim (v := .bool (!(!(decide (0 ≤ cmpD x3 x1))))) (by kernel_rfl) ?_
                cases hc : (decide (0 ≤ cmpD x3 x1))
                · refine sat_false (by kernel_rfl) ?_
                  refine sat_prim (v := .int .i64 (((i + 1 : Nat)) : Int)) (Eq.trans (b := some (.int .i64 (IntKind.i64.wrap ((((i) : Nat) : Int) + 1)))) (by kernel_rfl) (by rw [Sx.wrap_succ (n := t.at_.length) (lt_of hlt) M_t1])) ?_
                  exact sat_back [.int .i64 (((i + 1 : Nat)) : Int), .bool false] (by kernel_rfl) fun w9 h9 => ⟨_, by have := lt_of hlt; omega, i + 1, rfl, rfl, by have := lt_of hlt; omega, all_step hm (lt_of hlt) (step_next h_x1 h_x3 hj hd hc)⟩
                · refine sat_true (by kernel_rfl) ?_
                  exact sat_ret (.bool false) (by kernel_rfl) fun w9 h9 => congrArg Value.bool (all_no hm (lt_of hlt) (step_next h_x1 h_x3 hj hd hc))
      · refine sat_true (by kernel_rfl) ?_
        exact sat_ret (.bool false) (by kernel_rfl) fun w9 h9 => congrArg Value.bool (may_c3 h3)
    · refine sat_true (by kernel_rfl) ?_
      exact sat_ret (.bool false) (by kernel_rfl) fun w9 h9 => congrArg Value.bool (may_c2 h2)
  · refine sat_true (by kernel_rfl) ?_
    exact sat_ret (.bool false) (by kernel_rfl) fun w9 h9 => congrArg Value.bool (may_c1 h1)

def tr_r11in : Sx.Tree := .chk [.lf 0, .lf 1] (.chk [.lf 2, .lf 3, .lf 4] (.call 72 [.ag [.lf 2, .lf 3, .lf 4]] .one (.ite (.lf 5) (.prim (.idx 3) [.lf 0, .num .i64 0] (.load 35 (.lf 6) (.ag 3) (.call 73 [.ag [.lf 2, .lf 3, .lf 4], .ag [.lf 7, .lf 8, .lf 9]] .one (.prim .not [.lf 10] (.ite (.lf 11) (.prim .len [.lf 1] (.prim (.idx 3) [.lf 0, .lf 12] (.load 35 (.lf 13) (.ag 3) (.call 73 [.ag [.lf 14, .lf 15, .lf 16], .ag [.lf 2, .lf 3, .lf 4]] .one (.prim .not [.lf 17] (.ret (.one (.lf 18)))))))) (.ret (.one (.bit false)))))))) (.ret (.one (.bit false))))))
theorem tr_r11in_eq : Sx.treeAt Tryd.prog 74 [] [] [(true, 2), (true, 3)] = some tr_r11in := by kernel_rfl

theorem rinT_any (A_t : Option Addr) (c_t : Nat) (B_t : Option Addr) (d_t : Nat) (v_d : Value) (t : Tb) (d : Dy) (w : World) (h_t1 : Sx.Rows Sx.kD (fun _ => True) w A_t t.at_.length c_t t.at_) (h_t2 : Sx.Rows Sx.kI (fun _ => True) w B_t t.v.length d_t t.v) (h_d : RdD w v_d d) (hMT : mayT t = true) (hd : mayD d = true) :
    Calls Tryd.prog 74 #[.agg #[.slice A_t t.at_.length c_t, .slice B_t t.v.length d_t], v_d] w fun e w' => e = .returned (.bool (holdsT t d)) ∧ Below w.heap.size w w' := by
  have r_d := h_d
  obtain ⟨A_d, n_d, c_d, rfl, _⟩ := h_d
  have F_t1 := h_t1.start
  have M_t1 := h_t1.le
  clear h_t1
  have F_t2 := h_t2.start
  have M_t2 := h_t2.le
  clear h_t2
  refine (Sx.runA [] [] (ls := [.slice A_t t.at_.length c_t, .slice B_t t.v.length d_t, .bool d.neg, .slice A_d n_d c_d, .int .i64 d.e]) (shs := [(true, 2), (true, 3)]) (R := fun v _ => v = .bool (holdsT t d)) tr_r11in_eq rfl (by decide) (fun q h => by cases h) ?_).mono (fun e w' ⟨v, he, hv, hb⟩ => ⟨by rw [he, hv], hb⟩)
  unfold tr_r11in
  refine sat_chkB (by kernel_rfl) ?_
  refine sat_chkB (by kernel_rfl) ?_
  refine sat_call #[.agg #[.bool d.neg, .slice A_d n_d c_d, .int .i64 d.e]] (by kernel_rfl) fun w1 h1 => ?_
  refine (rmayD_any _ (d) _ (h1.rdD r_d)).mono ?_
  rintro e v1 ⟨rfl, hb1⟩
  refine ⟨hb1, [.bool (mayD d)], _, rfl, by kernel_rfl, by kernel_rfl, fun g1 => ?_⟩
  replace F_t1 := F_t1.mv g1.mv; replace F_t2 := F_t2.mv g1.mv; replace r_d := g1.rdD r_d
  clear h1 hb1
  refine sat_trueP (b := mayD d) (by kernel_rfl) hd ?_
  refine sat_idx (A := A_t) (c := c_t) (kk := .i64) 0 (by kernel_rfl) (by kernel_rfl) (by have := (MayT.of hMT).len; omega) F_t1.addr fun g2 o2 e2 => ?_
  obtain ⟨x1, h_x1⟩ : ∃ x_, t.at_[0]? = some x_ := ⟨_, List.getElem?_eq_getElem (by have := (MayT.of hMT).len; omega)⟩
  refine sat_el F_t1 e2 h_x1 rfl (by kernel_rfl) (by kernel_rfl) (by kernel_rfl) ?_
  rintro _ ⟨A_L2, n_L2, c_L2, rfl, r_L2⟩
  refine sat_call #[.agg #[.bool d.neg, .slice A_d n_d c_d, .int .i64 d.e], .agg #[.bool x1.neg, .slice A_L2 n_L2 c_L2, .int .i64 x1.e]] (by kernel_rfl) fun w3 h3 => ?_
  refine (less_any _ _ (d) (x1) _ (h3.rdD r_d) (h3.rdD r_L2)).mono ?_
  rw [lt_le r_d.lim r_L2.lim]
  rintro e v3 ⟨rfl, hb3⟩
  refine ⟨hb3, [.bool (!(decide (cmpD x1 d ≤ 0)))], _, rfl, by kernel_rfl, by kernel_rfl, fun g3 => ?_⟩
  replace F_t1 := F_t1.mv g3.mv; replace F_t2 := F_t2.mv g3.mv; replace r_d := g3.rdD r_d; replace r_L2 := g3.rdD r_L2
  clear h3 hb3
  refine sat_prim (v := .bool (!(!(decide (cmpD x1 d ≤ 0))))) (by kernel_rfl) ?_
  cases hE : (decide (cmpD x1 d ≤ 0))
  · refine sat_false (by kernel_rfl) ?_
    exact sat_ret (.bool false) (by kernel_rfl) fun w9 h9 => congrArg Value.bool (holds_1 h_x1 hE)
  · refine sat_true (by kernel_rfl) ?_
    refine sat_prim (v := .int .i64 ((t.v.length : Nat) : Int)) (by kernel_rfl) ?_
    refine sat_idx (A := A_t) (c := c_t) (kk := .i64) (t.v.length) (by kernel_rfl) (by kernel_rfl) (by have := (MayT.of hMT).len; omega) F_t1.addr fun g5 o5 e5 => ?_
    obtain ⟨x3, h_x3⟩ : ∃ x_, t.at_[(t.v.length)]? = some x_ := ⟨_, List.getElem?_eq_getElem (by have := (MayT.of hMT).len; omega)⟩
    refine sat_el F_t1 e5 h_x3 rfl (by kernel_rfl) (by kernel_rfl) (by kernel_rfl) ?_
    rintro _ ⟨A_L4, n_L4, c_L4, rfl, r_L4⟩
    refine sat_call #[.agg #[.bool x3.neg, .slice A_L4 n_L4 c_L4, .int .i64 x3.e], .agg #[.bool d.neg, .slice A_d n_d c_d, .int .i64 d.e]] (by kernel_rfl) fun w6 h6 => ?_
    refine (less_any _ _ (x3) (d) _ (h6.rdD r_L4) (h6.rdD r_d)).mono ?_
    rw [lt_le r_L4.lim r_d.lim]
    rintro e v6 ⟨rfl, hb6⟩
    refine ⟨hb6, [.bool (!(decide (cmpD d x3 ≤ 0)))], _, rfl, by kernel_rfl, by kernel_rfl, fun g6 => ?_⟩
    replace F_t1 := F_t1.mv g6.mv; replace F_t2 := F_t2.mv g6.mv; replace r_d := g6.rdD r_d; replace r_L2 := g6.rdD r_L2; replace r_L4 := g6.rdD r_L4
    clear h6 hb6
    refine sat_prim (v := .bool (!(!(decide (cmpD d x3 ≤ 0))))) (by kernel_rfl) ?_
    exact sat_ret (.bool (!(!(decide (cmpD d x3 ≤ 0))))) (by kernel_rfl) fun w9 h9 => congrArg Value.bool (by rw [Bool.not_not]; exact holds_2 h_x1 hE (by rw [(MayT.of hMT).len]; exact h_x3))

def tr_r11over : Sx.Tree := .chk [.lf 0, .lf 1] (.chk [.lf 2, .lf 3, .lf 4] (.chk [.lf 5, .lf 6, .lf 7] (.call 37 [.ag [.lf 0, .lf 1]] .one (.prim .not [.lf 8] (.ite (.lf 9) (.ret (.tup [(true, [.bit false, .nil, .num .i64 0, .bit false, .nil, .num .i64 0]), (false, [.num .i64 1])])) (.call 72 [.ag [.lf 2, .lf 3, .lf 4]] .one (.prim .not [.lf 10] (.ite (.lf 11) (.ret (.tup [(true, [.bit false, .nil, .num .i64 0, .bit false, .nil, .num .i64 0]), (false, [.num .i64 1])])) (.call 72 [.ag [.lf 5, .lf 6, .lf 7]] .one (.prim .not [.lf 12] (.ite (.lf 13) (.ret (.tup [(true, [.bit false, .nil, .num .i64 0, .bit false, .nil, .num .i64 0]), (false, [.num .i64 1])])) (.call 73 [.ag [.lf 5, .lf 6, .lf 7], .ag [.lf 2, .lf 3, .lf 4]] .one (.ite (.lf 14) (.ret (.tup [(true, [.bit false, .nil, .num .i64 0, .bit false, .nil, .num .i64 0]), (false, [.num .i64 1])])) (.call 74 [.ag [.lf 0, .lf 1], .ag [.lf 2, .lf 3, .lf 4]] .one (.prim .not [.lf 15] (.ite (.lf 16) (.ret (.tup [(true, [.bit false, .nil, .num .i64 0, .bit false, .nil, .num .i64 0]), (false, [.num .i64 5])])) (.call 74 [.ag [.lf 0, .lf 1], .ag [.lf 5, .lf 6, .lf 7]] .one (.prim .not [.lf 17] (.ite (.lf 18) (.ret (.tup [(true, [.bit false, .nil, .num .i64 0, .bit false, .nil, .num .i64 0]), (false, [.num .i64 5])])) (.loop 0 [.num .i64 0, .bit false, .bit false, .nil, .num .i64 0, .bit false, .nil, .num .i64 0] (.prim .len [.lf 1] (.prim (.bin .lss) [.lf 19, .lf 27] (.ite (.lf 28) (.prim (.bin .add) [.lf 19, .num .i64 1] (.prim (.idx 3) [.lf 0, .lf 29] (.load 35 (.lf 30) (.ag 3) (.call 73 [.ag [.lf 31, .lf 32, .lf 33], .ag [.lf 2, .lf 3, .lf 4]] .one (.ite (.lf 34) (.prim (.bin .add) [.lf 19, .num .i64 1] (.back 0 [.lf 35, .lf 20, .lf 21, .lf 22, .lf 23, .lf 24, .lf 25, .lf 26])) (.prim (.idx 3) [.lf 0, .lf 19] (.load 35 (.lf 35) (.ag 3) (.call 73 [.ag [.lf 5, .lf 6, .lf 7], .ag [.lf 36, .lf 37, .lf 38]] .one (.ite (.lf 39) (.prim (.bin .add) [.lf 19, .num .i64 1] (.back 0 [.lf 40, .lf 20, .lf 21, .lf 22, .lf 23, .lf 24, .lf 25, .lf 26])) (.ite (.lf 20) (.prim (.idx 6) [.lf 1, .lf 19] (.load 37 (.lf 40) (.ag 6) (.call 75 [.ag [.lf 21, .lf 22, .lf 23, .lf 24, .lf 25, .lf 26], .ag [.lf 41, .lf 42, .lf 43, .lf 44, .lf 45, .lf 46]] (.tup [(true, 6), (false, 1)]) (.chk [.lf 47, .lf 48, .lf 49, .lf 50, .lf 51, .lf 52] (.prim (.bin .add) [.lf 19, .num .i64 1] (.back 0 [.lf 54, .lf 20, .lf 47, .lf 48, .lf 49, .lf 50, .lf 51, .lf 52])))))) (.prim (.idx 6) [.lf 1, .lf 19] (.load 37 (.lf 40) (.ag 6) (.chk [.lf 41, .lf 42, .lf 43, .lf 44, .lf 45, .lf 46] (.prim (.bin .add) [.lf 19, .num .i64 1] (.back 0 [.lf 47, .bit true, .lf 41, .lf 42, .lf 43, .lf 44, .lf 45, .lf 46]))))))))))))))) (.chk [.lf 21, .lf 22, .lf 23, .lf 24, .lf 25, .lf 26] (.ret (.tup [(true, [.lf 21, .lf 22, .lf 23, .lf 24, .lf 25, .lf 26]), (false, [.num .i64 0])]))))))))))))))))))))))))))
theorem tr_r11over_eq : Sx.treeAt Tryd.prog 33 [] [4] [(true, 2), (true, 3), (true, 3)] = some tr_r11over := by kernel_rfl

theorem roverT_any (A_t : Option Addr) (c_t : Nat) (B_t : Option Addr) (d_t : Nat) (v_x : Value) (v_y : Value) (t : Tb) (x : Dy) (y : Dy) (w : World) (h_t1 : Sx.Rows Sx.kD (fun _ => True) w A_t t.at_.length c_t t.at_) (h_t2 : Sx.Rows Sx.kI (fun _ => True) w B_t t.v.length d_t t.v) (h_x : RdD w v_x x) (h_y : RdD w v_y y) :
    Calls Tryd.prog 33 #[.agg #[.slice A_t t.at_.length c_t, .slice B_t t.v.length d_t], v_x, v_y] w fun e w' => IvTup w' e (overT t x y) ∧ Below w.heap.size w w' := by
  have r_x := h_x
  obtain ⟨A_x, n_x, c_x, rfl, _⟩ := h_x
  have r_y := h_y
  obtain ⟨A_y, n_y, c_y, rfl, _⟩ := h_y
  have F_t1 := h_t1.start
  have M_t1 := h_t1.le
  clear h_t1
  have F_t2 := h_t2.start
  have M_t2 := h_t2.le
  clear h_t2
  refine (Sx.runA [] [4] (ls := [.slice A_t t.at_.length c_t, .slice B_t t.v.length d_t, .bool x.neg, .slice A_x n_x c_x, .int .i64 x.e, .bool y.neg, .slice A_y n_y c_y, .int .i64 y.e]) (shs := [(true, 2), (true, 3), (true, 3)]) (R := fun v w' => IvTup w' (.returned v) (overT t x y)) tr_r11over_eq rfl (by decide) (fun q h => by cases h) ?_).mono (fun e w' ⟨v, he, hv, hb⟩ => ⟨by rw [he]; exact hv, hb⟩)
  unfold tr_r11over
  refine sat_chkB (by kernel_rfl) ?_
  refine sat_chkB (by kernel_rfl) ?_
  refine sat_chkB (by kernel_rfl) ?_
  refine sat_call #[.agg #[.slice A_t t.at_.length c_t, .slice B_t t.v.length d_t]] (by kernel_rfl) fun w1 h1 => ?_
  refine (rmayT_any _ _ _ _ t _ ((F_t1.mv h1.mv).any) ((F_t2.mv h1.mv).any)).mono ?_
  rintro e v1 ⟨rfl, hb1⟩
  refine ⟨hb1, [.bool (mayT t)], _, rfl, by kernel_rfl, by kernel_rfl, fun g1 => ?_⟩
  replace F_t1 := F_t1.mv g1.mv; replace F_t2 := F_t2.mv g1.mv; replace r_x := g1.rdD r_x; replace r_y := g1.rdD r_y
  clear h1 hb1
  refine sat_prim (v := .bool (!(mayT t))) (by kernel_rfl) ?_
  cases hMT : (mayT t)
  · refine sat_true (by kernel_rfl) ?_
    exact sat_ret (.tuple #[.agg #[.bool false, .slice none 0 0, .int .i64 0, .bool false, .slice none 0 0, .int .i64 0], .int .i64 1]) (by kernel_rfl) fun w9 h9 => IvTup.zero (by unfold overT; rw [hMT]; rfl)
  · refine sat_false (by kernel_rfl) ?_
    refine sat_call #[.agg #[.bool x.neg, .slice A_x n_x c_x, .int .i64 x.e]] (by kernel_rfl) fun w3 h3 => ?_
    refine (rmayD_any _ (x) _ (h3.rdD r_x)).mono ?_
    rintro e v3 ⟨rfl, hb3⟩
    refine ⟨hb3, [.bool (mayD x)], _, rfl, by kernel_rfl, by kernel_rfl, fun g3 => ?_⟩
    replace F_t1 := F_t1.mv g3.mv; replace F_t2 := F_t2.mv g3.mv; replace r_x := g3.rdD r_x; replace r_y := g3.rdD r_y
    clear h3 hb3
    refine sat_prim (v := .bool (!(mayD x))) (by kernel_rfl) ?_
    cases hx : (mayD x)
    · refine sat_true (by kernel_rfl) ?_
      exact sat_ret (.tuple #[.agg #[.bool false, .slice none 0 0, .int .i64 0, .bool false, .slice none 0 0, .int .i64 0], .int .i64 1]) (by kernel_rfl) fun w9 h9 => IvTup.zero (by unfold overT; rw [hMT, hx]; rfl)
    · refine sat_false (by kernel_rfl) ?_
      refine sat_call #[.agg #[.bool y.neg, .slice A_y n_y c_y, .int .i64 y.e]] (by kernel_rfl) fun w5 h5 => ?_
      refine (rmayD_any _ (y) _ (h5.rdD r_y)).mono ?_
      rintro e v5 ⟨rfl, hb5⟩
      refine ⟨hb5, [.bool (mayD y)], _, rfl, by kernel_rfl, by kernel_rfl, fun g5 => ?_⟩
      replace F_t1 := F_t1.mv g5.mv; replace F_t2 := F_t2.mv g5.mv; replace r_x := g5.rdD r_x; replace r_y := g5.rdD r_y
      clear h5 hb5
      refine sat_prim (v := .bool (!(mayD y))) (by kernel_rfl) ?_
      cases hy : (mayD y)
      · refine sat_true (by kernel_rfl) ?_
        exact sat_ret (.tuple #[.agg #[.bool false, .slice none 0 0, .int .i64 0, .bool false, .slice none 0 0, .int .i64 0], .int .i64 1]) (by kernel_rfl) fun w9 h9 => IvTup.zero (by unfold overT; rw [hMT, hx, hy]; rfl)
      · refine sat_false (by kernel_rfl) ?_
        refine sat_call #[.agg #[.bool y.neg, .slice A_y n_y c_y, .int .i64 y.e], .agg #[.bool x.neg, .slice A_x n_x c_x, .int .i64 x.e]] (by kernel_rfl) fun w7 h7 => ?_
        refine (less_any _ _ (y) (x) _ (h7.rdD r_y) (h7.rdD r_x)).mono ?_
        rw [lt_gt r_y.lim r_x.lim]
        rintro e v7 ⟨rfl, hb7⟩
        refine ⟨hb7, [.bool (decide (0 < cmpD x y))], _, rfl, by kernel_rfl, by kernel_rfl, fun g7 => ?_⟩
        replace F_t1 := F_t1.mv g7.mv; replace F_t2 := F_t2.mv g7.mv; replace r_x := g7.rdD r_x; replace r_y := g7.rdD r_y
        clear h7 hb7
        cases hxy : (decide (0 < cmpD x y))
        · refine sat_false (by kernel_rfl) ?_
          refine sat_call #[.agg #[.slice A_t t.at_.length c_t, .slice B_t t.v.length d_t], .agg #[.bool x.neg, .slice A_x n_x c_x, .int .i64 x.e]] (by kernel_rfl) fun w9 h9 => ?_
          refine (rinT_any _ _ _ _ _ t (x) _ ((F_t1.mv h9.mv).any) ((F_t2.mv h9.mv).any) (h9.rdD r_x) hMT hx).mono ?_
          rintro e v9 ⟨rfl, hb9⟩
          refine ⟨hb9, [.bool (holdsT t x)], _, rfl, by kernel_rfl, by kernel_rfl, fun g9 => ?_⟩
          replace F_t1 := F_t1.mv g9.mv; replace F_t2 := F_t2.mv g9.mv; replace r_x := g9.rdD r_x; replace r_y := g9.rdD r_y
          clear h9 hb9
          refine sat_prim (v := .bool (!(holdsT t x))) (by kernel_rfl) ?_
          cases hhx : (holdsT t x)
          · refine sat_true (by kernel_rfl) ?_
            exact sat_ret (.tuple #[.agg #[.bool false, .slice none 0 0, .int .i64 0, .bool false, .slice none 0 0, .int .i64 0], .int .i64 5]) (by kernel_rfl) fun w9 h9 => IvTup.zero (by unfold overT; rw [hMT, hx, hy, hxy, hhx]; rfl)
          · refine sat_false (by kernel_rfl) ?_
            refine sat_call #[.agg #[.slice A_t t.at_.length c_t, .slice B_t t.v.length d_t], .agg #[.bool y.neg, .slice A_y n_y c_y, .int .i64 y.e]] (by kernel_rfl) fun w11 h11 => ?_
            refine (rinT_any _ _ _ _ _ t (y) _ ((F_t1.mv h11.mv).any) ((F_t2.mv h11.mv).any) (h11.rdD r_y) hMT hy).mono ?_
            rintro e v11 ⟨rfl, hb11⟩
            refine ⟨hb11, [.bool (holdsT t y)], _, rfl, by kernel_rfl, by kernel_rfl, fun g11 => ?_⟩
            replace F_t1 := F_t1.mv g11.mv; replace F_t2 := F_t2.mv g11.mv; replace r_x := g11.rdD r_x; replace r_y := g11.rdD r_y
            clear h11 hb11
            refine sat_prim (v := .bool (!(holdsT t y))) (by kernel_rfl) ?_
            cases hhy : (holdsT t y)
            · refine sat_true (by kernel_rfl) ?_
              exact sat_ret (.tuple #[.agg #[.bool false, .slice none 0 0, .int .i64 0, .bool false, .slice none 0 0, .int .i64 0], .int .i64 5]) (by kernel_rfl) fun w9 h9 => IvTup.zero (by unfold overT; rw [hMT, hx, hy, hxy, hhx, hhy]; rfl)
            · refine sat_false (by kernel_rfl) ?_
              refine sat_loop (fun Kn vs W => ∃ (i : Nat) (s : Bool) (all : Iv) (A_a : Option Addr) (n_a : Nat) (c_a : Nat) (B_a : Option Addr) (m_a : Nat) (k_a : Nat), vs = [.int .i64 ((i : Nat) : Int), .bool s, .bool all.lo.neg, .slice A_a n_a c_a, .int .i64 all.lo.e, .bool all.hi.neg, .slice B_a m_a k_a, .int .i64 all.hi.e] ∧ Kn = t.v.length - i ∧ i ≤ t.v.length ∧ (RdD W.toWorld (.agg #[.bool all.lo.neg, .slice A_a n_a c_a, .int .i64 all.lo.e]) all.lo) ∧ (RdD W.toWorld (.agg #[.bool all.hi.neg, .slice B_a m_a k_a, .int .i64 all.hi.e]) all.hi) ∧ (overL t.at_ x y 0 false Iv.zero t.v = overL t.at_ x y i s all (t.v.drop i))) [.int .i64 0, .bool false, .bool false, .slice none 0 0, .int .i64 0, .bool false, .slice none 0 0, .int .i64 0] (by kernel_rfl) (fun w1 h1 => ⟨_, 0, false, Iv.zero, none, 0, 0, none, 0, 0, rfl, rfl, Nat.zero_le _, RdD.zero _, RdD.zero _, rfl⟩) ?_
              rintro Kn vs w13 h13 ⟨i, s, all, A_a, n_a, c_a, B_a, m_a, k_a, rfl, rfl, h_i, r_al, r_ah, hm⟩
              replace F_t1 := F_t1.mv h13.mv; replace F_t2 := F_t2.mv h13.mv; replace r_x := h13.rdD r_x; replace r_y := h13.rdD r_y
              clear h13
              refine sat_prim (v := .int .i64 ((t.v.length : Nat) : Int)) (by kernel_rfl) ?_
              refine sat_prim (v := .bool (decide ((((i : Nat) : Int) : Int) < ((t.v.length : Nat) : Int)))) (by kernel_rfl) ?_
              cases hlt : (decide ((((i : Nat) : Int) : Int) < ((t.v.length : Nat) : Int)))
              · refine sat_false (by kernel_rfl) ?_
                refine sat_chkB (by kernel_rfl) ?_
                exact sat_ret (.tuple #[.agg #[.bool all.lo.neg, .slice A_a n_a c_a, .int .i64 all.lo.e, .bool all.hi.neg, .slice B_a m_a k_a, .int .i64 all.hi.e], .int .i64 0]) (by kernel_rfl) fun w9 h9 => ⟨all.lo, all.hi, 0, A_a, n_a, c_a, B_a, m_a, k_a, hide (over_done hMT hx hy hxy hhx hhy hm hlt), rfl, h9.rdD r_al, h9.rdD r_ah⟩
              · refine sat_true (by kernel_rfl) ?_
                refine sat_prim (v := .int .i64 (((i + 1 : Nat)) : Int)) (Eq.trans (b := some (.int .i64 (IntKind.i64.wrap ((((i) : Nat) : Int) + 1)))) (by kernel_rfl) (by rw [Sx.wrap_succ (n := t.v.length) (lt_of hlt) M_t2])) ?_
                refine sat_idx (A := A_t) (c := c_t) (kk := .i64) (((i + 1 : Nat))) (by kernel_rfl) (by kernel_rfl) (by have := lt_of hlt; have := (MayT.of hMT).len; omega) F_t1.addr fun g15 o15 e15 => ?_
                obtain ⟨x1, h_x1⟩ : ∃ x_, t.at_[(((i + 1 : Nat)))]? = some x_ := ⟨_, List.getElem?_eq_getElem (by have := lt_of hlt; have := (MayT.of hMT).len; omega)⟩
                refine sat_el F_t1 e15 h_x1 rfl (by kernel_rfl) (by kernel_rfl) (by kernel_rfl) ?_
                rintro _ ⟨A_L2, n_L2, c_L2, rfl, r_L2⟩
                refine sat_call #[.agg #[.bool x1.neg, .slice A_L2 n_L2 c_L2, .int .i64 x1.e], .agg #[.bool x.neg, .slice A_x n_x c_x, .int .i64 x.e]] (by kernel_rfl) fun w16 h16 => ?_
                refine (less_any _ _ (x1) (x) _ (h16.rdD r_L2) (h16.rdD r_x)).mono ?_
                rintro e v16 ⟨rfl, hb16⟩
                refine ⟨hb16, [.bool (decide (cmpD x1 x < 0))], _, rfl, by kernel_rfl, by kernel_rfl, fun g16 => ?_⟩
                replace F_t1 := F_t1.mv g16.mv; replace F_t2 := F_t2.mv g16.mv; replace r_x := g16.rdD r_x; replace r_y := g16.rdD r_y; replace r_al := g16.rdD r_al; replace r_ah := g16.rdD r_ah; replace r_L2 := g16.rdD r_L2
                clear h16 hb16
                cases hc1 : (decide (cmpD x1 x < 0))
                · refine sat_false (by kernel_rfl) ?_
                  refine sat_idx (A := A_t) (c := c_t) (kk := .i64) (i) (by kernel_rfl) (by kernel_rfl) (by have := lt_of hlt; have := (MayT.of hMT).len; omega) F_t1.addr fun g18 o18 e18 => ?_
                  obtain ⟨x3, h_x3⟩ : ∃ x_, t.at_[(i)]? = some x_ := ⟨_, List.getElem?_eq_getElem (by have := lt_of hlt; have := (MayT.of hMT).len; omega)⟩
                  refine sat_el F_t1 e18 h_x3 rfl (by kernel_rfl) (by kernel_rfl) (by kernel_rfl) ?_
                  rintro _ ⟨A_L4, n_L4, c_L4, rfl, r_L4⟩
                  refine sat_call #[.agg #[.bool y.neg, .slice A_y n_y c_y, .int .i64 y.e], .agg #[.bool x3.neg, .slice A_L4 n_L4 c_L4, .int .i64 x3.e]] (by kernel_rfl) fun w19 h19 => ?_
                  refine (less_any _ _ (y) (x3) _ (h19.rdD r_y) (h19.rdD r_L4)).mono ?_
                  rw [lt_gt r_y.lim r_L4.lim]
                  rintro e v19 ⟨rfl, hb19⟩
                  refine ⟨hb19, [.bool (decide (0 < cmpD x3 y))], _, rfl, by kernel_rfl, by kernel_rfl, fun g19 => ?_⟩
                  replace F_t1 := F_t1.mv g19.mv; replace F_t2 := F_t2.mv g19.mv; replace r_x := g19.rdD r_x; replace r_y := g19.rdD r_y; replace r_al := g19.rdD r_al; replace r_ah := g19.rdD r_ah; replace r_L2 := g19.rdD r_L2; replace r_L4 := g19.rdD r_L4
                  clear h19 hb19
                  cases hc2 : (decide (0 < cmpD x3 y))
                  · refine sat_false (by kernel_rfl) ?_
                    cases hs : (s)
                    · refine sat_false (by kernel_rfl) ?_
                      refine sat_idx (A := B_t) (c := d_t) (kk := .i64) (i) (by kernel_rfl) (by kernel_rfl) (lt_of hlt) F_t2.addr fun g22 o22 e22 => ?_
                      obtain ⟨x5, h_x5⟩ : ∃ x_, t.v[(i)]? = some x_ := ⟨_, List.getElem?_eq_getElem (lt_of hlt)⟩
                      refine sat_el F_t2 e22 h_x5 rfl (by kernel_rfl) (by kernel_rfl) (by kernel_rfl) ?_
                      rintro _ ⟨A_L6, n_L6, c_L6, B_L6, m_L6, k_L6, rfl, r_L6l, r_L6h⟩
                      refine sat_chkB (by kernel_rfl) ?_
                      refine sat_prim (v := .int .i64 (((i + 1 : Nat)) : Int)) (Eq.trans (b := some (.int .i64 (IntKind.i64.wrap ((((i) : Nat) : Int) + 1)))) (by kernel_rfl) (by rw [Sx.wrap_succ (n := t.v.length) (lt_of hlt) M_t2])) ?_
                      exact sat_back [.int .i64 (((i + 1 : Nat)) : Int), .bool true, .bool x5.lo.neg, .slice A_L6 n_L6 c_L6, .int .i64 x5.lo.e, .bool x5.hi.neg, .slice B_L6 m_L6 k_L6, .int .i64 x5.hi.e] (by kernel_rfl) fun w9 h9 => ⟨_, by have := lt_of hlt; omega, i + 1, _, x5, _, _, _, _, _, _, rfl, rfl, by have := lt_of hlt; omega, h9.rdD r_L6l, h9.rdD r_L6h, over_new hm h_x5 (cc2 h_x1 hc1 h_x3 hc2) hs⟩
                    · refine sat_true (by kernel_rfl) ?_
                      refine sat_idx (A := B_t) (c := d_t) (kk := .i64) (i) (by kernel_rfl) (by kernel_rfl) (lt_of hlt) F_t2.addr fun g22 o22 e22 => ?_
                      obtain ⟨x5, h_x5⟩ : ∃ x_, t.v[(i)]? = some x_ := ⟨_, List.getElem?_eq_getElem (lt_of hlt)⟩
                      refine sat_el F_t2 e22 h_x5 rfl (by kernel_rfl) (by kernel_rfl) (by kernel_rfl) ?_
                      rintro _ ⟨A_L6, n_L6, c_L6, B_L6, m_L6, k_L6, rfl, r_L6l, r_L6h⟩
                      refine sat_call #[.agg #[.bool all.lo.neg, .slice A_a n_a c_a, .int .i64 all.lo.e, .bool all.hi.neg, .slice B_a m_a k_a, .int .i64 all.hi.e], .agg #[.bool x5.lo.neg, .slice A_L6 n_L6 c_L6, .int .i64 x5.lo.e, .bool x5.hi.neg, .slice B_L6 m_L6 k_L6, .int .i64 x5.hi.e]] (by kernel_rfl) fun w23 h23 => ?_
                      refine (rhullI_any _ _ all x5 _ (mkI (h23.rdD r_al) (h23.rdD r_ah)) (mkI (h23.rdD r_L6l) (h23.rdD r_L6h))).mono ?_
                      rintro e v23 ⟨⟨l_hr7, g_hr7, x_hr7, A_hr7, n_hr7, c_hr7, B_hr7, m_hr7, k_hr7, h_hr7, rfl, r_hr7l, r_hr7h⟩, hb23⟩
                      refine ⟨hb23, [.bool l_hr7.neg, .slice A_hr7 n_hr7 c_hr7, .int .i64 l_hr7.e, .bool g_hr7.neg, .slice B_hr7 m_hr7 k_hr7, .int .i64 g_hr7.e, .int .i64 x_hr7], _, rfl, by kernel_rfl, by kernel_rfl, fun g23 => ?_⟩
                      replace F_t1 := F_t1.mv g23.mv; replace F_t2 := F_t2.mv g23.mv; replace r_x := g23.rdD r_x; replace r_y := g23.rdD r_y; replace r_al := g23.rdD r_al; replace r_ah := g23.rdD r_ah; replace r_L2 := g23.rdD r_L2; replace r_L4 := g23.rdD r_L4; replace r_L6l := g23.rdD r_L6l; replace r_L6h := g23.rdD r_L6h
                      clear h23 hb23
                      refine sat_chkB (by kernel_rfl) ?_
                      refine sat_prim (v := .int .i64 (((i + 1 : Nat)) : Int)) (Eq.trans (b := some (.int .i64 (IntKind.i64.wrap ((((i) : Nat) : Int) + 1)))) (by kernel_rfl) (by rw [Sx.wrap_succ (n := t.v.length) (lt_of hlt) M_t2])) ?_
                      exact sat_back [.int .i64 (((i + 1 : Nat)) : Int), .bool true, .bool l_hr7.neg, .slice A_hr7 n_hr7 c_hr7, .int .i64 l_hr7.e, .bool g_hr7.neg, .slice B_hr7 m_hr7 k_hr7, .int .i64 g_hr7.e] (by kernel_rfl) fun w9 h9 => ⟨_, by have := lt_of hlt; omega, i + 1, _, ⟨l_hr7, g_hr7⟩, _, _, _, _, _, _, rfl, rfl, by have := lt_of hlt; omega, h9.rdD r_hr7l, h9.rdD r_hr7h, over_hull hm h_x5 (cc2 h_x1 hc1 h_x3 hc2) hs h_hr7⟩
                  · refine sat_true (by kernel_rfl) ?_
                    refine sat_prim (v := .int .i64 (((i + 1 : Nat)) : Int)) (Eq.trans (b := some (.int .i64 (IntKind.i64.wrap ((((i) : Nat) : Int) + 1)))) (by kernel_rfl) (by rw [Sx.wrap_succ (n := t.v.length) (lt_of hlt) M_t2])) ?_
                    obtain ⟨x5, h_x5⟩ : ∃ x_, t.v[(i)]? = some x_ := ⟨_, List.getElem?_eq_getElem (lt_of hlt)⟩
                    exact sat_back [.int .i64 (((i + 1 : Nat)) : Int), .bool s, .bool all.lo.neg, .slice A_a n_a c_a, .int .i64 all.lo.e, .bool all.hi.neg, .slice B_a m_a k_a, .int .i64 all.hi.e] (by kernel_rfl) fun w9 h9 => ⟨_, by have := lt_of hlt; omega, i + 1, _, all, _, _, _, _, _, _, rfl, rfl, by have := lt_of hlt; omega, h9.rdD r_al, h9.rdD r_ah, over_skip hm h_x5 (cc2 h_x1 hc1 h_x3 hc2)⟩
                · refine sat_true (by kernel_rfl) ?_
                  refine sat_prim (v := .int .i64 (((i + 1 : Nat)) : Int)) (Eq.trans (b := some (.int .i64 (IntKind.i64.wrap ((((i) : Nat) : Int) + 1)))) (by kernel_rfl) (by rw [Sx.wrap_succ (n := t.v.length) (lt_of hlt) M_t2])) ?_
                  obtain ⟨x3, h_x3⟩ : ∃ x_, t.v[(i)]? = some x_ := ⟨_, List.getElem?_eq_getElem (lt_of hlt)⟩
                  exact sat_back [.int .i64 (((i + 1 : Nat)) : Int), .bool s, .bool all.lo.neg, .slice A_a n_a c_a, .int .i64 all.lo.e, .bool all.hi.neg, .slice B_a m_a k_a, .int .i64 all.hi.e] (by kernel_rfl) fun w9 h9 => ⟨_, by have := lt_of hlt; omega, i + 1, _, all, _, _, _, _, _, _, rfl, rfl, by have := lt_of hlt; omega, h9.rdD r_al, h9.rdD r_ah, over_skip hm h_x3 (cc1 h_x1 hc1)⟩
        · refine sat_true (by kernel_rfl) ?_
          exact sat_ret (.tuple #[.agg #[.bool false, .slice none 0 0, .int .i64 0, .bool false, .slice none 0 0, .int .i64 0], .int .i64 1]) (by kernel_rfl) fun w9 h9 => IvTup.zero (by unfold overT; rw [hMT, hx, hy, hxy]; rfl)

def tr_r11at : Sx.Tree := .chk [.lf 0, .lf 1] (.chk [.lf 2, .lf 3, .lf 4] (.call 33 [.ag [.lf 0, .lf 1], .ag [.lf 2, .lf 3, .lf 4], .ag [.lf 2, .lf 3, .lf 4]] (.tup [(true, 6), (false, 1)]) (.chk [.lf 5, .lf 6, .lf 7, .lf 8, .lf 9, .lf 10] (.ret (.tup [(true, [.lf 5, .lf 6, .lf 7, .lf 8, .lf 9, .lf 10]), (false, [.lf 11])])))))
theorem tr_r11at_eq : Sx.treeAt Tryd.prog 32 [] [] [(true, 2), (true, 3)] = some tr_r11at := by kernel_rfl

theorem ratT_any (A_t : Option Addr) (c_t : Nat) (B_t : Option Addr) (d_t : Nat) (v_d : Value) (t : Tb) (d : Dy) (w : World) (h_t1 : Sx.Rows Sx.kD (fun _ => True) w A_t t.at_.length c_t t.at_) (h_t2 : Sx.Rows Sx.kI (fun _ => True) w B_t t.v.length d_t t.v) (h_d : RdD w v_d d) :
    Calls Tryd.prog 32 #[.agg #[.slice A_t t.at_.length c_t, .slice B_t t.v.length d_t], v_d] w fun e w' => IvTup w' e (overT t d d) ∧ Below w.heap.size w w' := by
  have r_d := h_d
  obtain ⟨A_d, n_d, c_d, rfl, _⟩ := h_d
  have F_t1 := h_t1.start
  have M_t1 := h_t1.le
  clear h_t1
  have F_t2 := h_t2.start
  have M_t2 := h_t2.le
  clear h_t2
  refine (Sx.runA [] [] (ls := [.slice A_t t.at_.length c_t, .slice B_t t.v.length d_t, .bool d.neg, .slice A_d n_d c_d, .int .i64 d.e]) (shs := [(true, 2), (true, 3)]) (R := fun v w' => IvTup w' (.returned v) (overT t d d)) tr_r11at_eq rfl (by decide) (fun q h => by cases h) ?_).mono (fun e w' ⟨v, he, hv, hb⟩ => ⟨by rw [he]; exact hv, hb⟩)
  unfold tr_r11at
  refine sat_chkB (by kernel_rfl) ?_
  refine sat_chkB (by kernel_rfl) ?_
  refine sat_call #[.agg #[.slice A_t t.at_.length c_t, .slice B_t t.v.length d_t], .agg #[.bool d.neg, .slice A_d n_d c_d, .int .i64 d.e], .agg #[.bool d.neg, .slice A_d n_d c_d, .int .i64 d.e]] (by kernel_rfl) fun w1 h1 => ?_
  refine (roverT_any _ _ _ _ _ _ t (d) (d) _ ((F_t1.mv h1.mv).any) ((F_t2.mv h1.mv).any) (h1.rdD r_d) (h1.rdD r_d)).mono ?_
  rintro e v1 ⟨⟨l_o1, g_o1, x_o1, A_o1, n_o1, c_o1, B_o1, m_o1, k_o1, h_o1, rfl, r_o1l, r_o1h⟩, hb1⟩
  refine ⟨hb1, [.bool l_o1.neg, .slice A_o1 n_o1 c_o1, .int .i64 l_o1.e, .bool g_o1.neg, .slice B_o1 m_o1 k_o1, .int .i64 g_o1.e, .int .i64 x_o1], _, rfl, by kernel_rfl, by kernel_rfl, fun g1 => ?_⟩
  replace F_t1 := F_t1.mv g1.mv; replace F_t2 := F_t2.mv g1.mv; replace r_d := g1.rdD r_d
  clear h1 hb1
  refine sat_chkB (by kernel_rfl) ?_
  exact sat_ret (.tuple #[.agg #[.bool l_o1.neg, .slice A_o1 n_o1 c_o1, .int .i64 l_o1.e, .bool g_o1.neg, .slice B_o1 m_o1 k_o1, .int .i64 g_o1.e], .int .i64 x_o1]) (by kernel_rfl) fun w9 h9 => ⟨l_o1, g_o1, x_o1, A_o1, n_o1, c_o1, B_o1, m_o1, k_o1, h_o1, rfl, h9.rdD r_o1l, h9.rdD r_o1h⟩

def tr_r11make : Sx.Tree := .chk [.lf 0, .lf 1, .lf 2] (.chk [.lf 3, .lf 4, .lf 5] (.chk [.lf 6, .lf 7, .lf 8, .lf 9, .lf 10, .lf 11] (.row 35 [.lf 0, .lf 1, .lf 2, .lf 3, .lf 4, .lf 5] 2 [] (.row 37 [.lf 6, .lf 7, .lf 8, .lf 9, .lf 10, .lf 11] 1 [] (.chk [.lf 12, .lf 13] (.chk [.lf 12, .lf 13] (.call 37 [.ag [.lf 12, .lf 13]] .one (.prim .not [.lf 14] (.ite (.lf 15) (.ret (.tup [(true, [.nil, .nil]), (false, [.num .i64 1])])) (.chk [.lf 12, .lf 13] (.ret (.tup [(true, [.lf 12, .lf 13]), (false, [.num .i64 0])]))))))))))))
theorem tr_r11make_eq : Sx.treeAt Tryd.prog 36 [] [] [(true, 3), (true, 3), (true, 6)] = some tr_r11make := by kernel_rfl

theorem rmakeT_any (v_x : Value) (v_y : Value) (v_v : Value) (x : Dy) (y : Dy) (v : Iv) (w : World) (h_x : RdD w v_x x) (h_y : RdD w v_y y) (h_v : RdI w v_v v) :
    Calls Tryd.prog 36 #[v_x, v_y, v_v] w fun e w' => TbTup w w' e (makeT x y v) ∧ Below w.heap.size w w' := by
  have r_x := h_x
  obtain ⟨A_x, n_x, c_x, rfl, _⟩ := h_x
  have r_y := h_y
  obtain ⟨A_y, n_y, c_y, rfl, _⟩ := h_y
  obtain ⟨A_v, n_v, c_v, B_v, m_v, k_v, rfl, r_vl, r_vh⟩ := h_v
  refine (Sx.runA [] [] (ls := [.bool x.neg, .slice A_x n_x c_x, .int .i64 x.e, .bool y.neg, .slice A_y n_y c_y, .int .i64 y.e, .bool v.lo.neg, .slice A_v n_v c_v, .int .i64 v.lo.e, .bool v.hi.neg, .slice B_v m_v k_v, .int .i64 v.hi.e]) (shs := [(true, 3), (true, 3), (true, 6)]) (R := fun v' w' => TbTup w w' (.returned v') (makeT x y v)) tr_r11make_eq rfl (by decide) (fun q h => by cases h) ?_).mono (fun e w' ⟨v', he, hv, hb⟩ => ⟨by rw [he]; exact hv, hb⟩)
  unfold tr_r11make
  refine sat_chkB (by kernel_rfl) ?_
  refine sat_chkB (by kernel_rfl) ?_
  refine sat_chkB (by kernel_rfl) ?_
  refine Sx.sat_rowF [.bool x.neg, .slice A_x n_x c_x, .int .i64 x.e, .bool y.neg, .slice A_y n_y c_y, .int .i64 y.e] (by kernel_rfl) (by intro x hx; cases hx) fun u1 h1 B1 NB1 Z_R1 => ?_
  replace r_x := h1.rdD r_x; replace r_y := h1.rdD r_y; replace r_vl := h1.rdD r_vl; replace r_vh := h1.rdD r_vh
  have F_R1 : Sx.Rows Sx.kD (Sx.NB _) _ (some ⟨u1.heap.size, 0, none⟩) 2 2 [x, y] := rows_two (k := Sx.kD) (cs := [.bool x.neg, .slice A_x n_x c_x, .int .i64 x.e]) B1 NB1 ⟨_, _, _, rfl, r_x⟩ ⟨_, _, _, rfl, r_y⟩
  generalize u1.heap.size = N_R1 at *
  generalize (u1.alloc _) = w_R1 at *
  clear B1 h1 NB1
  refine Sx.sat_rowF [.bool v.lo.neg, .slice A_v n_v c_v, .int .i64 v.lo.e, .bool v.hi.neg, .slice B_v m_v k_v, .int .i64 v.hi.e] (by kernel_rfl) (by intro x hx; cases hx) fun u1 h1 B1 NB1 Z_R2 => ?_
  replace r_x := h1.rdD r_x; replace r_y := h1.rdD r_y; replace r_vl := h1.rdD r_vl; replace r_vh := h1.rdD r_vh; replace F_R1 := F_R1.mv h1.mv
  have F_R2 : Sx.Rows Sx.kI (Sx.NB _) _ (some ⟨u1.heap.size, 0, none⟩) 1 1 [v] := rows_one (k := Sx.kI) B1 NB1 ⟨_, _, _, _, _, _, rfl, r_vl, r_vh⟩
  generalize u1.heap.size = N_R2 at *
  generalize (u1.alloc _) = w_R2 at *
  clear B1 h1 NB1
  refine sat_chkB (by kernel_rfl) ?_
  refine sat_chkB (by kernel_rfl) ?_
  refine sat_call #[.agg #[.slice (some ⟨N_R1, 0, none⟩) 2 2, .slice (some ⟨N_R2, 0, none⟩) 1 1]] (by kernel_rfl) fun w1 h1 => ?_
  refine (rmayT_any _ _ _ _ (⟨[x, y], [v]⟩ : Tb) _ ((F_R1.mv h1.mv).any) ((F_R2.mv h1.mv).any)).mono ?_
  rintro e v1 ⟨rfl, hb1⟩
  refine ⟨hb1, [.bool (mayT (⟨[x, y], [v]⟩ : Tb))], _, rfl, by kernel_rfl, by kernel_rfl, fun g1 => ?_⟩
  replace r_x := g1.rdD r_x; replace r_y := g1.rdD r_y; replace r_vl := g1.rdD r_vl; replace r_vh := g1.rdD r_vh; replace F_R1 := F_R1.mv g1.mv; replace F_R2 := F_R2.mv g1.mv
  clear h1 hb1
  refine sat_prim (v := .bool (!(mayT (⟨[x, y], [v]⟩ : Tb)))) (by kernel_rfl) ?_
  cases hE : (mayT (⟨[x, y], [v]⟩ : Tb))
  · refine sat_true (by kernel_rfl) ?_
    exact sat_ret (.tuple #[.agg #[.slice none 0 0, .slice none 0 0], .int .i64 1]) (by kernel_rfl) fun w9 h9 => TbTup.nil (by unfold makeT; rw [hE]; rfl)
  · refine sat_false (by kernel_rfl) ?_
    refine sat_chkB (by kernel_rfl) ?_
    exact sat_ret (.tuple #[.agg #[.slice (some ⟨N_R1, 0, none⟩) 2 2, .slice (some ⟨N_R2, 0, none⟩) 1 1], .int .i64 0]) (by kernel_rfl) fun w9 h9 => ⟨_, _, 0, _, _, _, _, rfl, hide (by unfold makeT; rw [hE]; rfl), (F_R1.mv h9.mv).fresh (fun h => h) (fun _ ad h => by cases h; exact Z_R1), (F_R2.mv h9.mv).fresh (fun h => h) (fun _ ad h => by cases h; exact Z_R2)⟩

def tr_r11join : Sx.Tree := .chk [.lf 0, .lf 1] (.chk [.lf 2, .lf 3] (.call 37 [.ag [.lf 0, .lf 1]] .one (.prim .not [.lf 4] (.ite (.lf 5) (.ret (.tup [(true, [.nil, .nil]), (false, [.num .i64 1])])) (.call 37 [.ag [.lf 2, .lf 3]] .one (.prim .not [.lf 6] (.ite (.lf 7) (.ret (.tup [(true, [.nil, .nil]), (false, [.num .i64 1])])) (.prim .len [.lf 1] (.prim (.idx 3) [.lf 0, .lf 8] (.load 35 (.lf 9) (.ag 3) (.prim (.idx 3) [.lf 2, .num .i64 0] (.load 35 (.lf 13) (.ag 3) (.call 78 [.ag [.lf 10, .lf 11, .lf 12], .ag [.lf 14, .lf 15, .lf 16]] .one (.prim (.bin .neq) [.lf 17, .num .i64 0] (.ite (.lf 18) (.ret (.tup [(true, [.nil, .nil]), (false, [.num .i64 1])])) (.prim .len [.lf 1] (.prim .len [.lf 3] (.prim (.bin .add) [.lf 19, .lf 20] (.prim (.bin .gtr) [.lf 21, .num .i64 256] (.ite (.lf 22) (.ret (.tup [(true, [.nil, .nil]), (false, [.num .i64 1])])) (.prim (.slc 3 true false) [.lf 2, .num .i64 1] (.alt (.row 35 [] 0 [] (.alt (.app 35 3 40 (.lf 24) (.lf 0) (.alt (.app 35 3 40 (.lf 25) (.lf 23) (.row 37 [] 0 [] (.app 37 6 80 (.lf 27) (.lf 1) (.app 37 6 80 (.lf 28) (.lf 3) (.chk [.lf 26, .lf 29] (.chk [.lf 26, .lf 29] (.ret (.tup [(true, [.lf 26, .lf 29]), (false, [.num .i64 0])])))))))) (.row 37 [] 0 [] (.app 35 3 40 (.lf 25) (.lf 23) (.app 37 6 80 (.lf 26) (.lf 1) (.app 37 6 80 (.lf 28) (.lf 3) (.chk [.lf 27, .lf 29] (.chk [.lf 27, .lf 29] (.ret (.tup [(true, [.lf 27, .lf 29]), (false, [.num .i64 0])])))))))))) (.row 37 [] 0 [] (.app 35 3 40 (.lf 24) (.lf 0) (.app 35 3 40 (.lf 26) (.lf 23) (.app 37 6 80 (.lf 25) (.lf 1) (.app 37 6 80 (.lf 28) (.lf 3) (.chk [.lf 27, .lf 29] (.chk [.lf 27, .lf 29] (.ret (.tup [(true, [.lf 27, .lf 29]), (false, [.num .i64 0])]))))))))))) (.row 37 [] 0 [] (.row 35 [] 0 [] (.app 35 3 40 (.lf 25) (.lf 0) (.app 35 3 40 (.lf 26) (.lf 23) (.app 37 6 80 (.lf 24) (.lf 1) (.app 37 6 80 (.lf 28) (.lf 3) (.chk [.lf 27, .lf 29] (.chk [.lf 27, .lf 29] (.ret (.tup [(true, [.lf 27, .lf 29]), (false, [.num .i64 0])]))))))))))))))))))))))))))))))))
theorem tr_r11join_eq : Sx.treeAt Tryd.prog 35 [] [] [(true, 2), (true, 2)] = some tr_r11join := by kernel_rfl

set_option maxRecDepth 100000 in
set_option maxHeartbeats 8000000 in
theorem rjoinT_any (A_a : Option Addr) (c_a : Nat) (B_a : Option Addr) (d_a : Nat) (A_b : Option Addr) (c_b : Nat) (B_b : Option Addr) (d_b : Nat) (a : Tb) (b : Tb) (w : World) (h_a1 : Sx.Rows Sx.kD (fun _ => True) w A_a a.at_.length c_a a.at_) (h_a2 : Sx.Rows Sx.kI (fun _ => True) w B_a a.v.length d_a a.v) (h_b1 : Sx.Rows Sx.kD (fun _ => True) w A_b b.at_.length c_b b.at_) (h_b2 : Sx.Rows Sx.kI (fun _ => True) w B_b b.v.length d_b b.v) :
    Calls Tryd.prog 35 #[.agg #[.slice A_a a.at_.length c_a, .slice B_a a.v.length d_a], .agg #[.slice A_b b.at_.length c_b, .slice B_b b.v.length d_b]] w fun e w' => TbTup w w' e (joinT a b) ∧ Below w.heap.size w w' := by
  have F_a1 := h_a1.start
  have M_a1 := h_a1.le
  clear h_a1
  have F_a2 := h_a2.start
  have M_a2 := h_a2.le
  clear h_a2
  have F_b1 := h_b1.start
  have M_b1 := h_b1.le
  clear h_b1
  have F_b2 := h_b2.start
  have M_b2 := h_b2.le
  clear h_b2
  refine (Sx.runA [] [] (ls := [.slice A_a a.at_.length c_a, .slice B_a a.v.length d_a, .slice A_b b.at_.length c_b, .slice B_b b.v.length d_b]) (shs := [(true, 2), (true, 2)]) (R := fun v w' => TbTup w w' (.returned v) (joinT a b)) tr_r11join_eq rfl (by decide) (fun q h => by cases h) ?_).mono (fun e w' ⟨v, he, hv, hb⟩ => ⟨by rw [he]; exact hv, hb⟩)
  unfold tr_r11join
  refine sat_chkB (by kernel_rfl) ?_
  refine sat_chkB (by kernel_rfl) ?_
  refine sat_call #[.agg #[.slice A_a a.at_.length c_a, .slice B_a a.v.length d_a]] (by kernel_rfl) fun w1 h1 => ?_
  refine (rmayT_any _ _ _ _ a _ ((F_a1.mv h1.mv).any) ((F_a2.mv h1.mv).any)).mono ?_
  rintro e v1 ⟨rfl, hb1⟩
  refine ⟨hb1, [.bool (mayT a)], _, rfl, by kernel_rfl, by kernel_rfl, fun g1 => ?_⟩
  replace F_a1 := F_a1.mv g1.mv; replace F_a2 := F_a2.mv g1.mv; replace F_b1 := F_b1.mv g1.mv; replace F_b2 := F_b2.mv g1.mv
  clear h1 hb1
  refine sat_prim (v := .bool (!(mayT a))) (by kernel_rfl) ?_
  cases hMa : (mayT a)
  · refine sat_true (by kernel_rfl) ?_
    exact sat_ret (.tuple #[.agg #[.slice none 0 0, .slice none 0 0], .int .i64 1]) (by kernel_rfl) fun w9 h9 => TbTup.nil (by unfold joinT; rw [hMa]; rfl)
  · refine sat_false (by kernel_rfl) ?_
    refine sat_call #[.agg #[.slice A_b b.at_.length c_b, .slice B_b b.v.length d_b]] (by kernel_rfl) fun w3 h3 => ?_
    refine (rmayT_any _ _ _ _ b _ ((F_b1.mv h3.mv).any) ((F_b2.mv h3.mv).any)).mono ?_
    rintro e v3 ⟨rfl, hb3⟩
    refine ⟨hb3, [.bool (mayT b)], _, rfl, by kernel_rfl, by kernel_rfl, fun g3 => ?_⟩
    replace F_a1 := F_a1.mv g3.mv; replace F_a2 := F_a2.mv g3.mv; replace F_b1 := F_b1.mv g3.mv; replace F_b2 := F_b2.mv g3.mv
    clear h3 hb3
    refine sat_prim (v := .bool (!(mayT b))) (by kernel_rfl) ?_
    cases hMb : (mayT b)
    · refine sat_true (by kernel_rfl) ?_
      exact sat_ret (.tuple #[.agg #[.slice none 0 0, .slice none 0 0], .int .i64 1]) (by kernel_rfl) fun w9 h9 => TbTup.nil (by unfold joinT; rw [hMa, hMb]; rfl)
    · refine sat_false (by kernel_rfl) ?_
      refine sat_prim (v := .int .i64 ((a.v.length : Nat) : Int)) (by kernel_rfl) ?_
      refine sat_idx (A := A_a) (c := c_a) (kk := .i64) (a.v.length) (by kernel_rfl) (by kernel_rfl) (by have := (MayT.of hMa).few; have := (MayT.of hMa).len; have := (MayT.of hMa).pos; have := (MayT.of hMb).few; have := (MayT.of hMb).len; have := (MayT.of hMb).pos; omega) F_a1.addr fun g5 o5 e5 => ?_
      obtain ⟨x1, h_x1⟩ : ∃ x_, a.at_[(a.v.length)]? = some x_ := ⟨_, List.getElem?_eq_getElem (by have := (MayT.of hMa).few; have := (MayT.of hMa).len; have := (MayT.of hMa).pos; have := (MayT.of hMb).few; have := (MayT.of hMb).len; have := (MayT.of hMb).pos; omega)⟩
      refine sat_el F_a1 e5 h_x1 rfl (by kernel_rfl) (by kernel_rfl) (by kernel_rfl) ?_
      rintro _ ⟨A_L2, n_L2, c_L2, rfl, r_L2⟩
      refine sat_idx (A := A_b) (c := c_b) (kk := .i64) 0 (by kernel_rfl) (by kernel_rfl) (by have := (MayT.of hMa).few; have := (MayT.of hMa).len; have := (MayT.of hMa).pos; have := (MayT.of hMb).few; have := (MayT.of hMb).len; have := (MayT.of hMb).pos; omega) F_b1.addr fun g6 o6 e6 => ?_
      obtain ⟨x3, h_x3⟩ : ∃ x_, b.at_[0]? = some x_ := ⟨_, List.getElem?_eq_getElem (by have := (MayT.of hMa).few; have := (MayT.of hMa).len; have := (MayT.of hMa).pos; have := (MayT.of hMb).few; have := (MayT.of hMb).len; have := (MayT.of hMb).pos; omega)⟩
      refine sat_el F_b1 e6 h_x3 rfl (by kernel_rfl) (by kernel_rfl) (by kernel_rfl) ?_
      rintro _ ⟨A_L4, n_L4, c_L4, rfl, r_L4⟩
      refine sat_call #[.agg #[.bool x1.neg, .slice A_L2 n_L2 c_L2, .int .i64 x1.e], .agg #[.bool x3.neg, .slice A_L4 n_L4 c_L4, .int .i64 x3.e]] (by kernel_rfl) fun w7 h7 => ?_
      refine (rcmpD_any _ _ (x1) (x3) _ (h7.rdD r_L2) (h7.rdD r_L4)).mono ?_
      rintro e v7 ⟨rfl, hb7⟩
      refine ⟨hb7, [.int .i64 (cmpD x1 x3)], _, rfl, by kernel_rfl, by kernel_rfl, fun g7 => ?_⟩
      replace F_a1 := F_a1.mv g7.mv; replace F_a2 := F_a2.mv g7.mv; replace F_b1 := F_b1.mv g7.mv; replace F_b2 := F_b2.mv g7.mv; replace r_L2 := g7.rdD r_L2; replace r_L4 := g7.rdD r_L4
      clear h7 hb7
      refine sat_prim (v := .bool (((cmpD x1 x3) : Int) != 0)) (by kernel_rfl) ?_
      cases hC : (((cmpD x1 x3) : Int) != 0)
      · refine sat_false (by kernel_rfl) ?_
        refine sat_prim (v := .int .i64 ((a.v.length : Nat) : Int)) (by kernel_rfl) ?_
        refine sat_prim (v := .int .i64 ((b.v.length : Nat) : Int)) (by kernel_rfl) ?_
        refine sat_prim (v := .int .i64 ((a.v.length + b.v.length : Nat) : Int)) (Eq.trans (b := some (.int .i64 (IntKind.i64.wrap (((a.v.length : Nat) : Int) + ((b.v.length : Nat) : Int))))) (by kernel_rfl) (sml (by have := (MayT.of hMa).few; have := (MayT.of hMa).len; have := (MayT.of hMa).pos; have := (MayT.of hMb).few; have := (MayT.of hMb).len; have := (MayT.of hMb).pos; omega) (by have := (MayT.of hMa).few; have := (MayT.of hMa).len; have := (MayT.of hMa).pos; have := (MayT.of hMb).few; have := (MayT.of hMb).len; have := (MayT.of hMb).pos; omega))) ?_
        refine sat_prim (v := .bool (decide ((256 : Int) < ((a.v.length + b.v.length : Nat) : Int)))) (by kernel_rfl) ?_
        cases hS : (decide ((256 : Int) < ((a.v.length + b.v.length : Nat) : Int)))
        · refine sat_false (by kernel_rfl) ?_
          obtain ⟨C_D5, e_D5, F_D5⟩ := cut1 F_b1 (by have := (MayT.of hMa).few; have := (MayT.of hMa).len; have := (MayT.of hMa).pos; have := (MayT.of hMb).few; have := (MayT.of hMb).len; have := (MayT.of hMb).pos; omega)
          refine sat_prim (v := .slice C_D5 (b.at_.drop 1).length (c_b - 1)) (Eq.trans (by kernel_rfl) e_D5) ?_
          refine sat_alt ?_ ?_
          · refine Sx.sat_rowB [] (by kernel_rfl) (by intro x hx; cases hx) fun u1 h1 B1 Z1 => ?_
            replace F_a1 := F_a1.mv h1.mv; replace F_a2 := F_a2.mv h1.mv; replace F_b1 := F_b1.mv h1.mv; replace F_b2 := F_b2.mv h1.mv; replace r_L2 := h1.rdD r_L2; replace r_L4 := h1.rdD r_L4; replace F_D5 := F_D5.mv h1.mv
            have G_E6 : Sx.Gr Sx.kD w 35 _ (.slice (some ⟨u1.heap.size, 0, none⟩) 0 0) [] := Sx.Gr.empty (k := Sx.kD) (w := ⟨u1.alloc (.cells ([] : List Value).toArray 35), u1.own, u1.heap.size :: u1.bld⟩) (by decide) B1 (List.mem_cons_self ..) Z1
            generalize u1.heap.size = N_E6 at *
            generalize (u1.alloc _) = w_E6 at *
            clear B1 h1 Z1
            refine sat_alt ?_ ?_
            · refine sat_app (.slice (some ⟨N_E6, 0, none⟩) 0 0) (.slice A_a a.at_.length c_a) (by kernel_rfl) (by kernel_rfl) fun w10 h10 => ?_
              refine (G_E6.le h10).app' (l' := a.at_) (F_a1.mv h10.mv) (by have := (MayT.of hMa).few; have := (MayT.of hMa).len; have := (MayT.of hMa).pos; have := (MayT.of hMb).few; have := (MayT.of hMb).len; have := (MayT.of hMb).pos; omega) (by have := (MayT.of hMa).few; have := (MayT.of hMa).len; have := (MayT.of hMa).pos; have := (MayT.of hMb).few; have := (MayT.of hMb).len; have := (MayT.of hMb).pos; simp only [List.length_nil]; simp only [maxLen]; omega) (by have := (MayT.of hMa).few; have := (MayT.of hMa).len; have := (MayT.of hMa).pos; have := (MayT.of hMb).few; have := (MayT.of hMb).len; have := (MayT.of hMb).pos; simp only [List.length_nil]; omega) fun A_G7 c_G7 v10 a10 G7 => ?_
              replace F_a1 := F_a1.mv h10.mv; replace F_a2 := F_a2.mv h10.mv; replace F_b1 := F_b1.mv h10.mv; replace F_b2 := F_b2.mv h10.mv; replace r_L2 := h10.rdD r_L2; replace r_L4 := h10.rdD r_L4; replace F_D5 := F_D5.mv h10.mv
              replace F_a1 := F_a1.mv a10.toLf.mv; replace F_a2 := F_a2.mv a10.toLf.mv; replace F_b1 := F_b1.mv a10.toLf.mv; replace F_b2 := F_b2.mv a10.toLf.mv; replace r_L2 := a10.toLf.rdD r_L2; replace r_L4 := a10.toLf.rdD r_L4; replace F_D5 := F_D5.mv a10.toLf.mv
              clear h10 a10 G_E6
              refine sat_alt ?_ ?_
              · refine sat_app (.slice A_G7 (([] : List Dy) ++ a.at_).length c_G7) (.slice C_D5 (b.at_.drop 1).length (c_b - 1)) (by kernel_rfl) (by kernel_rfl) fun w11 h11 => ?_
                refine (G7.le h11).app' (l' := (b.at_.drop 1)) (F_D5.mv h11.mv) (by have := (MayT.of hMa).few; have := (MayT.of hMa).len; have := (MayT.of hMa).pos; have := (MayT.of hMb).few; have := (MayT.of hMb).len; have := (MayT.of hMb).pos; rw [List.length_drop]; omega) (by have := (MayT.of hMa).few; have := (MayT.of hMa).len; have := (MayT.of hMa).pos; have := (MayT.of hMb).few; have := (MayT.of hMb).len; have := (MayT.of hMb).pos; simp only [List.length_append, List.length_nil, List.length_drop]; simp only [maxLen]; omega) (by have := (MayT.of hMa).few; have := (MayT.of hMa).len; have := (MayT.of hMa).pos; have := (MayT.of hMb).few; have := (MayT.of hMb).len; have := (MayT.of hMb).pos; simp only [List.length_append, List.length_nil, List.length_drop]; omega) fun A_G8 c_G8 v11 a11 G8 => ?_
                replace F_a1 := F_a1.mv h11.mv; replace F_a2 := F_a2.mv h11.mv; replace F_b1 := F_b1.mv h11.mv; replace F_b2 := F_b2.mv h11.mv; replace r_L2 := h11.rdD r_L2; replace r_L4 := h11.rdD r_L4; replace F_D5 := F_D5.mv h11.mv
                replace F_a1 := F_a1.mv a11.toLf.mv; replace F_a2 := F_a2.mv a11.toLf.mv; replace F_b1 := F_b1.mv a11.toLf.mv; replace F_b2 := F_b2.mv a11.toLf.mv; replace r_L2 := a11.toLf.rdD r_L2; replace r_L4 := a11.toLf.rdD r_L4; replace F_D5 := F_D5.mv a11.toLf.mv
                clear h11 a11 G7
                refine Sx.sat_rowB2 [] (by kernel_rfl) (by intro x hx; cases hx) fun u1 h1 B1 Z1 N1 => ?_
                have DE9 := G8.apart (n := 0) (c := 0) N1
                replace F_a1 := F_a1.mv h1.mv; replace F_a2 := F_a2.mv h1.mv; replace F_b1 := F_b1.mv h1.mv; replace F_b2 := F_b2.mv h1.mv; replace r_L2 := h1.rdD r_L2; replace r_L4 := h1.rdD r_L4; replace F_D5 := F_D5.mv h1.mv; replace G8 := G8.le h1
                have G_E9 : Sx.Gr Sx.kI w 37 _ (.slice (some ⟨u1.heap.size, 0, none⟩) 0 0) [] := Sx.Gr.empty (k := Sx.kI) (w := ⟨u1.alloc (.cells ([] : List Value).toArray 37), u1.own, u1.heap.size :: u1.bld⟩) (by decide) B1 (List.mem_cons_self ..) Z1
                generalize u1.heap.size = N_E9 at *
                generalize (u1.alloc _) = w_E9 at *
                clear B1 h1 Z1 N1
                refine sat_app (.slice (some ⟨N_E9, 0, none⟩) 0 0) (.slice B_a a.v.length d_a) (by kernel_rfl) (by kernel_rfl) fun w12 h12 => ?_
                refine (G_E9.le h12).app' (l' := a.v) (F_a2.mv h12.mv) (by have := (MayT.of hMa).few; have := (MayT.of hMa).len; have := (MayT.of hMa).pos; have := (MayT.of hMb).few; have := (MayT.of hMb).len; have := (MayT.of hMb).pos; omega) (by have := (MayT.of hMa).few; have := (MayT.of hMa).len; have := (MayT.of hMa).pos; have := (MayT.of hMb).few; have := (MayT.of hMb).len; have := (MayT.of hMb).pos; simp only [List.length_nil]; simp only [maxLen]; omega) (by have := (MayT.of hMa).few; have := (MayT.of hMa).len; have := (MayT.of hMa).pos; have := (MayT.of hMb).few; have := (MayT.of hMb).len; have := (MayT.of hMb).pos; simp only [List.length_nil]; omega) fun A_G10 c_G10 v12 a12 G10 => ?_
                have Q12 := (G8.le h12).other a12 DE9.symm h12.wf
                replace G8 := Q12.1
                replace DE9 := Q12.2.symm
                replace F_a1 := F_a1.mv h12.mv; replace F_a2 := F_a2.mv h12.mv; replace F_b1 := F_b1.mv h12.mv; replace F_b2 := F_b2.mv h12.mv; replace r_L2 := h12.rdD r_L2; replace r_L4 := h12.rdD r_L4; replace F_D5 := F_D5.mv h12.mv
                replace F_a1 := F_a1.mv a12.toLf.mv; replace F_a2 := F_a2.mv a12.toLf.mv; replace F_b1 := F_b1.mv a12.toLf.mv; replace F_b2 := F_b2.mv a12.toLf.mv; replace r_L2 := a12.toLf.rdD r_L2; replace r_L4 := a12.toLf.rdD r_L4; replace F_D5 := F_D5.mv a12.toLf.mv
                clear h12 a12 G_E9 Q12
                refine sat_app (.slice A_G10 (([] : List Iv) ++ a.v).length c_G10) (.slice B_b b.v.length d_b) (by kernel_rfl) (by kernel_rfl) fun w13 h13 => ?_
                refine (G10.le h13).app' (l' := b.v) (F_b2.mv h13.mv) (by have := (MayT.of hMa).few; have := (MayT.of hMa).len; have := (MayT.of hMa).pos; have := (MayT.of hMb).few; have := (MayT.of hMb).len; have := (MayT.of hMb).pos; omega) (by have := (MayT.of hMa).few; have := (MayT.of hMa).len; have := (MayT.of hMa).pos; have := (MayT.of hMb).few; have := (MayT.of hMb).len; have := (MayT.of hMb).pos; simp only [List.length_append, List.length_nil]; simp only [maxLen]; omega) (by have := (MayT.of hMa).few; have := (MayT.of hMa).len; have := (MayT.of hMa).pos; have := (MayT.of hMb).few; have := (MayT.of hMb).len; have := (MayT.of hMb).pos; simp only [List.length_append, List.length_nil]; omega) fun A_G11 c_G11 v13 a13 G11 => ?_
                have Q13 := (G8.le h13).other a13 DE9.symm h13.wf
                replace G8 := Q13.1
                replace DE9 := Q13.2.symm
                replace F_a1 := F_a1.mv h13.mv; replace F_a2 := F_a2.mv h13.mv; replace F_b1 := F_b1.mv h13.mv; replace F_b2 := F_b2.mv h13.mv; replace r_L2 := h13.rdD r_L2; replace r_L4 := h13.rdD r_L4; replace F_D5 := F_D5.mv h13.mv
                replace F_a1 := F_a1.mv a13.toLf.mv; replace F_a2 := F_a2.mv a13.toLf.mv; replace F_b1 := F_b1.mv a13.toLf.mv; replace F_b2 := F_b2.mv a13.toLf.mv; replace r_L2 := a13.toLf.rdD r_L2; replace r_L4 := a13.toLf.rdD r_L4; replace F_D5 := F_D5.mv a13.toLf.mv
                clear h13 a13 G10 Q13
                refine sat_chkB (by kernel_rfl) ?_
                refine sat_chkB (by kernel_rfl) ?_
                exact sat_ret (.tuple #[.agg #[.slice A_G8 ((([] : List Dy) ++ a.at_) ++ (b.at_.drop 1)).length c_G8, .slice A_G11 ((([] : List Iv) ++ a.v) ++ b.v).length c_G11], .int .i64 0]) (by kernel_rfl) fun w9 h9 => ⟨_, _, 0, _, _, _, _, rfl, hide (by unfold joinT; rw [hMa, hMb, last_is hMa h_x1, show firstT b = x3 from atT_is h_x3, hC, hS]; rfl), (G8.le h9).done fun h => h, (G11.le h9).done fun h => h⟩
              · refine Sx.sat_rowB2 [] (by kernel_rfl) (by intro x hx; cases hx) fun u1 h1 B1 Z1 N1 => ?_
                have DE8 := G7.apart (n := 0) (c := 0) N1
                replace F_a1 := F_a1.mv h1.mv; replace F_a2 := F_a2.mv h1.mv; replace F_b1 := F_b1.mv h1.mv; replace F_b2 := F_b2.mv h1.mv; replace r_L2 := h1.rdD r_L2; replace r_L4 := h1.rdD r_L4; replace F_D5 := F_D5.mv h1.mv; replace G7 := G7.le h1
                have G_E8 : Sx.Gr Sx.kI w 37 _ (.slice (some ⟨u1.heap.size, 0, none⟩) 0 0) [] := Sx.Gr.empty (k := Sx.kI) (w := ⟨u1.alloc (.cells ([] : List Value).toArray 37), u1.own, u1.heap.size :: u1.bld⟩) (by decide) B1 (List.mem_cons_self ..) Z1
                generalize u1.heap.size = N_E8 at *
                generalize (u1.alloc _) = w_E8 at *
                clear B1 h1 Z1 N1
                refine sat_app (.slice A_G7 (([] : List Dy) ++ a.at_).length c_G7) (.slice C_D5 (b.at_.drop 1).length (c_b - 1)) (by kernel_rfl) (by kernel_rfl) fun w11 h11 => ?_
                refine (G7.le h11).app' (l' := (b.at_.drop 1)) (F_D5.mv h11.mv) (by have := (MayT.of hMa).few; have := (MayT.of hMa).len; have := (MayT.of hMa).pos; have := (MayT.of hMb).few; have := (MayT.of hMb).len; have := (MayT.of hMb).pos; rw [List.length_drop]; omega) (by have := (MayT.of hMa).few; have := (MayT.of hMa).len; have := (MayT.of hMa).pos; have := (MayT.of hMb).few; have := (MayT.of hMb).len; have := (MayT.of hMb).pos; simp only [List.length_append, List.length_nil, List.length_drop]; simp only [maxLen]; omega) (by have := (MayT.of hMa).few; have := (MayT.of hMa).len; have := (MayT.of hMa).pos; have := (MayT.of hMb).few; have := (MayT.of hMb).len; have := (MayT.of hMb).pos; simp only [List.length_append, List.length_nil, List.length_drop]; omega) fun A_G9 c_G9 v11 a11 G9 => ?_
                have Q11 := (G_E8.le h11).other a11 DE8 h11.wf
                replace G_E8 := Q11.1
                replace DE8 := Q11.2
                replace F_a1 := F_a1.mv h11.mv; replace F_a2 := F_a2.mv h11.mv; replace F_b1 := F_b1.mv h11.mv; replace F_b2 := F_b2.mv h11.mv; replace r_L2 := h11.rdD r_L2; replace r_L4 := h11.rdD r_L4; replace F_D5 := F_D5.mv h11.mv
                replace F_a1 := F_a1.mv a11.toLf.mv; replace F_a2 := F_a2.mv a11.toLf.mv; replace F_b1 := F_b1.mv a11.toLf.mv; replace F_b2 := F_b2.mv a11.toLf.mv; replace r_L2 := a11.toLf.rdD r_L2; replace r_L4 := a11.toLf.rdD r_L4; replace F_D5 := F_D5.mv a11.toLf.mv
                clear h11 a11 G7 Q11
                refine sat_app (.slice (some ⟨N_E8, 0, none⟩) 0 0) (.slice B_a a.v.length d_a) (by kernel_rfl) (by kernel_rfl) fun w12 h12 => ?_
                refine (G_E8.le h12).app' (l' := a.v) (F_a2.mv h12.mv) (by have := (MayT.of hMa).few; have := (MayT.of hMa).len; have := (MayT.of hMa).pos; have := (MayT.of hMb).few; have := (MayT.of hMb).len; have := (MayT.of hMb).pos; omega) (by have := (MayT.of hMa).few; have := (MayT.of hMa).len; have := (MayT.of hMa).pos; have := (MayT.of hMb).few; have := (MayT.of hMb).len; have := (MayT.of hMb).pos; simp only [List.length_nil]; simp only [maxLen]; omega) (by have := (MayT.of hMa).few; have := (MayT.of hMa).len; have := (MayT.of hMa).pos; have := (MayT.of hMb).few; have := (MayT.of hMb).len; have := (MayT.of hMb).pos; simp only [List.length_nil]; omega) fun A_G10 c_G10 v12 a12 G10 => ?_
                have Q12 := (G9.le h12).other a12 DE8.symm h12.wf
                replace G9 := Q12.1
                replace DE8 := Q12.2.symm
                replace F_a1 := F_a1.mv h12.mv; replace F_a2 := F_a2.mv h12.mv; replace F_b1 := F_b1.mv h12.mv; replace F_b2 := F_b2.mv h12.mv; replace r_L2 := h12.rdD r_L2; replace r_L4 := h12.rdD r_L4; replace F_D5 := F_D5.mv h12.mv
                replace F_a1 := F_a1.mv a12.toLf.mv; replace F_a2 := F_a2.mv a12.toLf.mv; replace F_b1 := F_b1.mv a12.toLf.mv; replace F_b2 := F_b2.mv a12.toLf.mv; replace r_L2 := a12.toLf.rdD r_L2; replace r_L4 := a12.toLf.rdD r_L4; replace F_D5 := F_D5.mv a12.toLf.mv
                clear h12 a12 G_E8 Q12
                refine sat_app (.slice A_G10 (([] : List Iv) ++ a.v).length c_G10) (.slice B_b b.v.length d_b) (by kernel_rfl) (by kernel_rfl) fun w13 h13 => ?_
                refine (G10.le h13).app' (l' := b.v) (F_b2.mv h13.mv) (by have := (MayT.of hMa).few; have := (MayT.of hMa).len; have := (MayT.of hMa).pos; have := (MayT.of hMb).few; have := (MayT.of hMb).len; have := (MayT.of hMb).pos; omega) (by have := (MayT.of hMa).few; have := (MayT.of hMa).len; have := (MayT.of hMa).pos; have := (MayT.of hMb).few; have := (MayT.of hMb).len; have := (MayT.of hMb).pos; simp only [List.length_append, List.length_nil]; simp only [maxLen]; omega) (by have := (MayT.of hMa).few; have := (MayT.of hMa).len; have := (MayT.of hMa).pos; have := (MayT.of hMb).few; have := (MayT.of hMb).len; have := (MayT.of hMb).pos; simp only [List.length_append, List.length_nil]; omega) fun A_G11 c_G11 v13 a13 G11 => ?_
                have Q13 := (G9.le h13).other a13 DE8.symm h13.wf
                replace G9 := Q13.1
                replace DE8 := Q13.2.symm
                replace F_a1 := F_a1.mv h13.mv; replace F_a2 := F_a2.mv h13.mv; replace F_b1 := F_b1.mv h13.mv; replace F_b2 := F_b2.mv h13.mv; replace r_L2 := h13.rdD r_L2; replace r_L4 := h13.rdD r_L4; replace F_D5 := F_D5.mv h13.mv
                replace F_a1 := F_a1.mv a13.toLf.mv; replace F_a2 := F_a2.mv a13.toLf.mv; replace F_b1 := F_b1.mv a13.toLf.mv; replace F_b2 := F_b2.mv a13.toLf.mv; replace r_L2 := a13.toLf.rdD r_L2; replace r_L4 := a13.toLf.rdD r_L4; replace F_D5 := F_D5.mv a13.toLf.mv
                clear h13 a13 G10 Q13
                refine sat_chkB (by kernel_rfl) ?_
                refine sat_chkB (by kernel_rfl) ?_
                exact sat_ret (.tuple #[.agg #[.slice A_G9 ((([] : List Dy) ++ a.at_) ++ (b.at_.drop 1)).length c_G9, .slice A_G11 ((([] : List Iv) ++ a.v) ++ b.v).length c_G11], .int .i64 0]) (by kernel_rfl) fun w9 h9 => ⟨_, _, 0, _, _, _, _, rfl, hide (by unfold joinT; rw [hMa, hMb, last_is hMa h_x1, show firstT b = x3 from atT_is h_x3, hC, hS]; rfl), (G9.le h9).done fun h => h, (G11.le h9).done fun h => h⟩
            · refine Sx.sat_rowB2 [] (by kernel_rfl) (by intro x hx; cases hx) fun u1 h1 B1 Z1 N1 => ?_
              have DE7 := G_E6.apart (n := 0) (c := 0) N1
              replace F_a1 := F_a1.mv h1.mv; replace F_a2 := F_a2.mv h1.mv; replace F_b1 := F_b1.mv h1.mv; replace F_b2 := F_b2.mv h1.mv; replace r_L2 := h1.rdD r_L2; replace r_L4 := h1.rdD r_L4; replace F_D5 := F_D5.mv h1.mv; replace G_E6 := G_E6.le h1
              have G_E7 : Sx.Gr Sx.kI w 37 _ (.slice (some ⟨u1.heap.size, 0, none⟩) 0 0) [] := Sx.Gr.empty (k := Sx.kI) (w := ⟨u1.alloc (.cells ([] : List Value).toArray 37), u1.own, u1.heap.size :: u1.bld⟩) (by decide) B1 (List.mem_cons_self ..) Z1
              generalize u1.heap.size = N_E7 at *
              generalize (u1.alloc _) = w_E7 at *
              clear B1 h1 Z1 N1
              refine sat_app (.slice (some ⟨N_E6, 0, none⟩) 0 0) (.slice A_a a.at_.length c_a) (by kernel_rfl) (by kernel_rfl) fun w10 h10 => ?_
              refine (G_E6.le h10).app' (l' := a.at_) (F_a1.mv h10.mv) (by have := (MayT.of hMa).few; have := (MayT.of hMa).len; have := (MayT.of hMa).pos; have := (MayT.of hMb).few; have := (MayT.of hMb).len; have := (MayT.of hMb).pos; omega) (by have := (MayT.of hMa).few; have := (MayT.of hMa).len; have := (MayT.of hMa).pos; have := (MayT.of hMb).few; have := (MayT.of hMb).len; have := (MayT.of hMb).pos; simp only [List.length_nil]; simp only [maxLen]; omega) (by have := (MayT.of hMa).few; have := (MayT.of hMa).len; have := (MayT.of hMa).pos; have := (MayT.of hMb).few; have := (MayT.of hMb).len; have := (MayT.of hMb).pos; simp only [List.length_nil]; omega) fun A_G8 c_G8 v10 a10 G8 => ?_
              have Q10 := (G_E7.le h10).other a10 DE7 h10.wf
              replace G_E7 := Q10.1
              replace DE7 := Q10.2
              replace F_a1 := F_a1.mv h10.mv; replace F_a2 := F_a2.mv h10.mv; replace F_b1 := F_b1.mv h10.mv; replace F_b2 := F_b2.mv h10.mv; replace r_L2 := h10.rdD r_L2; replace r_L4 := h10.rdD r_L4; replace F_D5 := F_D5.mv h10.mv
              replace F_a1 := F_a1.mv a10.toLf.mv; replace F_a2 := F_a2.mv a10.toLf.mv; replace F_b1 := F_b1.mv a10.toLf.mv; replace F_b2 := F_b2.mv a10.toLf.mv; replace r_L2 := a10.toLf.rdD r_L2; replace r_L4 := a10.toLf.rdD r_L4; replace F_D5 := F_D5.mv a10.toLf.mv
              clear h10 a10 G_E6 Q10
              refine sat_app (.slice A_G8 (([] : List Dy) ++ a.at_).length c_G8) (.slice C_D5 (b.at_.drop 1).length (c_b - 1)) (by kernel_rfl) (by kernel_rfl) fun w11 h11 => ?_
              refine (G8.le h11).app' (l' := (b.at_.drop 1)) (F_D5.mv h11.mv) (by have := (MayT.of hMa).few; have := (MayT.of hMa).len; have := (MayT.of hMa).pos; have := (MayT.of hMb).few; have := (MayT.of hMb).len; have := (MayT.of hMb).pos; rw [List.length_drop]; omega) (by have := (MayT.of hMa).few; have := (MayT.of hMa).len; have := (MayT.of hMa).pos; have := (MayT.of hMb).few; have := (MayT.of hMb).len; have := (MayT.of hMb).pos; simp only [List.length_append, List.length_nil, List.length_drop]; simp only [maxLen]; omega) (by have := (MayT.of hMa).few; have := (MayT.of hMa).len; have := (MayT.of hMa).pos; have := (MayT.of hMb).few; have := (MayT.of hMb).len; have := (MayT.of hMb).pos; simp only [List.length_append, List.length_nil, List.length_drop]; omega) fun A_G9 c_G9 v11 a11 G9 => ?_
              have Q11 := (G_E7.le h11).other a11 DE7 h11.wf
              replace G_E7 := Q11.1
              replace DE7 := Q11.2
              replace F_a1 := F_a1.mv h11.mv; replace F_a2 := F_a2.mv h11.mv; replace F_b1 := F_b1.mv h11.mv; replace F_b2 := F_b2.mv h11.mv; replace r_L2 := h11.rdD r_L2; replace r_L4 := h11.rdD r_L4; replace F_D5 := F_D5.mv h11.mv
              replace F_a1 := F_a1.mv a11.toLf.mv; replace F_a2 := F_a2.mv a11.toLf.mv; replace F_b1 := F_b1.mv a11.toLf.mv; replace F_b2 := F_b2.mv a11.toLf.mv; replace r_L2 := a11.toLf.rdD r_L2; replace r_L4 := a11.toLf.rdD r_L4; replace F_D5 := F_D5.mv a11.toLf.mv
              clear h11 a11 G8 Q11
              refine sat_app (.slice (some ⟨N_E7, 0, none⟩) 0 0) (.slice B_a a.v.length d_a) (by kernel_rfl) (by kernel_rfl) fun w12 h12 => ?_
              refine (G_E7.le h12).app' (l' := a.v) (F_a2.mv h12.mv) (by have := (MayT.of hMa).few; have := (MayT.of hMa).len; have := (MayT.of hMa).pos; have := (MayT.of hMb).few; have := (MayT.of hMb).len; have := (MayT.of hMb).pos; omega) (by have := (MayT.of hMa).few; have := (MayT.of hMa).len; have := (MayT.of hMa).pos; have := (MayT.of hMb).few; have := (MayT.of hMb).len; have := (MayT.of hMb).pos; simp only [List.length_nil]; simp only [maxLen]; omega) (by have := (MayT.of hMa).few; have := (MayT.of hMa).len; have := (MayT.of hMa).pos; have := (MayT.of hMb).few; have := (MayT.of hMb).len; have := (MayT.of hMb).pos; simp only [List.length_nil]; omega) fun A_G10 c_G10 v12 a12 G10 => ?_
              have Q12 := (G9.le h12).other a12 DE7.symm h12.wf
              replace G9 := Q12.1
              replace DE7 := Q12.2.symm
              replace F_a1 := F_a1.mv h12.mv; replace F_a2 := F_a2.mv h12.mv; replace F_b1 := F_b1.mv h12.mv; replace F_b2 := F_b2.mv h12.mv; replace r_L2 := h12.rdD r_L2; replace r_L4 := h12.rdD r_L4; replace F_D5 := F_D5.mv h12.mv
              replace F_a1 := F_a1.mv a12.toLf.mv; replace F_a2 := F_a2.mv a12.toLf.mv; replace F_b1 := F_b1.mv a12.toLf.mv; replace F_b2 := F_b2.mv a12.toLf.mv; replace r_L2 := a12.toLf.rdD r_L2; replace r_L4 := a12.toLf.rdD r_L4; replace F_D5 := F_D5.mv a12.toLf.mv
              clear h12 a12 G_E7 Q12
              refine sat_app (.slice A_G10 (([] : List Iv) ++ a.v).length c_G10) (.slice B_b b.v.length d_b) (by kernel_rfl) (by kernel_rfl) fun w13 h13 => ?_
              refine (G10.le h13).app' (l' := b.v) (F_b2.mv h13.mv) (by have := (MayT.of hMa).few; have := (MayT.of hMa).len; have := (MayT.of hMa).pos; have := (MayT.of hMb).few; have := (MayT.of hMb).len; have := (MayT.of hMb).pos; omega) (by have := (MayT.of hMa).few; have := (MayT.of hMa).len; have := (MayT.of hMa).pos; have := (MayT.of hMb).few; have := (MayT.of hMb).len; have := (MayT.of hMb).pos; simp only [List.length_append, List.length_nil]; simp only [maxLen]; omega) (by have := (MayT.of hMa).few; have := (MayT.of hMa).len; have := (MayT.of hMa).pos; have := (MayT.of hMb).few; have := (MayT.of hMb).len; have := (MayT.of hMb).pos; simp only [List.length_append, List.length_nil]; omega) fun A_G11 c_G11 v13 a13 G11 => ?_
              have Q13 := (G9.le h13).other a13 DE7.symm h13.wf
              replace G9 := Q13.1
              replace DE7 := Q13.2.symm
              replace F_a1 := F_a1.mv h13.mv; replace F_a2 := F_a2.mv h13.mv; replace F_b1 := F_b1.mv h13.mv; replace F_b2 := F_b2.mv h13.mv; replace r_L2 := h13.rdD r_L2; replace r_L4 := h13.rdD r_L4; replace F_D5 := F_D5.mv h13.mv
              replace F_a1 := F_a1.mv a13.toLf.mv; replace F_a2 := F_a2.mv a13.toLf.mv; replace F_b1 := F_b1.mv a13.toLf.mv; replace F_b2 := F_b2.mv a13.toLf.mv; replace r_L2 := a13.toLf.rdD r_L2; replace r_L4 := a13.toLf.rdD r_L4; replace F_D5 := F_D5.mv a13.toLf.mv
              clear h13 a13 G10 Q13
              refine sat_chkB (by kernel_rfl) ?_
              refine sat_chkB (by kernel_rfl) ?_
              exact sat_ret (.tuple #[.agg #[.slice A_G9 ((([] : List Dy) ++ a.at_) ++ (b.at_.drop 1)).length c_G9, .slice A_G11 ((([] : List Iv) ++ a.v) ++ b.v).length c_G11], .int .i64 0]) (by kernel_rfl) fun w9 h9 => ⟨_, _, 0, _, _, _, _, rfl, hide (by unfold joinT; rw [hMa, hMb, last_is hMa h_x1, show firstT b = x3 from atT_is h_x3, hC, hS]; rfl), (G9.le h9).done fun h => h, (G11.le h9).done fun h => h⟩
          · refine Sx.sat_rowB [] (by kernel_rfl) (by intro x hx; cases hx) fun u1 h1 B1 Z1 => ?_
            replace F_a1 := F_a1.mv h1.mv; replace F_a2 := F_a2.mv h1.mv; replace F_b1 := F_b1.mv h1.mv; replace F_b2 := F_b2.mv h1.mv; replace r_L2 := h1.rdD r_L2; replace r_L4 := h1.rdD r_L4; replace F_D5 := F_D5.mv h1.mv
            have G_E6 : Sx.Gr Sx.kI w 37 _ (.slice (some ⟨u1.heap.size, 0, none⟩) 0 0) [] := Sx.Gr.empty (k := Sx.kI) (w := ⟨u1.alloc (.cells ([] : List Value).toArray 37), u1.own, u1.heap.size :: u1.bld⟩) (by decide) B1 (List.mem_cons_self ..) Z1
            generalize u1.heap.size = N_E6 at *
            generalize (u1.alloc _) = w_E6 at *
            clear B1 h1 Z1
            refine Sx.sat_rowB2 [] (by kernel_rfl) (by intro x hx; cases hx) fun u1 h1 B1 Z1 N1 => ?_
            have DE7 := G_E6.apart (n := 0) (c := 0) N1
            replace F_a1 := F_a1.mv h1.mv; replace F_a2 := F_a2.mv h1.mv; replace F_b1 := F_b1.mv h1.mv; replace F_b2 := F_b2.mv h1.mv; replace r_L2 := h1.rdD r_L2; replace r_L4 := h1.rdD r_L4; replace F_D5 := F_D5.mv h1.mv; replace G_E6 := G_E6.le h1
            have G_E7 : Sx.Gr Sx.kD w 35 _ (.slice (some ⟨u1.heap.size, 0, none⟩) 0 0) [] := Sx.Gr.empty (k := Sx.kD) (w := ⟨u1.alloc (.cells ([] : List Value).toArray 35), u1.own, u1.heap.size :: u1.bld⟩) (by decide) B1 (List.mem_cons_self ..) Z1
            generalize u1.heap.size = N_E7 at *
            generalize (u1.alloc _) = w_E7 at *
            clear B1 h1 Z1 N1
            refine sat_app (.slice (some ⟨N_E7, 0, none⟩) 0 0) (.slice A_a a.at_.length c_a) (by kernel_rfl) (by kernel_rfl) fun w10 h10 => ?_
            refine (G_E7.le h10).app' (l' := a.at_) (F_a1.mv h10.mv) (by have := (MayT.of hMa).few; have := (MayT.of hMa).len; have := (MayT.of hMa).pos; have := (MayT.of hMb).few; have := (MayT.of hMb).len; have := (MayT.of hMb).pos; omega) (by have := (MayT.of hMa).few; have := (MayT.of hMa).len; have := (MayT.of hMa).pos; have := (MayT.of hMb).few; have := (MayT.of hMb).len; have := (MayT.of hMb).pos; simp only [List.length_nil]; simp only [maxLen]; omega) (by have := (MayT.of hMa).few; have := (MayT.of hMa).len; have := (MayT.of hMa).pos; have := (MayT.of hMb).few; have := (MayT.of hMb).len; have := (MayT.of hMb).pos; simp only [List.length_nil]; omega) fun A_G8 c_G8 v10 a10 G8 => ?_
            have Q10 := (G_E6.le h10).other a10 DE7.symm h10.wf
            replace G_E6 := Q10.1
            replace DE7 := Q10.2.symm
            replace F_a1 := F_a1.mv h10.mv; replace F_a2 := F_a2.mv h10.mv; replace F_b1 := F_b1.mv h10.mv; replace F_b2 := F_b2.mv h10.mv; replace r_L2 := h10.rdD r_L2; replace r_L4 := h10.rdD r_L4; replace F_D5 := F_D5.mv h10.mv
            replace F_a1 := F_a1.mv a10.toLf.mv; replace F_a2 := F_a2.mv a10.toLf.mv; replace F_b1 := F_b1.mv a10.toLf.mv; replace F_b2 := F_b2.mv a10.toLf.mv; replace r_L2 := a10.toLf.rdD r_L2; replace r_L4 := a10.toLf.rdD r_L4; replace F_D5 := F_D5.mv a10.toLf.mv
            clear h10 a10 G_E7 Q10
            refine sat_app (.slice A_G8 (([] : List Dy) ++ a.at_).length c_G8) (.slice C_D5 (b.at_.drop 1).length (c_b - 1)) (by kernel_rfl) (by kernel_rfl) fun w11 h11 => ?_
            refine (G8.le h11).app' (l' := (b.at_.drop 1)) (F_D5.mv h11.mv) (by have := (MayT.of hMa).few; have := (MayT.of hMa).len; have := (MayT.of hMa).pos; have := (MayT.of hMb).few; have := (MayT.of hMb).len; have := (MayT.of hMb).pos; rw [List.length_drop]; omega) (by have := (MayT.of hMa).few; have := (MayT.of hMa).len; have := (MayT.of hMa).pos; have := (MayT.of hMb).few; have := (MayT.of hMb).len; have := (MayT.of hMb).pos; simp only [List.length_append, List.length_nil, List.length_drop]; simp only [maxLen]; omega) (by have := (MayT.of hMa).few; have := (MayT.of hMa).len; have := (MayT.of hMa).pos; have := (MayT.of hMb).few; have := (MayT.of hMb).len; have := (MayT.of hMb).pos; simp only [List.length_append, List.length_nil, List.length_drop]; omega) fun A_G9 c_G9 v11 a11 G9 => ?_
            have Q11 := (G_E6.le h11).other a11 DE7.symm h11.wf
            replace G_E6 := Q11.1
            replace DE7 := Q11.2.symm
            replace F_a1 := F_a1.mv h11.mv; replace F_a2 := F_a2.mv h11.mv; replace F_b1 := F_b1.mv h11.mv; replace F_b2 := F_b2.mv h11.mv; replace r_L2 := h11.rdD r_L2; replace r_L4 := h11.rdD r_L4; replace F_D5 := F_D5.mv h11.mv
            replace F_a1 := F_a1.mv a11.toLf.mv; replace F_a2 := F_a2.mv a11.toLf.mv; replace F_b1 := F_b1.mv a11.toLf.mv; replace F_b2 := F_b2.mv a11.toLf.mv; replace r_L2 := a11.toLf.rdD r_L2; replace r_L4 := a11.toLf.rdD r_L4; replace F_D5 := F_D5.mv a11.toLf.mv
            clear h11 a11 G8 Q11
            refine sat_app (.slice (some ⟨N_E6, 0, none⟩) 0 0) (.slice B_a a.v.length d_a) (by kernel_rfl) (by kernel_rfl) fun w12 h12 => ?_
            refine (G_E6.le h12).app' (l' := a.v) (F_a2.mv h12.mv) (by have := (MayT.of hMa).few; have := (MayT.of hMa).len; have := (MayT.of hMa).pos; have := (MayT.of hMb).few; have := (MayT.of hMb).len; have := (MayT.of hMb).pos; omega) (by have := (MayT.of hMa).few; have := (MayT.of hMa).len; have := (MayT.of hMa).pos; have := (MayT.of hMb).few; have := (MayT.of hMb).len; have := (MayT.of hMb).pos; simp only [List.length_nil]; simp only [maxLen]; omega) (by have := (MayT.of hMa).few; have := (MayT.of hMa).len; have := (MayT.of hMa).pos; have := (MayT.of hMb).few; have := (MayT.of hMb).len; have := (MayT.of hMb).pos; simp only [List.length_nil]; omega) fun A_G10 c_G10 v12 a12 G10 => ?_
            have Q12 := (G9.le h12).other a12 DE7 h12.wf
            replace G9 := Q12.1
            replace DE7 := Q12.2
            replace F_a1 := F_a1.mv h12.mv; replace F_a2 := F_a2.mv h12.mv; replace F_b1 := F_b1.mv h12.mv; replace F_b2 := F_b2.mv h12.mv; replace r_L2 := h12.rdD r_L2; replace r_L4 := h12.rdD r_L4; replace F_D5 := F_D5.mv h12.mv
            replace F_a1 := F_a1.mv a12.toLf.mv; replace F_a2 := F_a2.mv a12.toLf.mv; replace F_b1 := F_b1.mv a12.toLf.mv; replace F_b2 := F_b2.mv a12.toLf.mv; replace r_L2 := a12.toLf.rdD r_L2; replace r_L4 := a12.toLf.rdD r_L4; replace F_D5 := F_D5.mv a12.toLf.mv
            clear h12 a12 G_E6 Q12
            refine sat_app (.slice A_G10 (([] : List Iv) ++ a.v).length c_G10) (.slice B_b b.v.length d_b) (by kernel_rfl) (by kernel_rfl) fun w13 h13 => ?_
            refine (G10.le h13).app' (l' := b.v) (F_b2.mv h13.mv) (by have := (MayT.of hMa).few; have := (MayT.of hMa).len; have := (MayT.of hMa).pos; have := (MayT.of hMb).few; have := (MayT.of hMb).len; have := (MayT.of hMb).pos; omega) (by have := (MayT.of hMa).few; have := (MayT.of hMa).len; have := (MayT.of hMa).pos; have := (MayT.of hMb).few; have := (MayT.of hMb).len; have := (MayT.of hMb).pos; simp only [List.length_append, List.length_nil]; simp only [maxLen]; omega) (by have := (MayT.of hMa).few; have := (MayT.of hMa).len; have := (MayT.of hMa).pos; have := (MayT.of hMb).few; have := (MayT.of hMb).len; have := (MayT.of hMb).pos; simp only [List.length_append, List.length_nil]; omega) fun A_G11 c_G11 v13 a13 G11 => ?_
            have Q13 := (G9.le h13).other a13 DE7 h13.wf
            replace G9 := Q13.1
            replace DE7 := Q13.2
            replace F_a1 := F_a1.mv h13.mv; replace F_a2 := F_a2.mv h13.mv; replace F_b1 := F_b1.mv h13.mv; replace F_b2 := F_b2.mv h13.mv; replace r_L2 := h13.rdD r_L2; replace r_L4 := h13.rdD r_L4; replace F_D5 := F_D5.mv h13.mv
            replace F_a1 := F_a1.mv a13.toLf.mv; replace F_a2 := F_a2.mv a13.toLf.mv; replace F_b1 := F_b1.mv a13.toLf.mv; replace F_b2 := F_b2.mv a13.toLf.mv; replace r_L2 := a13.toLf.rdD r_L2; replace r_L4 := a13.toLf.rdD r_L4; replace F_D5 := F_D5.mv a13.toLf.mv
            clear h13 a13 G10 Q13
            refine sat_chkB (by kernel_rfl) ?_
            refine sat_chkB (by kernel_rfl) ?_
            exact sat_ret (.tuple #[.agg #[.slice A_G9 ((([] : List Dy) ++ a.at_) ++ (b.at_.drop 1)).length c_G9, .slice A_G11 ((([] : List Iv) ++ a.v) ++ b.v).length c_G11], .int .i64 0]) (by kernel_rfl) fun w9 h9 => ⟨_, _, 0, _, _, _, _, rfl, hide (by unfold joinT; rw [hMa, hMb, last_is hMa h_x1, show firstT b = x3 from atT_is h_x3, hC, hS]; rfl), (G9.le h9).done fun h => h, (G11.le h9).done fun h => h⟩
        · refine sat_true (by kernel_rfl) ?_
          exact sat_ret (.tuple #[.agg #[.slice none 0 0, .slice none 0 0], .int .i64 1]) (by kernel_rfl) fun w9 h9 => TbTup.nil (by unfold joinT; rw [hMa, hMb, last_is hMa h_x1, show firstT b = x3 from atT_is h_x3, hC, hS]; rfl)
      · refine sat_true (by kernel_rfl) ?_
        exact sat_ret (.tuple #[.agg #[.slice none 0 0, .slice none 0 0], .int .i64 1]) (by kernel_rfl) fun w9 h9 => TbTup.nil (by unfold joinT; rw [hMa, hMb, last_is hMa h_x1, show firstT b = x3 from atT_is h_x3, hC]; rfl)

def tr_r11same : Sx.Tree := .chk [.lf 0, .lf 1] (.chk [.lf 2, .lf 3] (.prim .len [.lf 0] (.prim .len [.lf 2] (.prim (.bin .neq) [.lf 4, .lf 5] (.ite (.lf 6) (.ret (.one (.bit false))) (.call 82 [.one (.lf 1), .one (.lf 3)] .one (.prim .not [.lf 7] (.ite (.lf 8) (.ret (.one (.bit false))) (.loop 0 [.num .i64 0, .bit false] (.prim .len [.lf 0] (.prim (.bin .lss) [.lf 9, .lf 11] (.ite (.lf 12) (.prim (.idx 3) [.lf 0, .lf 9] (.load 35 (.lf 13) (.ag 3) (.prim (.idx 3) [.lf 2, .lf 9] (.load 35 (.lf 17) (.ag 3) (.call 80 [.ag [.lf 14, .lf 15, .lf 16], .ag [.lf 18, .lf 19, .lf 20]] .one (.prim .not [.lf 21] (.ite (.lf 22) (.ret (.one (.bit false))) (.prim (.bin .add) [.lf 9, .num .i64 1] (.back 0 [.lf 23, .lf 10]))))))))) (.ret (.one (.bit true)))))))))))))))
theorem tr_r11same_eq : Sx.treeAt Tryd.prog 41 [] [] [(true, 2), (true, 2)] = some tr_r11same := by kernel_rfl

theorem rsameT_any (A_a : Option Addr) (c_a : Nat) (B_a : Option Addr) (d_a : Nat) (A_b : Option Addr) (c_b : Nat) (B_b : Option Addr) (d_b : Nat) (a : Tb) (b : Tb) (w : World) (h_a1 : Sx.Rows Sx.kD (fun _ => True) w A_a a.at_.length c_a a.at_) (h_a2 : Sx.Rows Sx.kI (fun _ => True) w B_a a.v.length d_a a.v) (h_b1 : Sx.Rows Sx.kD (fun _ => True) w A_b b.at_.length c_b b.at_) (h_b2 : Sx.Rows Sx.kI (fun _ => True) w B_b b.v.length d_b b.v) :
    Calls Tryd.prog 41 #[.agg #[.slice A_a a.at_.length c_a, .slice B_a a.v.length d_a], .agg #[.slice A_b b.at_.length c_b, .slice B_b b.v.length d_b]] w fun e w' => e = .returned (.bool (sameT a b)) ∧ Below w.heap.size w w' := by
  have F_a1 := h_a1.start
  have M_a1 := h_a1.le
  clear h_a1
  have F_a2 := h_a2.start
  have M_a2 := h_a2.le
  clear h_a2
  have F_b1 := h_b1.start
  have M_b1 := h_b1.le
  clear h_b1
  have F_b2 := h_b2.start
  have M_b2 := h_b2.le
  clear h_b2
  refine (Sx.runA [] [] (ls := [.slice A_a a.at_.length c_a, .slice B_a a.v.length d_a, .slice A_b b.at_.length c_b, .slice B_b b.v.length d_b]) (shs := [(true, 2), (true, 2)]) (R := fun v _ => v = .bool (sameT a b)) tr_r11same_eq rfl (by decide) (fun q h => by cases h) ?_).mono (fun e w' ⟨v, he, hv, hb⟩ => ⟨by rw [he, hv], hb⟩)
  unfold tr_r11same
  refine sat_chkB (by kernel_rfl) ?_
  refine sat_chkB (by kernel_rfl) ?_
  refine sat_prim (v := .int .i64 ((a.at_.length : Nat) : Int)) (by kernel_rfl) ?_
  refine sat_prim (v := .int .i64 ((b.at_.length : Nat) : Int)) (by kernel_rfl) ?_
  refine sat_prim (v := .bool ((((a.at_.length : Nat) : Int) : Int) != ((b.at_.length : Nat) : Int))) (by kernel_rfl) ?_
  cases hne : ((((a.at_.length : Nat) : Int) : Int) != ((b.at_.length : Nat) : Int))
  · refine sat_false (by kernel_rfl) ?_
    refine sat_call #[.slice B_a a.v.length d_a, .slice B_b b.v.length d_b] (by kernel_rfl) fun w2 h2 => ?_
    refine (rsameB_any _ _ _ _ a.v b.v _ ((F_a2.mv h2.mv).any) ((F_b2.mv h2.mv).any)).mono ?_
    rintro e v2 ⟨rfl, hb2⟩
    refine ⟨hb2, [.bool (sameB a.v b.v)], _, rfl, by kernel_rfl, by kernel_rfl, fun g2 => ?_⟩
    replace F_a1 := F_a1.mv g2.mv; replace F_a2 := F_a2.mv g2.mv; replace F_b1 := F_b1.mv g2.mv; replace F_b2 := F_b2.mv g2.mv
    clear h2 hb2
    refine sat_prim (v := .bool (!(sameB a.v b.v))) (by kernel_rfl) ?_
    cases hBx : (sameB a.v b.v)
    · refine sat_true (by kernel_rfl) ?_
      exact sat_ret (.bool false) (by kernel_rfl) fun w9 h9 => congrArg Value.bool (by unfold sameT; rw [hBx, Bool.and_false])
    · refine sat_false (by kernel_rfl) ?_
      have hl := eqf_len' hne
      refine sat_loop (fun Kn vs W => ∃ (i : Nat), vs = [.int .i64 ((i : Nat) : Int), .bool false] ∧ Kn = a.at_.length - i ∧ i ≤ a.at_.length ∧ (all2 sameD a.at_ b.at_ = all2 sameD (a.at_.drop i) (b.at_.drop i))) [.int .i64 0, .bool false] (by kernel_rfl) (fun w1 h1 => ⟨_, 0, rfl, rfl, Nat.zero_le _, rfl⟩) ?_
      rintro Kn vs w4 h4 ⟨i, rfl, rfl, h_i, hm⟩
      replace F_a1 := F_a1.mv h4.mv; replace F_a2 := F_a2.mv h4.mv; replace F_b1 := F_b1.mv h4.mv; replace F_b2 := F_b2.mv h4.mv
      clear h4
      refine sat_prim (v := .int .i64 ((a.at_.length : Nat) : Int)) (by kernel_rfl) ?_
      refine sat_prim (v := .bool (decide ((((i : Nat) : Int) : Int) < ((a.at_.length : Nat) : Int)))) (by kernel_rfl) ?_
      cases hlt : (decide ((((i : Nat) : Int) : Int) < ((a.at_.length : Nat) : Int)))
      · refine sat_false (by kernel_rfl) ?_
        exact sat_ret (.bool true) (by kernel_rfl) fun w9 h9 => congrArg Value.bool (by unfold sameT; rw [hBx, Bool.and_true]; exact eqf_yes hm hlt hl)
      · refine sat_true (by kernel_rfl) ?_
        refine sat_idx (A := A_a) (c := c_a) (kk := .i64) (i) (by kernel_rfl) (by kernel_rfl) (lt_of hlt) F_a1.addr fun g6 o6 e6 => ?_
        obtain ⟨x1, h_x1⟩ : ∃ x_, a.at_[(i)]? = some x_ := ⟨_, List.getElem?_eq_getElem (lt_of hlt)⟩
        refine sat_el F_a1 e6 h_x1 rfl (by kernel_rfl) (by kernel_rfl) (by kernel_rfl) ?_
        rintro _ ⟨A_L2, n_L2, c_L2, rfl, r_L2⟩
        refine sat_idx (A := A_b) (c := c_b) (kk := .i64) (i) (by kernel_rfl) (by kernel_rfl) (by have := lt_of hlt; omega) F_b1.addr fun g7 o7 e7 => ?_
        obtain ⟨x3, h_x3⟩ : ∃ x_, b.at_[(i)]? = some x_ := ⟨_, List.getElem?_eq_getElem (by have := lt_of hlt; omega)⟩
        refine sat_el F_b1 e7 h_x3 rfl (by kernel_rfl) (by kernel_rfl) (by kernel_rfl) ?_
        rintro _ ⟨A_L4, n_L4, c_L4, rfl, r_L4⟩
        refine sat_call #[.agg #[.bool x1.neg, .slice A_L2 n_L2 c_L2, .int .i64 x1.e], .agg #[.bool x3.neg, .slice A_L4 n_L4 c_L4, .int .i64 x3.e]] (by kernel_rfl) fun w8 h8 => ?_
        refine (rsame_any _ _ (x1) (x3) _ (h8.rdD r_L2) (h8.rdD r_L4)).mono ?_
        rintro e v8 ⟨rfl, hb8⟩
        refine ⟨hb8, [.bool (sameD x1 x3)], _, rfl, by kernel_rfl, by kernel_rfl, fun g8 => ?_⟩
        replace F_a1 := F_a1.mv g8.mv; replace F_a2 := F_a2.mv g8.mv; replace F_b1 := F_b1.mv g8.mv; replace F_b2 := F_b2.mv g8.mv; replace r_L2 := g8.rdD r_L2; replace r_L4 := g8.rdD r_L4
        clear h8 hb8
        refine sat_prim (v := .bool (!(sameD x1 x3))) (by kernel_rfl) ?_
        cases hf : (sameD x1 x3)
        · refine sat_true (by kernel_rfl) ?_
          exact sat_ret (.bool false) (by kernel_rfl) fun w9 h9 => congrArg Value.bool (by unfold sameT; rw [hBx, Bool.and_true]; exact eqf_no hm h_x1 h_x3 hf)
        · refine sat_false (by kernel_rfl) ?_
          refine sat_prim (v := .int .i64 (((i + 1 : Nat)) : Int)) (Eq.trans (b := some (.int .i64 (IntKind.i64.wrap ((((i) : Nat) : Int) + 1)))) (by kernel_rfl) (by rw [Sx.wrap_succ (n := a.at_.length) (lt_of hlt) M_a1])) ?_
          exact sat_back [.int .i64 (((i + 1 : Nat)) : Int), .bool false] (by kernel_rfl) fun w9 h9 => ⟨_, by have := lt_of hlt; omega, i + 1, rfl, rfl, by have := lt_of hlt; omega, eqf_step hm h_x1 h_x3 hf⟩
  · refine sat_true (by kernel_rfl) ?_
    exact sat_ret (.bool false) (by kernel_rfl) fun w9 h9 => congrArg Value.bool (by unfold sameT; rw [Bool.and_assoc]; exact eqf_len hne)

def tr_same13 : Sx.Tree := .chk [.lf 0, .lf 1] (.chk [.lf 3, .lf 4] (.prim (.bin .eql) [.lf 2, .lf 5] (.ite (.lf 6) (.call 41 [.ag [.lf 0, .lf 1], .ag [.lf 3, .lf 4]] .one (.ret (.one (.lf 7)))) (.ret (.one (.bit false))))))
theorem tr_same13_eq : Sx.treeAt Tryd.prog 39 [] [] [(true, 2), (false, 1), (true, 2), (false, 1)] = some tr_same13 := by kernel_rfl

theorem same13_any (A_a : Option Addr) (c_a : Nat) (B_a : Option Addr) (d_a : Nat) (A_b : Option Addr) (c_b : Nat) (B_b : Option Addr) (d_b : Nat) (a : Tb) (m : Int) (b : Tb) (k : Int) (w : World) (h_a1 : Sx.Rows Sx.kD (fun _ => True) w A_a a.at_.length c_a a.at_) (h_a2 : Sx.Rows Sx.kI (fun _ => True) w B_a a.v.length d_a a.v) (h_b1 : Sx.Rows Sx.kD (fun _ => True) w A_b b.at_.length c_b b.at_) (h_b2 : Sx.Rows Sx.kI (fun _ => True) w B_b b.v.length d_b b.v) :
    Calls Tryd.prog 39 #[.agg #[.slice A_a a.at_.length c_a, .slice B_a a.v.length d_a], .int .i64 m, .agg #[.slice A_b b.at_.length c_b, .slice B_b b.v.length d_b], .int .i64 k] w fun e w' => e = .returned (.bool ((m == k) && sameT a b)) ∧ Below w.heap.size w w' := by
  have F_a1 := h_a1.start
  have M_a1 := h_a1.le
  clear h_a1
  have F_a2 := h_a2.start
  have M_a2 := h_a2.le
  clear h_a2
  have F_b1 := h_b1.start
  have M_b1 := h_b1.le
  clear h_b1
  have F_b2 := h_b2.start
  have M_b2 := h_b2.le
  clear h_b2
  refine (Sx.runA [] [] (ls := [.slice A_a a.at_.length c_a, .slice B_a a.v.length d_a, .int .i64 m, .slice A_b b.at_.length c_b, .slice B_b b.v.length d_b, .int .i64 k]) (shs := [(true, 2), (false, 1), (true, 2), (false, 1)]) (R := fun v _ => v = .bool ((m == k) && sameT a b)) tr_same13_eq rfl (by decide) (fun q h => by cases h) ?_).mono (fun e w' ⟨v, he, hv, hb⟩ => ⟨by rw [he, hv], hb⟩)
  unfold tr_same13
  refine sat_chkB (by kernel_rfl) ?_
  refine sat_chkB (by kernel_rfl) ?_
  refine sat_prim (v := .bool ((m : Int) == k)) (by kernel_rfl) ?_
  cases hE : ((m : Int) == k)
  · refine sat_false (by kernel_rfl) ?_
    exact sat_ret (.bool false) (by kernel_rfl) fun w9 h9 => congrArg Value.bool rfl
  · refine sat_true (by kernel_rfl) ?_
    refine sat_call #[.agg #[.slice A_a a.at_.length c_a, .slice B_a a.v.length d_a], .agg #[.slice A_b b.at_.length c_b, .slice B_b b.v.length d_b]] (by kernel_rfl) fun w2 h2 => ?_
    refine (rsameT_any _ _ _ _ _ _ _ _ a b _ ((F_a1.mv h2.mv).any) ((F_a2.mv h2.mv).any) ((F_b1.mv h2.mv).any) ((F_b2.mv h2.mv).any)).mono ?_
    rintro e v2 ⟨rfl, hb2⟩
    refine ⟨hb2, [.bool (sameT a b)], _, rfl, by kernel_rfl, by kernel_rfl, fun g2 => ?_⟩
    replace F_a1 := F_a1.mv g2.mv; replace F_a2 := F_a2.mv g2.mv; replace F_b1 := F_b1.mv g2.mv; replace F_b2 := F_b2.mv g2.mv
    clear h2 hb2
    exact sat_ret (.bool (sameT a b)) (by kernel_rfl) fun w9 h9 => congrArg Value.bool rfl

end Go.Proofs.YtbpfnooloemieaaDoor
namespace Go.Proofs.YtbpfnooloemieaaDoor
open Go.RowKit Pl
open Sx (sat_call sat_chk sat_prim sat_ite sat_true sat_false sat_trueP sat_falseP sat_ret sat_row sat_callP sat_loop sat_back sat_idx sat_el sat_elf sat_elc sat_load sat_rowN sat_app sat_callB sat_alt rows_one rows_two all_nil all_cons okB okS okI)

theorem iv_eq {l h l' h' : Dy} {x x' : Int} {r : Iv × Int} (k : Hid ((⟨l, h⟩, x) = r)) (k' : Hid ((⟨l', h'⟩, x') = r)) : l = l' ∧ h = h' ∧ x = x' := iv3 k k'.out.symm
theorem tb_eq {p p' : List Dy} {q q' : List Iv} {x x' : Int} {r : Tb × Int} (k : Hid ((⟨p, q⟩, x) = r)) (k' : Hid ((⟨p', q'⟩, x') = r)) : p = p' ∧ q = q' ∧ x = x' := tk k k'.out.symm
theorem sameT_self (t : Tb) : sameT t t = true := by
  unfold sameT
  rw [sameB_self, all2_of (f := sameD) fun i x y hx hy => by rw [hx] at hy; cases hy; exact sameD_self _]
  simp

def tr_tubeAsks : Sx.Tree := .chk [.lf 0, .lf 1] (.chk [.lf 2, .lf 3] (.chk [.lf 4, .lf 5, .lf 6] (.chk [.lf 7, .lf 8, .lf 9] (.chk [.lf 10, .lf 11, .lf 12, .lf 13, .lf 14, .lf 15] (.call 22 [.ag [.lf 0, .lf 1]] .one (.prim .not [.lf 16] (.ite (.lf 17) (.call 25 [] .one (.ret (.one (.lf 18)))) (.call 22 [.ag [.lf 2, .lf 3]] .one (.prim .not [.lf 18] (.ite (.lf 19) (.call 25 [] .one (.ret (.one (.lf 20)))) (.prim .len [.lf 5] (.prim (.bin .gtr) [.lf 20, .num .i64 6] (.ite (.lf 21) (.call 25 [] .one (.ret (.one (.lf 22)))) (.prim .len [.lf 8] (.prim (.bin .gtr) [.lf 22, .num .i64 6] (.ite (.lf 23) (.call 25 [] .one (.ret (.one (.lf 24)))) (.row 37 [.lf 10, .lf 11, .lf 12, .lf 13, .lf 14, .lf 15] 1 [] (.call 10 [.one (.lf 24)] .one (.prim .not [.lf 25] (.ite (.lf 26) (.call 25 [] .one (.ret (.one (.lf 27)))) (.call 28 [.ag [.lf 0, .lf 1], .ag [.lf 4, .lf 5, .lf 6]] (.tup [(true, 6), (false, 1)]) (.chk [.lf 27, .lf 28, .lf 29, .lf 30, .lf 31, .lf 32] (.call 32 [.ag [.lf 0, .lf 1], .ag [.lf 4, .lf 5, .lf 6]] (.tup [(true, 6), (false, 1)]) (.chk [.lf 34, .lf 35, .lf 36, .lf 37, .lf 38, .lf 39] (.call 27 [.ag [.lf 0, .lf 1], .ag [.lf 4, .lf 5, .lf 6], .ag [.lf 7, .lf 8, .lf 9]] (.tup [(true, 6), (false, 1)]) (.chk [.lf 41, .lf 42, .lf 43, .lf 44, .lf 45, .lf 46] (.call 33 [.ag [.lf 0, .lf 1], .ag [.lf 4, .lf 5, .lf 6], .ag [.lf 7, .lf 8, .lf 9]] (.tup [(true, 6), (false, 1)]) (.chk [.lf 48, .lf 49, .lf 50, .lf 51, .lf 52, .lf 53] (.call 34 [.ag [.lf 0, .lf 1], .ag [.lf 2, .lf 3]] (.tup [(true, 2), (false, 1)]) (.chk [.lf 55, .lf 56] (.call 35 [.ag [.lf 0, .lf 1], .ag [.lf 2, .lf 3]] (.tup [(true, 2), (false, 1)]) (.chk [.lf 58, .lf 59] (.call 31 [.ag [.lf 4, .lf 5, .lf 6], .ag [.lf 7, .lf 8, .lf 9], .ag [.lf 10, .lf 11, .lf 12, .lf 13, .lf 14, .lf 15]] (.tup [(true, 2), (false, 1)]) (.chk [.lf 61, .lf 62] (.call 36 [.ag [.lf 4, .lf 5, .lf 6], .ag [.lf 7, .lf 8, .lf 9], .ag [.lf 10, .lf 11, .lf 12, .lf 13, .lf 14, .lf 15]] (.tup [(true, 2), (false, 1)]) (.chk [.lf 64, .lf 65] (.call 25 [] .one (.ite (.lf 67) (.call 30 [.ag [.lf 0, .lf 1]] .one (.call 37 [.ag [.lf 0, .lf 1]] .one (.prim (.bbin .eql) [.lf 68, .lf 69] (.ite (.lf 70) (.prim (.bin .eql) [.lf 33, .lf 40] (.ite (.lf 71) (.call 38 [.ag [.lf 27, .lf 28, .lf 29, .lf 30, .lf 31, .lf 32], .ag [.lf 34, .lf 35, .lf 36, .lf 37, .lf 38, .lf 39]] .one (.ite (.lf 72) (.prim (.bin .eql) [.lf 47, .lf 54] (.ite (.lf 73) (.call 38 [.ag [.lf 41, .lf 42, .lf 43, .lf 44, .lf 45, .lf 46], .ag [.lf 48, .lf 49, .lf 50, .lf 51, .lf 52, .lf 53]] .one (.ite (.lf 74) (.call 39 [.ag [.lf 55, .lf 56], .one (.lf 57), .ag [.lf 58, .lf 59], .one (.lf 60)] .one (.ite (.lf 75) (.call 39 [.ag [.lf 61, .lf 62], .one (.lf 63), .ag [.lf 64, .lf 65], .one (.lf 66)] .one (.ite (.lf 76) (.call 40 [.ag [.lf 0, .lf 1], .ag [.lf 2, .lf 3]] .one (.call 41 [.ag [.lf 0, .lf 1], .ag [.lf 2, .lf 3]] .one (.prim (.bbin .eql) [.lf 77, .lf 78] (.ite (.lf 79) (.call 40 [.ag [.lf 0, .lf 1], .ag [.lf 0, .lf 1]] .one (.ret (.one (.lf 80)))) (.ret (.one (.bit false))))))) (.ret (.one (.bit false))))) (.ret (.one (.bit false))))) (.ret (.one (.bit false))))) (.ret (.one (.bit false))))) (.ret (.one (.bit false))))) (.ret (.one (.bit false))))) (.ret (.one (.bit false))))))) (.ret (.one (.bit false)))))))))))))))))))))))))))))))))))))))))
theorem tr_tubeAsks_eq : Sx.treeAt Tryd.prog 7 [] [] [(true, 2), (true, 2), (true, 3), (true, 3), (true, 6)] = some tr_tubeAsks := by kernel_rfl

set_option maxRecDepth 100000 in
set_option maxHeartbeats 4000000 in
theorem tubeAsks_any (A_a : Option Addr) (c_a : Nat) (B_a : Option Addr) (d_a : Nat) (A_b : Option Addr) (c_b : Nat) (B_b : Option Addr) (d_b : Nat) (v_x : Value) (v_y : Value) (v_v : Value) (a : Tb) (b : Tb) (x : Dy) (y : Dy) (v : Iv) (w : World) (h_a1 : Sx.Rows Sx.kD (fun _ => True) w A_a a.at_.length c_a a.at_) (h_a2 : Sx.Rows Sx.kI (fun _ => True) w B_a a.v.length d_a a.v) (h_b1 : Sx.Rows Sx.kD (fun _ => True) w A_b b.at_.length c_b b.at_) (h_b2 : Sx.Rows Sx.kI (fun _ => True) w B_b b.v.length d_b b.v) (h_x : RdD w v_x x) (h_y : RdD w v_y y) (h_v : RdI w v_v v) (hT : TabAt w) :
    Calls Tryd.prog 7 #[.agg #[.slice A_a a.at_.length c_a, .slice B_a a.v.length d_a], .agg #[.slice A_b b.at_.length c_b, .slice B_b b.v.length d_b], v_x, v_y, v_v] w fun e w' => e = .returned (.bool true) ∧ Below w.heap.size w w' := by
  have r_x := h_x
  obtain ⟨A_x, n_x, c_x, rfl, _⟩ := h_x
  have r_y := h_y
  obtain ⟨A_y, n_y, c_y, rfl, _⟩ := h_y
  obtain ⟨A_v, n_v, c_v, B_v, m_v, k_v, rfl, r_vl, r_vh⟩ := h_v
  have F_a1 := h_a1.start
  have M_a1 := h_a1.le
  clear h_a1
  have F_a2 := h_a2.start
  have M_a2 := h_a2.le
  clear h_a2
  have F_b1 := h_b1.start
  have M_b1 := h_b1.le
  clear h_b1
  have F_b2 := h_b2.start
  have M_b2 := h_b2.le
  clear h_b2
  refine (Sx.runA [] [] (ls := [.slice A_a a.at_.length c_a, .slice B_a a.v.length d_a, .slice A_b b.at_.length c_b, .slice B_b b.v.length d_b, .bool x.neg, .slice A_x n_x c_x, .int .i64 x.e, .bool y.neg, .slice A_y n_y c_y, .int .i64 y.e, .bool v.lo.neg, .slice A_v n_v c_v, .int .i64 v.lo.e, .bool v.hi.neg, .slice B_v m_v k_v, .int .i64 v.hi.e]) (shs := [(true, 2), (true, 2), (true, 3), (true, 3), (true, 6)]) (R := fun v w' => v = .bool true) tr_tubeAsks_eq rfl (by decide) (fun q h => by cases h) ?_).mono (fun e w' ⟨v, he, hv, hb⟩ => ⟨by rw [he, hv], hb⟩)
  unfold tr_tubeAsks
  refine sat_chkB (by kernel_rfl) ?_
  refine sat_chkB (by kernel_rfl) ?_
  refine sat_chkB (by kernel_rfl) ?_
  refine sat_chkB (by kernel_rfl) ?_
  refine sat_chkB (by kernel_rfl) ?_
  refine sat_call #[.agg #[.slice A_a a.at_.length c_a, .slice B_a a.v.length d_a]] (by kernel_rfl) fun w1 h1 => ?_
  refine (fewT_any _ _ _ _ a _ ((F_a1.mv h1.mv).any) ((F_a2.mv h1.mv).any)).mono ?_
  rintro e v1 ⟨rfl, hb1⟩
  refine ⟨hb1, [.bool (fewT a)], _, rfl, by kernel_rfl, by kernel_rfl, fun g1 => ?_⟩
  replace F_a1 := F_a1.mv g1.mv; replace F_a2 := F_a2.mv g1.mv; replace F_b1 := F_b1.mv g1.mv; replace F_b2 := F_b2.mv g1.mv; replace r_x := g1.rdD r_x; replace r_y := g1.rdD r_y; replace r_vl := g1.rdD r_vl; replace r_vh := g1.rdD r_vh
  clear h1 hb1
  refine sat_prim (v := .bool (!(fewT a))) (by kernel_rfl) ?_
  cases h_few_a : (fewT a)
  · refine sat_true (by kernel_rfl) ?_
    refine sat_call #[] (by kernel_rfl) fun w3 h3 => ?_
    refine (told13_any _ (h3.tab hT)).mono ?_
    rintro e v3 ⟨rfl, hb3⟩
    refine ⟨hb3, [.bool true], _, rfl, by kernel_rfl, by kernel_rfl, fun g3 => ?_⟩
    replace F_a1 := F_a1.mv g3.mv; replace F_a2 := F_a2.mv g3.mv; replace F_b1 := F_b1.mv g3.mv; replace F_b2 := F_b2.mv g3.mv; replace r_x := g3.rdD r_x; replace r_y := g3.rdD r_y; replace r_vl := g3.rdD r_vl; replace r_vh := g3.rdD r_vh
    clear h3 hb3
    exact sat_ret (.bool true) (by kernel_rfl) fun w9 h9 => rfl
  · refine sat_false (by kernel_rfl) ?_
    refine sat_call #[.agg #[.slice A_b b.at_.length c_b, .slice B_b b.v.length d_b]] (by kernel_rfl) fun w3 h3 => ?_
    refine (fewT_any _ _ _ _ b _ ((F_b1.mv h3.mv).any) ((F_b2.mv h3.mv).any)).mono ?_
    rintro e v3 ⟨rfl, hb3⟩
    refine ⟨hb3, [.bool (fewT b)], _, rfl, by kernel_rfl, by kernel_rfl, fun g3 => ?_⟩
    replace F_a1 := F_a1.mv g3.mv; replace F_a2 := F_a2.mv g3.mv; replace F_b1 := F_b1.mv g3.mv; replace F_b2 := F_b2.mv g3.mv; replace r_x := g3.rdD r_x; replace r_y := g3.rdD r_y; replace r_vl := g3.rdD r_vl; replace r_vh := g3.rdD r_vh
    clear h3 hb3
    refine sat_prim (v := .bool (!(fewT b))) (by kernel_rfl) ?_
    cases h_few_b : (fewT b)
    · refine sat_true (by kernel_rfl) ?_
      refine sat_call #[] (by kernel_rfl) fun w5 h5 => ?_
      refine (told13_any _ (h5.tab hT)).mono ?_
      rintro e v5 ⟨rfl, hb5⟩
      refine ⟨hb5, [.bool true], _, rfl, by kernel_rfl, by kernel_rfl, fun g5 => ?_⟩
      replace F_a1 := F_a1.mv g5.mv; replace F_a2 := F_a2.mv g5.mv; replace F_b1 := F_b1.mv g5.mv; replace F_b2 := F_b2.mv g5.mv; replace r_x := g5.rdD r_x; replace r_y := g5.rdD r_y; replace r_vl := g5.rdD r_vl; replace r_vh := g5.rdD r_vh
      clear h5 hb5
      exact sat_ret (.bool true) (by kernel_rfl) fun w9 h9 => rfl
    · refine sat_false (by kernel_rfl) ?_
      refine sat_prim (v := .int .i64 ((n_x : Nat) : Int)) (by kernel_rfl) ?_
      refine sat_prim (v := .bool (decide ((6 : Int) < ((n_x : Nat) : Int)))) (by kernel_rfl) ?_
      cases hE5 : (decide ((6 : Int) < ((n_x : Nat) : Int)))
      · refine sat_false (by kernel_rfl) ?_
        refine sat_prim (v := .int .i64 ((n_y : Nat) : Int)) (by kernel_rfl) ?_
        refine sat_prim (v := .bool (decide ((6 : Int) < ((n_y : Nat) : Int)))) (by kernel_rfl) ?_
        cases hE6 : (decide ((6 : Int) < ((n_y : Nat) : Int)))
        · refine sat_false (by kernel_rfl) ?_
          refine sat_rowN [.bool v.lo.neg, .slice A_v n_v c_v, .int .i64 v.lo.e, .bool v.hi.neg, .slice B_v m_v k_v, .int .i64 v.hi.e] (by kernel_rfl) (by intro x hx; cases hx) fun u1 h1 B1 NB1 => ?_
          replace F_a1 := F_a1.mv h1.mv; replace F_a2 := F_a2.mv h1.mv; replace F_b1 := F_b1.mv h1.mv; replace F_b2 := F_b2.mv h1.mv; replace r_x := h1.rdD r_x; replace r_y := h1.rdD r_y; replace r_vl := h1.rdD r_vl; replace r_vh := h1.rdD r_vh
          have F_R1 : Sx.Rows Sx.kI (Sx.NB _) _ (some ⟨u1.heap.size, 0, none⟩) 1 1 [v] := rows_one (k := Sx.kI) B1 NB1 ⟨_, _, _, _, _, _, rfl, r_vl, r_vh⟩
          generalize u1.heap.size = N_R1 at *
          generalize (u1.alloc _) = w_R1 at *
          clear B1 h1 NB1
          refine sat_call #[.slice (some ⟨N_R1, 0, none⟩) 1 1] (by kernel_rfl) fun w7 h7 => ?_
          refine (row8_any _ _ [v] _ ((F_R1.mv h7.mv).any)).mono ?_
          rintro e v7 ⟨rfl, hb7⟩
          refine ⟨hb7, [.bool (fewB [v])], _, rfl, by kernel_rfl, by kernel_rfl, fun g7 => ?_⟩
          replace F_a1 := F_a1.mv g7.mv; replace F_a2 := F_a2.mv g7.mv; replace F_b1 := F_b1.mv g7.mv; replace F_b2 := F_b2.mv g7.mv; replace r_x := g7.rdD r_x; replace r_y := g7.rdD r_y; replace r_vl := g7.rdD r_vl; replace r_vh := g7.rdD r_vh; replace F_R1 := F_R1.mv g7.mv
          clear h7 hb7
          refine sat_prim (v := .bool (!(fewB [v]))) (by kernel_rfl) ?_
          cases hE8 : (fewB [v])
          · refine sat_true (by kernel_rfl) ?_
            refine sat_call #[] (by kernel_rfl) fun w9 h9 => ?_
            refine (told13_any _ (h9.tab hT)).mono ?_
            rintro e v9 ⟨rfl, hb9⟩
            refine ⟨hb9, [.bool true], _, rfl, by kernel_rfl, by kernel_rfl, fun g9 => ?_⟩
            replace F_a1 := F_a1.mv g9.mv; replace F_a2 := F_a2.mv g9.mv; replace F_b1 := F_b1.mv g9.mv; replace F_b2 := F_b2.mv g9.mv; replace r_x := g9.rdD r_x; replace r_y := g9.rdD r_y; replace r_vl := g9.rdD r_vl; replace r_vh := g9.rdD r_vh; replace F_R1 := F_R1.mv g9.mv
            clear h9 hb9
            exact sat_ret (.bool true) (by kernel_rfl) fun w9 h9 => rfl
          · refine sat_false (by kernel_rfl) ?_
            refine sat_call #[.agg #[.slice A_a a.at_.length c_a, .slice B_a a.v.length d_a], .agg #[.bool x.neg, .slice A_x n_x c_x, .int .i64 x.e]] (by kernel_rfl) fun w9 h9 => ?_
            refine (atT_any _ _ _ _ _ a (x) _ ((F_a1.mv h9.mv).any) ((F_a2.mv h9.mv).any) (h9.rdD r_x)).mono ?_
            rintro e v9 ⟨⟨l_o2, g_o2, x_o2, A_o2, n_o2, c_o2, B_o2, m_o2, k_o2, h_o2, rfl, r_o2l, r_o2h⟩, hb9⟩
            refine ⟨hb9, [.bool l_o2.neg, .slice A_o2 n_o2 c_o2, .int .i64 l_o2.e, .bool g_o2.neg, .slice B_o2 m_o2 k_o2, .int .i64 g_o2.e, .int .i64 x_o2], _, rfl, by kernel_rfl, by kernel_rfl, fun g9 => ?_⟩
            replace F_a1 := F_a1.mv g9.mv; replace F_a2 := F_a2.mv g9.mv; replace F_b1 := F_b1.mv g9.mv; replace F_b2 := F_b2.mv g9.mv; replace r_x := g9.rdD r_x; replace r_y := g9.rdD r_y; replace r_vl := g9.rdD r_vl; replace r_vh := g9.rdD r_vh; replace F_R1 := F_R1.mv g9.mv
            clear h9 hb9
            refine sat_chkB (by kernel_rfl) ?_
            refine sat_call #[.agg #[.slice A_a a.at_.length c_a, .slice B_a a.v.length d_a], .agg #[.bool x.neg, .slice A_x n_x c_x, .int .i64 x.e]] (by kernel_rfl) fun w10 h10 => ?_
            refine (ratT_any _ _ _ _ _ a (x) _ ((F_a1.mv h10.mv).any) ((F_a2.mv h10.mv).any) (h10.rdD r_x)).mono ?_
            rintro e v10 ⟨⟨l_o3, g_o3, x_o3, A_o3, n_o3, c_o3, B_o3, m_o3, k_o3, h_o3, rfl, r_o3l, r_o3h⟩, hb10⟩
            obtain ⟨rfl, rfl, rfl⟩ := iv_eq h_o2 h_o3
            refine ⟨hb10, [.bool l_o2.neg, .slice A_o3 n_o3 c_o3, .int .i64 l_o2.e, .bool g_o2.neg, .slice B_o3 m_o3 k_o3, .int .i64 g_o2.e, .int .i64 x_o2], _, rfl, by kernel_rfl, by kernel_rfl, fun g10 => ?_⟩
            replace F_a1 := F_a1.mv g10.mv; replace F_a2 := F_a2.mv g10.mv; replace F_b1 := F_b1.mv g10.mv; replace F_b2 := F_b2.mv g10.mv; replace r_x := g10.rdD r_x; replace r_y := g10.rdD r_y; replace r_vl := g10.rdD r_vl; replace r_vh := g10.rdD r_vh; replace F_R1 := F_R1.mv g10.mv; replace r_o2l := g10.rdD r_o2l; replace r_o2h := g10.rdD r_o2h
            clear h10 hb10
            refine sat_chkB (by kernel_rfl) ?_
            refine sat_call #[.agg #[.slice A_a a.at_.length c_a, .slice B_a a.v.length d_a], .agg #[.bool x.neg, .slice A_x n_x c_x, .int .i64 x.e], .agg #[.bool y.neg, .slice A_y n_y c_y, .int .i64 y.e]] (by kernel_rfl) fun w11 h11 => ?_
            refine (overT_any _ _ _ _ _ _ a (x) (y) _ ((F_a1.mv h11.mv).any) ((F_a2.mv h11.mv).any) (h11.rdD r_x) (h11.rdD r_y)).mono ?_
            rintro e v11 ⟨⟨l_o4, g_o4, x_o4, A_o4, n_o4, c_o4, B_o4, m_o4, k_o4, h_o4, rfl, r_o4l, r_o4h⟩, hb11⟩
            refine ⟨hb11, [.bool l_o4.neg, .slice A_o4 n_o4 c_o4, .int .i64 l_o4.e, .bool g_o4.neg, .slice B_o4 m_o4 k_o4, .int .i64 g_o4.e, .int .i64 x_o4], _, rfl, by kernel_rfl, by kernel_rfl, fun g11 => ?_⟩
            replace F_a1 := F_a1.mv g11.mv; replace F_a2 := F_a2.mv g11.mv; replace F_b1 := F_b1.mv g11.mv; replace F_b2 := F_b2.mv g11.mv; replace r_x := g11.rdD r_x; replace r_y := g11.rdD r_y; replace r_vl := g11.rdD r_vl; replace r_vh := g11.rdD r_vh; replace F_R1 := F_R1.mv g11.mv; replace r_o2l := g11.rdD r_o2l; replace r_o2h := g11.rdD r_o2h; replace r_o3l := g11.rdD r_o3l; replace r_o3h := g11.rdD r_o3h
            clear h11 hb11
            refine sat_chkB (by kernel_rfl) ?_
            refine sat_call #[.agg #[.slice A_a a.at_.length c_a, .slice B_a a.v.length d_a], .agg #[.bool x.neg, .slice A_x n_x c_x, .int .i64 x.e], .agg #[.bool y.neg, .slice A_y n_y c_y, .int .i64 y.e]] (by kernel_rfl) fun w12 h12 => ?_
            refine (roverT_any _ _ _ _ _ _ a (x) (y) _ ((F_a1.mv h12.mv).any) ((F_a2.mv h12.mv).any) (h12.rdD r_x) (h12.rdD r_y)).mono ?_
            rintro e v12 ⟨⟨l_o5, g_o5, x_o5, A_o5, n_o5, c_o5, B_o5, m_o5, k_o5, h_o5, rfl, r_o5l, r_o5h⟩, hb12⟩
            obtain ⟨rfl, rfl, rfl⟩ := iv_eq h_o4 h_o5
            refine ⟨hb12, [.bool l_o4.neg, .slice A_o5 n_o5 c_o5, .int .i64 l_o4.e, .bool g_o4.neg, .slice B_o5 m_o5 k_o5, .int .i64 g_o4.e, .int .i64 x_o4], _, rfl, by kernel_rfl, by kernel_rfl, fun g12 => ?_⟩
            replace F_a1 := F_a1.mv g12.mv; replace F_a2 := F_a2.mv g12.mv; replace F_b1 := F_b1.mv g12.mv; replace F_b2 := F_b2.mv g12.mv; replace r_x := g12.rdD r_x; replace r_y := g12.rdD r_y; replace r_vl := g12.rdD r_vl; replace r_vh := g12.rdD r_vh; replace F_R1 := F_R1.mv g12.mv; replace r_o2l := g12.rdD r_o2l; replace r_o2h := g12.rdD r_o2h; replace r_o3l := g12.rdD r_o3l; replace r_o3h := g12.rdD r_o3h; replace r_o4l := g12.rdD r_o4l; replace r_o4h := g12.rdD r_o4h
            clear h12 hb12
            refine sat_chkB (by kernel_rfl) ?_
            refine sat_call #[.agg #[.slice A_a a.at_.length c_a, .slice B_a a.v.length d_a], .agg #[.slice A_b b.at_.length c_b, .slice B_b b.v.length d_b]] (by kernel_rfl) fun w13 h13 => ?_
            refine (joinT_any _ _ _ _ _ _ _ _ a b _ ((F_a1.mv h13.mv).any) ((F_a2.mv h13.mv).any) ((F_b1.mv h13.mv).any) ((F_b2.mv h13.mv).any)).mono ?_
            rintro e v13 ⟨⟨p_t6, q_t6, x_t6, A_t6, c_t6, B_t6, d_t6, rfl, h_t6, F_t61, F_t62⟩, hb13⟩
            refine ⟨hb13, [.slice A_t6 p_t6.length c_t6, .slice B_t6 q_t6.length d_t6, .int .i64 x_t6], _, rfl, by kernel_rfl, by kernel_rfl, fun g13 => ?_⟩
            replace F_a1 := F_a1.mv g13.mv; replace F_a2 := F_a2.mv g13.mv; replace F_b1 := F_b1.mv g13.mv; replace F_b2 := F_b2.mv g13.mv; replace r_x := g13.rdD r_x; replace r_y := g13.rdD r_y; replace r_vl := g13.rdD r_vl; replace r_vh := g13.rdD r_vh; replace F_R1 := F_R1.mv g13.mv; replace r_o2l := g13.rdD r_o2l; replace r_o2h := g13.rdD r_o2h; replace r_o3l := g13.rdD r_o3l; replace r_o3h := g13.rdD r_o3h; replace r_o4l := g13.rdD r_o4l; replace r_o4h := g13.rdD r_o4h; replace r_o5l := g13.rdD r_o5l; replace r_o5h := g13.rdD r_o5h
            replace F_t61 := F_t61.mv (Sx.Mv.fresh h13.wf)
            replace F_t62 := F_t62.mv (Sx.Mv.fresh h13.wf)
            clear h13 hb13
            refine sat_chkB (by kernel_rfl) ?_
            refine sat_call #[.agg #[.slice A_a a.at_.length c_a, .slice B_a a.v.length d_a], .agg #[.slice A_b b.at_.length c_b, .slice B_b b.v.length d_b]] (by kernel_rfl) fun w14 h14 => ?_
            refine (rjoinT_any _ _ _ _ _ _ _ _ a b _ ((F_a1.mv h14.mv).any) ((F_a2.mv h14.mv).any) ((F_b1.mv h14.mv).any) ((F_b2.mv h14.mv).any)).mono ?_
            rintro e v14 ⟨⟨p_t7, q_t7, x_t7, A_t7, c_t7, B_t7, d_t7, rfl, h_t7, F_t71, F_t72⟩, hb14⟩
            obtain ⟨rfl, rfl, rfl⟩ := tb_eq h_t6 h_t7
            refine ⟨hb14, [.slice A_t7 p_t6.length c_t7, .slice B_t7 q_t6.length d_t7, .int .i64 x_t6], _, rfl, by kernel_rfl, by kernel_rfl, fun g14 => ?_⟩
            replace F_a1 := F_a1.mv g14.mv; replace F_a2 := F_a2.mv g14.mv; replace F_b1 := F_b1.mv g14.mv; replace F_b2 := F_b2.mv g14.mv; replace r_x := g14.rdD r_x; replace r_y := g14.rdD r_y; replace r_vl := g14.rdD r_vl; replace r_vh := g14.rdD r_vh; replace F_R1 := F_R1.mv g14.mv; replace r_o2l := g14.rdD r_o2l; replace r_o2h := g14.rdD r_o2h; replace r_o3l := g14.rdD r_o3l; replace r_o3h := g14.rdD r_o3h; replace r_o4l := g14.rdD r_o4l; replace r_o4h := g14.rdD r_o4h; replace r_o5l := g14.rdD r_o5l; replace r_o5h := g14.rdD r_o5h; replace F_t61 := F_t61.mv g14.mv; replace F_t62 := F_t62.mv g14.mv
            replace F_t71 := F_t71.mv (Sx.Mv.fresh h14.wf)
            replace F_t72 := F_t72.mv (Sx.Mv.fresh h14.wf)
            clear h14 hb14
            refine sat_chkB (by kernel_rfl) ?_
            refine sat_call #[.agg #[.bool x.neg, .slice A_x n_x c_x, .int .i64 x.e], .agg #[.bool y.neg, .slice A_y n_y c_y, .int .i64 y.e], .agg #[.bool v.lo.neg, .slice A_v n_v c_v, .int .i64 v.lo.e, .bool v.hi.neg, .slice B_v m_v k_v, .int .i64 v.hi.e]] (by kernel_rfl) fun w15 h15 => ?_
            refine (makeT_any _ _ _ (x) (y) v _ (h15.rdD r_x) (h15.rdD r_y) (mkI (h15.rdD r_vl) (h15.rdD r_vh))).mono ?_
            rintro e v15 ⟨⟨p_t8, q_t8, x_t8, A_t8, c_t8, B_t8, d_t8, rfl, h_t8, F_t81, F_t82⟩, hb15⟩
            refine ⟨hb15, [.slice A_t8 p_t8.length c_t8, .slice B_t8 q_t8.length d_t8, .int .i64 x_t8], _, rfl, by kernel_rfl, by kernel_rfl, fun g15 => ?_⟩
            replace F_a1 := F_a1.mv g15.mv; replace F_a2 := F_a2.mv g15.mv; replace F_b1 := F_b1.mv g15.mv; replace F_b2 := F_b2.mv g15.mv; replace r_x := g15.rdD r_x; replace r_y := g15.rdD r_y; replace r_vl := g15.rdD r_vl; replace r_vh := g15.rdD r_vh; replace F_R1 := F_R1.mv g15.mv; replace r_o2l := g15.rdD r_o2l; replace r_o2h := g15.rdD r_o2h; replace r_o3l := g15.rdD r_o3l; replace r_o3h := g15.rdD r_o3h; replace r_o4l := g15.rdD r_o4l; replace r_o4h := g15.rdD r_o4h; replace r_o5l := g15.rdD r_o5l; replace r_o5h := g15.rdD r_o5h; replace F_t61 := F_t61.mv g15.mv; replace F_t62 := F_t62.mv g15.mv; replace F_t71 := F_t71.mv g15.mv; replace F_t72 := F_t72.mv g15.mv
            replace F_t81 := F_t81.mv (Sx.Mv.fresh h15.wf)
            replace F_t82 := F_t82.mv (Sx.Mv.fresh h15.wf)
            clear h15 hb15
            refine sat_chkB (by kernel_rfl) ?_
            refine sat_call #[.agg #[.bool x.neg, .slice A_x n_x c_x, .int .i64 x.e], .agg #[.bool y.neg, .slice A_y n_y c_y, .int .i64 y.e], .agg #[.bool v.lo.neg, .slice A_v n_v c_v, .int .i64 v.lo.e, .bool v.hi.neg, .slice B_v m_v k_v, .int .i64 v.hi.e]] (by kernel_rfl) fun w16 h16 => ?_
            refine (rmakeT_any _ _ _ (x) (y) v _ (h16.rdD r_x) (h16.rdD r_y) (mkI (h16.rdD r_vl) (h16.rdD r_vh))).mono ?_
            rintro e v16 ⟨⟨p_t9, q_t9, x_t9, A_t9, c_t9, B_t9, d_t9, rfl, h_t9, F_t91, F_t92⟩, hb16⟩
            obtain ⟨rfl, rfl, rfl⟩ := tb_eq h_t8 h_t9
            refine ⟨hb16, [.slice A_t9 p_t8.length c_t9, .slice B_t9 q_t8.length d_t9, .int .i64 x_t8], _, rfl, by kernel_rfl, by kernel_rfl, fun g16 => ?_⟩
            replace F_a1 := F_a1.mv g16.mv; replace F_a2 := F_a2.mv g16.mv; replace F_b1 := F_b1.mv g16.mv; replace F_b2 := F_b2.mv g16.mv; replace r_x := g16.rdD r_x; replace r_y := g16.rdD r_y; replace r_vl := g16.rdD r_vl; replace r_vh := g16.rdD r_vh; replace F_R1 := F_R1.mv g16.mv; replace r_o2l := g16.rdD r_o2l; replace r_o2h := g16.rdD r_o2h; replace r_o3l := g16.rdD r_o3l; replace r_o3h := g16.rdD r_o3h; replace r_o4l := g16.rdD r_o4l; replace r_o4h := g16.rdD r_o4h; replace r_o5l := g16.rdD r_o5l; replace r_o5h := g16.rdD r_o5h; replace F_t61 := F_t61.mv g16.mv; replace F_t62 := F_t62.mv g16.mv; replace F_t71 := F_t71.mv g16.mv; replace F_t72 := F_t72.mv g16.mv; replace F_t81 := F_t81.mv g16.mv; replace F_t82 := F_t82.mv g16.mv
            replace F_t91 := F_t91.mv (Sx.Mv.fresh h16.wf)
            replace F_t92 := F_t92.mv (Sx.Mv.fresh h16.wf)
            clear h16 hb16
            refine sat_chkB (by kernel_rfl) ?_
            refine sat_call #[] (by kernel_rfl) fun w17 h17 => ?_
            refine (told13_any _ (h17.tab hT)).mono ?_
            rintro e v17 ⟨rfl, hb17⟩
            refine ⟨hb17, [.bool true], _, rfl, by kernel_rfl, by kernel_rfl, fun g17 => ?_⟩
            replace F_a1 := F_a1.mv g17.mv; replace F_a2 := F_a2.mv g17.mv; replace F_b1 := F_b1.mv g17.mv; replace F_b2 := F_b2.mv g17.mv; replace r_x := g17.rdD r_x; replace r_y := g17.rdD r_y; replace r_vl := g17.rdD r_vl; replace r_vh := g17.rdD r_vh; replace F_R1 := F_R1.mv g17.mv; replace r_o2l := g17.rdD r_o2l; replace r_o2h := g17.rdD r_o2h; replace r_o3l := g17.rdD r_o3l; replace r_o3h := g17.rdD r_o3h; replace r_o4l := g17.rdD r_o4l; replace r_o4h := g17.rdD r_o4h; replace r_o5l := g17.rdD r_o5l; replace r_o5h := g17.rdD r_o5h; replace F_t61 := F_t61.mv g17.mv; replace F_t62 := F_t62.mv g17.mv; replace F_t71 := F_t71.mv g17.mv; replace F_t72 := F_t72.mv g17.mv; replace F_t81 := F_t81.mv g17.mv; replace F_t82 := F_t82.mv g17.mv; replace F_t91 := F_t91.mv g17.mv; replace F_t92 := F_t92.mv g17.mv
            clear h17 hb17
            refine sat_true (by kernel_rfl) ?_
            refine sat_call #[.agg #[.slice A_a a.at_.length c_a, .slice B_a a.v.length d_a]] (by kernel_rfl) fun w18 h18 => ?_
            refine (mayT_any _ _ _ _ a _ ((F_a1.mv h18.mv).any) ((F_a2.mv h18.mv).any)).mono ?_
            rintro e v18 ⟨rfl, hb18⟩
            refine ⟨hb18, [.bool (mayT a)], _, rfl, by kernel_rfl, by kernel_rfl, fun g18 => ?_⟩
            replace F_a1 := F_a1.mv g18.mv; replace F_a2 := F_a2.mv g18.mv; replace F_b1 := F_b1.mv g18.mv; replace F_b2 := F_b2.mv g18.mv; replace r_x := g18.rdD r_x; replace r_y := g18.rdD r_y; replace r_vl := g18.rdD r_vl; replace r_vh := g18.rdD r_vh; replace F_R1 := F_R1.mv g18.mv; replace r_o2l := g18.rdD r_o2l; replace r_o2h := g18.rdD r_o2h; replace r_o3l := g18.rdD r_o3l; replace r_o3h := g18.rdD r_o3h; replace r_o4l := g18.rdD r_o4l; replace r_o4h := g18.rdD r_o4h; replace r_o5l := g18.rdD r_o5l; replace r_o5h := g18.rdD r_o5h; replace F_t61 := F_t61.mv g18.mv; replace F_t62 := F_t62.mv g18.mv; replace F_t71 := F_t71.mv g18.mv; replace F_t72 := F_t72.mv g18.mv; replace F_t81 := F_t81.mv g18.mv; replace F_t82 := F_t82.mv g18.mv; replace F_t91 := F_t91.mv g18.mv; replace F_t92 := F_t92.mv g18.mv
            clear h18 hb18
            refine sat_call #[.agg #[.slice A_a a.at_.length c_a, .slice B_a a.v.length d_a]] (by kernel_rfl) fun w19 h19 => ?_
            refine (rmayT_any _ _ _ _ a _ ((F_a1.mv h19.mv).any) ((F_a2.mv h19.mv).any)).mono ?_
            rintro e v19 ⟨rfl, hb19⟩
            refine ⟨hb19, [.bool (mayT a)], _, rfl, by kernel_rfl, by kernel_rfl, fun g19 => ?_⟩
            replace F_a1 := F_a1.mv g19.mv; replace F_a2 := F_a2.mv g19.mv; replace F_b1 := F_b1.mv g19.mv; replace F_b2 := F_b2.mv g19.mv; replace r_x := g19.rdD r_x; replace r_y := g19.rdD r_y; replace r_vl := g19.rdD r_vl; replace r_vh := g19.rdD r_vh; replace F_R1 := F_R1.mv g19.mv; replace r_o2l := g19.rdD r_o2l; replace r_o2h := g19.rdD r_o2h; replace r_o3l := g19.rdD r_o3l; replace r_o3h := g19.rdD r_o3h; replace r_o4l := g19.rdD r_o4l; replace r_o4h := g19.rdD r_o4h; replace r_o5l := g19.rdD r_o5l; replace r_o5h := g19.rdD r_o5h; replace F_t61 := F_t61.mv g19.mv; replace F_t62 := F_t62.mv g19.mv; replace F_t71 := F_t71.mv g19.mv; replace F_t72 := F_t72.mv g19.mv; replace F_t81 := F_t81.mv g19.mv; replace F_t82 := F_t82.mv g19.mv; replace F_t91 := F_t91.mv g19.mv; replace F_t92 := F_t92.mv g19.mv
            clear h19 hb19
            refine sat_prim (v := .bool ((mayT a) == (mayT a))) (by kernel_rfl) ?_
            refine sat_trueP (b := ((mayT a) == (mayT a))) (by kernel_rfl) (by simp) ?_
            refine sat_prim (v := .bool ((x_o2 : Int) == x_o2)) (by kernel_rfl) ?_
            refine sat_trueP (b := ((x_o2 : Int) == x_o2)) (by kernel_rfl) (by simp) ?_
            refine sat_call #[.agg #[.bool l_o2.neg, .slice A_o2 n_o2 c_o2, .int .i64 l_o2.e, .bool g_o2.neg, .slice B_o2 m_o2 k_o2, .int .i64 g_o2.e], .agg #[.bool l_o2.neg, .slice A_o3 n_o3 c_o3, .int .i64 l_o2.e, .bool g_o2.neg, .slice B_o3 m_o3 k_o3, .int .i64 g_o2.e]] (by kernel_rfl) fun w20 h20 => ?_
            refine (rsameI_any _ _ ⟨l_o2, g_o2⟩ ⟨l_o2, g_o2⟩ _ (mkI (h20.rdD r_o2l) (h20.rdD r_o2h)) (mkI (h20.rdD r_o3l) (h20.rdD r_o3h))).mono ?_
            rintro e v20 ⟨rfl, hb20⟩
            refine ⟨hb20, [.bool (sameI ⟨l_o2, g_o2⟩ ⟨l_o2, g_o2⟩)], _, rfl, by kernel_rfl, by kernel_rfl, fun g20 => ?_⟩
            replace F_a1 := F_a1.mv g20.mv; replace F_a2 := F_a2.mv g20.mv; replace F_b1 := F_b1.mv g20.mv; replace F_b2 := F_b2.mv g20.mv; replace r_x := g20.rdD r_x; replace r_y := g20.rdD r_y; replace r_vl := g20.rdD r_vl; replace r_vh := g20.rdD r_vh; replace F_R1 := F_R1.mv g20.mv; replace r_o2l := g20.rdD r_o2l; replace r_o2h := g20.rdD r_o2h; replace r_o3l := g20.rdD r_o3l; replace r_o3h := g20.rdD r_o3h; replace r_o4l := g20.rdD r_o4l; replace r_o4h := g20.rdD r_o4h; replace r_o5l := g20.rdD r_o5l; replace r_o5h := g20.rdD r_o5h; replace F_t61 := F_t61.mv g20.mv; replace F_t62 := F_t62.mv g20.mv; replace F_t71 := F_t71.mv g20.mv; replace F_t72 := F_t72.mv g20.mv; replace F_t81 := F_t81.mv g20.mv; replace F_t82 := F_t82.mv g20.mv; replace F_t91 := F_t91.mv g20.mv; replace F_t92 := F_t92.mv g20.mv
            clear h20 hb20
            refine sat_trueP (b := (sameI ⟨l_o2, g_o2⟩ ⟨l_o2, g_o2⟩)) (by kernel_rfl) (sameI_self' _) ?_
            refine sat_prim (v := .bool ((x_o4 : Int) == x_o4)) (by kernel_rfl) ?_
            refine sat_trueP (b := ((x_o4 : Int) == x_o4)) (by kernel_rfl) (by simp) ?_
            refine sat_call #[.agg #[.bool l_o4.neg, .slice A_o4 n_o4 c_o4, .int .i64 l_o4.e, .bool g_o4.neg, .slice B_o4 m_o4 k_o4, .int .i64 g_o4.e], .agg #[.bool l_o4.neg, .slice A_o5 n_o5 c_o5, .int .i64 l_o4.e, .bool g_o4.neg, .slice B_o5 m_o5 k_o5, .int .i64 g_o4.e]] (by kernel_rfl) fun w21 h21 => ?_
            refine (rsameI_any _ _ ⟨l_o4, g_o4⟩ ⟨l_o4, g_o4⟩ _ (mkI (h21.rdD r_o4l) (h21.rdD r_o4h)) (mkI (h21.rdD r_o5l) (h21.rdD r_o5h))).mono ?_
            rintro e v21 ⟨rfl, hb21⟩
            refine ⟨hb21, [.bool (sameI ⟨l_o4, g_o4⟩ ⟨l_o4, g_o4⟩)], _, rfl, by kernel_rfl, by kernel_rfl, fun g21 => ?_⟩
            replace F_a1 := F_a1.mv g21.mv; replace F_a2 := F_a2.mv g21.mv; replace F_b1 := F_b1.mv g21.mv; replace F_b2 := F_b2.mv g21.mv; replace r_x := g21.rdD r_x; replace r_y := g21.rdD r_y; replace r_vl := g21.rdD r_vl; replace r_vh := g21.rdD r_vh; replace F_R1 := F_R1.mv g21.mv; replace r_o2l := g21.rdD r_o2l; replace r_o2h := g21.rdD r_o2h; replace r_o3l := g21.rdD r_o3l; replace r_o3h := g21.rdD r_o3h; replace r_o4l := g21.rdD r_o4l; replace r_o4h := g21.rdD r_o4h; replace r_o5l := g21.rdD r_o5l; replace r_o5h := g21.rdD r_o5h; replace F_t61 := F_t61.mv g21.mv; replace F_t62 := F_t62.mv g21.mv; replace F_t71 := F_t71.mv g21.mv; replace F_t72 := F_t72.mv g21.mv; replace F_t81 := F_t81.mv g21.mv; replace F_t82 := F_t82.mv g21.mv; replace F_t91 := F_t91.mv g21.mv; replace F_t92 := F_t92.mv g21.mv
            clear h21 hb21
            refine sat_trueP (b := (sameI ⟨l_o4, g_o4⟩ ⟨l_o4, g_o4⟩)) (by kernel_rfl) (sameI_self' _) ?_
            refine sat_call #[.agg #[.slice A_t6 p_t6.length c_t6, .slice B_t6 q_t6.length d_t6], .int .i64 x_t6, .agg #[.slice A_t7 p_t6.length c_t7, .slice B_t7 q_t6.length d_t7], .int .i64 x_t6] (by kernel_rfl) fun w22 h22 => ?_
            refine (same13_any _ _ _ _ _ _ _ _ (⟨p_t6, q_t6⟩ : Tb) x_t6 (⟨p_t6, q_t6⟩ : Tb) x_t6 _ ((F_t61.mv h22.mv).any) ((F_t62.mv h22.mv).any) ((F_t71.mv h22.mv).any) ((F_t72.mv h22.mv).any)).mono ?_
            rintro e v22 ⟨rfl, hb22⟩
            refine ⟨hb22, [.bool ((x_t6 == x_t6) && sameT (⟨p_t6, q_t6⟩ : Tb) (⟨p_t6, q_t6⟩ : Tb))], _, rfl, by kernel_rfl, by kernel_rfl, fun g22 => ?_⟩
            replace F_a1 := F_a1.mv g22.mv; replace F_a2 := F_a2.mv g22.mv; replace F_b1 := F_b1.mv g22.mv; replace F_b2 := F_b2.mv g22.mv; replace r_x := g22.rdD r_x; replace r_y := g22.rdD r_y; replace r_vl := g22.rdD r_vl; replace r_vh := g22.rdD r_vh; replace F_R1 := F_R1.mv g22.mv; replace r_o2l := g22.rdD r_o2l; replace r_o2h := g22.rdD r_o2h; replace r_o3l := g22.rdD r_o3l; replace r_o3h := g22.rdD r_o3h; replace r_o4l := g22.rdD r_o4l; replace r_o4h := g22.rdD r_o4h; replace r_o5l := g22.rdD r_o5l; replace r_o5h := g22.rdD r_o5h; replace F_t61 := F_t61.mv g22.mv; replace F_t62 := F_t62.mv g22.mv; replace F_t71 := F_t71.mv g22.mv; replace F_t72 := F_t72.mv g22.mv; replace F_t81 := F_t81.mv g22.mv; replace F_t82 := F_t82.mv g22.mv; replace F_t91 := F_t91.mv g22.mv; replace F_t92 := F_t92.mv g22.mv
            clear h22 hb22
            refine sat_trueP (b := ((x_t6 == x_t6) && sameT (⟨p_t6, q_t6⟩ : Tb) (⟨p_t6, q_t6⟩ : Tb))) (by kernel_rfl) (by rw [sameT_self]; simp) ?_
            refine sat_call #[.agg #[.slice A_t8 p_t8.length c_t8, .slice B_t8 q_t8.length d_t8], .int .i64 x_t8, .agg #[.slice A_t9 p_t8.length c_t9, .slice B_t9 q_t8.length d_t9], .int .i64 x_t8] (by kernel_rfl) fun w23 h23 => ?_
            refine (same13_any _ _ _ _ _ _ _ _ (⟨p_t8, q_t8⟩ : Tb) x_t8 (⟨p_t8, q_t8⟩ : Tb) x_t8 _ ((F_t81.mv h23.mv).any) ((F_t82.mv h23.mv).any) ((F_t91.mv h23.mv).any) ((F_t92.mv h23.mv).any)).mono ?_
            rintro e v23 ⟨rfl, hb23⟩
            refine ⟨hb23, [.bool ((x_t8 == x_t8) && sameT (⟨p_t8, q_t8⟩ : Tb) (⟨p_t8, q_t8⟩ : Tb))], _, rfl, by kernel_rfl, by kernel_rfl, fun g23 => ?_⟩
            replace F_a1 := F_a1.mv g23.mv; replace F_a2 := F_a2.mv g23.mv; replace F_b1 := F_b1.mv g23.mv; replace F_b2 := F_b2.mv g23.mv; replace r_x := g23.rdD r_x; replace r_y := g23.rdD r_y; replace r_vl := g23.rdD r_vl; replace r_vh := g23.rdD r_vh; replace F_R1 := F_R1.mv g23.mv; replace r_o2l := g23.rdD r_o2l; replace r_o2h := g23.rdD r_o2h; replace r_o3l := g23.rdD r_o3l; replace r_o3h := g23.rdD r_o3h; replace r_o4l := g23.rdD r_o4l; replace r_o4h := g23.rdD r_o4h; replace r_o5l := g23.rdD r_o5l; replace r_o5h := g23.rdD r_o5h; replace F_t61 := F_t61.mv g23.mv; replace F_t62 := F_t62.mv g23.mv; replace F_t71 := F_t71.mv g23.mv; replace F_t72 := F_t72.mv g23.mv; replace F_t81 := F_t81.mv g23.mv; replace F_t82 := F_t82.mv g23.mv; replace F_t91 := F_t91.mv g23.mv; replace F_t92 := F_t92.mv g23.mv
            clear h23 hb23
            refine sat_trueP (b := ((x_t8 == x_t8) && sameT (⟨p_t8, q_t8⟩ : Tb) (⟨p_t8, q_t8⟩ : Tb))) (by kernel_rfl) (by rw [sameT_self]; simp) ?_
            refine sat_call #[.agg #[.slice A_a a.at_.length c_a, .slice B_a a.v.length d_a], .agg #[.slice A_b b.at_.length c_b, .slice B_b b.v.length d_b]] (by kernel_rfl) fun w24 h24 => ?_
            refine (sameT_any _ _ _ _ _ _ _ _ a b _ ((F_a1.mv h24.mv).any) ((F_a2.mv h24.mv).any) ((F_b1.mv h24.mv).any) ((F_b2.mv h24.mv).any)).mono ?_
            rintro e v24 ⟨rfl, hb24⟩
            refine ⟨hb24, [.bool (sameT a b)], _, rfl, by kernel_rfl, by kernel_rfl, fun g24 => ?_⟩
            replace F_a1 := F_a1.mv g24.mv; replace F_a2 := F_a2.mv g24.mv; replace F_b1 := F_b1.mv g24.mv; replace F_b2 := F_b2.mv g24.mv; replace r_x := g24.rdD r_x; replace r_y := g24.rdD r_y; replace r_vl := g24.rdD r_vl; replace r_vh := g24.rdD r_vh; replace F_R1 := F_R1.mv g24.mv; replace r_o2l := g24.rdD r_o2l; replace r_o2h := g24.rdD r_o2h; replace r_o3l := g24.rdD r_o3l; replace r_o3h := g24.rdD r_o3h; replace r_o4l := g24.rdD r_o4l; replace r_o4h := g24.rdD r_o4h; replace r_o5l := g24.rdD r_o5l; replace r_o5h := g24.rdD r_o5h; replace F_t61 := F_t61.mv g24.mv; replace F_t62 := F_t62.mv g24.mv; replace F_t71 := F_t71.mv g24.mv; replace F_t72 := F_t72.mv g24.mv; replace F_t81 := F_t81.mv g24.mv; replace F_t82 := F_t82.mv g24.mv; replace F_t91 := F_t91.mv g24.mv; replace F_t92 := F_t92.mv g24.mv
            clear h24 hb24
            refine sat_call #[.agg #[.slice A_a a.at_.length c_a, .slice B_a a.v.length d_a], .agg #[.slice A_b b.at_.length c_b, .slice B_b b.v.length d_b]] (by kernel_rfl) fun w25 h25 => ?_
            refine (rsameT_any _ _ _ _ _ _ _ _ a b _ ((F_a1.mv h25.mv).any) ((F_a2.mv h25.mv).any) ((F_b1.mv h25.mv).any) ((F_b2.mv h25.mv).any)).mono ?_
            rintro e v25 ⟨rfl, hb25⟩
            refine ⟨hb25, [.bool (sameT a b)], _, rfl, by kernel_rfl, by kernel_rfl, fun g25 => ?_⟩
            replace F_a1 := F_a1.mv g25.mv; replace F_a2 := F_a2.mv g25.mv; replace F_b1 := F_b1.mv g25.mv; replace F_b2 := F_b2.mv g25.mv; replace r_x := g25.rdD r_x; replace r_y := g25.rdD r_y; replace r_vl := g25.rdD r_vl; replace r_vh := g25.rdD r_vh; replace F_R1 := F_R1.mv g25.mv; replace r_o2l := g25.rdD r_o2l; replace r_o2h := g25.rdD r_o2h; replace r_o3l := g25.rdD r_o3l; replace r_o3h := g25.rdD r_o3h; replace r_o4l := g25.rdD r_o4l; replace r_o4h := g25.rdD r_o4h; replace r_o5l := g25.rdD r_o5l; replace r_o5h := g25.rdD r_o5h; replace F_t61 := F_t61.mv g25.mv; replace F_t62 := F_t62.mv g25.mv; replace F_t71 := F_t71.mv g25.mv; replace F_t72 := F_t72.mv g25.mv; replace F_t81 := F_t81.mv g25.mv; replace F_t82 := F_t82.mv g25.mv; replace F_t91 := F_t91.mv g25.mv; replace F_t92 := F_t92.mv g25.mv
            clear h25 hb25
            refine sat_prim (v := .bool ((sameT a b) == (sameT a b))) (by kernel_rfl) ?_
            refine sat_trueP (b := ((sameT a b) == (sameT a b))) (by kernel_rfl) (by simp) ?_
            refine sat_call #[.agg #[.slice A_a a.at_.length c_a, .slice B_a a.v.length d_a], .agg #[.slice A_a a.at_.length c_a, .slice B_a a.v.length d_a]] (by kernel_rfl) fun w26 h26 => ?_
            refine (sameT_any _ _ _ _ _ _ _ _ a a _ ((F_a1.mv h26.mv).any) ((F_a2.mv h26.mv).any) ((F_a1.mv h26.mv).any) ((F_a2.mv h26.mv).any)).mono ?_
            rintro e v26 ⟨rfl, hb26⟩
            refine ⟨hb26, [.bool (sameT a a)], _, rfl, by kernel_rfl, by kernel_rfl, fun g26 => ?_⟩
            replace F_a1 := F_a1.mv g26.mv; replace F_a2 := F_a2.mv g26.mv; replace F_b1 := F_b1.mv g26.mv; replace F_b2 := F_b2.mv g26.mv; replace r_x := g26.rdD r_x; replace r_y := g26.rdD r_y; replace r_vl := g26.rdD r_vl; replace r_vh := g26.rdD r_vh; replace F_R1 := F_R1.mv g26.mv; replace r_o2l := g26.rdD r_o2l; replace r_o2h := g26.rdD r_o2h; replace r_o3l := g26.rdD r_o3l; replace r_o3h := g26.rdD r_o3h; replace r_o4l := g26.rdD r_o4l; replace r_o4h := g26.rdD r_o4h; replace r_o5l := g26.rdD r_o5l; replace r_o5h := g26.rdD r_o5h; replace F_t61 := F_t61.mv g26.mv; replace F_t62 := F_t62.mv g26.mv; replace F_t71 := F_t71.mv g26.mv; replace F_t72 := F_t72.mv g26.mv; replace F_t81 := F_t81.mv g26.mv; replace F_t82 := F_t82.mv g26.mv; replace F_t91 := F_t91.mv g26.mv; replace F_t92 := F_t92.mv g26.mv
            clear h26 hb26
            exact sat_ret (.bool (sameT a a)) (by kernel_rfl) fun w9 h9 => congrArg Value.bool (sameT_self _)
        · refine sat_true (by kernel_rfl) ?_
          refine sat_call #[] (by kernel_rfl) fun w7 h7 => ?_
          refine (told13_any _ (h7.tab hT)).mono ?_
          rintro e v7 ⟨rfl, hb7⟩
          refine ⟨hb7, [.bool true], _, rfl, by kernel_rfl, by kernel_rfl, fun g7 => ?_⟩
          replace F_a1 := F_a1.mv g7.mv; replace F_a2 := F_a2.mv g7.mv; replace F_b1 := F_b1.mv g7.mv; replace F_b2 := F_b2.mv g7.mv; replace r_x := g7.rdD r_x; replace r_y := g7.rdD r_y; replace r_vl := g7.rdD r_vl; replace r_vh := g7.rdD r_vh
          clear h7 hb7
          exact sat_ret (.bool true) (by kernel_rfl) fun w9 h9 => rfl
      · refine sat_true (by kernel_rfl) ?_
        refine sat_call #[] (by kernel_rfl) fun w6 h6 => ?_
        refine (told13_any _ (h6.tab hT)).mono ?_
        rintro e v6 ⟨rfl, hb6⟩
        refine ⟨hb6, [.bool true], _, rfl, by kernel_rfl, by kernel_rfl, fun g6 => ?_⟩
        replace F_a1 := F_a1.mv g6.mv; replace F_a2 := F_a2.mv g6.mv; replace F_b1 := F_b1.mv g6.mv; replace F_b2 := F_b2.mv g6.mv; replace r_x := g6.rdD r_x; replace r_y := g6.rdD r_y; replace r_vl := g6.rdD r_vl; replace r_vh := g6.rdD r_vh
        clear h6 hb6
        exact sat_ret (.bool true) (by kernel_rfl) fun w9 h9 => rfl

end Go.Proofs.YtbpfnooloemieaaDoor
