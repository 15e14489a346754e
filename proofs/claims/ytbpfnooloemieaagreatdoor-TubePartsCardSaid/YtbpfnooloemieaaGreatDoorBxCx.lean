/- The boxes of sluicewayref11, the walk of BoxAsks, by their trees. Printed by wip/mk_BxC.py. -/
import Derived.Test.YtbpfnooloemieaaGreatDoorBxBx
import Derived.Test.YtbpfnooloemieaaGreatDoorBxPx
import Derived.Test.YtbpfnooloemieaaGreatDoorL2Fx
namespace Go.Proofs.YtbpfnooloemieaaGreatDoor
open Go.RowKit Pl
open Sx (sat_call sat_chk sat_prim sat_ite sat_true sat_false sat_trueP sat_falseP sat_ret sat_row sat_callP sat_loop sat_back sat_idx sat_el sat_elf sat_elc sat_load sat_rowN sat_app rows_one rows_two all_nil all_cons okB okS okI)

def tr_r11may : Sx.Tree := .loop 0 [.num .i64 0, .bit false] (.prim .len [.lf 0] (.prim (.bin .lss) [.lf 1, .lf 3] (.ite (.lf 4) (.prim (.idx 6) [.lf 0, .lf 1] (.load 49 (.lf 5) (.ag 6) (.call 53 [.ag [.lf 6, .lf 7, .lf 8, .lf 9, .lf 10, .lf 11]] .one (.prim .not [.lf 12] (.ite (.lf 13) (.ret (.one (.bit false))) (.prim (.bin .add) [.lf 1, .num .i64 1] (.back 0 [.lf 14, .lf 2]))))))) (.ret (.one (.bit true))))))
theorem tr_r11may_eq : Sx.treeAt Tryz.prog 17 [] [] [(false, 1)] = some tr_r11may := by kernel_rfl

theorem rmayB_any (A_l : Option Addr) (c_l : Nat) (l : List Iv) (w : World) (h_l : Sx.Rows Sx.kI (fun _ => True) w A_l l.length c_l l) :
    Calls Tryz.prog 17 #[.slice A_l l.length c_l] w fun e w' => e = .returned (.bool (mayB l)) ∧ Below w.heap.size w w' := by
  have F_l := h_l.start
  have M_l := h_l.le
  clear h_l
  refine (Sx.runA [] [] (ls := [.slice A_l l.length c_l]) (shs := [(false, 1)]) (R := fun v _ => v = .bool (mayB l)) tr_r11may_eq rfl (by decide) (fun q h => by cases h) ?_).mono (fun e w' ⟨v, he, hv, hb⟩ => ⟨by rw [he, hv], hb⟩)
  unfold tr_r11may
  refine sat_loop (fun Kn vs W => ∃ (i : Nat), vs = [.int .i64 ((i : Nat) : Int), .bool false] ∧ Kn = l.length - i ∧ i ≤ l.length ∧ (mayB l = mayB (l.drop i))) [.int .i64 0, .bool false] (by kernel_rfl) (fun w1 h1 => ⟨_, 0, rfl, rfl, Nat.zero_le _, rfl⟩) ?_
  rintro Kn vs w1 h1 ⟨i, rfl, rfl, h_i, hm⟩
  replace F_l := F_l.mv h1.mv
  clear h1
  refine sat_prim (v := .int .i64 ((l.length : Nat) : Int)) (by kernel_rfl) ?_
  refine sat_prim (v := .bool (decide ((((i : Nat) : Int) : Int) < ((l.length : Nat) : Int)))) (by kernel_rfl) ?_
  cases hlt : (decide ((((i : Nat) : Int) : Int) < ((l.length : Nat) : Int)))
  · refine sat_false (by kernel_rfl) ?_
    exact sat_ret (.bool true) (by kernel_rfl) fun w9 h9 => congrArg Value.bool (by rw [hm, drop_end hlt]; rfl)
  · refine sat_true (by kernel_rfl) ?_
    refine sat_idx (A := A_l) (c := c_l) (kk := .i64) (i) (by kernel_rfl) (by kernel_rfl) (lt_of hlt) F_l.addr fun g3 o3 e3 => ?_
    obtain ⟨x1, h_x1⟩ : ∃ x_, l[(i)]? = some x_ := ⟨_, List.getElem?_eq_getElem (lt_of hlt)⟩
    refine sat_el F_l e3 h_x1 rfl (by kernel_rfl) (by kernel_rfl) (by kernel_rfl) ?_
    rintro _ ⟨A_L2, n_L2, c_L2, B_L2, m_L2, k_L2, rfl, r_L2l, r_L2h⟩
    refine sat_call #[.agg #[.bool x1.lo.neg, .slice A_L2 n_L2 c_L2, .int .i64 x1.lo.e, .bool x1.hi.neg, .slice B_L2 m_L2 k_L2, .int .i64 x1.hi.e]] (by kernel_rfl) fun w4 h4 => ?_
    refine (rmayI_any _ x1 _ (mkI (h4.rdD r_L2l) (h4.rdD r_L2h))).mono ?_
    rintro e v4 ⟨rfl, hb4⟩
    refine ⟨hb4, [.bool (mayI x1)], _, rfl, by kernel_rfl, by kernel_rfl, fun g4 => ?_⟩
    replace F_l := F_l.mv g4.mv; replace r_L2l := g4.rdD r_L2l; replace r_L2h := g4.rdD r_L2h
    clear h4 hb4
    refine sat_prim (v := .bool (!(mayI x1))) (by kernel_rfl) ?_
    cases hm2 : (mayI x1)
    · refine sat_true (by kernel_rfl) ?_
      exact sat_ret (.bool false) (by kernel_rfl) fun w9 h9 => congrArg Value.bool (by rw [hm, mayB_cons h_x1, hm2]; rfl)
    · refine sat_false (by kernel_rfl) ?_
      refine sat_prim (v := .int .i64 (((i + 1 : Nat)) : Int)) (Eq.trans (b := some (.int .i64 (IntKind.i64.wrap ((((i) : Nat) : Int) + 1)))) (by kernel_rfl) (by rw [Sx.wrap_succ (n := l.length) (lt_of hlt) M_l])) ?_
      exact sat_back [.int .i64 (((i + 1 : Nat)) : Int), .bool false] (by kernel_rfl) fun w9 h9 => ⟨_, by have := lt_of hlt; omega, i + 1, rfl, rfl, by have := lt_of hlt; omega, by rw [hm, mayB_cons h_x1, hm2, Bool.true_and]⟩

def tr_r5width : Sx.Tree := .chk [.lf 0, .lf 1, .lf 2, .lf 3, .lf 4, .lf 5] (.call 53 [.ag [.lf 0, .lf 1, .lf 2, .lf 3, .lf 4, .lf 5]] .one (.prim .not [.lf 6] (.ite (.lf 7) (.ret (.tup [(true, [.bit false, .nil, .num .i64 0]), (false, [.num .i64 1])])) (.call 86 [.ag [.lf 3, .lf 4, .lf 5], .ag [.lf 0, .lf 1, .lf 2]] (.tup [(true, 3), (false, 1)]) (.chk [.lf 8, .lf 9, .lf 10] (.ret (.tup [(true, [.lf 8, .lf 9, .lf 10]), (false, [.lf 11])])))))))
theorem tr_r5width_eq : Sx.treeAt Tryz.prog 48 [] [] [(true, 6)] = some tr_r5width := by kernel_rfl

theorem rwidthI_any (v_a : Value) (a : Iv) (w : World) (h_a : RdI w v_a a) :
    Calls Tryz.prog 48 #[v_a] w fun e w' => DyTup w' e (widthI a) ∧ Below w.heap.size w w' := by
  obtain ⟨A_a, n_a, c_a, B_a, m_a, k_a, rfl, r_al, r_ah⟩ := h_a
  refine (Sx.runA [] [] (ls := [.bool a.lo.neg, .slice A_a n_a c_a, .int .i64 a.lo.e, .bool a.hi.neg, .slice B_a m_a k_a, .int .i64 a.hi.e]) (shs := [(true, 6)]) (R := fun v w' => DyTup w' (.returned v) (widthI a)) tr_r5width_eq rfl (by decide) (fun q h => by cases h) ?_).mono (fun e w' ⟨v, he, hv, hb⟩ => ⟨by rw [he]; exact hv, hb⟩)
  unfold tr_r5width
  refine sat_chkB (by kernel_rfl) ?_
  refine sat_call #[.agg #[.bool a.lo.neg, .slice A_a n_a c_a, .int .i64 a.lo.e, .bool a.hi.neg, .slice B_a m_a k_a, .int .i64 a.hi.e]] (by kernel_rfl) fun w1 h1 => ?_
  refine (rmayI_any _ a _ (mkI (h1.rdD r_al) (h1.rdD r_ah))).mono ?_
  rintro e v1 ⟨rfl, hb1⟩
  refine ⟨hb1, [.bool (mayI a)], _, rfl, by kernel_rfl, by kernel_rfl, fun g1 => ?_⟩
  replace r_al := g1.rdD r_al; replace r_ah := g1.rdD r_ah
  clear h1 hb1
  refine sat_prim (v := .bool (!(mayI a))) (by kernel_rfl) ?_
  cases hE : (mayI a)
  · refine sat_true (by kernel_rfl) ?_
    exact sat_ret (.tuple #[.agg #[.bool false, .slice none 0 0, .int .i64 0], .int .i64 1]) (by kernel_rfl) fun w9 h9 => ⟨Dy.zero, 1, none, 0, 0, hide (by unfold widthI; rw [hE]; rfl), rfl, RdD.zero _⟩
  · refine sat_false (by kernel_rfl) ?_
    refine sat_call #[.agg #[.bool a.hi.neg, .slice B_a m_a k_a, .int .i64 a.hi.e], .agg #[.bool a.lo.neg, .slice A_a n_a c_a, .int .i64 a.lo.e]] (by kernel_rfl) fun w3 h3 => ?_
    refine (rsubD_any _ _ (a.hi) (a.lo) _ (h3.rdD r_ah) (h3.rdD r_al)).mono ?_
    rintro e v3 ⟨⟨d_s1, x_s1, A_s1, n_s1, c_s1, h_s1, rfl, r_s1⟩, hb3⟩
    refine ⟨hb3, [.bool d_s1.neg, .slice A_s1 n_s1 c_s1, .int .i64 d_s1.e, .int .i64 x_s1], _, rfl, by kernel_rfl, by kernel_rfl, fun g3 => ?_⟩
    replace r_al := g3.rdD r_al; replace r_ah := g3.rdD r_ah
    clear h3 hb3
    refine sat_chkB (by kernel_rfl) ?_
    exact sat_ret (.tuple #[.agg #[.bool d_s1.neg, .slice A_s1 n_s1 c_s1, .int .i64 d_s1.e], .int .i64 x_s1]) (by kernel_rfl) fun w9 h9 => ⟨d_s1, x_s1, A_s1, n_s1, c_s1, hide (by rw [h_s1.out]; unfold widthI; rw [hE]; rfl), rfl, h9.rdD r_s1⟩

def tr_r11width : Sx.Tree := .call 17 [.one (.lf 0)] .one (.prim .not [.lf 1] (.ite (.lf 2) (.ret (.tup [(true, [.bit false, .nil, .num .i64 0]), (false, [.num .i64 1])])) (.loop 0 [.num .i64 0, .num .i64 0, .bit false, .nil, .num .i64 0] (.prim .len [.lf 0] (.prim (.bin .lss) [.lf 3, .lf 8] (.ite (.lf 9) (.prim (.idx 6) [.lf 0, .lf 3] (.load 49 (.lf 10) (.ag 6) (.call 48 [.ag [.lf 11, .lf 12, .lf 13, .lf 14, .lf 15, .lf 16]] (.tup [(true, 3), (false, 1)]) (.chk [.lf 17, .lf 18, .lf 19] (.prim (.bin .neq) [.lf 20, .num .i64 0] (.ite (.lf 21) (.ret (.tup [(true, [.bit false, .nil, .num .i64 0]), (false, [.lf 20])])) (.call 49 [.ag [.lf 5, .lf 6, .lf 7], .ag [.lf 17, .lf 18, .lf 19]] .one (.ite (.lf 22) (.chk [.lf 17, .lf 18, .lf 19] (.prim (.bin .add) [.lf 3, .num .i64 1] (.back 0 [.lf 23, .lf 4, .lf 17, .lf 18, .lf 19]))) (.prim (.bin .add) [.lf 3, .num .i64 1] (.back 0 [.lf 23, .lf 4, .lf 5, .lf 6, .lf 7])))))))))) (.chk [.lf 5, .lf 6, .lf 7] (.ret (.tup [(true, [.lf 5, .lf 6, .lf 7]), (false, [.num .i64 0])])))))))))
theorem tr_r11width_eq : Sx.treeAt Tryz.prog 12 [] [1] [(false, 1)] = some tr_r11width := by kernel_rfl

theorem rwidthB_any (A_l : Option Addr) (c_l : Nat) (l : List Iv) (w : World) (h_l : Sx.Rows Sx.kI (fun _ => True) w A_l l.length c_l l) :
    Calls Tryz.prog 12 #[.slice A_l l.length c_l] w fun e w' => DyTup w' e (widthB l) ∧ Below w.heap.size w w' := by
  have F_l := h_l.start
  have M_l := h_l.le
  clear h_l
  refine (Sx.runA [] [1] (ls := [.slice A_l l.length c_l]) (shs := [(false, 1)]) (R := fun v w' => DyTup w' (.returned v) (widthB l)) tr_r11width_eq rfl (by decide) (fun q h => by cases h) ?_).mono (fun e w' ⟨v, he, hv, hb⟩ => ⟨by rw [he]; exact hv, hb⟩)
  unfold tr_r11width
  refine sat_call #[.slice A_l l.length c_l] (by kernel_rfl) fun w1 h1 => ?_
  refine (rmayB_any _ _ l _ ((F_l.mv h1.mv).any)).mono ?_
  rintro e v1 ⟨rfl, hb1⟩
  refine ⟨hb1, [.bool (mayB l)], _, rfl, by kernel_rfl, by kernel_rfl, fun g1 => ?_⟩
  replace F_l := F_l.mv g1.mv
  clear h1 hb1
  refine sat_prim (v := .bool (!(mayB l))) (by kernel_rfl) ?_
  cases hT2 : (mayB l)
  · refine sat_true (by kernel_rfl) ?_
    exact sat_ret (.tuple #[.agg #[.bool false, .slice none 0 0, .int .i64 0], .int .i64 1]) (by kernel_rfl) fun w9 h9 => ⟨Dy.zero, 1, none, 0, 0, hide (width_no hT2), rfl, RdD.zero _⟩
  · refine sat_false (by kernel_rfl) ?_
    refine sat_loop (fun Kn vs W => ∃ (i : Nat) (m : Dy) (A_m : Option Addr) (n_m : Nat) (c_m : Nat), vs = [.int .i64 ((i : Nat) : Int), .int .i64 0, .bool m.neg, .slice A_m n_m c_m, .int .i64 m.e] ∧ Kn = l.length - i ∧ i ≤ l.length ∧ (RdD W.toWorld (.agg #[.bool m.neg, .slice A_m n_m c_m, .int .i64 m.e]) m) ∧ (widthB l = widthA m (l.drop i))) [.int .i64 0, .int .i64 0, .bool false, .slice none 0 0, .int .i64 0] (by kernel_rfl) (fun w1 h1 => ⟨_, 0, Dy.zero, none, 0, 0, rfl, rfl, Nat.zero_le _, RdD.zero _, width_yes hT2⟩) ?_
    rintro Kn vs w3 h3 ⟨i, m, A_m, n_m, c_m, rfl, rfl, h_i, r_m, hm⟩
    replace F_l := F_l.mv h3.mv
    clear h3
    refine sat_prim (v := .int .i64 ((l.length : Nat) : Int)) (by kernel_rfl) ?_
    refine sat_prim (v := .bool (decide ((((i : Nat) : Int) : Int) < ((l.length : Nat) : Int)))) (by kernel_rfl) ?_
    cases hlt : (decide ((((i : Nat) : Int) : Int) < ((l.length : Nat) : Int)))
    · refine sat_false (by kernel_rfl) ?_
      refine sat_chkB (by kernel_rfl) ?_
      exact sat_ret (.tuple #[.agg #[.bool m.neg, .slice A_m n_m c_m, .int .i64 m.e], .int .i64 0]) (by kernel_rfl) fun w9 h9 => ⟨m, 0, A_m, n_m, c_m, hide (width_end hm hlt), rfl, h9.rdD r_m⟩
    · refine sat_true (by kernel_rfl) ?_
      refine sat_idx (A := A_l) (c := c_l) (kk := .i64) (i) (by kernel_rfl) (by kernel_rfl) (lt_of hlt) F_l.addr fun g5 o5 e5 => ?_
      obtain ⟨x1, h_x1⟩ : ∃ x_, l[(i)]? = some x_ := ⟨_, List.getElem?_eq_getElem (lt_of hlt)⟩
      refine sat_el F_l e5 h_x1 rfl (by kernel_rfl) (by kernel_rfl) (by kernel_rfl) ?_
      rintro _ ⟨A_L2, n_L2, c_L2, B_L2, m_L2, k_L2, rfl, r_L2l, r_L2h⟩
      refine sat_call #[.agg #[.bool x1.lo.neg, .slice A_L2 n_L2 c_L2, .int .i64 x1.lo.e, .bool x1.hi.neg, .slice B_L2 m_L2 k_L2, .int .i64 x1.hi.e]] (by kernel_rfl) fun w6 h6 => ?_
      refine (rwidthI_any _ x1 _ (mkI (h6.rdD r_L2l) (h6.rdD r_L2h))).mono ?_
      rintro e v6 ⟨⟨d_w3, x_w3, A_w3, n_w3, c_w3, h_w3, rfl, r_w3⟩, hb6⟩
      refine ⟨hb6, [.bool d_w3.neg, .slice A_w3 n_w3 c_w3, .int .i64 d_w3.e, .int .i64 x_w3], _, rfl, by kernel_rfl, by kernel_rfl, fun g6 => ?_⟩
      replace F_l := F_l.mv g6.mv; replace r_m := g6.rdD r_m; replace r_L2l := g6.rdD r_L2l; replace r_L2h := g6.rdD r_L2h
      clear h6 hb6
      refine sat_chkB (by kernel_rfl) ?_
      refine sat_prim (v := .bool ((x_w3 : Int) != 0)) (by kernel_rfl) ?_
      cases hz : ((x_w3 : Int) != 0)
      · refine sat_false (by kernel_rfl) ?_
        refine sat_call #[.agg #[.bool m.neg, .slice A_m n_m c_m, .int .i64 m.e], .agg #[.bool d_w3.neg, .slice A_w3 n_w3 c_w3, .int .i64 d_w3.e]] (by kernel_rfl) fun w8 h8 => ?_
        refine (less_any _ _ (m) (d_w3) _ (h8.rdD r_m) (h8.rdD r_w3)).mono ?_
        rw [lt_gt r_m.lim r_w3.lim]
        rintro e v8 ⟨rfl, hb8⟩
        refine ⟨hb8, [.bool (decide (0 < cmpD d_w3 m))], _, rfl, by kernel_rfl, by kernel_rfl, fun g8 => ?_⟩
        replace F_l := F_l.mv g8.mv; replace r_m := g8.rdD r_m; replace r_L2l := g8.rdD r_L2l; replace r_L2h := g8.rdD r_L2h; replace r_w3 := g8.rdD r_w3
        clear h8 hb8
        cases hc : (decide (0 < cmpD d_w3 m))
        · refine sat_false (by kernel_rfl) ?_
          refine sat_prim (v := .int .i64 (((i + 1 : Nat)) : Int)) (Eq.trans (b := some (.int .i64 (IntKind.i64.wrap ((((i) : Nat) : Int) + 1)))) (by kernel_rfl) (by rw [Sx.wrap_succ (n := l.length) (lt_of hlt) M_l])) ?_
          exact sat_back [.int .i64 (((i + 1 : Nat)) : Int), .int .i64 0, .bool m.neg, .slice A_m n_m c_m, .int .i64 m.e] (by kernel_rfl) fun w9 h9 => ⟨_, by have := lt_of hlt; omega, i + 1, m, _, _, _, rfl, rfl, by have := lt_of hlt; omega, h9.rdD r_m, width_step hm h_x1 h_w3 hz hc⟩
        · refine sat_true (by kernel_rfl) ?_
          refine sat_chkB (by kernel_rfl) ?_
          refine sat_prim (v := .int .i64 (((i + 1 : Nat)) : Int)) (Eq.trans (b := some (.int .i64 (IntKind.i64.wrap ((((i) : Nat) : Int) + 1)))) (by kernel_rfl) (by rw [Sx.wrap_succ (n := l.length) (lt_of hlt) M_l])) ?_
          exact sat_back [.int .i64 (((i + 1 : Nat)) : Int), .int .i64 0, .bool d_w3.neg, .slice A_w3 n_w3 c_w3, .int .i64 d_w3.e] (by kernel_rfl) fun w9 h9 => ⟨_, by have := lt_of hlt; omega, i + 1, d_w3, _, _, _, rfl, rfl, by have := lt_of hlt; omega, h9.rdD r_w3, width_step hm h_x1 h_w3 hz hc⟩
      · refine sat_true (by kernel_rfl) ?_
        exact sat_ret (.tuple #[.agg #[.bool false, .slice none 0 0, .int .i64 0], .int .i64 x_w3]) (by kernel_rfl) fun w9 h9 => ⟨Dy.zero, x_w3, none, 0, 0, hide (width_bad hm h_x1 h_w3 hz), rfl, RdD.zero _⟩

theorem sameI_self' (a : Iv) : sameI a a = true := by unfold sameI; rw [sameD_self, sameD_self]; rfl
theorem sameB_self (l : List Iv) : sameB l l = true := by
  unfold sameB
  rw [all2_of (f := sameI) fun i x y hx hy => by rw [hx] at hy; cases hy; exact sameI_self' x]
  simp

end Go.Proofs.YtbpfnooloemieaaGreatDoor
