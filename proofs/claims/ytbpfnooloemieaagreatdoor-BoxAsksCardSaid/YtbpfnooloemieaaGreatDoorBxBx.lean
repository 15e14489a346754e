/- box.Corner, Width, sluicewaylaw8.Row, sluicewaylaw11.told, by their trees. Printed by wip/mk_BxB.py. -/
import Derived.Test.YtbpfnooloemieaaGreatDoorBxAx
import Derived.Test.YtbpfnooloemieaaGreatDoorIvCx
namespace Go.Proofs.YtbpfnooloemieaaGreatDoor
open Go.RowKit Pl
open Sx (sat_call sat_chk sat_prim sat_ite sat_true sat_false sat_trueP sat_falseP sat_ret sat_row sat_callP sat_loop sat_back sat_idx sat_el sat_elf sat_elc sat_load sat_rowN sat_app rows_one rows_two all_nil all_cons okB okS okI)

/-- A row of Dyads comes back, of the call's own making. -/
def CoRet (w0 w : World) (e : Ending) (r : List Dy) : Prop := ∃ (l : List Dy) (A : Option Addr) (c : Nat), e = .returned (.slice A l.length c) ∧ Hid (l = r) ∧ Sx.Rows Sx.kD (fun g => w0.heap.size ≤ g) w A l.length c l

def tr_bcorner : Sx.Tree := .call 16 [.one (.lf 0)] .one (.prim .not [.lf 2] (.ite (.lf 3) (.ret (.one .nil)) (.prim .len [.lf 0] (.loop 0 [.num .i64 0, .nil] (.prim (.bin .lss) [.lf 5, .lf 4] (.ite (.lf 7) (.prim (.idx 6) [.lf 0, .lf 5] (.load 49 (.lf 8) (.ag 6) (.chk [.lf 9, .lf 10, .lf 11, .lf 12, .lf 13, .lf 14] (.prim (.bin .lss) [.lf 5, .num .i64 62] (.ite (.lf 15) (.prim (.cvt .u64) [.lf 5] (.prim .shr [.lf 1, .lf 16] (.prim (.bin .and) [.lf 17, .num .i64 1] (.prim (.bin .eql) [.lf 18, .num .i64 1] (.ite (.lf 19) (.row 30 [.lf 12, .lf 13, .lf 14] 1 [] (.app 30 3 40 (.lf 6) (.lf 20) (.prim (.bin .add) [.lf 5, .num .i64 1] (.back 0 [.lf 22, .lf 21])))) (.row 30 [.lf 9, .lf 10, .lf 11] 1 [] (.app 30 3 40 (.lf 6) (.lf 20) (.prim (.bin .add) [.lf 5, .num .i64 1] (.back 0 [.lf 22, .lf 21]))))))))) (.row 30 [.lf 9, .lf 10, .lf 11] 1 [] (.app 30 3 40 (.lf 6) (.lf 16) (.prim (.bin .add) [.lf 5, .num .i64 1] (.back 0 [.lf 18, .lf 17]))))))))) (.ret (.one (.lf 6)))))))))
theorem tr_bcorner_eq : Sx.treeAt Tryz.prog 13 [] [] [(false, 1), (false, 1)] = some tr_bcorner := by kernel_rfl

theorem cornB_any (A_l : Option Addr) (c_l : Nat) (l : List Iv) (k : Int) (w : World) (h_l : Sx.Rows Sx.kI (fun _ => True) w A_l l.length c_l l) (hs : l.length ≤ 1000) :
    Calls Tryz.prog 13 #[.slice A_l l.length c_l, .int .i64 k] w fun e w' => CoRet w w' e (cornB k l) ∧ Below w.heap.size w w' := by
  have F_l := h_l.start
  have M_l := h_l.le
  clear h_l
  refine (Sx.runA [] [] (ls := [.slice A_l l.length c_l, .int .i64 k]) (shs := [(false, 1), (false, 1)]) (R := fun v w' => CoRet w w' (.returned v) (cornB k l)) tr_bcorner_eq rfl (by decide) (fun q h => by cases h) ?_).mono (fun e w' ⟨v, he, hv, hb⟩ => ⟨by rw [he]; exact hv, hb⟩)
  unfold tr_bcorner
  refine sat_call #[.slice A_l l.length c_l] (by kernel_rfl) fun w1 h1 => ?_
  refine (mayB_any _ _ l _ ((F_l.mv h1.mv).any)).mono ?_
  rintro e v1 ⟨rfl, hb1⟩
  refine ⟨hb1, [.bool (mayB l)], _, rfl, by kernel_rfl, by kernel_rfl, fun g1 => ?_⟩
  replace F_l := F_l.mv g1.mv
  clear h1 hb1
  refine sat_prim (v := .bool (!(mayB l))) (by kernel_rfl) ?_
  cases hT2 : (mayB l)
  · refine sat_true (by kernel_rfl) ?_
    exact sat_ret (.slice none 0 0) (by kernel_rfl) fun w9 h9 => ⟨[], none, 0, rfl, hide (corn_no hT2), Sx.Rows.nil _ _ _⟩
  · refine sat_false (by kernel_rfl) ?_
    refine sat_prim (v := .int .i64 ((l.length : Nat) : Int)) (by kernel_rfl) ?_
    refine sat_loop (fun Kn vs W => ∃ (i : Nat) (out : List Dy) (A_o : Option Addr) (c_o : Nat), vs = [.int .i64 ((i : Nat) : Int), .slice A_o out.length c_o] ∧ Kn = l.length - i ∧ i ≤ l.length ∧ (Sx.Gr Sx.kD w 30 W (.slice A_o out.length c_o) out) ∧ (cornB k l = cornA (hib k) i out (l.drop i)) ∧ (out.length = i)) [.int .i64 0, .slice none 0 0] (by kernel_rfl) (fun w1 h1 => ⟨_, 0, [], none, 0, rfl, rfl, Nat.zero_le _, Sx.Gr.nil (by decide) _ _ _, corn_yes hT2, rfl⟩) ?_
    rintro Kn vs w3 h3 ⟨i, out, A_o, c_o, rfl, rfl, h_i, G_o, hm, ho⟩
    replace F_l := F_l.mv h3.mv
    clear h3
    refine sat_prim (v := .bool (decide ((((i : Nat) : Int) : Int) < ((l.length : Nat) : Int)))) (by kernel_rfl) ?_
    cases hlt : (decide ((((i : Nat) : Int) : Int) < ((l.length : Nat) : Int)))
    · refine sat_false (by kernel_rfl) ?_
      exact sat_ret (.slice A_o out.length c_o) (by kernel_rfl) fun w9 h9 => ⟨out, _, _, rfl, hide (corn_end hm hlt), (G_o.le h9).done fun h => h⟩
    · refine sat_true (by kernel_rfl) ?_
      refine sat_idx (A := A_l) (c := c_l) (kk := .i64) (i) (by kernel_rfl) (by kernel_rfl) (lt_of hlt) F_l.addr fun g5 o5 e5 => ?_
      obtain ⟨x1, h_x1⟩ : ∃ x_, l[(i)]? = some x_ := ⟨_, List.getElem?_eq_getElem (lt_of hlt)⟩
      refine sat_el F_l e5 h_x1 rfl (by kernel_rfl) (by kernel_rfl) (by kernel_rfl) ?_
      rintro _ ⟨A_L2, n_L2, c_L2, B_L2, m_L2, k_L2, rfl, r_L2l, r_L2h⟩
      refine sat_chkB (by kernel_rfl) ?_
      refine sat_prim (v := .bool (decide ((((i : Nat) : Int) : Int) < 62))) (by kernel_rfl) ?_
      cases h62 : (decide ((((i : Nat) : Int) : Int) < 62))
      · refine sat_false (by kernel_rfl) ?_
        refine sat_rowN [.bool x1.lo.neg, .slice A_L2 n_L2 c_L2, .int .i64 x1.lo.e] (by kernel_rfl) (by intro x hx; cases hx) fun u1 h1 B1 NB1 => ?_
        replace F_l := F_l.mv h1.mv; replace G_o := G_o.le h1; replace r_L2l := h1.rdD r_L2l; replace r_L2h := h1.rdD r_L2h
        have F_R3 : Sx.Rows Sx.kD (Sx.NB _) _ (some ⟨u1.heap.size, 0, none⟩) 1 1 [x1.lo] := rows_one (k := Sx.kD) B1 NB1 ⟨_, _, _, rfl, r_L2l⟩
        generalize u1.heap.size = N_R3 at *
        generalize (u1.alloc _) = w_R3 at *
        clear B1 h1 NB1
        refine sat_app (.slice A_o out.length c_o) (.slice (some ⟨N_R3, 0, none⟩) 1 1) (by kernel_rfl) (by kernel_rfl) fun w7 h7 => ?_
        refine (G_o.le h7).app (l' := [x1.lo]) (F_R3.mv h7.mv) (by have := lt_of hlt; simp only [List.length_cons, List.length_nil, maxLen]; omega) (by have := lt_of hlt; simp only [List.length_cons, List.length_nil]; omega) fun A_G4 c_G4 v7 a7 G4 => ?_
        replace F_l := F_l.mv h7.mv; replace r_L2l := h7.rdD r_L2l; replace r_L2h := h7.rdD r_L2h; replace F_R3 := F_R3.mv h7.mv
        replace F_l := F_l.mv a7.toLf.mv; replace r_L2l := a7.toLf.rdD r_L2l; replace r_L2h := a7.toLf.rdD r_L2h; replace F_R3 := F_R3.mv a7.toLf.mv
        clear h7 a7 G_o
        refine sat_prim (v := .int .i64 (((i + 1 : Nat)) : Int)) (Eq.trans (b := some (.int .i64 (IntKind.i64.wrap ((((i) : Nat) : Int) + 1)))) (by kernel_rfl) (by rw [Sx.wrap_succ (n := l.length) (lt_of hlt) M_l])) ?_
        exact sat_back [.int .i64 (((i + 1 : Nat)) : Int), .slice A_G4 (out ++ [x1.lo]).length c_G4] (by kernel_rfl) fun w9 h9 => ⟨_, by have := lt_of hlt; omega, i + 1, (out ++ [x1.lo]), _, _, rfl, rfl, by have := lt_of hlt; omega, G4.le h9, corn_step hm h_x1 (hib_no h62), by simp [ho]⟩
      · refine sat_true (by kernel_rfl) ?_
        refine sat_prim (v := .int .u64 ((i : Nat) : Int)) (Eq.trans (by kernel_rfl) (pr_cvtn (n := i) (by have := lt_of hlt; omega))) ?_
        refine sat_prim (v := .int .i64 (k.fdiv (2 ^ i))) (Eq.trans (by kernel_rfl) (pr_shr (i := i) (by have := of_decide_eq_true h62; omega))) ?_
        refine sat_prim (v := .int .i64 (hibV k i)) (by kernel_rfl) ?_
        refine sat_prim (v := .bool (((hibV k i) : Int) == 1)) (by kernel_rfl) ?_
        cases hk : (((hibV k i) : Int) == 1)
        · refine sat_false (by kernel_rfl) ?_
          refine sat_rowN [.bool x1.lo.neg, .slice A_L2 n_L2 c_L2, .int .i64 x1.lo.e] (by kernel_rfl) (by intro x hx; cases hx) fun u1 h1 B1 NB1 => ?_
          replace F_l := F_l.mv h1.mv; replace G_o := G_o.le h1; replace r_L2l := h1.rdD r_L2l; replace r_L2h := h1.rdD r_L2h
          have F_R3 : Sx.Rows Sx.kD (Sx.NB _) _ (some ⟨u1.heap.size, 0, none⟩) 1 1 [x1.lo] := rows_one (k := Sx.kD) B1 NB1 ⟨_, _, _, rfl, r_L2l⟩
          generalize u1.heap.size = N_R3 at *
          generalize (u1.alloc _) = w_R3 at *
          clear B1 h1 NB1
          refine sat_app (.slice A_o out.length c_o) (.slice (some ⟨N_R3, 0, none⟩) 1 1) (by kernel_rfl) (by kernel_rfl) fun w8 h8 => ?_
          refine (G_o.le h8).app (l' := [x1.lo]) (F_R3.mv h8.mv) (by have := lt_of hlt; simp only [List.length_cons, List.length_nil, maxLen]; omega) (by have := lt_of hlt; simp only [List.length_cons, List.length_nil]; omega) fun A_G4 c_G4 v8 a8 G4 => ?_
          replace F_l := F_l.mv h8.mv; replace r_L2l := h8.rdD r_L2l; replace r_L2h := h8.rdD r_L2h; replace F_R3 := F_R3.mv h8.mv
          replace F_l := F_l.mv a8.toLf.mv; replace r_L2l := a8.toLf.rdD r_L2l; replace r_L2h := a8.toLf.rdD r_L2h; replace F_R3 := F_R3.mv a8.toLf.mv
          clear h8 a8 G_o
          refine sat_prim (v := .int .i64 (((i + 1 : Nat)) : Int)) (Eq.trans (b := some (.int .i64 (IntKind.i64.wrap ((((i) : Nat) : Int) + 1)))) (by kernel_rfl) (by rw [Sx.wrap_succ (n := l.length) (lt_of hlt) M_l])) ?_
          exact sat_back [.int .i64 (((i + 1 : Nat)) : Int), .slice A_G4 (out ++ [x1.lo]).length c_G4] (by kernel_rfl) fun w9 h9 => ⟨_, by have := lt_of hlt; omega, i + 1, (out ++ [x1.lo]), _, _, rfl, rfl, by have := lt_of hlt; omega, G4.le h9, corn_step hm h_x1 (hib_is h62 hk), by simp [ho]⟩
        · refine sat_true (by kernel_rfl) ?_
          refine sat_rowN [.bool x1.hi.neg, .slice B_L2 m_L2 k_L2, .int .i64 x1.hi.e] (by kernel_rfl) (by intro x hx; cases hx) fun u1 h1 B1 NB1 => ?_
          replace F_l := F_l.mv h1.mv; replace G_o := G_o.le h1; replace r_L2l := h1.rdD r_L2l; replace r_L2h := h1.rdD r_L2h
          have F_R3 : Sx.Rows Sx.kD (Sx.NB _) _ (some ⟨u1.heap.size, 0, none⟩) 1 1 [x1.hi] := rows_one (k := Sx.kD) B1 NB1 ⟨_, _, _, rfl, r_L2h⟩
          generalize u1.heap.size = N_R3 at *
          generalize (u1.alloc _) = w_R3 at *
          clear B1 h1 NB1
          refine sat_app (.slice A_o out.length c_o) (.slice (some ⟨N_R3, 0, none⟩) 1 1) (by kernel_rfl) (by kernel_rfl) fun w8 h8 => ?_
          refine (G_o.le h8).app (l' := [x1.hi]) (F_R3.mv h8.mv) (by have := lt_of hlt; simp only [List.length_cons, List.length_nil, maxLen]; omega) (by have := lt_of hlt; simp only [List.length_cons, List.length_nil]; omega) fun A_G4 c_G4 v8 a8 G4 => ?_
          replace F_l := F_l.mv h8.mv; replace r_L2l := h8.rdD r_L2l; replace r_L2h := h8.rdD r_L2h; replace F_R3 := F_R3.mv h8.mv
          replace F_l := F_l.mv a8.toLf.mv; replace r_L2l := a8.toLf.rdD r_L2l; replace r_L2h := a8.toLf.rdD r_L2h; replace F_R3 := F_R3.mv a8.toLf.mv
          clear h8 a8 G_o
          refine sat_prim (v := .int .i64 (((i + 1 : Nat)) : Int)) (Eq.trans (b := some (.int .i64 (IntKind.i64.wrap ((((i) : Nat) : Int) + 1)))) (by kernel_rfl) (by rw [Sx.wrap_succ (n := l.length) (lt_of hlt) M_l])) ?_
          exact sat_back [.int .i64 (((i + 1 : Nat)) : Int), .slice A_G4 (out ++ [x1.hi]).length c_G4] (by kernel_rfl) fun w9 h9 => ⟨_, by have := lt_of hlt; omega, i + 1, (out ++ [x1.hi]), _, _, rfl, rfl, by have := lt_of hlt; omega, G4.le h9, corn_step hm h_x1 (hib_is h62 hk), by simp [ho]⟩

def tr_bwidth : Sx.Tree := .call 16 [.one (.lf 0)] .one (.prim .not [.lf 1] (.ite (.lf 2) (.ret (.tup [(true, [.bit false, .nil, .num .i64 0]), (false, [.num .i64 1])])) (.prim .len [.lf 0] (.loop 0 [.num .i64 0, .num .i64 0, .bit false, .nil, .num .i64 0] (.prim (.bin .lss) [.lf 4, .lf 3] (.ite (.lf 9) (.prim (.idx 6) [.lf 0, .lf 4] (.load 49 (.lf 10) (.ag 6) (.chk [.lf 11, .lf 12, .lf 13, .lf 14, .lf 15, .lf 16] (.call 46 [.ag [.lf 11, .lf 12, .lf 13, .lf 14, .lf 15, .lf 16]] (.tup [(true, 3), (false, 1)]) (.chk [.lf 17, .lf 18, .lf 19] (.prim (.bin .neq) [.lf 20, .num .i64 0] (.ite (.lf 21) (.ret (.tup [(true, [.bit false, .nil, .num .i64 0]), (false, [.lf 20])])) (.call 47 [.ag [.lf 17, .lf 18, .lf 19], .ag [.lf 6, .lf 7, .lf 8]] .one (.prim (.bin .gtr) [.lf 22, .num .i64 0] (.ite (.lf 23) (.chk [.lf 17, .lf 18, .lf 19] (.prim (.bin .add) [.lf 4, .num .i64 1] (.back 0 [.lf 24, .lf 5, .lf 17, .lf 18, .lf 19]))) (.prim (.bin .add) [.lf 4, .num .i64 1] (.back 0 [.lf 24, .lf 5, .lf 6, .lf 7, .lf 8])))))))))))) (.chk [.lf 6, .lf 7, .lf 8] (.ret (.tup [(true, [.lf 6, .lf 7, .lf 8]), (false, [.num .i64 0])])))))))))
theorem tr_bwidth_eq : Sx.treeAt Tryz.prog 11 [] [1] [(false, 1)] = some tr_bwidth := by kernel_rfl

theorem widthB_any (A_l : Option Addr) (c_l : Nat) (l : List Iv) (w : World) (h_l : Sx.Rows Sx.kI (fun _ => True) w A_l l.length c_l l) (hT : TabAt w) :
    Calls Tryz.prog 11 #[.slice A_l l.length c_l] w fun e w' => DyTup w' e (widthB l) ∧ Below w.heap.size w w' := by
  have F_l := h_l.start
  have M_l := h_l.le
  clear h_l
  refine (Sx.runA [] [1] (ls := [.slice A_l l.length c_l]) (shs := [(false, 1)]) (R := fun v w' => DyTup w' (.returned v) (widthB l)) tr_bwidth_eq rfl (by decide) (fun q h => by cases h) ?_).mono (fun e w' ⟨v, he, hv, hb⟩ => ⟨by rw [he]; exact hv, hb⟩)
  unfold tr_bwidth
  refine sat_call #[.slice A_l l.length c_l] (by kernel_rfl) fun w1 h1 => ?_
  refine (mayB_any _ _ l _ ((F_l.mv h1.mv).any)).mono ?_
  rintro e v1 ⟨rfl, hb1⟩
  refine ⟨hb1, [.bool (mayB l)], _, rfl, by kernel_rfl, by kernel_rfl, fun g1 => ?_⟩
  replace F_l := F_l.mv g1.mv
  clear h1 hb1
  refine sat_prim (v := .bool (!(mayB l))) (by kernel_rfl) ?_
  cases hT2 : (mayB l)
  · refine sat_true (by kernel_rfl) ?_
    exact sat_ret (.tuple #[.agg #[.bool false, .slice none 0 0, .int .i64 0], .int .i64 1]) (by kernel_rfl) fun w9 h9 => ⟨Dy.zero, 1, none, 0, 0, hide (width_no hT2), rfl, RdD.zero _⟩
  · refine sat_false (by kernel_rfl) ?_
    refine sat_prim (v := .int .i64 ((l.length : Nat) : Int)) (by kernel_rfl) ?_
    refine sat_loop (fun Kn vs W => ∃ (i : Nat) (m : Dy) (A_m : Option Addr) (n_m : Nat) (c_m : Nat), vs = [.int .i64 ((i : Nat) : Int), .int .i64 0, .bool m.neg, .slice A_m n_m c_m, .int .i64 m.e] ∧ Kn = l.length - i ∧ i ≤ l.length ∧ (RdD W.toWorld (.agg #[.bool m.neg, .slice A_m n_m c_m, .int .i64 m.e]) m) ∧ (widthB l = widthA m (l.drop i))) [.int .i64 0, .int .i64 0, .bool false, .slice none 0 0, .int .i64 0] (by kernel_rfl) (fun w1 h1 => ⟨_, 0, Dy.zero, none, 0, 0, rfl, rfl, Nat.zero_le _, RdD.zero _, width_yes hT2⟩) ?_
    rintro Kn vs w3 h3 ⟨i, m, A_m, n_m, c_m, rfl, rfl, h_i, r_m, hm⟩
    replace F_l := F_l.mv h3.mv
    clear h3
    refine sat_prim (v := .bool (decide ((((i : Nat) : Int) : Int) < ((l.length : Nat) : Int)))) (by kernel_rfl) ?_
    cases hlt : (decide ((((i : Nat) : Int) : Int) < ((l.length : Nat) : Int)))
    · refine sat_false (by kernel_rfl) ?_
      refine sat_chkB (by kernel_rfl) ?_
      exact sat_ret (.tuple #[.agg #[.bool m.neg, .slice A_m n_m c_m, .int .i64 m.e], .int .i64 0]) (by kernel_rfl) fun w9 h9 => ⟨m, 0, A_m, n_m, c_m, hide (width_end hm hlt), rfl, h9.rdD r_m⟩
    · refine sat_true (by kernel_rfl) ?_
      refine sat_idx (A := A_l) (c := c_l) (kk := .i64) (i) (by kernel_rfl) (by kernel_rfl) (lt_of hlt) F_l.addr fun g5 o5 e5 => ?_
      obtain ⟨x1, h_x1⟩ : ∃ x_, l[(i)]? = some x_ := ⟨_, List.getElem?_eq_getElem (lt_of hlt)⟩
      refine sat_el F_l e5 h_x1 rfl (by kernel_rfl) (by kernel_rfl) (by kernel_rfl) ?_
      rintro _ ⟨A_L2, n_L2, c_L2, B_L2, m_L2, k_L2, rfl, r_L2l, r_L2h⟩
      refine sat_chkB (by kernel_rfl) ?_
      refine sat_call #[.agg #[.bool x1.lo.neg, .slice A_L2 n_L2 c_L2, .int .i64 x1.lo.e, .bool x1.hi.neg, .slice B_L2 m_L2 k_L2, .int .i64 x1.hi.e]] (by kernel_rfl) fun w6 h6 => ?_
      refine (widthI_any _ x1 _ (mkI (h6.rdD r_L2l) (h6.rdD r_L2h)) (h6.tab hT)).mono ?_
      rintro e v6 ⟨⟨d_w3, x_w3, A_w3, n_w3, c_w3, h_w3, rfl, r_w3⟩, hb6⟩
      refine ⟨hb6, [.bool d_w3.neg, .slice A_w3 n_w3 c_w3, .int .i64 d_w3.e, .int .i64 x_w3], _, rfl, by kernel_rfl, by kernel_rfl, fun g6 => ?_⟩
      replace F_l := F_l.mv g6.mv; replace r_m := g6.rdD r_m; replace r_L2l := g6.rdD r_L2l; replace r_L2h := g6.rdD r_L2h
      clear h6 hb6
      refine sat_chkB (by kernel_rfl) ?_
      refine sat_prim (v := .bool ((x_w3 : Int) != 0)) (by kernel_rfl) ?_
      cases hz : ((x_w3 : Int) != 0)
      · refine sat_false (by kernel_rfl) ?_
        refine sat_call #[.agg #[.bool d_w3.neg, .slice A_w3 n_w3 c_w3, .int .i64 d_w3.e], .agg #[.bool m.neg, .slice A_m n_m c_m, .int .i64 m.e]] (by kernel_rfl) fun w8 h8 => ?_
        refine (cmpD_any _ _ (d_w3) (m) _ (h8.rdD r_w3) (h8.rdD r_m)).mono ?_
        rintro e v8 ⟨rfl, hb8⟩
        refine ⟨hb8, [.int .i64 (cmpD d_w3 m)], _, rfl, by kernel_rfl, by kernel_rfl, fun g8 => ?_⟩
        replace F_l := F_l.mv g8.mv; replace r_m := g8.rdD r_m; replace r_L2l := g8.rdD r_L2l; replace r_L2h := g8.rdD r_L2h; replace r_w3 := g8.rdD r_w3
        clear h8 hb8
        refine sat_prim (v := .bool (decide ((0 : Int) < (cmpD d_w3 m)))) (by kernel_rfl) ?_
        cases hc : (decide ((0 : Int) < (cmpD d_w3 m)))
        · refine sat_false (by kernel_rfl) ?_
          refine sat_prim (v := .int .i64 (((i + 1 : Nat)) : Int)) (Eq.trans (b := some (.int .i64 (IntKind.i64.wrap ((((i) : Nat) : Int) + 1)))) (by kernel_rfl) (by rw [Sx.wrap_succ (n := l.length) (lt_of hlt) M_l])) ?_
          exact sat_back [.int .i64 (((i + 1 : Nat)) : Int), .int .i64 0, .bool m.neg, .slice A_m n_m c_m, .int .i64 m.e] (by kernel_rfl) fun w9 h9 => ⟨_, by have := lt_of hlt; omega, i + 1, m, _, _, _, rfl, rfl, by have := lt_of hlt; omega, h9.rdD r_m, width_step hm h_x1 h_w3 hz hc⟩
        · refine sat_true (by kernel_rfl) ?_
          refine sat_chkB (by kernel_rfl) ?_
          refine sat_prim (v := .int .i64 (((i + 1 : Nat)) : Int)) (Eq.trans (b := some (.int .i64 (IntKind.i64.wrap ((((i) : Nat) : Int) + 1)))) (by kernel_rfl) (by rw [Sx.wrap_succ (n := l.length) (lt_of hlt) M_l])) ?_
          exact sat_back [.int .i64 (((i + 1 : Nat)) : Int), .int .i64 0, .bool d_w3.neg, .slice A_w3 n_w3 c_w3, .int .i64 d_w3.e] (by kernel_rfl) fun w9 h9 => ⟨_, by have := lt_of hlt; omega, i + 1, d_w3, _, _, _, rfl, rfl, by have := lt_of hlt; omega, h9.rdD r_w3, width_step hm h_x1 h_w3 hz hc⟩
      · refine sat_true (by kernel_rfl) ?_
        exact sat_ret (.tuple #[.agg #[.bool false, .slice none 0 0, .int .i64 0], .int .i64 x_w3]) (by kernel_rfl) fun w9 h9 => ⟨Dy.zero, x_w3, none, 0, 0, hide (width_bad hm h_x1 h_w3 hz), rfl, RdD.zero _⟩

def tr_row8 : Sx.Tree := .prim .len [.lf 0] (.prim (.bin .gtr) [.lf 1, .num .i64 8] (.ite (.lf 2) (.ret (.one (.bit false))) (.loop 0 [.num .i64 0, .bit false] (.prim .len [.lf 0] (.prim (.bin .lss) [.lf 3, .lf 5] (.ite (.lf 6) (.prim (.idx 6) [.lf 0, .lf 3] (.prim (.fld 0) [.lf 7] (.prim (.fld 1) [.lf 8] (.load 28 (.lf 9) .one (.prim .len [.lf 10] (.prim (.bin .gtr) [.lf 11, .num .i64 6] (.ite (.lf 12) (.ret (.one (.bit false))) (.prim (.idx 6) [.lf 0, .lf 3] (.prim (.fld 3) [.lf 13] (.prim (.fld 1) [.lf 14] (.load 28 (.lf 15) .one (.prim .len [.lf 16] (.prim (.bin .gtr) [.lf 17, .num .i64 6] (.ite (.lf 18) (.ret (.one (.bit false))) (.prim (.bin .add) [.lf 3, .num .i64 1] (.back 0 [.lf 19, .lf 4])))))))))))))))) (.ret (.one (.bit true)))))))))
theorem tr_row8_eq : Sx.treeAt Tryz.prog 5 [] [] [(false, 1)] = some tr_row8 := by kernel_rfl

theorem row8_any (A_l : Option Addr) (c_l : Nat) (l : List Iv) (w : World) (h_l : Sx.Rows Sx.kI (fun _ => True) w A_l l.length c_l l) :
    Calls Tryz.prog 5 #[.slice A_l l.length c_l] w fun e w' => e = .returned (.bool (fewB l)) ∧ Below w.heap.size w w' := by
  have F_l := h_l.start
  have M_l := h_l.le
  clear h_l
  refine (Sx.runA [] [] (ls := [.slice A_l l.length c_l]) (shs := [(false, 1)]) (R := fun v _ => v = .bool (fewB l)) tr_row8_eq rfl (by decide) (fun q h => by cases h) ?_).mono (fun e w' ⟨v, he, hv, hb⟩ => ⟨by rw [he, hv], hb⟩)
  unfold tr_row8
  refine sat_prim (v := .int .i64 ((l.length : Nat) : Int)) (by kernel_rfl) ?_
  refine sat_prim (v := .bool (decide ((8 : Int) < ((l.length : Nat) : Int)))) (by kernel_rfl) ?_
  cases h8 : (decide ((8 : Int) < ((l.length : Nat) : Int)))
  · refine sat_false (by kernel_rfl) ?_
    refine sat_loop (fun Kn vs W => ∃ (i : Nat), vs = [.int .i64 ((i : Nat) : Int), .bool false] ∧ Kn = l.length - i ∧ i ≤ l.length ∧ (fewB l = (l.drop i).all few6)) [.int .i64 0, .bool false] (by kernel_rfl) (fun w1 h1 => ⟨_, 0, rfl, rfl, Nat.zero_le _, few_one h8⟩) ?_
    rintro Kn vs w2 h2 ⟨i, rfl, rfl, h_i, hm⟩
    replace F_l := F_l.mv h2.mv
    clear h2
    refine sat_prim (v := .int .i64 ((l.length : Nat) : Int)) (by kernel_rfl) ?_
    refine sat_prim (v := .bool (decide ((((i : Nat) : Int) : Int) < ((l.length : Nat) : Int)))) (by kernel_rfl) ?_
    cases hlt : (decide ((((i : Nat) : Int) : Int) < ((l.length : Nat) : Int)))
    · refine sat_false (by kernel_rfl) ?_
      exact sat_ret (.bool true) (by kernel_rfl) fun w9 h9 => congrArg Value.bool (few_end hm hlt)
    · refine sat_true (by kernel_rfl) ?_
      refine sat_idx (A := A_l) (c := c_l) (kk := .i64) (i) (by kernel_rfl) (by kernel_rfl) (lt_of hlt) F_l.addr fun g4 o4 e4 => ?_
      refine sat_prim (v := .pointer (some ⟨g4, o4 + (i) * 6 + 0, none⟩)) (by kernel_rfl) ?_
      refine sat_prim (v := .pointer (some ⟨g4, o4 + (i) * 6 + 1, none⟩)) (by kernel_rfl) ?_
      obtain ⟨x1, h_x1⟩ : ∃ x_, l[(i)]? = some x_ := ⟨_, List.getElem?_eq_getElem (lt_of hlt)⟩
      refine sat_elc (d := 1) F_l e4 h_x1 rfl (by kernel_rfl) (by kernel_rfl) ?_
      rintro _ ⟨A_L2, n_L2, c_L2, B_L2, m_L2, k_L2, rfl, r_L2l, r_L2h⟩
      obtain rfl := r_L2l.few
      refine ⟨_, rfl, ?_⟩
      clear r_L2l r_L2h
      refine sat_prim (v := .int .i64 ((x1.lo.m.length : Nat) : Int)) (by kernel_rfl) ?_
      refine sat_prim (v := .bool (decide ((6 : Int) < ((x1.lo.m.length : Nat) : Int)))) (by kernel_rfl) ?_
      cases hA : (decide ((6 : Int) < ((x1.lo.m.length : Nat) : Int)))
      · refine sat_false (by kernel_rfl) ?_
        refine sat_idx (A := A_l) (c := c_l) (kk := .i64) (i) (by kernel_rfl) (by kernel_rfl) (lt_of hlt) F_l.addr fun g6 o6 e6 => ?_
        refine sat_prim (v := .pointer (some ⟨g6, o6 + (i) * 6 + 3, none⟩)) (by kernel_rfl) ?_
        refine sat_prim (v := .pointer (some ⟨g6, o6 + (i) * 6 + 4, none⟩)) (by kernel_rfl) ?_
        refine sat_elc (d := 4) F_l e6 h_x1 rfl (by kernel_rfl) (by kernel_rfl) ?_
        rintro _ ⟨A_L3, n_L3, c_L3, B_L3, m_L3, k_L3, rfl, r_L3l, r_L3h⟩
        obtain rfl := r_L3h.few
        refine ⟨_, rfl, ?_⟩
        clear r_L3l r_L3h
        refine sat_prim (v := .int .i64 ((x1.hi.m.length : Nat) : Int)) (by kernel_rfl) ?_
        refine sat_prim (v := .bool (decide ((6 : Int) < ((x1.hi.m.length : Nat) : Int)))) (by kernel_rfl) ?_
        cases hB : (decide ((6 : Int) < ((x1.hi.m.length : Nat) : Int)))
        · refine sat_false (by kernel_rfl) ?_
          refine sat_prim (v := .int .i64 (((i + 1 : Nat)) : Int)) (Eq.trans (b := some (.int .i64 (IntKind.i64.wrap ((((i) : Nat) : Int) + 1)))) (by kernel_rfl) (by rw [Sx.wrap_succ (n := l.length) (lt_of hlt) M_l])) ?_
          exact sat_back [.int .i64 (((i + 1 : Nat)) : Int), .bool false] (by kernel_rfl) fun w9 h9 => ⟨_, by have := lt_of hlt; omega, i + 1, rfl, rfl, by have := lt_of hlt; omega, few_step hm h_x1 hA hB⟩
        · refine sat_true (by kernel_rfl) ?_
          exact sat_ret (.bool false) (by kernel_rfl) fun w9 h9 => congrArg Value.bool (few_no hm h_x1 (.inr hB))
      · refine sat_true (by kernel_rfl) ?_
        exact sat_ret (.bool false) (by kernel_rfl) fun w9 h9 => congrArg Value.bool (few_no hm h_x1 (.inl hA))
  · refine sat_true (by kernel_rfl) ?_
    exact sat_ret (.bool false) (by kernel_rfl) fun w9 h9 => congrArg Value.bool (few_long h8)

theorem zd_01 : ZD Dy.zero < ZD D1 := by
  unfold ZD D1 Dy.zero sgI
  simp only [val, Bool.false_eq_true, if_false, Nat.mul_zero, Nat.add_zero, Nat.zero_mul, Nat.one_mul]
  have := Nat.two_pow_pos ((0 : Int) + (SS : Int)).toNat
  generalize 2 ^ ((0 : Int) + (SS : Int)).toNat = P at *
  omega
theorem gD1 : GD D1 := ⟨by decide, lim_D1⟩
theorem gD0 : GD Dy.zero := ⟨by decide, Lim.nil⟩
theorem g01 : GI ⟨Dy.zero, D1⟩ := ⟨gD0, gD1⟩
theorem g11 : GI ⟨D1, D1⟩ := ⟨gD1, gD1⟩
theorem may01 : mayI ⟨Dy.zero, D1⟩ = true := g01.may.2 (Int.le_of_lt zd_01)
def B1 : List Iv := [⟨Dy.zero, D1⟩, ⟨D1, D1⟩]
theorem may_B1 : mayB B1 = true := by
  unfold mayB B1
  rw [List.all_cons, List.all_cons, mayI11, may01]
  rfl
theorem two_B1 : twoB B1 B1 = true := by
  unfold twoB
  rw [may_B1]
  rfl
theorem corn_told : cornB 1 B1 = [D1, D1] := by
  unfold cornB
  rw [may_B1]
  rfl
theorem hull_told {l : List Iv} {x : Int} (h : Hid ((l, x) = eachB hullI B1 [])) : l = [] ∧ x = 1 := by
  have := h.out
  unfold eachB at this
  rw [show twoB B1 [] = false from rfl] at this
  exact Prod.mk.inj this
theorem wid_01 : widthI ⟨Dy.zero, D1⟩ = (D1, 0) := by
  unfold widthI
  rw [may01]
  show twoS D1 Dy.zero (subS D1 Dy.zero) = _
  rw [twoS_of may_1 (by decide)]
  exact fit1 (neg := false) (e := 0) (n := 1) (k := 0) (x := 1) rfl rfl BB_gt1 (by decide) (by decide)
theorem wid_11 : widthI ⟨D1, D1⟩ = (Dy.zero, 0) := by
  unfold widthI
  rw [mayI11]
  show twoS D1 D1 (subS D1 D1) = _
  rw [twoS_of may_1 may_1]
  first | exact fitS_zero false 0 | exact fitS_zero true 0
theorem wid_told : widthB B1 = (D1, 0) := by
  unfold widthB
  rw [may_B1]
  show widthA Dy.zero [⟨Dy.zero, D1⟩, ⟨D1, D1⟩] = _
  have h1 : decide (0 < cmpD D1 Dy.zero) = true := decide_eq_true ((gD1.gt gD0).2 zd_01)
  have h2 : decide (0 < cmpD Dy.zero D1) = false := decide_eq_false fun h => by have := (gD0.gt gD1).1 h; have := zd_01; omega
  unfold widthA
  rw [wid_01]
  show widthA (bif decide (0 < cmpD D1 Dy.zero) then D1 else Dy.zero) [⟨D1, D1⟩] = _
  rw [h1]
  unfold widthA
  show (bif (widthI ⟨D1, D1⟩).2 != 0 then (Dy.zero, (widthI ⟨D1, D1⟩).2) else widthA (bif decide (0 < cmpD (widthI ⟨D1, D1⟩).1 D1) then (widthI ⟨D1, D1⟩).1 else D1) []) = _
  rw [wid_11]
  show widthA (bif decide (0 < cmpD Dy.zero D1) then Dy.zero else D1) [] = _
  rw [h2]
  rfl
theorem has_told : hasB B1 [D1, D1] = true := by
  unfold hasB
  rw [may_B1]
  show (true && (hasI ⟨Dy.zero, D1⟩ D1 && (hasI ⟨D1, D1⟩ D1 && true))) = true
  have h := zd_01
  rw [(g01.has gD1).2 ⟨by show ZD Dy.zero ≤ ZD D1; omega, by show ZD Dy.zero ≤ ZD D1; omega, Int.le_refl _⟩, (g11.has gD1).2 ⟨Int.le_refl _, Int.le_refl _, Int.le_refl _⟩]
  rfl
theorem within_told : withinB B1 B1 = true := by
  unfold withinB
  rw [two_B1]
  show (true && (withinI ⟨Dy.zero, D1⟩ ⟨Dy.zero, D1⟩ && (withinI ⟨D1, D1⟩ ⟨D1, D1⟩ && true))) = true
  have h := zd_01
  rw [(g01.within g01).2 ⟨Int.le_of_lt h, Int.le_of_lt h, Int.le_refl _, Int.le_refl _⟩, (g11.within g11).2 ⟨Int.le_refl _, Int.le_refl _, Int.le_refl _, Int.le_refl _⟩]
  rfl
theorem inside_told : insideB B1 B1 = false := by
  unfold insideB
  rw [two_B1]
  show (true && (insideI ⟨Dy.zero, D1⟩ ⟨Dy.zero, D1⟩ && (insideI ⟨D1, D1⟩ ⟨D1, D1⟩ && true))) = false
  rw [show insideI ⟨Dy.zero, D1⟩ ⟨Dy.zero, D1⟩ = false from bfalse fun h => by have := ((g01.inside g01).1 h).2.2.1; exact absurd this (Int.lt_irrefl _)]
  rfl

def tr_told11 : Sx.Tree := .row 50 [.num .u64 1] 1 [] (.chk [.lf 0] (.chk [.lf 0] (.chk [.lf 0] (.call 38 [.ag [.bit false, .lf 0, .num .i64 0]] (.ag 6) (.row 49 [.bit false, .nil, .num .i64 0, .bit false, .lf 0, .num .i64 0, .lf 1, .lf 2, .lf 3, .lf 4, .lf 5, .lf 6] 2 [] (.call 13 [.one (.lf 7), .one (.num .i64 1)] .one (.call 11 [.one (.lf 7)] (.tup [(true, 3), (false, 1)]) (.chk [.lf 9, .lf 10, .lf 11] (.call 7 [.one (.lf 7), .one .nil] (.tup [(false, 1), (false, 1)]) (.prim .len [.lf 8] (.prim (.bin .eql) [.lf 15, .num .i64 2] (.ite (.lf 16) (.prim (.idx 3) [.lf 8, .num .i64 0] (.load 30 (.lf 17) (.ag 3) (.call 39 [.ag [.lf 18, .lf 19, .lf 20], .ag [.bit false, .lf 0, .num .i64 0]] .one (.ite (.lf 21) (.prim (.idx 3) [.lf 8, .num .i64 1] (.load 30 (.lf 22) (.ag 3) (.call 39 [.ag [.lf 23, .lf 24, .lf 25], .ag [.bit false, .lf 0, .num .i64 0]] .one (.ite (.lf 26) (.prim (.bin .eql) [.lf 12, .num .i64 0] (.ite (.lf 27) (.call 39 [.ag [.lf 9, .lf 10, .lf 11], .ag [.bit false, .lf 0, .num .i64 0]] .one (.ite (.lf 28) (.prim (.bin .eql) [.lf 14, .num .i64 1] (.ite (.lf 29) (.call 16 [.one (.lf 7)] .one (.ite (.lf 30) (.call 23 [.one (.lf 7), .one (.lf 8)] .one (.ite (.lf 31) (.call 19 [.one (.lf 7), .one (.lf 7)] .one (.ite (.lf 32) (.call 21 [.one (.lf 7), .one (.lf 7)] .one (.prim .not [.lf 33] (.ite (.lf 34) (.call 21 [.one .nil, .one .nil] .one (.ret (.one (.lf 35)))) (.ret (.one (.bit false)))))) (.ret (.one (.bit false))))) (.ret (.one (.bit false))))) (.ret (.one (.bit false))))) (.ret (.one (.bit false))))) (.ret (.one (.bit false))))) (.ret (.one (.bit false))))) (.ret (.one (.bit false))))))) (.ret (.one (.bit false))))))) (.ret (.one (.bit false)))))))))))))))
theorem tr_told11_eq : Sx.treeAt Tryz.prog 6 [] [] [] = some tr_told11 := by kernel_rfl

set_option maxRecDepth 100000 in
theorem told11_any (w : World) (hT : TabAt w) :
    Calls Tryz.prog 6 #[] w fun e w' => e = .returned (.bool true) ∧ Below w.heap.size w w' := by
  have r_zz := RdD.zero w
  refine (Sx.runA [] [] (ls := []) (shs := []) (R := fun v w' => v = .bool true) tr_told11_eq rfl (by decide) (fun q h => by cases h) ?_).mono (fun e w' ⟨v, he, hv, hb⟩ => ⟨by rw [he, hv], hb⟩)
  unfold tr_told11
  refine sat_row [.int .u64 1] (by kernel_rfl) (by intro x hx; cases hx) fun u1 h1 B1 => ?_
  replace r_zz := h1.rdD r_zz
  have q_N1 := rdi1 (x := 1) B1.lt (B1.cell 0 rfl)
  generalize u1.heap.size = N1 at *
  generalize (u1.alloc _) = wN1 at *
  clear B1 h1
  refine sat_chkB (by kernel_rfl) ?_
  refine sat_chkB (by kernel_rfl) ?_
  refine sat_chkB (by kernel_rfl) ?_
  have r_yN1_0 : RdD _ (.agg #[.bool false, .slice (some ⟨N1, 0, none⟩) 1 1, .int .i64 (0)]) ⟨false, [1], 0⟩ := ⟨_, _, _, rfl, q_N1, Lim.cons (by unfold BB; omega) Lim.nil, by decide, by decide⟩
  refine sat_call #[.agg #[.bool false, .slice (some ⟨N1, 0, none⟩) 1 1, .int .i64 0]] (by kernel_rfl) fun w1 h1 => ?_
  refine (ofI_any _ ((⟨false, [1], 0⟩ : Dy)) _ (h1.rdD r_yN1_0)).mono ?_
  rintro e v1 ⟨⟨A_o2, n_o2, c_o2, rfl, r_o2⟩, hb1⟩
  refine ⟨hb1, [.bool (⟨false, [1], 0⟩ : Dy).neg, .slice A_o2 n_o2 c_o2, .int .i64 (⟨false, [1], 0⟩ : Dy).e, .bool (⟨false, [1], 0⟩ : Dy).neg, .slice A_o2 n_o2 c_o2, .int .i64 (⟨false, [1], 0⟩ : Dy).e], _, rfl, by kernel_rfl, by kernel_rfl, fun g1 => ?_⟩
  replace r_zz := g1.rdD r_zz; replace q_N1 := g1.rd (by decide) q_N1; replace r_yN1_0 := g1.rdD r_yN1_0
  clear h1 hb1
  refine sat_rowN [.bool false, .slice none 0 0, .int .i64 0, .bool false, .slice (some ⟨N1, 0, none⟩) 1 1, .int .i64 0, .bool (⟨false, [1], 0⟩ : Dy).neg, .slice A_o2 n_o2 c_o2, .int .i64 (⟨false, [1], 0⟩ : Dy).e, .bool (⟨false, [1], 0⟩ : Dy).neg, .slice A_o2 n_o2 c_o2, .int .i64 (⟨false, [1], 0⟩ : Dy).e] (by kernel_rfl) (by intro x hx; cases hx) fun u1 h1 B1 NB1 => ?_
  replace r_zz := h1.rdD r_zz; replace q_N1 := h1.rd (by decide) q_N1; replace r_yN1_0 := h1.rdD r_yN1_0; replace r_o2 := h1.rdD r_o2
  have F_R3 : Sx.Rows Sx.kI (Sx.NB _) _ (some ⟨u1.heap.size, 0, none⟩) 2 2 [(⟨Dy.zero, (⟨false, [1], 0⟩ : Dy)⟩ : Iv), (⟨(⟨false, [1], 0⟩ : Dy), (⟨false, [1], 0⟩ : Dy)⟩ : Iv)] := rows_two (k := Sx.kI) (cs := [.bool false, .slice none 0 0, .int .i64 0, .bool false, .slice (some ⟨N1, 0, none⟩) 1 1, .int .i64 0]) B1 NB1 ⟨_, _, _, _, _, _, rfl, RdD.zero _, r_yN1_0⟩ ⟨_, _, _, _, _, _, rfl, r_o2, r_o2⟩
  generalize u1.heap.size = N_R3 at *
  generalize (u1.alloc _) = w_R3 at *
  clear B1 h1 NB1
  refine sat_call #[.slice (some ⟨N_R3, 0, none⟩) 2 2, .int .i64 1] (by kernel_rfl) fun w2 h2 => ?_
  refine (cornB_any _ _ [(⟨Dy.zero, (⟨false, [1], 0⟩ : Dy)⟩ : Iv), (⟨(⟨false, [1], 0⟩ : Dy), (⟨false, [1], 0⟩ : Dy)⟩ : Iv)] 1 _ ((F_R3.mv h2.mv).any) (by decide)).mono ?_
  rintro e v2 ⟨⟨l_q, A_q, c_q, rfl, h_q, F_q⟩, hb2⟩
  obtain rfl : l_q = [(⟨false, [1], 0⟩ : Dy), (⟨false, [1], 0⟩ : Dy)] := h_q.out.trans corn_told
  refine ⟨hb2, [.slice A_q 2 c_q], _, rfl, by kernel_rfl, by kernel_rfl, fun g2 => ?_⟩
  replace r_zz := g2.rdD r_zz; replace q_N1 := g2.rd (by decide) q_N1; replace r_yN1_0 := g2.rdD r_yN1_0; replace r_o2 := g2.rdD r_o2; replace F_R3 := F_R3.mv g2.mv
  replace F_q := F_q.mv (Sx.Mv.fresh h2.wf)
  clear h2 hb2
  refine sat_call #[.slice (some ⟨N_R3, 0, none⟩) 2 2] (by kernel_rfl) fun w3 h3 => ?_
  refine (widthB_any _ _ [(⟨Dy.zero, (⟨false, [1], 0⟩ : Dy)⟩ : Iv), (⟨(⟨false, [1], 0⟩ : Dy), (⟨false, [1], 0⟩ : Dy)⟩ : Iv)] _ ((F_R3.mv h3.mv).any) (h3.tab hT)).mono ?_
  rintro e v3 ⟨⟨d_w4, x_w4, A_w4, n_w4, c_w4, h_w4, rfl, r_w4⟩, hb3⟩
  obtain ⟨rfl, rfl⟩ := dx2 h_w4 wid_told
  refine ⟨hb3, [.bool (⟨false, [1], 0⟩ : Dy).neg, .slice A_w4 n_w4 c_w4, .int .i64 (⟨false, [1], 0⟩ : Dy).e, .int .i64 0], _, rfl, by kernel_rfl, by kernel_rfl, fun g3 => ?_⟩
  replace r_zz := g3.rdD r_zz; replace q_N1 := g3.rd (by decide) q_N1; replace r_yN1_0 := g3.rdD r_yN1_0; replace r_o2 := g3.rdD r_o2; replace F_R3 := F_R3.mv g3.mv; replace F_q := F_q.mv g3.mv
  clear h3 hb3
  refine sat_chkB (by kernel_rfl) ?_
  refine sat_call #[.slice (some ⟨N_R3, 0, none⟩) 2 2, .slice none 0 0] (by kernel_rfl) fun w4 h4 => ?_
  refine (hullB_any _ _ _ _ [(⟨Dy.zero, (⟨false, [1], 0⟩ : Dy)⟩ : Iv), (⟨(⟨false, [1], 0⟩ : Dy), (⟨false, [1], 0⟩ : Dy)⟩ : Iv)] [] _ ((F_R3.mv h4.mv).any) (Sx.Rows.nil _ _ _) (by decide)).mono ?_
  rintro e v4 ⟨⟨l_b, x_b, A_b, c_b, rfl, h_b, F_b⟩, hb4⟩
  obtain ⟨rfl, rfl⟩ := hull_told h_b
  refine ⟨hb4, [.slice A_b 0 c_b, .int .i64 1], _, rfl, by kernel_rfl, by kernel_rfl, fun g4 => ?_⟩
  replace r_zz := g4.rdD r_zz; replace q_N1 := g4.rd (by decide) q_N1; replace r_yN1_0 := g4.rdD r_yN1_0; replace r_o2 := g4.rdD r_o2; replace F_R3 := F_R3.mv g4.mv; replace F_q := F_q.mv g4.mv; replace r_w4 := g4.rdD r_w4
  clear h4 hb4
  refine sat_prim (v := .int .i64 2) (by kernel_rfl) ?_
  refine sat_prim (v := .bool true) (by kernel_rfl) ?_
  refine sat_true (by kernel_rfl) ?_
  refine sat_idx (A := A_q) (c := c_q) (kk := .i64) 0 (by kernel_rfl) (by kernel_rfl) (by decide) F_q.addr fun g5 o5 e5 => ?_
  have h_x5 : [(⟨false, [1], 0⟩ : Dy), (⟨false, [1], 0⟩ : Dy)][0]? = some (⟨false, [1], 0⟩ : Dy) := rfl
  refine sat_el F_q e5 h_x5 rfl (by kernel_rfl) (by kernel_rfl) (by kernel_rfl) ?_
  rintro _ ⟨A_L6, n_L6, c_L6, rfl, r_L6⟩
  refine sat_call #[.agg #[.bool (⟨false, [1], 0⟩ : Dy).neg, .slice A_L6 n_L6 c_L6, .int .i64 (⟨false, [1], 0⟩ : Dy).e], .agg #[.bool false, .slice (some ⟨N1, 0, none⟩) 1 1, .int .i64 0]] (by kernel_rfl) fun w6 h6 => ?_
  refine (sameD_any _ _ ((⟨false, [1], 0⟩ : Dy)) ((⟨false, [1], 0⟩ : Dy)) _ (h6.rdD r_L6) (h6.rdD r_yN1_0)).mono ?_
  rintro e v6 ⟨rfl, hb6⟩
  refine ⟨hb6, [.bool (sameD (⟨false, [1], 0⟩ : Dy) (⟨false, [1], 0⟩ : Dy))], _, rfl, by kernel_rfl, by kernel_rfl, fun g6 => ?_⟩
  replace r_zz := g6.rdD r_zz; replace q_N1 := g6.rd (by decide) q_N1; replace r_yN1_0 := g6.rdD r_yN1_0; replace r_o2 := g6.rdD r_o2; replace F_R3 := F_R3.mv g6.mv; replace F_q := F_q.mv g6.mv; replace r_w4 := g6.rdD r_w4; replace r_L6 := g6.rdD r_L6
  clear h6 hb6
  refine sat_trueP (b := (sameD (⟨false, [1], 0⟩ : Dy) (⟨false, [1], 0⟩ : Dy))) (by kernel_rfl) (sameD_self _) ?_
  refine sat_idx (A := A_q) (c := c_q) (kk := .i64) 1 (by kernel_rfl) (by kernel_rfl) (by decide) F_q.addr fun g7 o7 e7 => ?_
  have h_x7 : [(⟨false, [1], 0⟩ : Dy), (⟨false, [1], 0⟩ : Dy)][1]? = some (⟨false, [1], 0⟩ : Dy) := rfl
  refine sat_el F_q e7 h_x7 rfl (by kernel_rfl) (by kernel_rfl) (by kernel_rfl) ?_
  rintro _ ⟨A_L8, n_L8, c_L8, rfl, r_L8⟩
  refine sat_call #[.agg #[.bool (⟨false, [1], 0⟩ : Dy).neg, .slice A_L8 n_L8 c_L8, .int .i64 (⟨false, [1], 0⟩ : Dy).e], .agg #[.bool false, .slice (some ⟨N1, 0, none⟩) 1 1, .int .i64 0]] (by kernel_rfl) fun w8 h8 => ?_
  refine (sameD_any _ _ ((⟨false, [1], 0⟩ : Dy)) ((⟨false, [1], 0⟩ : Dy)) _ (h8.rdD r_L8) (h8.rdD r_yN1_0)).mono ?_
  rintro e v8 ⟨rfl, hb8⟩
  refine ⟨hb8, [.bool (sameD (⟨false, [1], 0⟩ : Dy) (⟨false, [1], 0⟩ : Dy))], _, rfl, by kernel_rfl, by kernel_rfl, fun g8 => ?_⟩
  replace r_zz := g8.rdD r_zz; replace q_N1 := g8.rd (by decide) q_N1; replace r_yN1_0 := g8.rdD r_yN1_0; replace r_o2 := g8.rdD r_o2; replace F_R3 := F_R3.mv g8.mv; replace F_q := F_q.mv g8.mv; replace r_w4 := g8.rdD r_w4; replace r_L6 := g8.rdD r_L6; replace r_L8 := g8.rdD r_L8
  clear h8 hb8
  refine sat_trueP (b := (sameD (⟨false, [1], 0⟩ : Dy) (⟨false, [1], 0⟩ : Dy))) (by kernel_rfl) (sameD_self _) ?_
  refine sat_prim (v := .bool true) (by kernel_rfl) ?_
  refine sat_true (by kernel_rfl) ?_
  refine sat_call #[.agg #[.bool (⟨false, [1], 0⟩ : Dy).neg, .slice A_w4 n_w4 c_w4, .int .i64 (⟨false, [1], 0⟩ : Dy).e], .agg #[.bool false, .slice (some ⟨N1, 0, none⟩) 1 1, .int .i64 0]] (by kernel_rfl) fun w9 h9 => ?_
  refine (sameD_any _ _ ((⟨false, [1], 0⟩ : Dy)) ((⟨false, [1], 0⟩ : Dy)) _ (h9.rdD r_w4) (h9.rdD r_yN1_0)).mono ?_
  rintro e v9 ⟨rfl, hb9⟩
  refine ⟨hb9, [.bool (sameD (⟨false, [1], 0⟩ : Dy) (⟨false, [1], 0⟩ : Dy))], _, rfl, by kernel_rfl, by kernel_rfl, fun g9 => ?_⟩
  replace r_zz := g9.rdD r_zz; replace q_N1 := g9.rd (by decide) q_N1; replace r_yN1_0 := g9.rdD r_yN1_0; replace r_o2 := g9.rdD r_o2; replace F_R3 := F_R3.mv g9.mv; replace F_q := F_q.mv g9.mv; replace r_w4 := g9.rdD r_w4; replace r_L6 := g9.rdD r_L6; replace r_L8 := g9.rdD r_L8
  clear h9 hb9
  refine sat_trueP (b := (sameD (⟨false, [1], 0⟩ : Dy) (⟨false, [1], 0⟩ : Dy))) (by kernel_rfl) (sameD_self _) ?_
  refine sat_prim (v := .bool true) (by kernel_rfl) ?_
  refine sat_true (by kernel_rfl) ?_
  refine sat_call #[.slice (some ⟨N_R3, 0, none⟩) 2 2] (by kernel_rfl) fun w10 h10 => ?_
  refine (mayB_any _ _ [(⟨Dy.zero, (⟨false, [1], 0⟩ : Dy)⟩ : Iv), (⟨(⟨false, [1], 0⟩ : Dy), (⟨false, [1], 0⟩ : Dy)⟩ : Iv)] _ ((F_R3.mv h10.mv).any)).mono ?_
  rintro e v10 ⟨rfl, hb10⟩
  refine ⟨hb10, [.bool (mayB [(⟨Dy.zero, (⟨false, [1], 0⟩ : Dy)⟩ : Iv), (⟨(⟨false, [1], 0⟩ : Dy), (⟨false, [1], 0⟩ : Dy)⟩ : Iv)])], _, rfl, by kernel_rfl, by kernel_rfl, fun g10 => ?_⟩
  replace r_zz := g10.rdD r_zz; replace q_N1 := g10.rd (by decide) q_N1; replace r_yN1_0 := g10.rdD r_yN1_0; replace r_o2 := g10.rdD r_o2; replace F_R3 := F_R3.mv g10.mv; replace F_q := F_q.mv g10.mv; replace r_w4 := g10.rdD r_w4; replace r_L6 := g10.rdD r_L6; replace r_L8 := g10.rdD r_L8
  clear h10 hb10
  refine sat_trueP (b := (mayB [(⟨Dy.zero, (⟨false, [1], 0⟩ : Dy)⟩ : Iv), (⟨(⟨false, [1], 0⟩ : Dy), (⟨false, [1], 0⟩ : Dy)⟩ : Iv)])) (by kernel_rfl) (may_B1) ?_
  refine sat_call #[.slice (some ⟨N_R3, 0, none⟩) 2 2, .slice A_q 2 c_q] (by kernel_rfl) fun w11 h11 => ?_
  refine (hasB_any _ _ _ _ [(⟨Dy.zero, (⟨false, [1], 0⟩ : Dy)⟩ : Iv), (⟨(⟨false, [1], 0⟩ : Dy), (⟨false, [1], 0⟩ : Dy)⟩ : Iv)] [(⟨false, [1], 0⟩ : Dy), (⟨false, [1], 0⟩ : Dy)] _ ((F_R3.mv h11.mv).any) ((F_q.mv h11.mv).any)).mono ?_
  rintro e v11 ⟨rfl, hb11⟩
  refine ⟨hb11, [.bool (hasB [(⟨Dy.zero, (⟨false, [1], 0⟩ : Dy)⟩ : Iv), (⟨(⟨false, [1], 0⟩ : Dy), (⟨false, [1], 0⟩ : Dy)⟩ : Iv)] [(⟨false, [1], 0⟩ : Dy), (⟨false, [1], 0⟩ : Dy)])], _, rfl, by kernel_rfl, by kernel_rfl, fun g11 => ?_⟩
  replace r_zz := g11.rdD r_zz; replace q_N1 := g11.rd (by decide) q_N1; replace r_yN1_0 := g11.rdD r_yN1_0; replace r_o2 := g11.rdD r_o2; replace F_R3 := F_R3.mv g11.mv; replace F_q := F_q.mv g11.mv; replace r_w4 := g11.rdD r_w4; replace r_L6 := g11.rdD r_L6; replace r_L8 := g11.rdD r_L8
  clear h11 hb11
  refine sat_trueP (b := (hasB [(⟨Dy.zero, (⟨false, [1], 0⟩ : Dy)⟩ : Iv), (⟨(⟨false, [1], 0⟩ : Dy), (⟨false, [1], 0⟩ : Dy)⟩ : Iv)] [(⟨false, [1], 0⟩ : Dy), (⟨false, [1], 0⟩ : Dy)])) (by kernel_rfl) (has_told) ?_
  refine sat_call #[.slice (some ⟨N_R3, 0, none⟩) 2 2, .slice (some ⟨N_R3, 0, none⟩) 2 2] (by kernel_rfl) fun w12 h12 => ?_
  refine (withinB_any _ _ _ _ [(⟨Dy.zero, (⟨false, [1], 0⟩ : Dy)⟩ : Iv), (⟨(⟨false, [1], 0⟩ : Dy), (⟨false, [1], 0⟩ : Dy)⟩ : Iv)] [(⟨Dy.zero, (⟨false, [1], 0⟩ : Dy)⟩ : Iv), (⟨(⟨false, [1], 0⟩ : Dy), (⟨false, [1], 0⟩ : Dy)⟩ : Iv)] _ ((F_R3.mv h12.mv).any) ((F_R3.mv h12.mv).any)).mono ?_
  rintro e v12 ⟨rfl, hb12⟩
  refine ⟨hb12, [.bool (withinB [(⟨Dy.zero, (⟨false, [1], 0⟩ : Dy)⟩ : Iv), (⟨(⟨false, [1], 0⟩ : Dy), (⟨false, [1], 0⟩ : Dy)⟩ : Iv)] [(⟨Dy.zero, (⟨false, [1], 0⟩ : Dy)⟩ : Iv), (⟨(⟨false, [1], 0⟩ : Dy), (⟨false, [1], 0⟩ : Dy)⟩ : Iv)])], _, rfl, by kernel_rfl, by kernel_rfl, fun g12 => ?_⟩
  replace r_zz := g12.rdD r_zz; replace q_N1 := g12.rd (by decide) q_N1; replace r_yN1_0 := g12.rdD r_yN1_0; replace r_o2 := g12.rdD r_o2; replace F_R3 := F_R3.mv g12.mv; replace F_q := F_q.mv g12.mv; replace r_w4 := g12.rdD r_w4; replace r_L6 := g12.rdD r_L6; replace r_L8 := g12.rdD r_L8
  clear h12 hb12
  refine sat_trueP (b := (withinB [(⟨Dy.zero, (⟨false, [1], 0⟩ : Dy)⟩ : Iv), (⟨(⟨false, [1], 0⟩ : Dy), (⟨false, [1], 0⟩ : Dy)⟩ : Iv)] [(⟨Dy.zero, (⟨false, [1], 0⟩ : Dy)⟩ : Iv), (⟨(⟨false, [1], 0⟩ : Dy), (⟨false, [1], 0⟩ : Dy)⟩ : Iv)])) (by kernel_rfl) (within_told) ?_
  refine sat_call #[.slice (some ⟨N_R3, 0, none⟩) 2 2, .slice (some ⟨N_R3, 0, none⟩) 2 2] (by kernel_rfl) fun w13 h13 => ?_
  refine (insideB_any _ _ _ _ [(⟨Dy.zero, (⟨false, [1], 0⟩ : Dy)⟩ : Iv), (⟨(⟨false, [1], 0⟩ : Dy), (⟨false, [1], 0⟩ : Dy)⟩ : Iv)] [(⟨Dy.zero, (⟨false, [1], 0⟩ : Dy)⟩ : Iv), (⟨(⟨false, [1], 0⟩ : Dy), (⟨false, [1], 0⟩ : Dy)⟩ : Iv)] _ ((F_R3.mv h13.mv).any) ((F_R3.mv h13.mv).any)).mono ?_
  rintro e v13 ⟨rfl, hb13⟩
  refine ⟨hb13, [.bool (insideB [(⟨Dy.zero, (⟨false, [1], 0⟩ : Dy)⟩ : Iv), (⟨(⟨false, [1], 0⟩ : Dy), (⟨false, [1], 0⟩ : Dy)⟩ : Iv)] [(⟨Dy.zero, (⟨false, [1], 0⟩ : Dy)⟩ : Iv), (⟨(⟨false, [1], 0⟩ : Dy), (⟨false, [1], 0⟩ : Dy)⟩ : Iv)])], _, rfl, by kernel_rfl, by kernel_rfl, fun g13 => ?_⟩
  replace r_zz := g13.rdD r_zz; replace q_N1 := g13.rd (by decide) q_N1; replace r_yN1_0 := g13.rdD r_yN1_0; replace r_o2 := g13.rdD r_o2; replace F_R3 := F_R3.mv g13.mv; replace F_q := F_q.mv g13.mv; replace r_w4 := g13.rdD r_w4; replace r_L6 := g13.rdD r_L6; replace r_L8 := g13.rdD r_L8
  clear h13 hb13
  refine sat_prim (v := .bool (!(insideB [(⟨Dy.zero, (⟨false, [1], 0⟩ : Dy)⟩ : Iv), (⟨(⟨false, [1], 0⟩ : Dy), (⟨false, [1], 0⟩ : Dy)⟩ : Iv)] [(⟨Dy.zero, (⟨false, [1], 0⟩ : Dy)⟩ : Iv), (⟨(⟨false, [1], 0⟩ : Dy), (⟨false, [1], 0⟩ : Dy)⟩ : Iv)]))) (by kernel_rfl) ?_
  refine sat_trueP (b := (!(insideB [(⟨Dy.zero, (⟨false, [1], 0⟩ : Dy)⟩ : Iv), (⟨(⟨false, [1], 0⟩ : Dy), (⟨false, [1], 0⟩ : Dy)⟩ : Iv)] [(⟨Dy.zero, (⟨false, [1], 0⟩ : Dy)⟩ : Iv), (⟨(⟨false, [1], 0⟩ : Dy), (⟨false, [1], 0⟩ : Dy)⟩ : Iv)]))) (by kernel_rfl) (by rw [show (insideB [(⟨Dy.zero, (⟨false, [1], 0⟩ : Dy)⟩ : Iv), (⟨(⟨false, [1], 0⟩ : Dy), (⟨false, [1], 0⟩ : Dy)⟩ : Iv)] [(⟨Dy.zero, (⟨false, [1], 0⟩ : Dy)⟩ : Iv), (⟨(⟨false, [1], 0⟩ : Dy), (⟨false, [1], 0⟩ : Dy)⟩ : Iv)]) = false from inside_told]; rfl) ?_
  refine sat_call #[.slice none 0 0, .slice none 0 0] (by kernel_rfl) fun w14 h14 => ?_
  refine (insideB_any _ _ _ _ [] [] _ (Sx.Rows.nil _ _ _) (Sx.Rows.nil _ _ _)).mono ?_
  rintro e v14 ⟨rfl, hb14⟩
  refine ⟨hb14, [.bool (insideB [] [])], _, rfl, by kernel_rfl, by kernel_rfl, fun g14 => ?_⟩
  replace r_zz := g14.rdD r_zz; replace q_N1 := g14.rd (by decide) q_N1; replace r_yN1_0 := g14.rdD r_yN1_0; replace r_o2 := g14.rdD r_o2; replace F_R3 := F_R3.mv g14.mv; replace F_q := F_q.mv g14.mv; replace r_w4 := g14.rdD r_w4; replace r_L6 := g14.rdD r_L6; replace r_L8 := g14.rdD r_L8
  clear h14 hb14
  exact sat_ret (.bool (insideB [] [])) (by kernel_rfl) fun w9 h9 => congrArg Value.bool (rfl)

end Go.Proofs.YtbpfnooloemieaaGreatDoor
