/- sluicewayref11's tubes, by their trees. Printed by wip/mk_TbR.py. -/
import Derived.Test.YtpkfjfpknbhekaaTbAx
import Derived.Test.YtpkfjfpknbhekaaBxCx
namespace Go.Proofs.Ytpkfjfpknbhekaa
open Go.RowKit Pl
open Sx (sat_call sat_chk sat_prim sat_ite sat_true sat_false sat_trueP sat_falseP sat_ret sat_row sat_callP sat_loop sat_back sat_idx sat_el sat_elf sat_elc sat_load sat_rowN sat_app sat_callB sat_alt rows_one rows_two all_nil all_cons okB okS okI)

def tr_r11mayT : Sx.Tree := .chk [.lf 0, .lf 1] (.prim .len [.lf 1] (.prim (.bin .lss) [.lf 2, .num .i64 1] (.ite (.lf 3) (.ret (.one (.bit false))) (.prim .len [.lf 1] (.prim (.bin .gtr) [.lf 4, .num .i64 256] (.ite (.lf 5) (.ret (.one (.bit false))) (.prim .len [.lf 0] (.prim .len [.lf 1] (.prim (.bin .add) [.lf 7, .num .i64 1] (.prim (.bin .neq) [.lf 6, .lf 8] (.ite (.lf 9) (.ret (.one (.bit false))) (.call 20 [.one (.lf 1)] .one (.prim .not [.lf 10] (.ite (.lf 11) (.ret (.one (.bit false))) (.loop 0 [.num .i64 0, .bit false] (.prim .len [.lf 0] (.prim (.bin .lss) [.lf 12, .lf 14] (.ite (.lf 15) (.prim (.idx 3) [.lf 0, .lf 12] (.load 24 (.lf 16) (.ag 3) (.call 19 [.ag [.lf 17, .lf 18, .lf 19]] .one (.prim .not [.lf 20] (.ite (.lf 21) (.ret (.one (.bit false))) (.prim (.bin .gtr) [.lf 12, .num .i64 0] (.ite (.lf 22) (.prim (.bin .sub) [.lf 12, .num .i64 1] (.prim (.idx 3) [.lf 0, .lf 23] (.load 24 (.lf 24) (.ag 3) (.prim (.idx 3) [.lf 0, .lf 12] (.load 24 (.lf 28) (.ag 3) (.call 75 [.ag [.lf 25, .lf 26, .lf 27], .ag [.lf 29, .lf 30, .lf 31]] .one (.prim .not [.lf 32] (.ite (.lf 33) (.ret (.one (.bit false))) (.prim (.bin .add) [.lf 12, .num .i64 1] (.back 0 [.lf 34, .lf 13])))))))))) (.prim (.bin .add) [.lf 12, .num .i64 1] (.back 0 [.lf 23, .lf 13]))))))))) (.ret (.one (.bit true)))))))))))))))))))))
theorem tr_r11mayT_eq : Sx.treeAt Try.prog 21 [] [] [(true, 2)] = some tr_r11mayT := by kernel_rfl

theorem rmayT_any (A_t : Option Addr) (c_t : Nat) (B_t : Option Addr) (d_t : Nat) (t : Tb) (w : World) (h_t1 : Sx.Rows Sx.kD (fun _ => True) w A_t t.at_.length c_t t.at_) (h_t2 : Sx.Rows Sx.kI (fun _ => True) w B_t t.v.length d_t t.v) :
    Calls Try.prog 21 #[.agg #[.slice A_t t.at_.length c_t, .slice B_t t.v.length d_t]] w fun e w' => e = .returned (.bool (mayT t)) ∧ Below w.heap.size w w' := by
  have F_t1 := h_t1.start
  have M_t1 := h_t1.le
  clear h_t1
  have F_t2 := h_t2.start
  have M_t2 := h_t2.le
  clear h_t2
  refine (Sx.runA [] [] (ls := [.slice A_t t.at_.length c_t, .slice B_t t.v.length d_t]) (shs := [(true, 2)]) (R := fun v _ => v = .bool (mayT t)) tr_r11mayT_eq rfl (by decide) (fun q h => by cases h) ?_).mono (fun e w' ⟨v, he, hv, hb⟩ => ⟨by rw [he, hv], hb⟩)
  unfold tr_r11mayT
  refine sat_chkB (by kernel_rfl) ?_
  refine sat_prim (v := .int .i64 ((t.v.length : Nat) : Int)) (by kernel_rfl) ?_
  refine sat_prim (v := .bool (decide ((((t.v.length : Nat) : Int) : Int) < 1))) (by kernel_rfl) ?_
  cases h1 : (decide ((((t.v.length : Nat) : Int) : Int) < 1))
  · refine sat_false (by kernel_rfl) ?_
    refine sat_prim (v := .int .i64 ((t.v.length : Nat) : Int)) (by kernel_rfl) ?_
    refine sat_prim (v := .bool (decide ((256 : Int) < ((t.v.length : Nat) : Int)))) (by kernel_rfl) ?_
    cases h2 : (decide ((256 : Int) < ((t.v.length : Nat) : Int)))
    · refine sat_false (by kernel_rfl) ?_
      refine sat_prim (v := .int .i64 ((t.at_.length : Nat) : Int)) (by kernel_rfl) ?_
      refine sat_prim (v := .int .i64 ((t.v.length : Nat) : Int)) (by kernel_rfl) ?_
      refine sat_prim (v := .int .i64 ((t.v.length + 1 : Nat) : Int)) (Eq.trans (b := some (.int .i64 (IntKind.i64.wrap (((t.v.length : Nat) : Int) + 1)))) (by kernel_rfl) (sml (by have := of_decide_eq_false h2; omega) (by have := of_decide_eq_false h2; omega))) ?_
      refine sat_prim (v := .bool ((((t.at_.length : Nat) : Int) : Int) != ((t.v.length + 1 : Nat) : Int))) (by kernel_rfl) ?_
      cases h3 : ((((t.at_.length : Nat) : Int) : Int) != ((t.v.length + 1 : Nat) : Int))
      · refine sat_false (by kernel_rfl) ?_
        refine sat_call #[.slice B_t t.v.length d_t] (by kernel_rfl) fun w4 h4 => ?_
        refine (rmayB_any _ _ t.v _ ((F_t2.mv h4.mv).any)).mono ?_
        rintro e v4 ⟨rfl, hb4⟩
        refine ⟨hb4, [.bool (mayB t.v)], _, rfl, by kernel_rfl, by kernel_rfl, fun g4 => ?_⟩
        replace F_t1 := F_t1.mv g4.mv; replace F_t2 := F_t2.mv g4.mv
        clear h4 hb4
        refine sat_prim (v := .bool (!(mayB t.v))) (by kernel_rfl) ?_
        cases hB : (mayB t.v)
        · refine sat_true (by kernel_rfl) ?_
          exact sat_ret (.bool false) (by kernel_rfl) fun w9 h9 => congrArg Value.bool (by rw [may_ok h1 h2 h3, hB, Bool.and_false])
        · refine sat_false (by kernel_rfl) ?_
          have hm0 := may_ok h1 h2 h3
          rw [hB, Bool.and_true] at hm0
          refine sat_loop (fun Kn vs W => ∃ (i : Nat), vs = [.int .i64 ((i : Nat) : Int), .bool false] ∧ Kn = t.at_.length - i ∧ i ≤ t.at_.length ∧ (mayT t = (allT t.at_ i && true))) [.int .i64 0, .bool false] (by kernel_rfl) (fun w1 h1 => ⟨_, 0, rfl, rfl, Nat.zero_le _, (by rw [Bool.and_true]; exact hm0)⟩) ?_
          rintro Kn vs w6 h6 ⟨i, rfl, rfl, h_i, hm⟩
          replace F_t1 := F_t1.mv h6.mv; replace F_t2 := F_t2.mv h6.mv
          clear h6
          refine sat_prim (v := .int .i64 ((t.at_.length : Nat) : Int)) (by kernel_rfl) ?_
          refine sat_prim (v := .bool (decide ((((i : Nat) : Int) : Int) < ((t.at_.length : Nat) : Int)))) (by kernel_rfl) ?_
          cases hlt : (decide ((((i : Nat) : Int) : Int) < ((t.at_.length : Nat) : Int)))
          · refine sat_false (by kernel_rfl) ?_
            exact sat_ret (.bool true) (by kernel_rfl) fun w9 h9 => congrArg Value.bool (by rw [hm, allT_end hlt]; rfl)
          · refine sat_true (by kernel_rfl) ?_
            refine sat_idx (A := A_t) (c := c_t) (kk := .i64) (i) (by kernel_rfl) (by kernel_rfl) (by have := lt_of hlt; omega) F_t1.addr fun g8 o8 e8 => ?_
            obtain ⟨x1, h_x1⟩ : ∃ x_, t.at_[(i)]? = some x_ := ⟨_, List.getElem?_eq_getElem (by have := lt_of hlt; omega)⟩
            refine sat_el F_t1 e8 h_x1 rfl (by kernel_rfl) (by kernel_rfl) (by kernel_rfl) ?_
            rintro _ ⟨A_L2, n_L2, c_L2, rfl, r_L2⟩
            refine sat_call #[.agg #[.bool x1.neg, .slice A_L2 n_L2 c_L2, .int .i64 x1.e]] (by kernel_rfl) fun w9 h9 => ?_
            refine (rmayD_any _ (x1) _ (h9.rdD r_L2)).mono ?_
            rintro e v9 ⟨rfl, hb9⟩
            refine ⟨hb9, [.bool (mayD x1)], _, rfl, by kernel_rfl, by kernel_rfl, fun g9 => ?_⟩
            replace F_t1 := F_t1.mv g9.mv; replace F_t2 := F_t2.mv g9.mv; replace r_L2 := g9.rdD r_L2
            clear h9 hb9
            refine sat_prim (v := .bool (!(mayD x1))) (by kernel_rfl) ?_
            cases hd : (mayD x1)
            · refine sat_true (by kernel_rfl) ?_
              exact sat_ret (.bool false) (by kernel_rfl) fun w9 h9 => congrArg Value.bool (all_no hm (lt_of hlt) (step_no1 h_x1 hd))
            · refine sat_false (by kernel_rfl) ?_
              refine sat_prim (v := .bool (decide ((0 : Int) < ((i : Nat) : Int)))) (by kernel_rfl) ?_
              cases h0 : (decide ((0 : Int) < ((i : Nat) : Int)))
              · refine sat_false (by kernel_rfl) ?_
                refine sat_prim (v := .int .i64 (((i + 1 : Nat)) : Int)) (Eq.trans (b := some (.int .i64 (IntKind.i64.wrap ((((i) : Nat) : Int) + 1)))) (by kernel_rfl) (by rw [Sx.wrap_succ (n := t.at_.length) (lt_of hlt) M_t1])) ?_
                exact sat_back [.int .i64 (((i + 1 : Nat)) : Int), .bool false] (by kernel_rfl) fun w9 h9 => ⟨_, by have := lt_of hlt; omega, i + 1, rfl, rfl, by have := lt_of hlt; omega, all_step hm (lt_of hlt) (step_first h_x1 hd h0)⟩
              · refine sat_true (by kernel_rfl) ?_
                obtain ⟨j, hj⟩ : ∃ j, j + 1 = i := ⟨i - 1, by have := of_decide_eq_true h0; omega⟩
                refine sat_prim (v := .int .i64 ((j : Nat) : Int)) (Eq.trans (b := some (.int .i64 (IntKind.i64.wrap (((i : Nat) : Int) - 1)))) (by kernel_rfl) (sml (by omega) (by have := lt_of hlt; simp only [maxLen] at M_t1; omega))) ?_
                refine sat_idx (A := A_t) (c := c_t) (kk := .i64) (j) (by kernel_rfl) (by kernel_rfl) (by have := lt_of hlt; omega) F_t1.addr fun g12 o12 e12 => ?_
                obtain ⟨x3, h_x3⟩ : ∃ x_, t.at_[(j)]? = some x_ := ⟨_, List.getElem?_eq_getElem (by have := lt_of hlt; omega)⟩
                refine sat_el F_t1 e12 h_x3 rfl (by kernel_rfl) (by kernel_rfl) (by kernel_rfl) ?_
                rintro _ ⟨A_L4, n_L4, c_L4, rfl, r_L4⟩
                refine sat_idx (A := A_t) (c := c_t) (kk := .i64) (i) (by kernel_rfl) (by kernel_rfl) (by have := lt_of hlt; omega) F_t1.addr fun g13 o13 e13 => ?_
                refine sat_el F_t1 e13 h_x1 rfl (by kernel_rfl) (by kernel_rfl) (by kernel_rfl) ?_
                rintro _ ⟨A_L5, n_L5, c_L5, rfl, r_L5⟩
                refine sat_call #[.agg #[.bool x3.neg, .slice A_L4 n_L4 c_L4, .int .i64 x3.e], .agg #[.bool x1.neg, .slice A_L5 n_L5 c_L5, .int .i64 x1.e]] (by kernel_rfl) fun w14 h14 => ?_
                refine (less_any _ _ (x3) (x1) _ (h14.rdD r_L4) (h14.rdD r_L5)).mono ?_
                rw [lt_ge (x3) (x1)]
                rintro e v14 ⟨rfl, hb14⟩
                refine ⟨hb14, [.bool (!(decide (0 ≤ cmpD x3 x1)))], _, rfl, by kernel_rfl, by kernel_rfl, fun g14 => ?_⟩
                replace F_t1 := F_t1.mv g14.mv; replace F_t2 := F_t2.mv g14.mv; replace r_L2 := g14.rdD r_L2; replace r_L4 := g14.rdD r_L4; replace r_L5 := g14.rdD r_L5
                clear h14 hb14
                refine sat_prim (v := .bool (!(!(decide (0 ≤ cmpD x3 x1))))) (by kernel_rfl) ?_
                cases hc : (decide (0 ≤ cmpD x3 x1))
                · refine sat_false (by kernel_rfl) ?_
                  refine sat_prim (v := .int .i64 (((i + 1 : Nat)) : Int)) (Eq.trans (b := some (.int .i64 (IntKind.i64.wrap ((((i) : Nat) : Int) + 1)))) (by kernel_rfl) (by rw [Sx.wrap_succ (n := t.at_.length) (lt_of hlt) M_t1])) ?_
                  exact sat_back [.int .i64 (((i + 1 : Nat)) : Int), .bool false] (by kernel_rfl) fun w9 h9 => ⟨_, by have := lt_of hlt; omega, i + 1, rfl, rfl, by have := lt_of hlt; omega, all_step hm (lt_of hlt) (step_next h_x1 h_x3 hj hd hc)⟩
                · refine sat_true (by kernel_rfl) ?_
                  exact sat_ret (.bool false) (by kernel_rfl) fun w9 h9 => congrArg Value.bool (all_no hm (lt_of hlt) (step_next h_x1 h_x3 hj hd hc))
      · refine sat_true (by kernel_rfl) ?_
        exact sat_ret (.bool false) (by kernel_rfl) fun w9 h9 => congrArg Value.bool (may_c3 h3)
    · refine sat_true (by kernel_rfl) ?_
      exact sat_ret (.bool false) (by kernel_rfl) fun w9 h9 => congrArg Value.bool (may_c2 h2)
  · refine sat_true (by kernel_rfl) ?_
    exact sat_ret (.bool false) (by kernel_rfl) fun w9 h9 => congrArg Value.bool (may_c1 h1)

def tr_r11same : Sx.Tree := .chk [.lf 0, .lf 1] (.chk [.lf 2, .lf 3] (.prim .len [.lf 0] (.prim .len [.lf 2] (.prim (.bin .neq) [.lf 4, .lf 5] (.ite (.lf 6) (.ret (.one (.bit false))) (.call 61 [.one (.lf 1), .one (.lf 3)] .one (.prim .not [.lf 7] (.ite (.lf 8) (.ret (.one (.bit false))) (.loop 0 [.num .i64 0, .bit false] (.prim .len [.lf 0] (.prim (.bin .lss) [.lf 9, .lf 11] (.ite (.lf 12) (.prim (.idx 3) [.lf 0, .lf 9] (.load 24 (.lf 13) (.ag 3) (.prim (.idx 3) [.lf 2, .lf 9] (.load 24 (.lf 17) (.ag 3) (.call 60 [.ag [.lf 14, .lf 15, .lf 16], .ag [.lf 18, .lf 19, .lf 20]] .one (.prim .not [.lf 21] (.ite (.lf 22) (.ret (.one (.bit false))) (.prim (.bin .add) [.lf 9, .num .i64 1] (.back 0 [.lf 23, .lf 10]))))))))) (.ret (.one (.bit true)))))))))))))))
theorem tr_r11same_eq : Sx.treeAt Try.prog 62 [] [] [(true, 2), (true, 2)] = some tr_r11same := by kernel_rfl

theorem rsameT_any (A_a : Option Addr) (c_a : Nat) (B_a : Option Addr) (d_a : Nat) (A_b : Option Addr) (c_b : Nat) (B_b : Option Addr) (d_b : Nat) (a : Tb) (b : Tb) (w : World) (h_a1 : Sx.Rows Sx.kD (fun _ => True) w A_a a.at_.length c_a a.at_) (h_a2 : Sx.Rows Sx.kI (fun _ => True) w B_a a.v.length d_a a.v) (h_b1 : Sx.Rows Sx.kD (fun _ => True) w A_b b.at_.length c_b b.at_) (h_b2 : Sx.Rows Sx.kI (fun _ => True) w B_b b.v.length d_b b.v) :
    Calls Try.prog 62 #[.agg #[.slice A_a a.at_.length c_a, .slice B_a a.v.length d_a], .agg #[.slice A_b b.at_.length c_b, .slice B_b b.v.length d_b]] w fun e w' => e = .returned (.bool (sameT a b)) ∧ Below w.heap.size w w' := by
  have F_a1 := h_a1.start
  have M_a1 := h_a1.le
  clear h_a1
  have F_a2 := h_a2.start
  have M_a2 := h_a2.le
  clear h_a2
  have F_b1 := h_b1.start
  have M_b1 := h_b1.le
  clear h_b1
  have F_b2 := h_b2.start
  have M_b2 := h_b2.le
  clear h_b2
  refine (Sx.runA [] [] (ls := [.slice A_a a.at_.length c_a, .slice B_a a.v.length d_a, .slice A_b b.at_.length c_b, .slice B_b b.v.length d_b]) (shs := [(true, 2), (true, 2)]) (R := fun v _ => v = .bool (sameT a b)) tr_r11same_eq rfl (by decide) (fun q h => by cases h) ?_).mono (fun e w' ⟨v, he, hv, hb⟩ => ⟨by rw [he, hv], hb⟩)
  unfold tr_r11same
  refine sat_chkB (by kernel_rfl) ?_
  refine sat_chkB (by kernel_rfl) ?_
  refine sat_prim (v := .int .i64 ((a.at_.length : Nat) : Int)) (by kernel_rfl) ?_
  refine sat_prim (v := .int .i64 ((b.at_.length : Nat) : Int)) (by kernel_rfl) ?_
  refine sat_prim (v := .bool ((((a.at_.length : Nat) : Int) : Int) != ((b.at_.length : Nat) : Int))) (by kernel_rfl) ?_
  cases hne : ((((a.at_.length : Nat) : Int) : Int) != ((b.at_.length : Nat) : Int))
  · refine sat_false (by kernel_rfl) ?_
    refine sat_call #[.slice B_a a.v.length d_a, .slice B_b b.v.length d_b] (by kernel_rfl) fun w2 h2 => ?_
    refine (rsameB_any _ _ _ _ a.v b.v _ ((F_a2.mv h2.mv).any) ((F_b2.mv h2.mv).any)).mono ?_
    rintro e v2 ⟨rfl, hb2⟩
    refine ⟨hb2, [.bool (sameB a.v b.v)], _, rfl, by kernel_rfl, by kernel_rfl, fun g2 => ?_⟩
    replace F_a1 := F_a1.mv g2.mv; replace F_a2 := F_a2.mv g2.mv; replace F_b1 := F_b1.mv g2.mv; replace F_b2 := F_b2.mv g2.mv
    clear h2 hb2
    refine sat_prim (v := .bool (!(sameB a.v b.v))) (by kernel_rfl) ?_
    cases hBx : (sameB a.v b.v)
    · refine sat_true (by kernel_rfl) ?_
      exact sat_ret (.bool false) (by kernel_rfl) fun w9 h9 => congrArg Value.bool (by unfold sameT; rw [hBx, Bool.and_false])
    · refine sat_false (by kernel_rfl) ?_
      have hl := eqf_len' hne
      refine sat_loop (fun Kn vs W => ∃ (i : Nat), vs = [.int .i64 ((i : Nat) : Int), .bool false] ∧ Kn = a.at_.length - i ∧ i ≤ a.at_.length ∧ (all2 sameD a.at_ b.at_ = all2 sameD (a.at_.drop i) (b.at_.drop i))) [.int .i64 0, .bool false] (by kernel_rfl) (fun w1 h1 => ⟨_, 0, rfl, rfl, Nat.zero_le _, rfl⟩) ?_
      rintro Kn vs w4 h4 ⟨i, rfl, rfl, h_i, hm⟩
      replace F_a1 := F_a1.mv h4.mv; replace F_a2 := F_a2.mv h4.mv; replace F_b1 := F_b1.mv h4.mv; replace F_b2 := F_b2.mv h4.mv
      clear h4
      refine sat_prim (v := .int .i64 ((a.at_.length : Nat) : Int)) (by kernel_rfl) ?_
      refine sat_prim (v := .bool (decide ((((i : Nat) : Int) : Int) < ((a.at_.length : Nat) : Int)))) (by kernel_rfl) ?_
      cases hlt : (decide ((((i : Nat) : Int) : Int) < ((a.at_.length : Nat) : Int)))
      · refine sat_false (by kernel_rfl) ?_
        exact sat_ret (.bool true) (by kernel_rfl) fun w9 h9 => congrArg Value.bool (by unfold sameT; rw [hBx, Bool.and_true]; exact eqf_yes hm hlt hl)
      · refine sat_true (by kernel_rfl) ?_
        refine sat_idx (A := A_a) (c := c_a) (kk := .i64) (i) (by kernel_rfl) (by kernel_rfl) (lt_of hlt) F_a1.addr fun g6 o6 e6 => ?_
        obtain ⟨x1, h_x1⟩ : ∃ x_, a.at_[(i)]? = some x_ := ⟨_, List.getElem?_eq_getElem (lt_of hlt)⟩
        refine sat_el F_a1 e6 h_x1 rfl (by kernel_rfl) (by kernel_rfl) (by kernel_rfl) ?_
        rintro _ ⟨A_L2, n_L2, c_L2, rfl, r_L2⟩
        refine sat_idx (A := A_b) (c := c_b) (kk := .i64) (i) (by kernel_rfl) (by kernel_rfl) (by have := lt_of hlt; omega) F_b1.addr fun g7 o7 e7 => ?_
        obtain ⟨x3, h_x3⟩ : ∃ x_, b.at_[(i)]? = some x_ := ⟨_, List.getElem?_eq_getElem (by have := lt_of hlt; omega)⟩
        refine sat_el F_b1 e7 h_x3 rfl (by kernel_rfl) (by kernel_rfl) (by kernel_rfl) ?_
        rintro _ ⟨A_L4, n_L4, c_L4, rfl, r_L4⟩
        refine sat_call #[.agg #[.bool x1.neg, .slice A_L2 n_L2 c_L2, .int .i64 x1.e], .agg #[.bool x3.neg, .slice A_L4 n_L4 c_L4, .int .i64 x3.e]] (by kernel_rfl) fun w8 h8 => ?_
        refine (rsame_any _ _ (x1) (x3) _ (h8.rdD r_L2) (h8.rdD r_L4)).mono ?_
        rintro e v8 ⟨rfl, hb8⟩
        refine ⟨hb8, [.bool (sameD x1 x3)], _, rfl, by kernel_rfl, by kernel_rfl, fun g8 => ?_⟩
        replace F_a1 := F_a1.mv g8.mv; replace F_a2 := F_a2.mv g8.mv; replace F_b1 := F_b1.mv g8.mv; replace F_b2 := F_b2.mv g8.mv; replace r_L2 := g8.rdD r_L2; replace r_L4 := g8.rdD r_L4
        clear h8 hb8
        refine sat_prim (v := .bool (!(sameD x1 x3))) (by kernel_rfl) ?_
        cases hf : (sameD x1 x3)
        · refine sat_true (by kernel_rfl) ?_
          exact sat_ret (.bool false) (by kernel_rfl) fun w9 h9 => congrArg Value.bool (by unfold sameT; rw [hBx, Bool.and_true]; exact eqf_no hm h_x1 h_x3 hf)
        · refine sat_false (by kernel_rfl) ?_
          refine sat_prim (v := .int .i64 (((i + 1 : Nat)) : Int)) (Eq.trans (b := some (.int .i64 (IntKind.i64.wrap ((((i) : Nat) : Int) + 1)))) (by kernel_rfl) (by rw [Sx.wrap_succ (n := a.at_.length) (lt_of hlt) M_a1])) ?_
          exact sat_back [.int .i64 (((i + 1 : Nat)) : Int), .bool false] (by kernel_rfl) fun w9 h9 => ⟨_, by have := lt_of hlt; omega, i + 1, rfl, rfl, by have := lt_of hlt; omega, eqf_step hm h_x1 h_x3 hf⟩
  · refine sat_true (by kernel_rfl) ?_
    exact sat_ret (.bool false) (by kernel_rfl) fun w9 h9 => congrArg Value.bool (by unfold sameT; rw [Bool.and_assoc]; exact eqf_len hne)

end Go.Proofs.Ytpkfjfpknbhekaa
