/- The walks of BoxRows, BoxSets, by their trees. Printed by wip/mk_BxD.py. -/
import Derived.Test.YtbpfnooloemieaaDoorBxBx
import Derived.Test.YtbpfnooloemieaaDoorBxPx
namespace Go.Proofs.YtbpfnooloemieaaDoor
open Go.RowKit Pl
open Sx (sat_call sat_chk sat_prim sat_ite sat_true sat_false sat_trueP sat_falseP sat_ret sat_row sat_callP sat_loop sat_back sat_idx sat_el sat_elf sat_elc sat_load sat_rowN sat_app rows_one rows_two all_nil all_cons okB okS okI)

theorem rows_lims' {ok : Nat → Prop} {w : World} {A : Option Addr} {n c : Nat} {l : List Iv} (h : Sx.Rows Sx.kI ok w A n c l) : ∀ x ∈ l, Lim BB x.lo.m ∧ Lim BB x.hi.m := by
  intro x hx
  obtain ⟨i, hi⟩ := List.mem_iff_getElem?.1 hx
  have hn : 0 < n := by have := (List.getElem?_eq_some_iff.1 hi).1; have := h.len; omega
  obtain ⟨_, _, _, _, _, h4⟩ := h.at_ hn
  obtain ⟨cs, ⟨_, _, _, _, _, _, _, r1, r2⟩, _⟩ := h4 i x hi
  exact ⟨r1.lim, r2.lim⟩

def tr_boxRows : Sx.Tree := .call 10 [.one (.lf 0)] .one (.prim .not [.lf 2] (.ite (.lf 3) (.call 12 [] .one (.ret (.one (.lf 4)))) (.call 10 [.one (.lf 1)] .one (.prim .not [.lf 4] (.ite (.lf 5) (.call 12 [] .one (.ret (.one (.lf 6)))) (.call 11 [.one (.lf 0)] .one (.prim .not [.lf 6] (.ite (.lf 7) (.call 12 [] .one (.ret (.one (.lf 8)))) (.call 11 [.one (.lf 1)] .one (.prim .not [.lf 8] (.ite (.lf 9) (.call 12 [] .one (.ret (.one (.lf 10)))) (.prim .len [.lf 0] (.prim .len [.lf 1] (.prim (.bin .neq) [.lf 10, .lf 11] (.ite (.lf 12) (.call 12 [] .one (.ret (.one (.lf 13)))) (.loop 0 [.num .i64 0, .bit true, .bit true, .bit true] (.prim .len [.lf 0] (.prim (.bin .lss) [.lf 13, .lf 17] (.ite (.lf 18) (.ite (.lf 16) (.prim (.idx 6) [.lf 0, .lf 13] (.load 37 (.lf 19) (.ag 6) (.prim (.idx 6) [.lf 1, .lf 13] (.load 37 (.lf 26) (.ag 6) (.call 18 [.ag [.lf 20, .lf 21, .lf 22, .lf 23, .lf 24, .lf 25], .ag [.lf 27, .lf 28, .lf 29, .lf 30, .lf 31, .lf 32]] .one (.ite (.lf 15) (.prim (.idx 6) [.lf 0, .lf 13] (.load 37 (.lf 34) (.ag 6) (.prim (.idx 6) [.lf 1, .lf 13] (.load 37 (.lf 41) (.ag 6) (.call 19 [.ag [.lf 35, .lf 36, .lf 37, .lf 38, .lf 39, .lf 40], .ag [.lf 42, .lf 43, .lf 44, .lf 45, .lf 46, .lf 47]] .one (.prim (.idx 6) [.lf 0, .lf 13] (.load 37 (.lf 49) (.ag 6) (.prim (.idx 6) [.lf 1, .lf 13] (.load 37 (.lf 56) (.ag 6) (.call 20 [.ag [.lf 50, .lf 51, .lf 52, .lf 53, .lf 54, .lf 55], .ag [.lf 57, .lf 58, .lf 59, .lf 60, .lf 61, .lf 62]] (.tup [(true, 6), (false, 1)]) (.chk [.lf 63, .lf 64, .lf 65, .lf 66, .lf 67, .lf 68] (.ite (.lf 14) (.prim (.bin .eql) [.lf 69, .num .i64 0] (.prim (.bin .add) [.lf 13, .num .i64 1] (.back 0 [.lf 71, .lf 70, .lf 48, .lf 33]))) (.prim (.bin .add) [.lf 13, .num .i64 1] (.back 0 [.lf 70, .bit false, .lf 48, .lf 33])))))))))))))) (.prim (.idx 6) [.lf 0, .lf 13] (.load 37 (.lf 34) (.ag 6) (.prim (.idx 6) [.lf 1, .lf 13] (.load 37 (.lf 41) (.ag 6) (.call 20 [.ag [.lf 35, .lf 36, .lf 37, .lf 38, .lf 39, .lf 40], .ag [.lf 42, .lf 43, .lf 44, .lf 45, .lf 46, .lf 47]] (.tup [(true, 6), (false, 1)]) (.chk [.lf 48, .lf 49, .lf 50, .lf 51, .lf 52, .lf 53] (.ite (.lf 14) (.prim (.bin .eql) [.lf 54, .num .i64 0] (.prim (.bin .add) [.lf 13, .num .i64 1] (.back 0 [.lf 56, .lf 55, .bit false, .lf 33]))) (.prim (.bin .add) [.lf 13, .num .i64 1] (.back 0 [.lf 55, .bit false, .bit false, .lf 33]))))))))))))))) (.ite (.lf 15) (.prim (.idx 6) [.lf 0, .lf 13] (.load 37 (.lf 19) (.ag 6) (.prim (.idx 6) [.lf 1, .lf 13] (.load 37 (.lf 26) (.ag 6) (.call 19 [.ag [.lf 20, .lf 21, .lf 22, .lf 23, .lf 24, .lf 25], .ag [.lf 27, .lf 28, .lf 29, .lf 30, .lf 31, .lf 32]] .one (.prim (.idx 6) [.lf 0, .lf 13] (.load 37 (.lf 34) (.ag 6) (.prim (.idx 6) [.lf 1, .lf 13] (.load 37 (.lf 41) (.ag 6) (.call 20 [.ag [.lf 35, .lf 36, .lf 37, .lf 38, .lf 39, .lf 40], .ag [.lf 42, .lf 43, .lf 44, .lf 45, .lf 46, .lf 47]] (.tup [(true, 6), (false, 1)]) (.chk [.lf 48, .lf 49, .lf 50, .lf 51, .lf 52, .lf 53] (.ite (.lf 14) (.prim (.bin .eql) [.lf 54, .num .i64 0] (.prim (.bin .add) [.lf 13, .num .i64 1] (.back 0 [.lf 56, .lf 55, .lf 33, .bit false]))) (.prim (.bin .add) [.lf 13, .num .i64 1] (.back 0 [.lf 55, .bit false, .lf 33, .bit false])))))))))))))) (.prim (.idx 6) [.lf 0, .lf 13] (.load 37 (.lf 19) (.ag 6) (.prim (.idx 6) [.lf 1, .lf 13] (.load 37 (.lf 26) (.ag 6) (.call 20 [.ag [.lf 20, .lf 21, .lf 22, .lf 23, .lf 24, .lf 25], .ag [.lf 27, .lf 28, .lf 29, .lf 30, .lf 31, .lf 32]] (.tup [(true, 6), (false, 1)]) (.chk [.lf 33, .lf 34, .lf 35, .lf 36, .lf 37, .lf 38] (.ite (.lf 14) (.prim (.bin .eql) [.lf 39, .num .i64 0] (.prim (.bin .add) [.lf 13, .num .i64 1] (.back 0 [.lf 41, .lf 40, .bit false, .bit false]))) (.prim (.bin .add) [.lf 13, .num .i64 1] (.back 0 [.lf 40, .bit false, .bit false, .bit false]))))))))))) (.call 15 [.one (.lf 0), .one (.lf 1)] (.tup [(false, 1), (false, 1)]) (.call 12 [] .one (.ite (.lf 21) (.call 17 [.one (.lf 0), .one (.lf 1)] .one (.prim (.bbin .eql) [.lf 22, .lf 16] (.ite (.lf 23) (.call 21 [.one (.lf 0), .one (.lf 1)] .one (.prim (.bbin .eql) [.lf 24, .lf 15] (.ite (.lf 25) (.prim (.bin .eql) [.lf 20, .num .i64 0] (.prim (.bbin .eql) [.lf 26, .lf 14] (.ret (.one (.lf 27))))) (.ret (.one (.bit false)))))) (.ret (.one (.bit false)))))) (.ret (.one (.bit false)))))))))))))))))))))))))
theorem tr_boxRows_eq : Sx.treeAt Tryd.prog 4 [] [] [(false, 1), (false, 1)] = some tr_boxRows := by kernel_rfl

set_option maxRecDepth 100000 in
set_option maxHeartbeats 4000000 in
theorem boxRows_any (A_a : Option Addr) (c_a : Nat) (A_b : Option Addr) (c_b : Nat) (a : List Iv) (b : List Iv) (w : World) (h_a : Sx.Rows Sx.kI (fun _ => True) w A_a a.length c_a a) (h_b : Sx.Rows Sx.kI (fun _ => True) w A_b b.length c_b b) (hT : TabAt w) :
    Calls Tryd.prog 4 #[.slice A_a a.length c_a, .slice A_b b.length c_b] w fun e w' => e = .returned (.bool true) ∧ Below w.heap.size w w' := by
  have F_a := h_a.start
  have M_a := h_a.le
  clear h_a
  have F_b := h_b.start
  have M_b := h_b.le
  clear h_b
  refine (Sx.runA [] [] (ls := [.slice A_a a.length c_a, .slice A_b b.length c_b]) (shs := [(false, 1), (false, 1)]) (R := fun v w' => v = .bool true) tr_boxRows_eq rfl (by decide) (fun q h => by cases h) ?_).mono (fun e w' ⟨v, he, hv, hb⟩ => ⟨by rw [he, hv], hb⟩)
  unfold tr_boxRows
  refine sat_call #[.slice A_a a.length c_a] (by kernel_rfl) fun w1 h1 => ?_
  refine (row8_any _ _ a _ ((F_a.mv h1.mv).any)).mono ?_
  rintro e v1 ⟨rfl, hb1⟩
  refine ⟨hb1, [.bool (fewB a)], _, rfl, by kernel_rfl, by kernel_rfl, fun g1 => ?_⟩
  replace F_a := F_a.mv g1.mv; replace F_b := F_b.mv g1.mv
  clear h1 hb1
  refine sat_prim (v := .bool (!(fewB a))) (by kernel_rfl) ?_
  cases h_few_a : (fewB a)
  · refine sat_true (by kernel_rfl) ?_
    refine sat_call #[] (by kernel_rfl) fun w3 h3 => ?_
    refine (told11_any _ (h3.tab hT)).mono ?_
    rintro e v3 ⟨rfl, hb3⟩
    refine ⟨hb3, [.bool true], _, rfl, by kernel_rfl, by kernel_rfl, fun g3 => ?_⟩
    replace F_a := F_a.mv g3.mv; replace F_b := F_b.mv g3.mv
    clear h3 hb3
    exact sat_ret (.bool true) (by kernel_rfl) fun w9 h9 => rfl
  · refine sat_false (by kernel_rfl) ?_
    refine sat_call #[.slice A_b b.length c_b] (by kernel_rfl) fun w3 h3 => ?_
    refine (row8_any _ _ b _ ((F_b.mv h3.mv).any)).mono ?_
    rintro e v3 ⟨rfl, hb3⟩
    refine ⟨hb3, [.bool (fewB b)], _, rfl, by kernel_rfl, by kernel_rfl, fun g3 => ?_⟩
    replace F_a := F_a.mv g3.mv; replace F_b := F_b.mv g3.mv
    clear h3 hb3
    refine sat_prim (v := .bool (!(fewB b))) (by kernel_rfl) ?_
    cases h_few_b : (fewB b)
    · refine sat_true (by kernel_rfl) ?_
      refine sat_call #[] (by kernel_rfl) fun w5 h5 => ?_
      refine (told11_any _ (h5.tab hT)).mono ?_
      rintro e v5 ⟨rfl, hb5⟩
      refine ⟨hb5, [.bool true], _, rfl, by kernel_rfl, by kernel_rfl, fun g5 => ?_⟩
      replace F_a := F_a.mv g5.mv; replace F_b := F_b.mv g5.mv
      clear h5 hb5
      exact sat_ret (.bool true) (by kernel_rfl) fun w9 h9 => rfl
    · refine sat_false (by kernel_rfl) ?_
      refine sat_call #[.slice A_a a.length c_a] (by kernel_rfl) fun w5 h5 => ?_
      refine (mayB_any _ _ a _ ((F_a.mv h5.mv).any)).mono ?_
      rintro e v5 ⟨rfl, hb5⟩
      refine ⟨hb5, [.bool (mayB a)], _, rfl, by kernel_rfl, by kernel_rfl, fun g5 => ?_⟩
      replace F_a := F_a.mv g5.mv; replace F_b := F_b.mv g5.mv
      clear h5 hb5
      refine sat_prim (v := .bool (!(mayB a))) (by kernel_rfl) ?_
      cases h_may_a : (mayB a)
      · refine sat_true (by kernel_rfl) ?_
        refine sat_call #[] (by kernel_rfl) fun w7 h7 => ?_
        refine (told11_any _ (h7.tab hT)).mono ?_
        rintro e v7 ⟨rfl, hb7⟩
        refine ⟨hb7, [.bool true], _, rfl, by kernel_rfl, by kernel_rfl, fun g7 => ?_⟩
        replace F_a := F_a.mv g7.mv; replace F_b := F_b.mv g7.mv
        clear h7 hb7
        exact sat_ret (.bool true) (by kernel_rfl) fun w9 h9 => rfl
      · refine sat_false (by kernel_rfl) ?_
        refine sat_call #[.slice A_b b.length c_b] (by kernel_rfl) fun w7 h7 => ?_
        refine (mayB_any _ _ b _ ((F_b.mv h7.mv).any)).mono ?_
        rintro e v7 ⟨rfl, hb7⟩
        refine ⟨hb7, [.bool (mayB b)], _, rfl, by kernel_rfl, by kernel_rfl, fun g7 => ?_⟩
        replace F_a := F_a.mv g7.mv; replace F_b := F_b.mv g7.mv
        clear h7 hb7
        refine sat_prim (v := .bool (!(mayB b))) (by kernel_rfl) ?_
        cases h_may_b : (mayB b)
        · refine sat_true (by kernel_rfl) ?_
          refine sat_call #[] (by kernel_rfl) fun w9 h9 => ?_
          refine (told11_any _ (h9.tab hT)).mono ?_
          rintro e v9 ⟨rfl, hb9⟩
          refine ⟨hb9, [.bool true], _, rfl, by kernel_rfl, by kernel_rfl, fun g9 => ?_⟩
          replace F_a := F_a.mv g9.mv; replace F_b := F_b.mv g9.mv
          clear h9 hb9
          exact sat_ret (.bool true) (by kernel_rfl) fun w9 h9 => rfl
        · refine sat_false (by kernel_rfl) ?_
          refine sat_prim (v := .int .i64 ((a.length : Nat) : Int)) (by kernel_rfl) ?_
          refine sat_prim (v := .int .i64 ((b.length : Nat) : Int)) (by kernel_rfl) ?_
          refine sat_prim (v := .bool ((((a.length : Nat) : Int) : Int) != ((b.length : Nat) : Int))) (by kernel_rfl) ?_
          cases hne : ((((a.length : Nat) : Int) : Int) != ((b.length : Nat) : Int))
          · refine sat_false (by kernel_rfl) ?_
            have hT2 := two_of h_may_a h_may_b hne
            have hl := eqf_len' hne
            refine sat_loop (fun Kn vs W => ∃ (i : Nat) (wi : Bool) (ins : Bool) (me : Bool), vs = [.int .i64 ((i : Nat) : Int), .bool me, .bool ins, .bool wi] ∧ Kn = a.length - i ∧ i ≤ a.length ∧ (all2 withinI a b = (wi && all2 withinI (a.drop i) (b.drop i))) ∧ (all2 insideI a b = (ins && all2 insideI (a.drop i) (b.drop i))) ∧ (all2 meets a b = (me && all2 meets (a.drop i) (b.drop i)))) [.int .i64 0, .bool true, .bool true, .bool true] (by kernel_rfl) (fun w1 h1 => ⟨_, 0, true, true, true, rfl, rfl, Nat.zero_le _, rfl, rfl, rfl⟩) ?_
            rintro Kn vs w10 h10 ⟨i, wi, ins, me, rfl, rfl, h_i, hw, hj, hm⟩
            replace F_a := F_a.mv h10.mv; replace F_b := F_b.mv h10.mv
            clear h10
            refine sat_prim (v := .int .i64 ((a.length : Nat) : Int)) (by kernel_rfl) ?_
            refine sat_prim (v := .bool (decide ((((i : Nat) : Int) : Int) < ((a.length : Nat) : Int)))) (by kernel_rfl) ?_
            cases hlt : (decide ((((i : Nat) : Int) : Int) < ((a.length : Nat) : Int)))
            · refine sat_false (by kernel_rfl) ?_
              refine sat_call #[.slice A_a a.length c_a, .slice A_b b.length c_b] (by kernel_rfl) fun w12 h12 => ?_
              refine (meetB_any _ _ _ _ a b _ ((F_a.mv h12.mv).any) ((F_b.mv h12.mv).any) (by have := fewB_len h_few_a; omega)).mono ?_
              rintro e v12 ⟨⟨l_b1, x_b1, A_b1, c_b1, rfl, h_b1, F_b1⟩, hb12⟩
              refine ⟨hb12, [.slice A_b1 l_b1.length c_b1, .int .i64 x_b1], _, rfl, by kernel_rfl, by kernel_rfl, fun g12 => ?_⟩
              replace F_a := F_a.mv g12.mv; replace F_b := F_b.mv g12.mv
              replace F_b1 := F_b1.mv (Sx.Mv.fresh h12.wf)
              clear h12 hb12
              refine sat_call #[] (by kernel_rfl) fun w13 h13 => ?_
              refine (told11_any _ (h13.tab hT)).mono ?_
              rintro e v13 ⟨rfl, hb13⟩
              refine ⟨hb13, [.bool true], _, rfl, by kernel_rfl, by kernel_rfl, fun g13 => ?_⟩
              replace F_a := F_a.mv g13.mv; replace F_b := F_b.mv g13.mv; replace F_b1 := F_b1.mv g13.mv
              clear h13 hb13
              refine sat_true (by kernel_rfl) ?_
              refine sat_call #[.slice A_a a.length c_a, .slice A_b b.length c_b] (by kernel_rfl) fun w14 h14 => ?_
              refine (withinB_any _ _ _ _ a b _ ((F_a.mv h14.mv).any) ((F_b.mv h14.mv).any)).mono ?_
              rintro e v14 ⟨rfl, hb14⟩
              refine ⟨hb14, [.bool (withinB a b)], _, rfl, by kernel_rfl, by kernel_rfl, fun g14 => ?_⟩
              replace F_a := F_a.mv g14.mv; replace F_b := F_b.mv g14.mv; replace F_b1 := F_b1.mv g14.mv
              clear h14 hb14
              refine sat_prim (v := .bool ((withinB a b) == wi)) (by kernel_rfl) ?_
              refine sat_trueP (b := ((withinB a b) == wi)) (by kernel_rfl) (rows_w hT2 hw hlt) ?_
              refine sat_call #[.slice A_a a.length c_a, .slice A_b b.length c_b] (by kernel_rfl) fun w15 h15 => ?_
              refine (insideB_any _ _ _ _ a b _ ((F_a.mv h15.mv).any) ((F_b.mv h15.mv).any)).mono ?_
              rintro e v15 ⟨rfl, hb15⟩
              refine ⟨hb15, [.bool (insideB a b)], _, rfl, by kernel_rfl, by kernel_rfl, fun g15 => ?_⟩
              replace F_a := F_a.mv g15.mv; replace F_b := F_b.mv g15.mv; replace F_b1 := F_b1.mv g15.mv
              clear h15 hb15
              refine sat_prim (v := .bool ((insideB a b) == ins)) (by kernel_rfl) ?_
              refine sat_trueP (b := ((insideB a b) == ins)) (by kernel_rfl) (rows_i hT2 hj hlt) ?_
              refine sat_prim (v := .bool ((x_b1 : Int) == 0)) (by kernel_rfl) ?_
              refine sat_prim (v := .bool (((x_b1 : Int) == 0) == me)) (by kernel_rfl) ?_
              exact sat_ret (.bool (((x_b1 : Int) == 0) == me)) (by kernel_rfl) fun w9 h9 => congrArg Value.bool (rows_m hT2 h_b1 hm hlt)
            · refine sat_true (by kernel_rfl) ?_
              cases c_w : (wi)
              · refine sat_false (by kernel_rfl) ?_
                cases c_i : (ins)
                · refine sat_false (by kernel_rfl) ?_
                  refine sat_idx (A := A_a) (c := c_a) (kk := .i64) (i) (by kernel_rfl) (by kernel_rfl) (lt_of hlt) F_a.addr fun g14 o14 e14 => ?_
                  obtain ⟨x1, h_x1⟩ : ∃ x_, a[(i)]? = some x_ := ⟨_, List.getElem?_eq_getElem (lt_of hlt)⟩
                  refine sat_el F_a e14 h_x1 rfl (by kernel_rfl) (by kernel_rfl) (by kernel_rfl) ?_
                  rintro _ ⟨A_L2, n_L2, c_L2, B_L2, m_L2, k_L2, rfl, r_L2l, r_L2h⟩
                  refine sat_idx (A := A_b) (c := c_b) (kk := .i64) (i) (by kernel_rfl) (by kernel_rfl) (by have := lt_of hlt; omega) F_b.addr fun g15 o15 e15 => ?_
                  obtain ⟨x3, h_x3⟩ : ∃ x_, b[(i)]? = some x_ := ⟨_, List.getElem?_eq_getElem (by have := lt_of hlt; omega)⟩
                  refine sat_el F_b e15 h_x3 rfl (by kernel_rfl) (by kernel_rfl) (by kernel_rfl) ?_
                  rintro _ ⟨A_L4, n_L4, c_L4, B_L4, m_L4, k_L4, rfl, r_L4l, r_L4h⟩
                  refine sat_call #[.agg #[.bool x1.lo.neg, .slice A_L2 n_L2 c_L2, .int .i64 x1.lo.e, .bool x1.hi.neg, .slice B_L2 m_L2 k_L2, .int .i64 x1.hi.e], .agg #[.bool x3.lo.neg, .slice A_L4 n_L4 c_L4, .int .i64 x3.lo.e, .bool x3.hi.neg, .slice B_L4 m_L4 k_L4, .int .i64 x3.hi.e]] (by kernel_rfl) fun w16 h16 => ?_
                  refine (meetI_any _ _ x1 x3 _ (mkI (h16.rdD r_L2l) (h16.rdD r_L2h)) (mkI (h16.rdD r_L4l) (h16.rdD r_L4h))).mono ?_
                  rintro e v16 ⟨⟨l_m5, g_m5, x_m5, A_m5, n_m5, c_m5, B_m5, m_m5, k_m5, h_m5, rfl, r_m5l, r_m5h⟩, hb16⟩
                  refine ⟨hb16, [.bool l_m5.neg, .slice A_m5 n_m5 c_m5, .int .i64 l_m5.e, .bool g_m5.neg, .slice B_m5 m_m5 k_m5, .int .i64 g_m5.e, .int .i64 x_m5], _, rfl, by kernel_rfl, by kernel_rfl, fun g16 => ?_⟩
                  replace F_a := F_a.mv g16.mv; replace F_b := F_b.mv g16.mv; replace r_L2l := g16.rdD r_L2l; replace r_L2h := g16.rdD r_L2h; replace r_L4l := g16.rdD r_L4l; replace r_L4h := g16.rdD r_L4h
                  clear h16 hb16
                  refine sat_chkB (by kernel_rfl) ?_
                  cases c_m : (me)
                  · refine sat_false (by kernel_rfl) ?_
                    refine sat_prim (v := .int .i64 (((i + 1 : Nat)) : Int)) (Eq.trans (b := some (.int .i64 (IntKind.i64.wrap ((((i) : Nat) : Int) + 1)))) (by kernel_rfl) (by rw [Sx.wrap_succ (n := a.length) (lt_of hlt) M_a])) ?_
                    exact sat_back [.int .i64 (((i + 1 : Nat)) : Int), .bool false, .bool false, .bool false] (by kernel_rfl) fun w9 h9 => ⟨_, by have := lt_of hlt; omega, i + 1, _, _, _, rfl, rfl, by have := lt_of hlt; omega, and_step_f hw c_w, and_step_f hj c_i, and_step_f hm c_m⟩
                  · refine sat_true (by kernel_rfl) ?_
                    refine sat_prim (v := .bool ((x_m5 : Int) == 0)) (by kernel_rfl) ?_
                    refine sat_prim (v := .int .i64 (((i + 1 : Nat)) : Int)) (Eq.trans (b := some (.int .i64 (IntKind.i64.wrap ((((i) : Nat) : Int) + 1)))) (by kernel_rfl) (by rw [Sx.wrap_succ (n := a.length) (lt_of hlt) M_a])) ?_
                    exact sat_back [.int .i64 (((i + 1 : Nat)) : Int), .bool ((x_m5 : Int) == 0), .bool false, .bool false] (by kernel_rfl) fun w9 h9 => ⟨_, by have := lt_of hlt; omega, i + 1, _, _, _, rfl, rfl, by have := lt_of hlt; omega, and_step_f hw c_w, and_step_f hj c_i, and_step_m hm h_x1 h_x3 c_m h_m5⟩
                · refine sat_true (by kernel_rfl) ?_
                  refine sat_idx (A := A_a) (c := c_a) (kk := .i64) (i) (by kernel_rfl) (by kernel_rfl) (lt_of hlt) F_a.addr fun g14 o14 e14 => ?_
                  obtain ⟨x1, h_x1⟩ : ∃ x_, a[(i)]? = some x_ := ⟨_, List.getElem?_eq_getElem (lt_of hlt)⟩
                  refine sat_el F_a e14 h_x1 rfl (by kernel_rfl) (by kernel_rfl) (by kernel_rfl) ?_
                  rintro _ ⟨A_L2, n_L2, c_L2, B_L2, m_L2, k_L2, rfl, r_L2l, r_L2h⟩
                  refine sat_idx (A := A_b) (c := c_b) (kk := .i64) (i) (by kernel_rfl) (by kernel_rfl) (by have := lt_of hlt; omega) F_b.addr fun g15 o15 e15 => ?_
                  obtain ⟨x3, h_x3⟩ : ∃ x_, b[(i)]? = some x_ := ⟨_, List.getElem?_eq_getElem (by have := lt_of hlt; omega)⟩
                  refine sat_el F_b e15 h_x3 rfl (by kernel_rfl) (by kernel_rfl) (by kernel_rfl) ?_
                  rintro _ ⟨A_L4, n_L4, c_L4, B_L4, m_L4, k_L4, rfl, r_L4l, r_L4h⟩
                  refine sat_call #[.agg #[.bool x1.lo.neg, .slice A_L2 n_L2 c_L2, .int .i64 x1.lo.e, .bool x1.hi.neg, .slice B_L2 m_L2 k_L2, .int .i64 x1.hi.e], .agg #[.bool x3.lo.neg, .slice A_L4 n_L4 c_L4, .int .i64 x3.lo.e, .bool x3.hi.neg, .slice B_L4 m_L4 k_L4, .int .i64 x3.hi.e]] (by kernel_rfl) fun w16 h16 => ?_
                  refine (insideI_any _ _ x1 x3 _ (mkI (h16.rdD r_L2l) (h16.rdD r_L2h)) (mkI (h16.rdD r_L4l) (h16.rdD r_L4h))).mono ?_
                  rintro e v16 ⟨rfl, hb16⟩
                  refine ⟨hb16, [.bool (insideI x1 x3)], _, rfl, by kernel_rfl, by kernel_rfl, fun g16 => ?_⟩
                  replace F_a := F_a.mv g16.mv; replace F_b := F_b.mv g16.mv; replace r_L2l := g16.rdD r_L2l; replace r_L2h := g16.rdD r_L2h; replace r_L4l := g16.rdD r_L4l; replace r_L4h := g16.rdD r_L4h
                  clear h16 hb16
                  refine sat_idx (A := A_a) (c := c_a) (kk := .i64) (i) (by kernel_rfl) (by kernel_rfl) (lt_of hlt) F_a.addr fun g17 o17 e17 => ?_
                  refine sat_el F_a e17 h_x1 rfl (by kernel_rfl) (by kernel_rfl) (by kernel_rfl) ?_
                  rintro _ ⟨A_L5, n_L5, c_L5, B_L5, m_L5, k_L5, rfl, r_L5l, r_L5h⟩
                  refine sat_idx (A := A_b) (c := c_b) (kk := .i64) (i) (by kernel_rfl) (by kernel_rfl) (by have := lt_of hlt; omega) F_b.addr fun g18 o18 e18 => ?_
                  refine sat_el F_b e18 h_x3 rfl (by kernel_rfl) (by kernel_rfl) (by kernel_rfl) ?_
                  rintro _ ⟨A_L6, n_L6, c_L6, B_L6, m_L6, k_L6, rfl, r_L6l, r_L6h⟩
                  refine sat_call #[.agg #[.bool x1.lo.neg, .slice A_L5 n_L5 c_L5, .int .i64 x1.lo.e, .bool x1.hi.neg, .slice B_L5 m_L5 k_L5, .int .i64 x1.hi.e], .agg #[.bool x3.lo.neg, .slice A_L6 n_L6 c_L6, .int .i64 x3.lo.e, .bool x3.hi.neg, .slice B_L6 m_L6 k_L6, .int .i64 x3.hi.e]] (by kernel_rfl) fun w19 h19 => ?_
                  refine (meetI_any _ _ x1 x3 _ (mkI (h19.rdD r_L5l) (h19.rdD r_L5h)) (mkI (h19.rdD r_L6l) (h19.rdD r_L6h))).mono ?_
                  rintro e v19 ⟨⟨l_m7, g_m7, x_m7, A_m7, n_m7, c_m7, B_m7, m_m7, k_m7, h_m7, rfl, r_m7l, r_m7h⟩, hb19⟩
                  refine ⟨hb19, [.bool l_m7.neg, .slice A_m7 n_m7 c_m7, .int .i64 l_m7.e, .bool g_m7.neg, .slice B_m7 m_m7 k_m7, .int .i64 g_m7.e, .int .i64 x_m7], _, rfl, by kernel_rfl, by kernel_rfl, fun g19 => ?_⟩
                  replace F_a := F_a.mv g19.mv; replace F_b := F_b.mv g19.mv; replace r_L2l := g19.rdD r_L2l; replace r_L2h := g19.rdD r_L2h; replace r_L4l := g19.rdD r_L4l; replace r_L4h := g19.rdD r_L4h; replace r_L5l := g19.rdD r_L5l; replace r_L5h := g19.rdD r_L5h; replace r_L6l := g19.rdD r_L6l; replace r_L6h := g19.rdD r_L6h
                  clear h19 hb19
                  refine sat_chkB (by kernel_rfl) ?_
                  cases c_m : (me)
                  · refine sat_false (by kernel_rfl) ?_
                    refine sat_prim (v := .int .i64 (((i + 1 : Nat)) : Int)) (Eq.trans (b := some (.int .i64 (IntKind.i64.wrap ((((i) : Nat) : Int) + 1)))) (by kernel_rfl) (by rw [Sx.wrap_succ (n := a.length) (lt_of hlt) M_a])) ?_
                    exact sat_back [.int .i64 (((i + 1 : Nat)) : Int), .bool false, .bool (insideI x1 x3), .bool false] (by kernel_rfl) fun w9 h9 => ⟨_, by have := lt_of hlt; omega, i + 1, _, _, _, rfl, rfl, by have := lt_of hlt; omega, and_step_f hw c_w, and_step_t hj h_x1 h_x3 c_i, and_step_f hm c_m⟩
                  · refine sat_true (by kernel_rfl) ?_
                    refine sat_prim (v := .bool ((x_m7 : Int) == 0)) (by kernel_rfl) ?_
                    refine sat_prim (v := .int .i64 (((i + 1 : Nat)) : Int)) (Eq.trans (b := some (.int .i64 (IntKind.i64.wrap ((((i) : Nat) : Int) + 1)))) (by kernel_rfl) (by rw [Sx.wrap_succ (n := a.length) (lt_of hlt) M_a])) ?_
                    exact sat_back [.int .i64 (((i + 1 : Nat)) : Int), .bool ((x_m7 : Int) == 0), .bool (insideI x1 x3), .bool false] (by kernel_rfl) fun w9 h9 => ⟨_, by have := lt_of hlt; omega, i + 1, _, _, _, rfl, rfl, by have := lt_of hlt; omega, and_step_f hw c_w, and_step_t hj h_x1 h_x3 c_i, and_step_m hm h_x1 h_x3 c_m h_m7⟩
              · refine sat_true (by kernel_rfl) ?_
                refine sat_idx (A := A_a) (c := c_a) (kk := .i64) (i) (by kernel_rfl) (by kernel_rfl) (lt_of hlt) F_a.addr fun g13 o13 e13 => ?_
                obtain ⟨x1, h_x1⟩ : ∃ x_, a[(i)]? = some x_ := ⟨_, List.getElem?_eq_getElem (lt_of hlt)⟩
                refine sat_el F_a e13 h_x1 rfl (by kernel_rfl) (by kernel_rfl) (by kernel_rfl) ?_
                rintro _ ⟨A_L2, n_L2, c_L2, B_L2, m_L2, k_L2, rfl, r_L2l, r_L2h⟩
                refine sat_idx (A := A_b) (c := c_b) (kk := .i64) (i) (by kernel_rfl) (by kernel_rfl) (by have := lt_of hlt; omega) F_b.addr fun g14 o14 e14 => ?_
                obtain ⟨x3, h_x3⟩ : ∃ x_, b[(i)]? = some x_ := ⟨_, List.getElem?_eq_getElem (by have := lt_of hlt; omega)⟩
                refine sat_el F_b e14 h_x3 rfl (by kernel_rfl) (by kernel_rfl) (by kernel_rfl) ?_
                rintro _ ⟨A_L4, n_L4, c_L4, B_L4, m_L4, k_L4, rfl, r_L4l, r_L4h⟩
                refine sat_call #[.agg #[.bool x1.lo.neg, .slice A_L2 n_L2 c_L2, .int .i64 x1.lo.e, .bool x1.hi.neg, .slice B_L2 m_L2 k_L2, .int .i64 x1.hi.e], .agg #[.bool x3.lo.neg, .slice A_L4 n_L4 c_L4, .int .i64 x3.lo.e, .bool x3.hi.neg, .slice B_L4 m_L4 k_L4, .int .i64 x3.hi.e]] (by kernel_rfl) fun w15 h15 => ?_
                refine (withinI_any _ _ x1 x3 _ (mkI (h15.rdD r_L2l) (h15.rdD r_L2h)) (mkI (h15.rdD r_L4l) (h15.rdD r_L4h))).mono ?_
                rintro e v15 ⟨rfl, hb15⟩
                refine ⟨hb15, [.bool (withinI x1 x3)], _, rfl, by kernel_rfl, by kernel_rfl, fun g15 => ?_⟩
                replace F_a := F_a.mv g15.mv; replace F_b := F_b.mv g15.mv; replace r_L2l := g15.rdD r_L2l; replace r_L2h := g15.rdD r_L2h; replace r_L4l := g15.rdD r_L4l; replace r_L4h := g15.rdD r_L4h
                clear h15 hb15
                cases c_i : (ins)
                · refine sat_false (by kernel_rfl) ?_
                  refine sat_idx (A := A_a) (c := c_a) (kk := .i64) (i) (by kernel_rfl) (by kernel_rfl) (lt_of hlt) F_a.addr fun g17 o17 e17 => ?_
                  refine sat_el F_a e17 h_x1 rfl (by kernel_rfl) (by kernel_rfl) (by kernel_rfl) ?_
                  rintro _ ⟨A_L5, n_L5, c_L5, B_L5, m_L5, k_L5, rfl, r_L5l, r_L5h⟩
                  refine sat_idx (A := A_b) (c := c_b) (kk := .i64) (i) (by kernel_rfl) (by kernel_rfl) (by have := lt_of hlt; omega) F_b.addr fun g18 o18 e18 => ?_
                  refine sat_el F_b e18 h_x3 rfl (by kernel_rfl) (by kernel_rfl) (by kernel_rfl) ?_
                  rintro _ ⟨A_L6, n_L6, c_L6, B_L6, m_L6, k_L6, rfl, r_L6l, r_L6h⟩
                  refine sat_call #[.agg #[.bool x1.lo.neg, .slice A_L5 n_L5 c_L5, .int .i64 x1.lo.e, .bool x1.hi.neg, .slice B_L5 m_L5 k_L5, .int .i64 x1.hi.e], .agg #[.bool x3.lo.neg, .slice A_L6 n_L6 c_L6, .int .i64 x3.lo.e, .bool x3.hi.neg, .slice B_L6 m_L6 k_L6, .int .i64 x3.hi.e]] (by kernel_rfl) fun w19 h19 => ?_
                  refine (meetI_any _ _ x1 x3 _ (mkI (h19.rdD r_L5l) (h19.rdD r_L5h)) (mkI (h19.rdD r_L6l) (h19.rdD r_L6h))).mono ?_
                  rintro e v19 ⟨⟨l_m7, g_m7, x_m7, A_m7, n_m7, c_m7, B_m7, m_m7, k_m7, h_m7, rfl, r_m7l, r_m7h⟩, hb19⟩
                  refine ⟨hb19, [.bool l_m7.neg, .slice A_m7 n_m7 c_m7, .int .i64 l_m7.e, .bool g_m7.neg, .slice B_m7 m_m7 k_m7, .int .i64 g_m7.e, .int .i64 x_m7], _, rfl, by kernel_rfl, by kernel_rfl, fun g19 => ?_⟩
                  replace F_a := F_a.mv g19.mv; replace F_b := F_b.mv g19.mv; replace r_L2l := g19.rdD r_L2l; replace r_L2h := g19.rdD r_L2h; replace r_L4l := g19.rdD r_L4l; replace r_L4h := g19.rdD r_L4h; replace r_L5l := g19.rdD r_L5l; replace r_L5h := g19.rdD r_L5h; replace r_L6l := g19.rdD r_L6l; replace r_L6h := g19.rdD r_L6h
                  clear h19 hb19
                  refine sat_chkB (by kernel_rfl) ?_
                  cases c_m : (me)
                  · refine sat_false (by kernel_rfl) ?_
                    refine sat_prim (v := .int .i64 (((i + 1 : Nat)) : Int)) (Eq.trans (b := some (.int .i64 (IntKind.i64.wrap ((((i) : Nat) : Int) + 1)))) (by kernel_rfl) (by rw [Sx.wrap_succ (n := a.length) (lt_of hlt) M_a])) ?_
                    exact sat_back [.int .i64 (((i + 1 : Nat)) : Int), .bool false, .bool false, .bool (withinI x1 x3)] (by kernel_rfl) fun w9 h9 => ⟨_, by have := lt_of hlt; omega, i + 1, _, _, _, rfl, rfl, by have := lt_of hlt; omega, and_step_t hw h_x1 h_x3 c_w, and_step_f hj c_i, and_step_f hm c_m⟩
                  · refine sat_true (by kernel_rfl) ?_
                    refine sat_prim (v := .bool ((x_m7 : Int) == 0)) (by kernel_rfl) ?_
                    refine sat_prim (v := .int .i64 (((i + 1 : Nat)) : Int)) (Eq.trans (b := some (.int .i64 (IntKind.i64.wrap ((((i) : Nat) : Int) + 1)))) (by kernel_rfl) (by rw [Sx.wrap_succ (n := a.length) (lt_of hlt) M_a])) ?_
                    exact sat_back [.int .i64 (((i + 1 : Nat)) : Int), .bool ((x_m7 : Int) == 0), .bool false, .bool (withinI x1 x3)] (by kernel_rfl) fun w9 h9 => ⟨_, by have := lt_of hlt; omega, i + 1, _, _, _, rfl, rfl, by have := lt_of hlt; omega, and_step_t hw h_x1 h_x3 c_w, and_step_f hj c_i, and_step_m hm h_x1 h_x3 c_m h_m7⟩
                · refine sat_true (by kernel_rfl) ?_
                  refine sat_idx (A := A_a) (c := c_a) (kk := .i64) (i) (by kernel_rfl) (by kernel_rfl) (lt_of hlt) F_a.addr fun g17 o17 e17 => ?_
                  refine sat_el F_a e17 h_x1 rfl (by kernel_rfl) (by kernel_rfl) (by kernel_rfl) ?_
                  rintro _ ⟨A_L5, n_L5, c_L5, B_L5, m_L5, k_L5, rfl, r_L5l, r_L5h⟩
                  refine sat_idx (A := A_b) (c := c_b) (kk := .i64) (i) (by kernel_rfl) (by kernel_rfl) (by have := lt_of hlt; omega) F_b.addr fun g18 o18 e18 => ?_
                  refine sat_el F_b e18 h_x3 rfl (by kernel_rfl) (by kernel_rfl) (by kernel_rfl) ?_
                  rintro _ ⟨A_L6, n_L6, c_L6, B_L6, m_L6, k_L6, rfl, r_L6l, r_L6h⟩
                  refine sat_call #[.agg #[.bool x1.lo.neg, .slice A_L5 n_L5 c_L5, .int .i64 x1.lo.e, .bool x1.hi.neg, .slice B_L5 m_L5 k_L5, .int .i64 x1.hi.e], .agg #[.bool x3.lo.neg, .slice A_L6 n_L6 c_L6, .int .i64 x3.lo.e, .bool x3.hi.neg, .slice B_L6 m_L6 k_L6, .int .i64 x3.hi.e]] (by kernel_rfl) fun w19 h19 => ?_
                  refine (insideI_any _ _ x1 x3 _ (mkI (h19.rdD r_L5l) (h19.rdD r_L5h)) (mkI (h19.rdD r_L6l) (h19.rdD r_L6h))).mono ?_
                  rintro e v19 ⟨rfl, hb19⟩
                  refine ⟨hb19, [.bool (insideI x1 x3)], _, rfl, by kernel_rfl, by kernel_rfl, fun g19 => ?_⟩
                  replace F_a := F_a.mv g19.mv; replace F_b := F_b.mv g19.mv; replace r_L2l := g19.rdD r_L2l; replace r_L2h := g19.rdD r_L2h; replace r_L4l := g19.rdD r_L4l; replace r_L4h := g19.rdD r_L4h; replace r_L5l := g19.rdD r_L5l; replace r_L5h := g19.rdD r_L5h; replace r_L6l := g19.rdD r_L6l; replace r_L6h := g19.rdD r_L6h
                  clear h19 hb19
                  refine sat_idx (A := A_a) (c := c_a) (kk := .i64) (i) (by kernel_rfl) (by kernel_rfl) (lt_of hlt) F_a.addr fun g20 o20 e20 => ?_
                  refine sat_el F_a e20 h_x1 rfl (by kernel_rfl) (by kernel_rfl) (by kernel_rfl) ?_
                  rintro _ ⟨A_L7, n_L7, c_L7, B_L7, m_L7, k_L7, rfl, r_L7l, r_L7h⟩
                  refine sat_idx (A := A_b) (c := c_b) (kk := .i64) (i) (by kernel_rfl) (by kernel_rfl) (by have := lt_of hlt; omega) F_b.addr fun g21 o21 e21 => ?_
                  refine sat_el F_b e21 h_x3 rfl (by kernel_rfl) (by kernel_rfl) (by kernel_rfl) ?_
                  rintro _ ⟨A_L8, n_L8, c_L8, B_L8, m_L8, k_L8, rfl, r_L8l, r_L8h⟩
                  refine sat_call #[.agg #[.bool x1.lo.neg, .slice A_L7 n_L7 c_L7, .int .i64 x1.lo.e, .bool x1.hi.neg, .slice B_L7 m_L7 k_L7, .int .i64 x1.hi.e], .agg #[.bool x3.lo.neg, .slice A_L8 n_L8 c_L8, .int .i64 x3.lo.e, .bool x3.hi.neg, .slice B_L8 m_L8 k_L8, .int .i64 x3.hi.e]] (by kernel_rfl) fun w22 h22 => ?_
                  refine (meetI_any _ _ x1 x3 _ (mkI (h22.rdD r_L7l) (h22.rdD r_L7h)) (mkI (h22.rdD r_L8l) (h22.rdD r_L8h))).mono ?_
                  rintro e v22 ⟨⟨l_m9, g_m9, x_m9, A_m9, n_m9, c_m9, B_m9, m_m9, k_m9, h_m9, rfl, r_m9l, r_m9h⟩, hb22⟩
                  refine ⟨hb22, [.bool l_m9.neg, .slice A_m9 n_m9 c_m9, .int .i64 l_m9.e, .bool g_m9.neg, .slice B_m9 m_m9 k_m9, .int .i64 g_m9.e, .int .i64 x_m9], _, rfl, by kernel_rfl, by kernel_rfl, fun g22 => ?_⟩
                  replace F_a := F_a.mv g22.mv; replace F_b := F_b.mv g22.mv; replace r_L2l := g22.rdD r_L2l; replace r_L2h := g22.rdD r_L2h; replace r_L4l := g22.rdD r_L4l; replace r_L4h := g22.rdD r_L4h; replace r_L5l := g22.rdD r_L5l; replace r_L5h := g22.rdD r_L5h; replace r_L6l := g22.rdD r_L6l; replace r_L6h := g22.rdD r_L6h; replace r_L7l := g22.rdD r_L7l; replace r_L7h := g22.rdD r_L7h; replace r_L8l := g22.rdD r_L8l; replace r_L8h := g22.rdD r_L8h
                  clear h22 hb22
                  refine sat_chkB (by kernel_rfl) ?_
                  cases c_m : (me)
                  · refine sat_false (by kernel_rfl) ?_
                    refine sat_prim (v := .int .i64 (((i + 1 : Nat)) : Int)) (Eq.trans (b := some (.int .i64 (IntKind.i64.wrap ((((i) : Nat) : Int) + 1)))) (by kernel_rfl) (by rw [Sx.wrap_succ (n := a.length) (lt_of hlt) M_a])) ?_
                    exact sat_back [.int .i64 (((i + 1 : Nat)) : Int), .bool false, .bool (insideI x1 x3), .bool (withinI x1 x3)] (by kernel_rfl) fun w9 h9 => ⟨_, by have := lt_of hlt; omega, i + 1, _, _, _, rfl, rfl, by have := lt_of hlt; omega, and_step_t hw h_x1 h_x3 c_w, and_step_t hj h_x1 h_x3 c_i, and_step_f hm c_m⟩
                  · refine sat_true (by kernel_rfl) ?_
                    refine sat_prim (v := .bool ((x_m9 : Int) == 0)) (by kernel_rfl) ?_
                    refine sat_prim (v := .int .i64 (((i + 1 : Nat)) : Int)) (Eq.trans (b := some (.int .i64 (IntKind.i64.wrap ((((i) : Nat) : Int) + 1)))) (by kernel_rfl) (by rw [Sx.wrap_succ (n := a.length) (lt_of hlt) M_a])) ?_
                    exact sat_back [.int .i64 (((i + 1 : Nat)) : Int), .bool ((x_m9 : Int) == 0), .bool (insideI x1 x3), .bool (withinI x1 x3)] (by kernel_rfl) fun w9 h9 => ⟨_, by have := lt_of hlt; omega, i + 1, _, _, _, rfl, rfl, by have := lt_of hlt; omega, and_step_t hw h_x1 h_x3 c_w, and_step_t hj h_x1 h_x3 c_i, and_step_m hm h_x1 h_x3 c_m h_m9⟩
          · refine sat_true (by kernel_rfl) ?_
            refine sat_call #[] (by kernel_rfl) fun w10 h10 => ?_
            refine (told11_any _ (h10.tab hT)).mono ?_
            rintro e v10 ⟨rfl, hb10⟩
            refine ⟨hb10, [.bool true], _, rfl, by kernel_rfl, by kernel_rfl, fun g10 => ?_⟩
            replace F_a := F_a.mv g10.mv; replace F_b := F_b.mv g10.mv
            clear h10 hb10
            exact sat_ret (.bool true) (by kernel_rfl) fun w9 h9 => rfl

def tr_boxSets : Sx.Tree := .call 10 [.one (.lf 0)] .one (.prim .not [.lf 4] (.ite (.lf 5) (.call 12 [] .one (.ret (.one (.lf 6)))) (.call 10 [.one (.lf 1)] .one (.prim .not [.lf 6] (.ite (.lf 7) (.call 12 [] .one (.ret (.one (.lf 8)))) (.call 11 [.one (.lf 0)] .one (.prim .not [.lf 8] (.ite (.lf 9) (.call 12 [] .one (.ret (.one (.lf 10)))) (.call 11 [.one (.lf 1)] .one (.prim .not [.lf 10] (.ite (.lf 11) (.call 12 [] .one (.ret (.one (.lf 12)))) (.prim .len [.lf 0] (.prim .len [.lf 1] (.prim (.bin .neq) [.lf 12, .lf 13] (.ite (.lf 14) (.call 12 [] .one (.ret (.one (.lf 15)))) (.call 13 [.one (.lf 0), .one (.lf 2)] .one (.call 13 [.one (.lf 1), .one (.lf 3)] .one (.call 14 [.one (.lf 0), .one (.lf 1)] (.tup [(false, 1), (false, 1)]) (.call 15 [.one (.lf 0), .one (.lf 1)] (.tup [(false, 1), (false, 1)]) (.prim (.bin .neq) [.lf 18, .num .i64 0] (.ite (.lf 21) (.ret (.one (.bit false))) (.prim .len [.lf 15] (.prim .len [.lf 0] (.prim (.bin .neq) [.lf 22, .lf 23] (.ite (.lf 24) (.ret (.one (.bit false))) (.call 16 [.one (.lf 0), .one (.lf 15)] .one (.prim .not [.lf 25] (.ite (.lf 26) (.ret (.one (.bit false))) (.call 16 [.one (.lf 17), .one (.lf 15)] .one (.prim .not [.lf 27] (.ite (.lf 28) (.ret (.one (.bit false))) (.call 16 [.one (.lf 17), .one (.lf 16)] .one (.prim .not [.lf 29] (.ite (.lf 30) (.ret (.one (.bit false))) (.call 17 [.one (.lf 0), .one (.lf 17)] .one (.prim .not [.lf 31] (.ite (.lf 32) (.ret (.one (.bit false))) (.call 17 [.one (.lf 1), .one (.lf 17)] .one (.prim .not [.lf 33] (.ite (.lf 34) (.ret (.one (.bit false))) (.call 16 [.one (.lf 1), .one (.lf 15)] .one (.prim (.bin .neq) [.lf 20, .num .i64 0] (.ite (.lf 36) (.call 12 [] .one (.ite (.lf 37) (.prim (.bin .eql) [.lf 20, .num .i64 5] (.ite (.lf 38) (.prim .not [.lf 35] (.ret (.one (.lf 39)))) (.ret (.one (.bit false))))) (.ret (.one (.bit false))))) (.call 12 [] .one (.ite (.lf 37) (.call 17 [.one (.lf 19), .one (.lf 0)] .one (.ite (.lf 38) (.call 17 [.one (.lf 19), .one (.lf 1)] .one (.ite (.lf 39) (.call 16 [.one (.lf 19), .one (.lf 15)] .one (.prim (.bbin .eql) [.lf 40, .lf 35] (.ret (.one (.lf 41))))) (.ret (.one (.bit false))))) (.ret (.one (.bit false))))) (.ret (.one (.bit false))))))))))))))))))))))))))))))))))))))))))))))))
theorem tr_boxSets_eq : Sx.treeAt Tryd.prog 3 [] [] [(false, 1), (false, 1), (false, 1), (false, 1)] = some tr_boxSets := by kernel_rfl

set_option maxRecDepth 100000 in
set_option maxHeartbeats 4000000 in
theorem boxSets_any (A_a : Option Addr) (c_a : Nat) (A_b : Option Addr) (c_b : Nat) (a : List Iv) (b : List Iv) (i : Int) (k : Int) (w : World) (h_a : Sx.Rows Sx.kI (fun _ => True) w A_a a.length c_a a) (h_b : Sx.Rows Sx.kI (fun _ => True) w A_b b.length c_b b) (hT : TabAt w) :
    Calls Tryd.prog 3 #[.slice A_a a.length c_a, .slice A_b b.length c_b, .int .i64 i, .int .i64 k] w fun e w' => e = .returned (.bool true) ∧ Below w.heap.size w w' := by
  have F_a := h_a.start
  have M_a := h_a.le
  clear h_a
  have F_b := h_b.start
  have M_b := h_b.le
  clear h_b
  refine (Sx.runA [] [] (ls := [.slice A_a a.length c_a, .slice A_b b.length c_b, .int .i64 i, .int .i64 k]) (shs := [(false, 1), (false, 1), (false, 1), (false, 1)]) (R := fun v w' => v = .bool true) tr_boxSets_eq rfl (by decide) (fun q h => by cases h) ?_).mono (fun e w' ⟨v, he, hv, hb⟩ => ⟨by rw [he, hv], hb⟩)
  unfold tr_boxSets
  refine sat_call #[.slice A_a a.length c_a] (by kernel_rfl) fun w1 h1 => ?_
  refine (row8_any _ _ a _ ((F_a.mv h1.mv).any)).mono ?_
  rintro e v1 ⟨rfl, hb1⟩
  refine ⟨hb1, [.bool (fewB a)], _, rfl, by kernel_rfl, by kernel_rfl, fun g1 => ?_⟩
  replace F_a := F_a.mv g1.mv; replace F_b := F_b.mv g1.mv
  clear h1 hb1
  refine sat_prim (v := .bool (!(fewB a))) (by kernel_rfl) ?_
  cases h_few_a : (fewB a)
  · refine sat_true (by kernel_rfl) ?_
    refine sat_call #[] (by kernel_rfl) fun w3 h3 => ?_
    refine (told11_any _ (h3.tab hT)).mono ?_
    rintro e v3 ⟨rfl, hb3⟩
    refine ⟨hb3, [.bool true], _, rfl, by kernel_rfl, by kernel_rfl, fun g3 => ?_⟩
    replace F_a := F_a.mv g3.mv; replace F_b := F_b.mv g3.mv
    clear h3 hb3
    exact sat_ret (.bool true) (by kernel_rfl) fun w9 h9 => rfl
  · refine sat_false (by kernel_rfl) ?_
    refine sat_call #[.slice A_b b.length c_b] (by kernel_rfl) fun w3 h3 => ?_
    refine (row8_any _ _ b _ ((F_b.mv h3.mv).any)).mono ?_
    rintro e v3 ⟨rfl, hb3⟩
    refine ⟨hb3, [.bool (fewB b)], _, rfl, by kernel_rfl, by kernel_rfl, fun g3 => ?_⟩
    replace F_a := F_a.mv g3.mv; replace F_b := F_b.mv g3.mv
    clear h3 hb3
    refine sat_prim (v := .bool (!(fewB b))) (by kernel_rfl) ?_
    cases h_few_b : (fewB b)
    · refine sat_true (by kernel_rfl) ?_
      refine sat_call #[] (by kernel_rfl) fun w5 h5 => ?_
      refine (told11_any _ (h5.tab hT)).mono ?_
      rintro e v5 ⟨rfl, hb5⟩
      refine ⟨hb5, [.bool true], _, rfl, by kernel_rfl, by kernel_rfl, fun g5 => ?_⟩
      replace F_a := F_a.mv g5.mv; replace F_b := F_b.mv g5.mv
      clear h5 hb5
      exact sat_ret (.bool true) (by kernel_rfl) fun w9 h9 => rfl
    · refine sat_false (by kernel_rfl) ?_
      refine sat_call #[.slice A_a a.length c_a] (by kernel_rfl) fun w5 h5 => ?_
      refine (mayB_any _ _ a _ ((F_a.mv h5.mv).any)).mono ?_
      rintro e v5 ⟨rfl, hb5⟩
      refine ⟨hb5, [.bool (mayB a)], _, rfl, by kernel_rfl, by kernel_rfl, fun g5 => ?_⟩
      replace F_a := F_a.mv g5.mv; replace F_b := F_b.mv g5.mv
      clear h5 hb5
      refine sat_prim (v := .bool (!(mayB a))) (by kernel_rfl) ?_
      cases h_may_a : (mayB a)
      · refine sat_true (by kernel_rfl) ?_
        refine sat_call #[] (by kernel_rfl) fun w7 h7 => ?_
        refine (told11_any _ (h7.tab hT)).mono ?_
        rintro e v7 ⟨rfl, hb7⟩
        refine ⟨hb7, [.bool true], _, rfl, by kernel_rfl, by kernel_rfl, fun g7 => ?_⟩
        replace F_a := F_a.mv g7.mv; replace F_b := F_b.mv g7.mv
        clear h7 hb7
        exact sat_ret (.bool true) (by kernel_rfl) fun w9 h9 => rfl
      · refine sat_false (by kernel_rfl) ?_
        refine sat_call #[.slice A_b b.length c_b] (by kernel_rfl) fun w7 h7 => ?_
        refine (mayB_any _ _ b _ ((F_b.mv h7.mv).any)).mono ?_
        rintro e v7 ⟨rfl, hb7⟩
        refine ⟨hb7, [.bool (mayB b)], _, rfl, by kernel_rfl, by kernel_rfl, fun g7 => ?_⟩
        replace F_a := F_a.mv g7.mv; replace F_b := F_b.mv g7.mv
        clear h7 hb7
        refine sat_prim (v := .bool (!(mayB b))) (by kernel_rfl) ?_
        cases h_may_b : (mayB b)
        · refine sat_true (by kernel_rfl) ?_
          refine sat_call #[] (by kernel_rfl) fun w9 h9 => ?_
          refine (told11_any _ (h9.tab hT)).mono ?_
          rintro e v9 ⟨rfl, hb9⟩
          refine ⟨hb9, [.bool true], _, rfl, by kernel_rfl, by kernel_rfl, fun g9 => ?_⟩
          replace F_a := F_a.mv g9.mv; replace F_b := F_b.mv g9.mv
          clear h9 hb9
          exact sat_ret (.bool true) (by kernel_rfl) fun w9 h9 => rfl
        · refine sat_false (by kernel_rfl) ?_
          refine sat_prim (v := .int .i64 ((a.length : Nat) : Int)) (by kernel_rfl) ?_
          refine sat_prim (v := .int .i64 ((b.length : Nat) : Int)) (by kernel_rfl) ?_
          refine sat_prim (v := .bool ((((a.length : Nat) : Int) : Int) != ((b.length : Nat) : Int))) (by kernel_rfl) ?_
          cases hne : ((((a.length : Nat) : Int) : Int) != ((b.length : Nat) : Int))
          · refine sat_false (by kernel_rfl) ?_
            refine sat_call #[.slice A_a a.length c_a, .int .i64 i] (by kernel_rfl) fun w10 h10 => ?_
            refine (cornB_any _ _ a i _ ((F_a.mv h10.mv).any) (by have := fewB_len h_few_a; omega)).mono ?_
            rintro e v10 ⟨⟨l_q1, A_q1, c_q1, rfl, h_q1, F_q1⟩, hb10⟩
            refine ⟨hb10, [.slice A_q1 l_q1.length c_q1], _, rfl, by kernel_rfl, by kernel_rfl, fun g10 => ?_⟩
            replace F_a := F_a.mv g10.mv; replace F_b := F_b.mv g10.mv
            replace F_q1 := F_q1.mv (Sx.Mv.fresh h10.wf)
            clear h10 hb10
            refine sat_call #[.slice A_b b.length c_b, .int .i64 k] (by kernel_rfl) fun w11 h11 => ?_
            refine (cornB_any _ _ b k _ ((F_b.mv h11.mv).any) (by have := fewB_len h_few_b; omega)).mono ?_
            rintro e v11 ⟨⟨l_q3, A_q3, c_q3, rfl, h_q3, F_q3⟩, hb11⟩
            refine ⟨hb11, [.slice A_q3 l_q3.length c_q3], _, rfl, by kernel_rfl, by kernel_rfl, fun g11 => ?_⟩
            replace F_a := F_a.mv g11.mv; replace F_b := F_b.mv g11.mv; replace F_q1 := F_q1.mv g11.mv
            replace F_q3 := F_q3.mv (Sx.Mv.fresh h11.wf)
            clear h11 hb11
            refine sat_call #[.slice A_a a.length c_a, .slice A_b b.length c_b] (by kernel_rfl) fun w12 h12 => ?_
            refine (hullB_any _ _ _ _ a b _ ((F_a.mv h12.mv).any) ((F_b.mv h12.mv).any) (by have := fewB_len h_few_a; omega)).mono ?_
            rintro e v12 ⟨⟨l_b5, x_b5, A_b5, c_b5, rfl, h_b5, F_b5⟩, hb12⟩
            refine ⟨hb12, [.slice A_b5 l_b5.length c_b5, .int .i64 x_b5], _, rfl, by kernel_rfl, by kernel_rfl, fun g12 => ?_⟩
            replace F_a := F_a.mv g12.mv; replace F_b := F_b.mv g12.mv; replace F_q1 := F_q1.mv g12.mv; replace F_q3 := F_q3.mv g12.mv
            replace F_b5 := F_b5.mv (Sx.Mv.fresh h12.wf)
            clear h12 hb12
            have hT2 := two_of h_may_a h_may_b hne
            have OA := OkB.mk' h_may_a (rows_lims' F_a)
            have OB := OkB.mk' h_may_b (rows_lims' F_b)
            have BS := Bxs.mk' hT2 OA OB h_q1 h_q3 h_b5
            refine sat_call #[.slice A_a a.length c_a, .slice A_b b.length c_b] (by kernel_rfl) fun w13 h13 => ?_
            refine (meetB_any _ _ _ _ a b _ ((F_a.mv h13.mv).any) ((F_b.mv h13.mv).any) (by have := fewB_len h_few_a; omega)).mono ?_
            rintro e v13 ⟨⟨l_b6, x_b6, A_b6, c_b6, rfl, h_b6, F_b6⟩, hb13⟩
            refine ⟨hb13, [.slice A_b6 l_b6.length c_b6, .int .i64 x_b6], _, rfl, by kernel_rfl, by kernel_rfl, fun g13 => ?_⟩
            replace F_a := F_a.mv g13.mv; replace F_b := F_b.mv g13.mv; replace F_q1 := F_q1.mv g13.mv; replace F_q3 := F_q3.mv g13.mv; replace F_b5 := F_b5.mv g13.mv
            replace F_b6 := F_b6.mv (Sx.Mv.fresh h13.wf)
            clear h13 hb13
            refine sat_prim (v := .bool ((x_b5 : Int) != 0)) (by kernel_rfl) ?_
            refine sat_falseP (b := ((x_b5 : Int) != 0)) (by kernel_rfl) (by rw [BS.e0]; rfl) ?_
            refine sat_prim (v := .int .i64 ((l_q1.length : Nat) : Int)) (by kernel_rfl) ?_
            refine sat_prim (v := .int .i64 ((a.length : Nat) : Int)) (by kernel_rfl) ?_
            refine sat_prim (v := .bool ((((l_q1.length : Nat) : Int) : Int) != ((a.length : Nat) : Int))) (by kernel_rfl) ?_
            refine sat_falseP (b := ((((l_q1.length : Nat) : Int) : Int) != ((a.length : Nat) : Int))) (by kernel_rfl) (BS.len) ?_
            refine sat_call #[.slice A_a a.length c_a, .slice A_q1 l_q1.length c_q1] (by kernel_rfl) fun w14 h14 => ?_
            refine (hasB_any _ _ _ _ a l_q1 _ ((F_a.mv h14.mv).any) ((F_q1.mv h14.mv).any)).mono ?_
            rintro e v14 ⟨rfl, hb14⟩
            refine ⟨hb14, [.bool (hasB a l_q1)], _, rfl, by kernel_rfl, by kernel_rfl, fun g14 => ?_⟩
            replace F_a := F_a.mv g14.mv; replace F_b := F_b.mv g14.mv; replace F_q1 := F_q1.mv g14.mv; replace F_q3 := F_q3.mv g14.mv; replace F_b5 := F_b5.mv g14.mv; replace F_b6 := F_b6.mv g14.mv
            clear h14 hb14
            refine sat_prim (v := .bool (!(hasB a l_q1))) (by kernel_rfl) ?_
            refine sat_falseP (b := (!(hasB a l_q1))) (by kernel_rfl) (by rw [show (hasB a l_q1) = true from BS.h1]; rfl) ?_
            refine sat_call #[.slice A_b5 l_b5.length c_b5, .slice A_q1 l_q1.length c_q1] (by kernel_rfl) fun w15 h15 => ?_
            refine (hasB_any _ _ _ _ l_b5 l_q1 _ ((F_b5.mv h15.mv).any) ((F_q1.mv h15.mv).any)).mono ?_
            rintro e v15 ⟨rfl, hb15⟩
            refine ⟨hb15, [.bool (hasB l_b5 l_q1)], _, rfl, by kernel_rfl, by kernel_rfl, fun g15 => ?_⟩
            replace F_a := F_a.mv g15.mv; replace F_b := F_b.mv g15.mv; replace F_q1 := F_q1.mv g15.mv; replace F_q3 := F_q3.mv g15.mv; replace F_b5 := F_b5.mv g15.mv; replace F_b6 := F_b6.mv g15.mv
            clear h15 hb15
            refine sat_prim (v := .bool (!(hasB l_b5 l_q1))) (by kernel_rfl) ?_
            refine sat_falseP (b := (!(hasB l_b5 l_q1))) (by kernel_rfl) (by rw [show (hasB l_b5 l_q1) = true from BS.h2]; rfl) ?_
            refine sat_call #[.slice A_b5 l_b5.length c_b5, .slice A_q3 l_q3.length c_q3] (by kernel_rfl) fun w16 h16 => ?_
            refine (hasB_any _ _ _ _ l_b5 l_q3 _ ((F_b5.mv h16.mv).any) ((F_q3.mv h16.mv).any)).mono ?_
            rintro e v16 ⟨rfl, hb16⟩
            refine ⟨hb16, [.bool (hasB l_b5 l_q3)], _, rfl, by kernel_rfl, by kernel_rfl, fun g16 => ?_⟩
            replace F_a := F_a.mv g16.mv; replace F_b := F_b.mv g16.mv; replace F_q1 := F_q1.mv g16.mv; replace F_q3 := F_q3.mv g16.mv; replace F_b5 := F_b5.mv g16.mv; replace F_b6 := F_b6.mv g16.mv
            clear h16 hb16
            refine sat_prim (v := .bool (!(hasB l_b5 l_q3))) (by kernel_rfl) ?_
            refine sat_falseP (b := (!(hasB l_b5 l_q3))) (by kernel_rfl) (by rw [show (hasB l_b5 l_q3) = true from BS.h3]; rfl) ?_
            refine sat_call #[.slice A_a a.length c_a, .slice A_b5 l_b5.length c_b5] (by kernel_rfl) fun w17 h17 => ?_
            refine (withinB_any _ _ _ _ a l_b5 _ ((F_a.mv h17.mv).any) ((F_b5.mv h17.mv).any)).mono ?_
            rintro e v17 ⟨rfl, hb17⟩
            refine ⟨hb17, [.bool (withinB a l_b5)], _, rfl, by kernel_rfl, by kernel_rfl, fun g17 => ?_⟩
            replace F_a := F_a.mv g17.mv; replace F_b := F_b.mv g17.mv; replace F_q1 := F_q1.mv g17.mv; replace F_q3 := F_q3.mv g17.mv; replace F_b5 := F_b5.mv g17.mv; replace F_b6 := F_b6.mv g17.mv
            clear h17 hb17
            refine sat_prim (v := .bool (!(withinB a l_b5))) (by kernel_rfl) ?_
            refine sat_falseP (b := (!(withinB a l_b5))) (by kernel_rfl) (by rw [show (withinB a l_b5) = true from BS.w1]; rfl) ?_
            refine sat_call #[.slice A_b b.length c_b, .slice A_b5 l_b5.length c_b5] (by kernel_rfl) fun w18 h18 => ?_
            refine (withinB_any _ _ _ _ b l_b5 _ ((F_b.mv h18.mv).any) ((F_b5.mv h18.mv).any)).mono ?_
            rintro e v18 ⟨rfl, hb18⟩
            refine ⟨hb18, [.bool (withinB b l_b5)], _, rfl, by kernel_rfl, by kernel_rfl, fun g18 => ?_⟩
            replace F_a := F_a.mv g18.mv; replace F_b := F_b.mv g18.mv; replace F_q1 := F_q1.mv g18.mv; replace F_q3 := F_q3.mv g18.mv; replace F_b5 := F_b5.mv g18.mv; replace F_b6 := F_b6.mv g18.mv
            clear h18 hb18
            refine sat_prim (v := .bool (!(withinB b l_b5))) (by kernel_rfl) ?_
            refine sat_falseP (b := (!(withinB b l_b5))) (by kernel_rfl) (by rw [show (withinB b l_b5) = true from BS.w2]; rfl) ?_
            refine sat_call #[.slice A_b b.length c_b, .slice A_q1 l_q1.length c_q1] (by kernel_rfl) fun w19 h19 => ?_
            refine (hasB_any _ _ _ _ b l_q1 _ ((F_b.mv h19.mv).any) ((F_q1.mv h19.mv).any)).mono ?_
            rintro e v19 ⟨rfl, hb19⟩
            refine ⟨hb19, [.bool (hasB b l_q1)], _, rfl, by kernel_rfl, by kernel_rfl, fun g19 => ?_⟩
            replace F_a := F_a.mv g19.mv; replace F_b := F_b.mv g19.mv; replace F_q1 := F_q1.mv g19.mv; replace F_q3 := F_q3.mv g19.mv; replace F_b5 := F_b5.mv g19.mv; replace F_b6 := F_b6.mv g19.mv
            clear h19 hb19
            refine sat_prim (v := .bool ((x_b6 : Int) != 0)) (by kernel_rfl) ?_
            cases hf : ((x_b6 : Int) != 0)
            · refine sat_false (by kernel_rfl) ?_
              refine sat_call #[] (by kernel_rfl) fun w21 h21 => ?_
              refine (told11_any _ (h21.tab hT)).mono ?_
              rintro e v21 ⟨rfl, hb21⟩
              refine ⟨hb21, [.bool true], _, rfl, by kernel_rfl, by kernel_rfl, fun g21 => ?_⟩
              replace F_a := F_a.mv g21.mv; replace F_b := F_b.mv g21.mv; replace F_q1 := F_q1.mv g21.mv; replace F_q3 := F_q3.mv g21.mv; replace F_b5 := F_b5.mv g21.mv; replace F_b6 := F_b6.mv g21.mv
              clear h21 hb21
              refine sat_true (by kernel_rfl) ?_
              refine sat_call #[.slice A_b6 l_b6.length c_b6, .slice A_a a.length c_a] (by kernel_rfl) fun w22 h22 => ?_
              refine (withinB_any _ _ _ _ l_b6 a _ ((F_b6.mv h22.mv).any) ((F_a.mv h22.mv).any)).mono ?_
              rintro e v22 ⟨rfl, hb22⟩
              refine ⟨hb22, [.bool (withinB l_b6 a)], _, rfl, by kernel_rfl, by kernel_rfl, fun g22 => ?_⟩
              replace F_a := F_a.mv g22.mv; replace F_b := F_b.mv g22.mv; replace F_q1 := F_q1.mv g22.mv; replace F_q3 := F_q3.mv g22.mv; replace F_b5 := F_b5.mv g22.mv; replace F_b6 := F_b6.mv g22.mv
              clear h22 hb22
              refine sat_trueP (b := (withinB l_b6 a)) (by kernel_rfl) ((Mts.mk' hT2 OA OB h_q1 h_b6 hf).w1) ?_
              refine sat_call #[.slice A_b6 l_b6.length c_b6, .slice A_b b.length c_b] (by kernel_rfl) fun w23 h23 => ?_
              refine (withinB_any _ _ _ _ l_b6 b _ ((F_b6.mv h23.mv).any) ((F_b.mv h23.mv).any)).mono ?_
              rintro e v23 ⟨rfl, hb23⟩
              refine ⟨hb23, [.bool (withinB l_b6 b)], _, rfl, by kernel_rfl, by kernel_rfl, fun g23 => ?_⟩
              replace F_a := F_a.mv g23.mv; replace F_b := F_b.mv g23.mv; replace F_q1 := F_q1.mv g23.mv; replace F_q3 := F_q3.mv g23.mv; replace F_b5 := F_b5.mv g23.mv; replace F_b6 := F_b6.mv g23.mv
              clear h23 hb23
              refine sat_trueP (b := (withinB l_b6 b)) (by kernel_rfl) ((Mts.mk' hT2 OA OB h_q1 h_b6 hf).w2) ?_
              refine sat_call #[.slice A_b6 l_b6.length c_b6, .slice A_q1 l_q1.length c_q1] (by kernel_rfl) fun w24 h24 => ?_
              refine (hasB_any _ _ _ _ l_b6 l_q1 _ ((F_b6.mv h24.mv).any) ((F_q1.mv h24.mv).any)).mono ?_
              rintro e v24 ⟨rfl, hb24⟩
              refine ⟨hb24, [.bool (hasB l_b6 l_q1)], _, rfl, by kernel_rfl, by kernel_rfl, fun g24 => ?_⟩
              replace F_a := F_a.mv g24.mv; replace F_b := F_b.mv g24.mv; replace F_q1 := F_q1.mv g24.mv; replace F_q3 := F_q3.mv g24.mv; replace F_b5 := F_b5.mv g24.mv; replace F_b6 := F_b6.mv g24.mv
              clear h24 hb24
              refine sat_prim (v := .bool ((hasB l_b6 l_q1) == (hasB b l_q1))) (by kernel_rfl) ?_
              exact sat_ret (.bool ((hasB l_b6 l_q1) == (hasB b l_q1))) (by kernel_rfl) fun w9 h9 => congrArg Value.bool ((Mts.mk' hT2 OA OB h_q1 h_b6 hf).eq)
            · refine sat_true (by kernel_rfl) ?_
              refine sat_call #[] (by kernel_rfl) fun w21 h21 => ?_
              refine (told11_any _ (h21.tab hT)).mono ?_
              rintro e v21 ⟨rfl, hb21⟩
              refine ⟨hb21, [.bool true], _, rfl, by kernel_rfl, by kernel_rfl, fun g21 => ?_⟩
              replace F_a := F_a.mv g21.mv; replace F_b := F_b.mv g21.mv; replace F_q1 := F_q1.mv g21.mv; replace F_q3 := F_q3.mv g21.mv; replace F_b5 := F_b5.mv g21.mv; replace F_b6 := F_b6.mv g21.mv
              clear h21 hb21
              refine sat_true (by kernel_rfl) ?_
              refine sat_prim (v := .bool ((x_b6 : Int) == 5)) (by kernel_rfl) ?_
              refine sat_trueP (b := ((x_b6 : Int) == 5)) (by kernel_rfl) (by rw [(none_common hT2 OA OB h_q1 h_b6 hf).1]; rfl) ?_
              refine sat_prim (v := .bool (!(hasB b l_q1))) (by kernel_rfl) ?_
              exact sat_ret (.bool (!(hasB b l_q1))) (by kernel_rfl) fun w9 h9 => congrArg Value.bool (by rw [(none_common hT2 OA OB h_q1 h_b6 hf).2]; rfl)
          · refine sat_true (by kernel_rfl) ?_
            refine sat_call #[] (by kernel_rfl) fun w10 h10 => ?_
            refine (told11_any _ (h10.tab hT)).mono ?_
            rintro e v10 ⟨rfl, hb10⟩
            refine ⟨hb10, [.bool true], _, rfl, by kernel_rfl, by kernel_rfl, fun g10 => ?_⟩
            replace F_a := F_a.mv g10.mv; replace F_b := F_b.mv g10.mv
            clear h10 hb10
            exact sat_ret (.bool true) (by kernel_rfl) fun w9 h9 => rfl

end Go.Proofs.YtbpfnooloemieaaDoor
