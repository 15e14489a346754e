/- The walks of TubeOrder, TubeTimes, by their trees. Printed by wip/mk_TbH.py. -/
import Derived.Test.YtbpfnooloemieaaDoorTbRx
import Derived.Test.YtbpfnooloemieaaDoorTbQx
namespace Go.Proofs.YtbpfnooloemieaaDoor
open Go.RowKit Pl
open Sx (sat_call sat_chk sat_prim sat_ite sat_true sat_false sat_trueP sat_falseP sat_ret sat_row sat_callP sat_loop sat_back sat_idx sat_el sat_elf sat_elc sat_load sat_rowN sat_app sat_callB sat_alt rows_one rows_two all_nil all_cons okB okS okI)

theorem times_cases {a b : Tb} {x y : Dy} (P : In2 withinI a b) (gx : GD x) (gy : GD y) (h2 : ZD x ≤ ZD y) : (overT a x y = (Iv.zero, 5) ∧ overT b x y = (Iv.zero, 5)) ∨ ((∃ c d, overT a x y = (c, 0) ∧ overT b x y = (d, 0) ∧ withinI c d = true) ∧ ∃ c d, overT a x x = (c, 0) ∧ overT b x x = (d, 0) ∧ withinI c d = true) := by
  have nn : ∀ {t : Tb}, OkT t → ¬ (ZT t 0 ≤ ZD x ∧ ZD y ≤ ZT t t.v.length) → overT t x y = (Iv.zero, 5) := by
    intro t T h
    unfold overT
    rw [T.may, gx.may, gy.may, decide_eq_false (fun h => by have := (gx.gt gy).1 h; omega)]
    have h4 : (holdsT t x && holdsT t y) = false := by
      rw [Bool.eq_false_iff]
      intro h5
      rw [Bool.and_eq_true, holds_iff T gx, holds_iff T gy] at h5
      omega
    rw [h4]
    rfl
  by_cases h : ZT a 0 ≤ ZD x ∧ ZD y ≤ ZT a a.v.length
  · exact .inr ⟨times P gx gy h2 h.1 h.2, times P gx gx (Int.le_refl _) h.1 (by omega)⟩
  · refine .inl ⟨nn P.A h, nn P.B fun h3 => h ?_⟩
    rw [P.z0, P.z1]
    exact h3
theorem tms {a b : Tb} {x y l1 g1 l2 g2 : Dy} {x1 x2 : Int} (la : LimT a) (lb : LimT b) (hw : besideT withinI a b = true) (gx : GD x) (gy : GD y) (h2 : ZD x ≤ ZD y) (k1 : Hid ((⟨l1, g1⟩, x1) = overT a x y)) (k2 : Hid ((⟨l2, g2⟩, x2) = overT b x y)) :
    (x1 != x2) = false ∧ ((x1 != 0) = true → (x1 == 5) = true) ∧ ((x1 != 0) = false → withinI ⟨l1, g1⟩ ⟨l2, g2⟩ = true ∧ ∃ c d, overT a x x = (c, 0) ∧ overT b x x = (d, 0) ∧ withinI c d = true) := by
  rcases times_cases ((beside_iff la lb).1 hw) gx gy h2 with ⟨e1, e2⟩ | ⟨⟨c, d, e1, e2, hcd⟩, he⟩
  · have h1 := k1.out.trans e1
    have h2 := k2.out.trans e2
    cases h1
    cases h2
    exact ⟨rfl, fun _ => rfl, fun h => (by cases h)⟩
  · have h1 := k1.out.trans e1
    have h2 := k2.out.trans e2
    cases h1
    cases h2
    exact ⟨rfl, fun h => (by cases h), fun _ => ⟨hcd, he⟩⟩
theorem tms_at {a b : Tb} {x l1 g1 l2 g2 : Dy} {x1 x2 : Int} (h : ∃ c d, overT a x x = (c, 0) ∧ overT b x x = (d, 0) ∧ withinI c d = true) (k1 : Hid ((⟨l1, g1⟩, x1) = overT a x x)) (k2 : Hid ((⟨l2, g2⟩, x2) = overT b x x)) : (x1 == 0) = true ∧ (x2 == 0) = true ∧ withinI ⟨l1, g1⟩ ⟨l2, g2⟩ = true := by
  obtain ⟨c, d, e1, e2, hcd⟩ := h
  have h1 := k1.out.trans e1
  have h2 := k2.out.trans e2
  cases h1
  cases h2
  exact ⟨rfl, rfl, hcd⟩

def tr_tubeOrder : Sx.Tree := .chk [.lf 0, .lf 1] (.chk [.lf 2, .lf 3] (.chk [.lf 4, .lf 5] (.call 22 [.ag [.lf 0, .lf 1]] .one (.prim .not [.lf 6] (.ite (.lf 7) (.call 25 [] .one (.ret (.one (.lf 8)))) (.call 22 [.ag [.lf 2, .lf 3]] .one (.prim .not [.lf 8] (.ite (.lf 9) (.call 25 [] .one (.ret (.one (.lf 10)))) (.call 22 [.ag [.lf 4, .lf 5]] .one (.prim .not [.lf 10] (.ite (.lf 11) (.call 25 [] .one (.ret (.one (.lf 12)))) (.call 30 [.ag [.lf 0, .lf 1]] .one (.prim .not [.lf 12] (.ite (.lf 13) (.call 25 [] .one (.ret (.one (.lf 14)))) (.prim (.idx 3) [.lf 0, .num .i64 0] (.load 35 (.lf 14) (.ag 3) (.prim .len [.lf 1] (.prim (.idx 3) [.lf 0, .lf 18] (.load 35 (.lf 19) (.ag 3) (.call 27 [.ag [.lf 0, .lf 1], .ag [.lf 15, .lf 16, .lf 17], .ag [.lf 20, .lf 21, .lf 22]] (.tup [(true, 6), (false, 1)]) (.chk [.lf 23, .lf 24, .lf 25, .lf 26, .lf 27, .lf 28] (.prim (.idx 3) [.lf 0, .num .i64 0] (.load 35 (.lf 30) (.ag 3) (.prim .len [.lf 1] (.prim (.idx 3) [.lf 0, .lf 34] (.load 35 (.lf 35) (.ag 3) (.call 31 [.ag [.lf 31, .lf 32, .lf 33], .ag [.lf 36, .lf 37, .lf 38], .ag [.lf 23, .lf 24, .lf 25, .lf 26, .lf 27, .lf 28]] (.tup [(true, 2), (false, 1)]) (.chk [.lf 39, .lf 40] (.prim (.bin .neq) [.lf 29, .num .i64 0] (.ite (.lf 42) (.ret (.one (.bit false))) (.prim (.bin .neq) [.lf 41, .num .i64 0] (.ite (.lf 43) (.ret (.one (.bit false))) (.call 23 [.ag [.lf 0, .lf 1], .ag [.lf 0, .lf 1]] .one (.prim .not [.lf 44] (.ite (.lf 45) (.ret (.one (.bit false))) (.call 23 [.ag [.lf 0, .lf 1], .ag [.lf 39, .lf 40]] .one (.prim .not [.lf 46] (.ite (.lf 47) (.ret (.one (.bit false))) (.call 29 [.ag [.lf 0, .lf 1], .ag [.lf 0, .lf 1]] .one (.ite (.lf 48) (.ret (.one (.bit false))) (.call 25 [] .one (.ite (.lf 49) (.call 23 [.ag [.lf 0, .lf 1], .ag [.lf 2, .lf 3]] .one (.prim .not [.lf 50] (.ite (.lf 51) (.call 29 [.ag [.lf 0, .lf 1], .ag [.lf 2, .lf 3]] .one (.prim .not [.lf 52] (.ite (.lf 53) (.ret (.one (.bit true))) (.call 23 [.ag [.lf 2, .lf 3], .ag [.lf 4, .lf 5]] .one (.prim .not [.lf 54] (.ite (.lf 55) (.ret (.one (.bit true))) (.call 29 [.ag [.lf 0, .lf 1], .ag [.lf 4, .lf 5]] .one (.ret (.one (.lf 56)))))))))) (.call 23 [.ag [.lf 2, .lf 3], .ag [.lf 4, .lf 5]] .one (.prim .not [.lf 52] (.ite (.lf 53) (.call 29 [.ag [.lf 0, .lf 1], .ag [.lf 2, .lf 3]] .one (.prim .not [.lf 54] (.ite (.lf 55) (.ret (.one (.bit true))) (.call 23 [.ag [.lf 2, .lf 3], .ag [.lf 4, .lf 5]] .one (.prim .not [.lf 56] (.ite (.lf 57) (.ret (.one (.bit true))) (.call 29 [.ag [.lf 0, .lf 1], .ag [.lf 4, .lf 5]] .one (.ret (.one (.lf 58)))))))))) (.call 23 [.ag [.lf 0, .lf 1], .ag [.lf 4, .lf 5]] .one (.ite (.lf 54) (.call 29 [.ag [.lf 0, .lf 1], .ag [.lf 2, .lf 3]] .one (.prim .not [.lf 55] (.ite (.lf 56) (.ret (.one (.bit true))) (.call 23 [.ag [.lf 2, .lf 3], .ag [.lf 4, .lf 5]] .one (.prim .not [.lf 57] (.ite (.lf 58) (.ret (.one (.bit true))) (.call 29 [.ag [.lf 0, .lf 1], .ag [.lf 4, .lf 5]] .one (.ret (.one (.lf 59)))))))))) (.ret (.one (.bit false))))))))))) (.ret (.one (.bit false)))))))))))))))))))))))))))))))))))))))))))))
theorem tr_tubeOrder_eq : Sx.treeAt Tryd.prog 6 [] [] [(true, 2), (true, 2), (true, 2)] = some tr_tubeOrder := by kernel_rfl

set_option maxRecDepth 100000 in
set_option maxHeartbeats 4000000 in
theorem tubeOrder_any (A_a : Option Addr) (c_a : Nat) (B_a : Option Addr) (d_a : Nat) (A_b : Option Addr) (c_b : Nat) (B_b : Option Addr) (d_b : Nat) (A_c : Option Addr) (c_c : Nat) (B_c : Option Addr) (d_c : Nat) (a : Tb) (b : Tb) (c : Tb) (w : World) (h_a1 : Sx.Rows Sx.kD (fun _ => True) w A_a a.at_.length c_a a.at_) (h_a2 : Sx.Rows Sx.kI (fun _ => True) w B_a a.v.length d_a a.v) (h_b1 : Sx.Rows Sx.kD (fun _ => True) w A_b b.at_.length c_b b.at_) (h_b2 : Sx.Rows Sx.kI (fun _ => True) w B_b b.v.length d_b b.v) (h_c1 : Sx.Rows Sx.kD (fun _ => True) w A_c c.at_.length c_c c.at_) (h_c2 : Sx.Rows Sx.kI (fun _ => True) w B_c c.v.length d_c c.v) (hT : TabAt w) :
    Calls Tryd.prog 6 #[.agg #[.slice A_a a.at_.length c_a, .slice B_a a.v.length d_a], .agg #[.slice A_b b.at_.length c_b, .slice B_b b.v.length d_b], .agg #[.slice A_c c.at_.length c_c, .slice B_c c.v.length d_c]] w fun e w' => e = .returned (.bool true) ∧ Below w.heap.size w w' := by
  have F_a1 := h_a1.start
  have M_a1 := h_a1.le
  clear h_a1
  have F_a2 := h_a2.start
  have M_a2 := h_a2.le
  clear h_a2
  have F_b1 := h_b1.start
  have M_b1 := h_b1.le
  clear h_b1
  have F_b2 := h_b2.start
  have M_b2 := h_b2.le
  clear h_b2
  have F_c1 := h_c1.start
  have M_c1 := h_c1.le
  clear h_c1
  have F_c2 := h_c2.start
  have M_c2 := h_c2.le
  clear h_c2
  refine (Sx.runA [] [] (ls := [.slice A_a a.at_.length c_a, .slice B_a a.v.length d_a, .slice A_b b.at_.length c_b, .slice B_b b.v.length d_b, .slice A_c c.at_.length c_c, .slice B_c c.v.length d_c]) (shs := [(true, 2), (true, 2), (true, 2)]) (R := fun v w' => v = .bool true) tr_tubeOrder_eq rfl (by decide) (fun q h => by cases h) ?_).mono (fun e w' ⟨v, he, hv, hb⟩ => ⟨by rw [he, hv], hb⟩)
  unfold tr_tubeOrder
  refine sat_chkB (by kernel_rfl) ?_
  refine sat_chkB (by kernel_rfl) ?_
  refine sat_chkB (by kernel_rfl) ?_
  refine sat_call #[.agg #[.slice A_a a.at_.length c_a, .slice B_a a.v.length d_a]] (by kernel_rfl) fun w1 h1 => ?_
  refine (fewT_any _ _ _ _ a _ ((F_a1.mv h1.mv).any) ((F_a2.mv h1.mv).any)).mono ?_
  rintro e v1 ⟨rfl, hb1⟩
  refine ⟨hb1, [.bool (fewT a)], _, rfl, by kernel_rfl, by kernel_rfl, fun g1 => ?_⟩
  replace F_a1 := F_a1.mv g1.mv; replace F_a2 := F_a2.mv g1.mv; replace F_b1 := F_b1.mv g1.mv; replace F_b2 := F_b2.mv g1.mv; replace F_c1 := F_c1.mv g1.mv; replace F_c2 := F_c2.mv g1.mv
  clear h1 hb1
  refine sat_prim (v := .bool (!(fewT a))) (by kernel_rfl) ?_
  cases h_few_a : (fewT a)
  · refine sat_true (by kernel_rfl) ?_
    refine sat_call #[] (by kernel_rfl) fun w3 h3 => ?_
    refine (told13_any _ (h3.tab hT)).mono ?_
    rintro e v3 ⟨rfl, hb3⟩
    refine ⟨hb3, [.bool true], _, rfl, by kernel_rfl, by kernel_rfl, fun g3 => ?_⟩
    replace F_a1 := F_a1.mv g3.mv; replace F_a2 := F_a2.mv g3.mv; replace F_b1 := F_b1.mv g3.mv; replace F_b2 := F_b2.mv g3.mv; replace F_c1 := F_c1.mv g3.mv; replace F_c2 := F_c2.mv g3.mv
    clear h3 hb3
    exact sat_ret (.bool true) (by kernel_rfl) fun w9 h9 => rfl
  · refine sat_false (by kernel_rfl) ?_
    refine sat_call #[.agg #[.slice A_b b.at_.length c_b, .slice B_b b.v.length d_b]] (by kernel_rfl) fun w3 h3 => ?_
    refine (fewT_any _ _ _ _ b _ ((F_b1.mv h3.mv).any) ((F_b2.mv h3.mv).any)).mono ?_
    rintro e v3 ⟨rfl, hb3⟩
    refine ⟨hb3, [.bool (fewT b)], _, rfl, by kernel_rfl, by kernel_rfl, fun g3 => ?_⟩
    replace F_a1 := F_a1.mv g3.mv; replace F_a2 := F_a2.mv g3.mv; replace F_b1 := F_b1.mv g3.mv; replace F_b2 := F_b2.mv g3.mv; replace F_c1 := F_c1.mv g3.mv; replace F_c2 := F_c2.mv g3.mv
    clear h3 hb3
    refine sat_prim (v := .bool (!(fewT b))) (by kernel_rfl) ?_
    cases h_few_b : (fewT b)
    · refine sat_true (by kernel_rfl) ?_
      refine sat_call #[] (by kernel_rfl) fun w5 h5 => ?_
      refine (told13_any _ (h5.tab hT)).mono ?_
      rintro e v5 ⟨rfl, hb5⟩
      refine ⟨hb5, [.bool true], _, rfl, by kernel_rfl, by kernel_rfl, fun g5 => ?_⟩
      replace F_a1 := F_a1.mv g5.mv; replace F_a2 := F_a2.mv g5.mv; replace F_b1 := F_b1.mv g5.mv; replace F_b2 := F_b2.mv g5.mv; replace F_c1 := F_c1.mv g5.mv; replace F_c2 := F_c2.mv g5.mv
      clear h5 hb5
      exact sat_ret (.bool true) (by kernel_rfl) fun w9 h9 => rfl
    · refine sat_false (by kernel_rfl) ?_
      refine sat_call #[.agg #[.slice A_c c.at_.length c_c, .slice B_c c.v.length d_c]] (by kernel_rfl) fun w5 h5 => ?_
      refine (fewT_any _ _ _ _ c _ ((F_c1.mv h5.mv).any) ((F_c2.mv h5.mv).any)).mono ?_
      rintro e v5 ⟨rfl, hb5⟩
      refine ⟨hb5, [.bool (fewT c)], _, rfl, by kernel_rfl, by kernel_rfl, fun g5 => ?_⟩
      replace F_a1 := F_a1.mv g5.mv; replace F_a2 := F_a2.mv g5.mv; replace F_b1 := F_b1.mv g5.mv; replace F_b2 := F_b2.mv g5.mv; replace F_c1 := F_c1.mv g5.mv; replace F_c2 := F_c2.mv g5.mv
      clear h5 hb5
      refine sat_prim (v := .bool (!(fewT c))) (by kernel_rfl) ?_
      cases h_few_c : (fewT c)
      · refine sat_true (by kernel_rfl) ?_
        refine sat_call #[] (by kernel_rfl) fun w7 h7 => ?_
        refine (told13_any _ (h7.tab hT)).mono ?_
        rintro e v7 ⟨rfl, hb7⟩
        refine ⟨hb7, [.bool true], _, rfl, by kernel_rfl, by kernel_rfl, fun g7 => ?_⟩
        replace F_a1 := F_a1.mv g7.mv; replace F_a2 := F_a2.mv g7.mv; replace F_b1 := F_b1.mv g7.mv; replace F_b2 := F_b2.mv g7.mv; replace F_c1 := F_c1.mv g7.mv; replace F_c2 := F_c2.mv g7.mv
        clear h7 hb7
        exact sat_ret (.bool true) (by kernel_rfl) fun w9 h9 => rfl
      · refine sat_false (by kernel_rfl) ?_
        refine sat_call #[.agg #[.slice A_a a.at_.length c_a, .slice B_a a.v.length d_a]] (by kernel_rfl) fun w7 h7 => ?_
        refine (mayT_any _ _ _ _ a _ ((F_a1.mv h7.mv).any) ((F_a2.mv h7.mv).any)).mono ?_
        rintro e v7 ⟨rfl, hb7⟩
        refine ⟨hb7, [.bool (mayT a)], _, rfl, by kernel_rfl, by kernel_rfl, fun g7 => ?_⟩
        replace F_a1 := F_a1.mv g7.mv; replace F_a2 := F_a2.mv g7.mv; replace F_b1 := F_b1.mv g7.mv; replace F_b2 := F_b2.mv g7.mv; replace F_c1 := F_c1.mv g7.mv; replace F_c2 := F_c2.mv g7.mv
        clear h7 hb7
        refine sat_prim (v := .bool (!(mayT a))) (by kernel_rfl) ?_
        cases h_may_a : (mayT a)
        · refine sat_true (by kernel_rfl) ?_
          refine sat_call #[] (by kernel_rfl) fun w9 h9 => ?_
          refine (told13_any _ (h9.tab hT)).mono ?_
          rintro e v9 ⟨rfl, hb9⟩
          refine ⟨hb9, [.bool true], _, rfl, by kernel_rfl, by kernel_rfl, fun g9 => ?_⟩
          replace F_a1 := F_a1.mv g9.mv; replace F_a2 := F_a2.mv g9.mv; replace F_b1 := F_b1.mv g9.mv; replace F_b2 := F_b2.mv g9.mv; replace F_c1 := F_c1.mv g9.mv; replace F_c2 := F_c2.mv g9.mv
          clear h9 hb9
          exact sat_ret (.bool true) (by kernel_rfl) fun w9 h9 => rfl
        · refine sat_false (by kernel_rfl) ?_
          refine sat_idx (A := A_a) (c := c_a) (kk := .i64) 0 (by kernel_rfl) (by kernel_rfl) (by have := (MayT.of h_may_a).len; omega) F_a1.addr fun g9 o9 e9 => ?_
          obtain ⟨x1, h_x1⟩ : ∃ x_, a.at_[0]? = some x_ := ⟨_, List.getElem?_eq_getElem (by have := (MayT.of h_may_a).len; omega)⟩
          refine sat_el F_a1 e9 h_x1 rfl (by kernel_rfl) (by kernel_rfl) (by kernel_rfl) ?_
          rintro _ ⟨A_L2, n_L2, c_L2, rfl, r_L2⟩
          refine sat_prim (v := .int .i64 ((a.v.length : Nat) : Int)) (by kernel_rfl) ?_
          refine sat_idx (A := A_a) (c := c_a) (kk := .i64) (a.v.length) (by kernel_rfl) (by kernel_rfl) (by have := (MayT.of h_may_a).len; omega) F_a1.addr fun g10 o10 e10 => ?_
          obtain ⟨x3, h_x3⟩ : ∃ x_, a.at_[(a.v.length)]? = some x_ := ⟨_, List.getElem?_eq_getElem (by have := (MayT.of h_may_a).len; omega)⟩
          refine sat_el F_a1 e10 h_x3 rfl (by kernel_rfl) (by kernel_rfl) (by kernel_rfl) ?_
          rintro _ ⟨A_L4, n_L4, c_L4, rfl, r_L4⟩
          refine sat_call #[.agg #[.slice A_a a.at_.length c_a, .slice B_a a.v.length d_a], .agg #[.bool x1.neg, .slice A_L2 n_L2 c_L2, .int .i64 x1.e], .agg #[.bool x3.neg, .slice A_L4 n_L4 c_L4, .int .i64 x3.e]] (by kernel_rfl) fun w11 h11 => ?_
          refine (overT_any _ _ _ _ _ _ a (x1) (x3) _ ((F_a1.mv h11.mv).any) ((F_a2.mv h11.mv).any) (h11.rdD r_L2) (h11.rdD r_L4)).mono ?_
          rintro e v11 ⟨⟨l_o5, g_o5, x_o5, A_o5, n_o5, c_o5, B_o5, m_o5, k_o5, h_o5, rfl, r_o5l, r_o5h⟩, hb11⟩
          refine ⟨hb11, [.bool l_o5.neg, .slice A_o5 n_o5 c_o5, .int .i64 l_o5.e, .bool g_o5.neg, .slice B_o5 m_o5 k_o5, .int .i64 g_o5.e, .int .i64 x_o5], _, rfl, by kernel_rfl, by kernel_rfl, fun g11 => ?_⟩
          replace F_a1 := F_a1.mv g11.mv; replace F_a2 := F_a2.mv g11.mv; replace F_b1 := F_b1.mv g11.mv; replace F_b2 := F_b2.mv g11.mv; replace F_c1 := F_c1.mv g11.mv; replace F_c2 := F_c2.mv g11.mv; replace r_L2 := g11.rdD r_L2; replace r_L4 := g11.rdD r_L4
          clear h11 hb11
          refine sat_chkB (by kernel_rfl) ?_
          refine sat_idx (A := A_a) (c := c_a) (kk := .i64) 0 (by kernel_rfl) (by kernel_rfl) (by have := (MayT.of h_may_a).len; omega) F_a1.addr fun g12 o12 e12 => ?_
          refine sat_el F_a1 e12 h_x1 rfl (by kernel_rfl) (by kernel_rfl) (by kernel_rfl) ?_
          rintro _ ⟨A_L6, n_L6, c_L6, rfl, r_L6⟩
          refine sat_prim (v := .int .i64 ((a.v.length : Nat) : Int)) (by kernel_rfl) ?_
          refine sat_idx (A := A_a) (c := c_a) (kk := .i64) (a.v.length) (by kernel_rfl) (by kernel_rfl) (by have := (MayT.of h_may_a).len; omega) F_a1.addr fun g13 o13 e13 => ?_
          refine sat_el F_a1 e13 h_x3 rfl (by kernel_rfl) (by kernel_rfl) (by kernel_rfl) ?_
          rintro _ ⟨A_L7, n_L7, c_L7, rfl, r_L7⟩
          refine sat_call #[.agg #[.bool x1.neg, .slice A_L6 n_L6 c_L6, .int .i64 x1.e], .agg #[.bool x3.neg, .slice A_L7 n_L7 c_L7, .int .i64 x3.e], .agg #[.bool l_o5.neg, .slice A_o5 n_o5 c_o5, .int .i64 l_o5.e, .bool g_o5.neg, .slice B_o5 m_o5 k_o5, .int .i64 g_o5.e]] (by kernel_rfl) fun w14 h14 => ?_
          refine (makeT_any _ _ _ (x1) (x3) ⟨l_o5, g_o5⟩ _ (h14.rdD r_L6) (h14.rdD r_L7) (mkI (h14.rdD r_o5l) (h14.rdD r_o5h))).mono ?_
          rintro e v14 ⟨⟨p_t8, q_t8, x_t8, A_t8, c_t8, B_t8, d_t8, rfl, h_t8, F_t81, F_t82⟩, hb14⟩
          refine ⟨hb14, [.slice A_t8 p_t8.length c_t8, .slice B_t8 q_t8.length d_t8, .int .i64 x_t8], _, rfl, by kernel_rfl, by kernel_rfl, fun g14 => ?_⟩
          replace F_a1 := F_a1.mv g14.mv; replace F_a2 := F_a2.mv g14.mv; replace F_b1 := F_b1.mv g14.mv; replace F_b2 := F_b2.mv g14.mv; replace F_c1 := F_c1.mv g14.mv; replace F_c2 := F_c2.mv g14.mv; replace r_L2 := g14.rdD r_L2; replace r_L4 := g14.rdD r_L4; replace r_o5l := g14.rdD r_o5l; replace r_o5h := g14.rdD r_o5h; replace r_L6 := g14.rdD r_L6; replace r_L7 := g14.rdD r_L7
          replace F_t81 := F_t81.mv (Sx.Mv.fresh h14.wf)
          replace F_t82 := F_t82.mv (Sx.Mv.fresh h14.wf)
          clear h14 hb14
          have OD := Ord.mk' h_may_a (limT F_a1 F_a2) h_x1 h_x3 h_o5 h_t8
          refine sat_chkB (by kernel_rfl) ?_
          refine sat_prim (v := .bool ((x_o5 : Int) != 0)) (by kernel_rfl) ?_
          refine sat_falseP (b := ((x_o5 : Int) != 0)) (by kernel_rfl) (by rw [OD.e0]; rfl) ?_
          refine sat_prim (v := .bool ((x_t8 : Int) != 0)) (by kernel_rfl) ?_
          refine sat_falseP (b := ((x_t8 : Int) != 0)) (by kernel_rfl) (by rw [OD.f0]; rfl) ?_
          refine sat_call #[.agg #[.slice A_a a.at_.length c_a, .slice B_a a.v.length d_a], .agg #[.slice A_a a.at_.length c_a, .slice B_a a.v.length d_a]] (by kernel_rfl) fun w15 h15 => ?_
          refine (withinT_any _ _ _ _ _ _ _ _ a a _ ((F_a1.mv h15.mv).any) ((F_a2.mv h15.mv).any) ((F_a1.mv h15.mv).any) ((F_a2.mv h15.mv).any)).mono ?_
          rintro e v15 ⟨rfl, hb15⟩
          refine ⟨hb15, [.bool (besideT withinI a a)], _, rfl, by kernel_rfl, by kernel_rfl, fun g15 => ?_⟩
          replace F_a1 := F_a1.mv g15.mv; replace F_a2 := F_a2.mv g15.mv; replace F_b1 := F_b1.mv g15.mv; replace F_b2 := F_b2.mv g15.mv; replace F_c1 := F_c1.mv g15.mv; replace F_c2 := F_c2.mv g15.mv; replace r_L2 := g15.rdD r_L2; replace r_L4 := g15.rdD r_L4; replace r_o5l := g15.rdD r_o5l; replace r_o5h := g15.rdD r_o5h; replace r_L6 := g15.rdD r_L6; replace r_L7 := g15.rdD r_L7; replace F_t81 := F_t81.mv g15.mv; replace F_t82 := F_t82.mv g15.mv
          clear h15 hb15
          refine sat_prim (v := .bool (!(besideT withinI a a))) (by kernel_rfl) ?_
          refine sat_falseP (b := (!(besideT withinI a a))) (by kernel_rfl) (by rw [show (besideT withinI a a) = true from OD.w1]; rfl) ?_
          refine sat_call #[.agg #[.slice A_a a.at_.length c_a, .slice B_a a.v.length d_a], .agg #[.slice A_t8 p_t8.length c_t8, .slice B_t8 q_t8.length d_t8]] (by kernel_rfl) fun w16 h16 => ?_
          refine (withinT_any _ _ _ _ _ _ _ _ a (⟨p_t8, q_t8⟩ : Tb) _ ((F_a1.mv h16.mv).any) ((F_a2.mv h16.mv).any) ((F_t81.mv h16.mv).any) ((F_t82.mv h16.mv).any)).mono ?_
          rintro e v16 ⟨rfl, hb16⟩
          refine ⟨hb16, [.bool (besideT withinI a (⟨p_t8, q_t8⟩ : Tb))], _, rfl, by kernel_rfl, by kernel_rfl, fun g16 => ?_⟩
          replace F_a1 := F_a1.mv g16.mv; replace F_a2 := F_a2.mv g16.mv; replace F_b1 := F_b1.mv g16.mv; replace F_b2 := F_b2.mv g16.mv; replace F_c1 := F_c1.mv g16.mv; replace F_c2 := F_c2.mv g16.mv; replace r_L2 := g16.rdD r_L2; replace r_L4 := g16.rdD r_L4; replace r_o5l := g16.rdD r_o5l; replace r_o5h := g16.rdD r_o5h; replace r_L6 := g16.rdD r_L6; replace r_L7 := g16.rdD r_L7; replace F_t81 := F_t81.mv g16.mv; replace F_t82 := F_t82.mv g16.mv
          clear h16 hb16
          refine sat_prim (v := .bool (!(besideT withinI a (⟨p_t8, q_t8⟩ : Tb)))) (by kernel_rfl) ?_
          refine sat_falseP (b := (!(besideT withinI a (⟨p_t8, q_t8⟩ : Tb)))) (by kernel_rfl) (by rw [show (besideT withinI a (⟨p_t8, q_t8⟩ : Tb)) = true from OD.w2]; rfl) ?_
          refine sat_call #[.agg #[.slice A_a a.at_.length c_a, .slice B_a a.v.length d_a], .agg #[.slice A_a a.at_.length c_a, .slice B_a a.v.length d_a]] (by kernel_rfl) fun w17 h17 => ?_
          refine (insideT_any _ _ _ _ _ _ _ _ a a _ ((F_a1.mv h17.mv).any) ((F_a2.mv h17.mv).any) ((F_a1.mv h17.mv).any) ((F_a2.mv h17.mv).any)).mono ?_
          rintro e v17 ⟨rfl, hb17⟩
          refine ⟨hb17, [.bool (besideT insideI a a)], _, rfl, by kernel_rfl, by kernel_rfl, fun g17 => ?_⟩
          replace F_a1 := F_a1.mv g17.mv; replace F_a2 := F_a2.mv g17.mv; replace F_b1 := F_b1.mv g17.mv; replace F_b2 := F_b2.mv g17.mv; replace F_c1 := F_c1.mv g17.mv; replace F_c2 := F_c2.mv g17.mv; replace r_L2 := g17.rdD r_L2; replace r_L4 := g17.rdD r_L4; replace r_o5l := g17.rdD r_o5l; replace r_o5h := g17.rdD r_o5h; replace r_L6 := g17.rdD r_L6; replace r_L7 := g17.rdD r_L7; replace F_t81 := F_t81.mv g17.mv; replace F_t82 := F_t82.mv g17.mv
          clear h17 hb17
          refine sat_falseP (b := (besideT insideI a a)) (by kernel_rfl) (OD.no) ?_
          refine sat_call #[] (by kernel_rfl) fun w18 h18 => ?_
          refine (told13_any _ (h18.tab hT)).mono ?_
          rintro e v18 ⟨rfl, hb18⟩
          refine ⟨hb18, [.bool true], _, rfl, by kernel_rfl, by kernel_rfl, fun g18 => ?_⟩
          replace F_a1 := F_a1.mv g18.mv; replace F_a2 := F_a2.mv g18.mv; replace F_b1 := F_b1.mv g18.mv; replace F_b2 := F_b2.mv g18.mv; replace F_c1 := F_c1.mv g18.mv; replace F_c2 := F_c2.mv g18.mv; replace r_L2 := g18.rdD r_L2; replace r_L4 := g18.rdD r_L4; replace r_o5l := g18.rdD r_o5l; replace r_o5h := g18.rdD r_o5h; replace r_L6 := g18.rdD r_L6; replace r_L7 := g18.rdD r_L7; replace F_t81 := F_t81.mv g18.mv; replace F_t82 := F_t82.mv g18.mv
          clear h18 hb18
          refine sat_true (by kernel_rfl) ?_
          refine sat_call #[.agg #[.slice A_a a.at_.length c_a, .slice B_a a.v.length d_a], .agg #[.slice A_b b.at_.length c_b, .slice B_b b.v.length d_b]] (by kernel_rfl) fun w19 h19 => ?_
          refine (withinT_any _ _ _ _ _ _ _ _ a b _ ((F_a1.mv h19.mv).any) ((F_a2.mv h19.mv).any) ((F_b1.mv h19.mv).any) ((F_b2.mv h19.mv).any)).mono ?_
          rintro e v19 ⟨rfl, hb19⟩
          refine ⟨hb19, [.bool (besideT withinI a b)], _, rfl, by kernel_rfl, by kernel_rfl, fun g19 => ?_⟩
          replace F_a1 := F_a1.mv g19.mv; replace F_a2 := F_a2.mv g19.mv; replace F_b1 := F_b1.mv g19.mv; replace F_b2 := F_b2.mv g19.mv; replace F_c1 := F_c1.mv g19.mv; replace F_c2 := F_c2.mv g19.mv; replace r_L2 := g19.rdD r_L2; replace r_L4 := g19.rdD r_L4; replace r_o5l := g19.rdD r_o5l; replace r_o5h := g19.rdD r_o5h; replace r_L6 := g19.rdD r_L6; replace r_L7 := g19.rdD r_L7; replace F_t81 := F_t81.mv g19.mv; replace F_t82 := F_t82.mv g19.mv
          clear h19 hb19
          refine sat_prim (v := .bool (!(besideT withinI a b))) (by kernel_rfl) ?_
          cases h_wab : (besideT withinI a b)
          · refine sat_true (by kernel_rfl) ?_
            refine sat_call #[.agg #[.slice A_a a.at_.length c_a, .slice B_a a.v.length d_a], .agg #[.slice A_b b.at_.length c_b, .slice B_b b.v.length d_b]] (by kernel_rfl) fun w21 h21 => ?_
            refine (insideT_any _ _ _ _ _ _ _ _ a b _ ((F_a1.mv h21.mv).any) ((F_a2.mv h21.mv).any) ((F_b1.mv h21.mv).any) ((F_b2.mv h21.mv).any)).mono ?_
            rintro e v21 ⟨rfl, hb21⟩
            refine ⟨hb21, [.bool (besideT insideI a b)], _, rfl, by kernel_rfl, by kernel_rfl, fun g21 => ?_⟩
            replace F_a1 := F_a1.mv g21.mv; replace F_a2 := F_a2.mv g21.mv; replace F_b1 := F_b1.mv g21.mv; replace F_b2 := F_b2.mv g21.mv; replace F_c1 := F_c1.mv g21.mv; replace F_c2 := F_c2.mv g21.mv; replace r_L2 := g21.rdD r_L2; replace r_L4 := g21.rdD r_L4; replace r_o5l := g21.rdD r_o5l; replace r_o5h := g21.rdD r_o5h; replace r_L6 := g21.rdD r_L6; replace r_L7 := g21.rdD r_L7; replace F_t81 := F_t81.mv g21.mv; replace F_t82 := F_t82.mv g21.mv
            clear h21 hb21
            refine sat_prim (v := .bool (!(besideT insideI a b))) (by kernel_rfl) ?_
            cases h_iab : (besideT insideI a b)
            · refine sat_true (by kernel_rfl) ?_
              exact sat_ret (.bool true) (by kernel_rfl) fun w9 h9 => rfl
            · refine sat_false (by kernel_rfl) ?_
              refine sat_call #[.agg #[.slice A_b b.at_.length c_b, .slice B_b b.v.length d_b], .agg #[.slice A_c c.at_.length c_c, .slice B_c c.v.length d_c]] (by kernel_rfl) fun w23 h23 => ?_
              refine (withinT_any _ _ _ _ _ _ _ _ b c _ ((F_b1.mv h23.mv).any) ((F_b2.mv h23.mv).any) ((F_c1.mv h23.mv).any) ((F_c2.mv h23.mv).any)).mono ?_
              rintro e v23 ⟨rfl, hb23⟩
              refine ⟨hb23, [.bool (besideT withinI b c)], _, rfl, by kernel_rfl, by kernel_rfl, fun g23 => ?_⟩
              replace F_a1 := F_a1.mv g23.mv; replace F_a2 := F_a2.mv g23.mv; replace F_b1 := F_b1.mv g23.mv; replace F_b2 := F_b2.mv g23.mv; replace F_c1 := F_c1.mv g23.mv; replace F_c2 := F_c2.mv g23.mv; replace r_L2 := g23.rdD r_L2; replace r_L4 := g23.rdD r_L4; replace r_o5l := g23.rdD r_o5l; replace r_o5h := g23.rdD r_o5h; replace r_L6 := g23.rdD r_L6; replace r_L7 := g23.rdD r_L7; replace F_t81 := F_t81.mv g23.mv; replace F_t82 := F_t82.mv g23.mv
              clear h23 hb23
              refine sat_prim (v := .bool (!(besideT withinI b c))) (by kernel_rfl) ?_
              cases h_wbc : (besideT withinI b c)
              · refine sat_true (by kernel_rfl) ?_
                exact sat_ret (.bool true) (by kernel_rfl) fun w9 h9 => rfl
              · refine sat_false (by kernel_rfl) ?_
                refine sat_call #[.agg #[.slice A_a a.at_.length c_a, .slice B_a a.v.length d_a], .agg #[.slice A_c c.at_.length c_c, .slice B_c c.v.length d_c]] (by kernel_rfl) fun w25 h25 => ?_
                refine (insideT_any _ _ _ _ _ _ _ _ a c _ ((F_a1.mv h25.mv).any) ((F_a2.mv h25.mv).any) ((F_c1.mv h25.mv).any) ((F_c2.mv h25.mv).any)).mono ?_
                rintro e v25 ⟨rfl, hb25⟩
                refine ⟨hb25, [.bool (besideT insideI a c)], _, rfl, by kernel_rfl, by kernel_rfl, fun g25 => ?_⟩
                replace F_a1 := F_a1.mv g25.mv; replace F_a2 := F_a2.mv g25.mv; replace F_b1 := F_b1.mv g25.mv; replace F_b2 := F_b2.mv g25.mv; replace F_c1 := F_c1.mv g25.mv; replace F_c2 := F_c2.mv g25.mv; replace r_L2 := g25.rdD r_L2; replace r_L4 := g25.rdD r_L4; replace r_o5l := g25.rdD r_o5l; replace r_o5h := g25.rdD r_o5h; replace r_L6 := g25.rdD r_L6; replace r_L7 := g25.rdD r_L7; replace F_t81 := F_t81.mv g25.mv; replace F_t82 := F_t82.mv g25.mv
                clear h25 hb25
                exact sat_ret (.bool (besideT insideI a c)) (by kernel_rfl) fun w9 h9 => congrArg Value.bool (ins_trans (limT F_a1 F_a2) (limT F_b1 F_b2) (limT F_c1 F_c2) h_iab h_wbc)
          · refine sat_false (by kernel_rfl) ?_
            refine sat_call #[.agg #[.slice A_b b.at_.length c_b, .slice B_b b.v.length d_b], .agg #[.slice A_c c.at_.length c_c, .slice B_c c.v.length d_c]] (by kernel_rfl) fun w21 h21 => ?_
            refine (withinT_any _ _ _ _ _ _ _ _ b c _ ((F_b1.mv h21.mv).any) ((F_b2.mv h21.mv).any) ((F_c1.mv h21.mv).any) ((F_c2.mv h21.mv).any)).mono ?_
            rintro e v21 ⟨rfl, hb21⟩
            refine ⟨hb21, [.bool (besideT withinI b c)], _, rfl, by kernel_rfl, by kernel_rfl, fun g21 => ?_⟩
            replace F_a1 := F_a1.mv g21.mv; replace F_a2 := F_a2.mv g21.mv; replace F_b1 := F_b1.mv g21.mv; replace F_b2 := F_b2.mv g21.mv; replace F_c1 := F_c1.mv g21.mv; replace F_c2 := F_c2.mv g21.mv; replace r_L2 := g21.rdD r_L2; replace r_L4 := g21.rdD r_L4; replace r_o5l := g21.rdD r_o5l; replace r_o5h := g21.rdD r_o5h; replace r_L6 := g21.rdD r_L6; replace r_L7 := g21.rdD r_L7; replace F_t81 := F_t81.mv g21.mv; replace F_t82 := F_t82.mv g21.mv
            clear h21 hb21
            refine sat_prim (v := .bool (!(besideT withinI b c))) (by kernel_rfl) ?_
            cases h_wbc : (besideT withinI b c)
            · refine sat_true (by kernel_rfl) ?_
              refine sat_call #[.agg #[.slice A_a a.at_.length c_a, .slice B_a a.v.length d_a], .agg #[.slice A_b b.at_.length c_b, .slice B_b b.v.length d_b]] (by kernel_rfl) fun w23 h23 => ?_
              refine (insideT_any _ _ _ _ _ _ _ _ a b _ ((F_a1.mv h23.mv).any) ((F_a2.mv h23.mv).any) ((F_b1.mv h23.mv).any) ((F_b2.mv h23.mv).any)).mono ?_
              rintro e v23 ⟨rfl, hb23⟩
              refine ⟨hb23, [.bool (besideT insideI a b)], _, rfl, by kernel_rfl, by kernel_rfl, fun g23 => ?_⟩
              replace F_a1 := F_a1.mv g23.mv; replace F_a2 := F_a2.mv g23.mv; replace F_b1 := F_b1.mv g23.mv; replace F_b2 := F_b2.mv g23.mv; replace F_c1 := F_c1.mv g23.mv; replace F_c2 := F_c2.mv g23.mv; replace r_L2 := g23.rdD r_L2; replace r_L4 := g23.rdD r_L4; replace r_o5l := g23.rdD r_o5l; replace r_o5h := g23.rdD r_o5h; replace r_L6 := g23.rdD r_L6; replace r_L7 := g23.rdD r_L7; replace F_t81 := F_t81.mv g23.mv; replace F_t82 := F_t82.mv g23.mv
              clear h23 hb23
              refine sat_prim (v := .bool (!(besideT insideI a b))) (by kernel_rfl) ?_
              cases h_iab : (besideT insideI a b)
              · refine sat_true (by kernel_rfl) ?_
                exact sat_ret (.bool true) (by kernel_rfl) fun w9 h9 => rfl
              · refine sat_false (by kernel_rfl) ?_
                refine sat_call #[.agg #[.slice A_b b.at_.length c_b, .slice B_b b.v.length d_b], .agg #[.slice A_c c.at_.length c_c, .slice B_c c.v.length d_c]] (by kernel_rfl) fun w25 h25 => ?_
                refine (withinT_any _ _ _ _ _ _ _ _ b c _ ((F_b1.mv h25.mv).any) ((F_b2.mv h25.mv).any) ((F_c1.mv h25.mv).any) ((F_c2.mv h25.mv).any)).mono ?_
                rintro e v25 ⟨rfl, hb25⟩
                refine ⟨hb25, [.bool (besideT withinI b c)], _, rfl, by kernel_rfl, by kernel_rfl, fun g25 => ?_⟩
                replace F_a1 := F_a1.mv g25.mv; replace F_a2 := F_a2.mv g25.mv; replace F_b1 := F_b1.mv g25.mv; replace F_b2 := F_b2.mv g25.mv; replace F_c1 := F_c1.mv g25.mv; replace F_c2 := F_c2.mv g25.mv; replace r_L2 := g25.rdD r_L2; replace r_L4 := g25.rdD r_L4; replace r_o5l := g25.rdD r_o5l; replace r_o5h := g25.rdD r_o5h; replace r_L6 := g25.rdD r_L6; replace r_L7 := g25.rdD r_L7; replace F_t81 := F_t81.mv g25.mv; replace F_t82 := F_t82.mv g25.mv
                clear h25 hb25
                refine sat_prim (v := .bool (!(besideT withinI b c))) (by kernel_rfl) ?_
                refine sat_trueP (b := (!(besideT withinI b c))) (by kernel_rfl) (by rw [h_wbc]; rfl) ?_
                exact sat_ret (.bool true) (by kernel_rfl) fun w9 h9 => rfl
            · refine sat_false (by kernel_rfl) ?_
              refine sat_call #[.agg #[.slice A_a a.at_.length c_a, .slice B_a a.v.length d_a], .agg #[.slice A_c c.at_.length c_c, .slice B_c c.v.length d_c]] (by kernel_rfl) fun w23 h23 => ?_
              refine (withinT_any _ _ _ _ _ _ _ _ a c _ ((F_a1.mv h23.mv).any) ((F_a2.mv h23.mv).any) ((F_c1.mv h23.mv).any) ((F_c2.mv h23.mv).any)).mono ?_
              rintro e v23 ⟨rfl, hb23⟩
              refine ⟨hb23, [.bool (besideT withinI a c)], _, rfl, by kernel_rfl, by kernel_rfl, fun g23 => ?_⟩
              replace F_a1 := F_a1.mv g23.mv; replace F_a2 := F_a2.mv g23.mv; replace F_b1 := F_b1.mv g23.mv; replace F_b2 := F_b2.mv g23.mv; replace F_c1 := F_c1.mv g23.mv; replace F_c2 := F_c2.mv g23.mv; replace r_L2 := g23.rdD r_L2; replace r_L4 := g23.rdD r_L4; replace r_o5l := g23.rdD r_o5l; replace r_o5h := g23.rdD r_o5h; replace r_L6 := g23.rdD r_L6; replace r_L7 := g23.rdD r_L7; replace F_t81 := F_t81.mv g23.mv; replace F_t82 := F_t82.mv g23.mv
              clear h23 hb23
              refine sat_trueP (b := (besideT withinI a c)) (by kernel_rfl) (in_trans (limT F_a1 F_a2) (limT F_b1 F_b2) (limT F_c1 F_c2) h_wab h_wbc) ?_
              refine sat_call #[.agg #[.slice A_a a.at_.length c_a, .slice B_a a.v.length d_a], .agg #[.slice A_b b.at_.length c_b, .slice B_b b.v.length d_b]] (by kernel_rfl) fun w24 h24 => ?_
              refine (insideT_any _ _ _ _ _ _ _ _ a b _ ((F_a1.mv h24.mv).any) ((F_a2.mv h24.mv).any) ((F_b1.mv h24.mv).any) ((F_b2.mv h24.mv).any)).mono ?_
              rintro e v24 ⟨rfl, hb24⟩
              refine ⟨hb24, [.bool (besideT insideI a b)], _, rfl, by kernel_rfl, by kernel_rfl, fun g24 => ?_⟩
              replace F_a1 := F_a1.mv g24.mv; replace F_a2 := F_a2.mv g24.mv; replace F_b1 := F_b1.mv g24.mv; replace F_b2 := F_b2.mv g24.mv; replace F_c1 := F_c1.mv g24.mv; replace F_c2 := F_c2.mv g24.mv; replace r_L2 := g24.rdD r_L2; replace r_L4 := g24.rdD r_L4; replace r_o5l := g24.rdD r_o5l; replace r_o5h := g24.rdD r_o5h; replace r_L6 := g24.rdD r_L6; replace r_L7 := g24.rdD r_L7; replace F_t81 := F_t81.mv g24.mv; replace F_t82 := F_t82.mv g24.mv
              clear h24 hb24
              refine sat_prim (v := .bool (!(besideT insideI a b))) (by kernel_rfl) ?_
              cases h_iab : (besideT insideI a b)
              · refine sat_true (by kernel_rfl) ?_
                exact sat_ret (.bool true) (by kernel_rfl) fun w9 h9 => rfl
              · refine sat_false (by kernel_rfl) ?_
                refine sat_call #[.agg #[.slice A_b b.at_.length c_b, .slice B_b b.v.length d_b], .agg #[.slice A_c c.at_.length c_c, .slice B_c c.v.length d_c]] (by kernel_rfl) fun w26 h26 => ?_
                refine (withinT_any _ _ _ _ _ _ _ _ b c _ ((F_b1.mv h26.mv).any) ((F_b2.mv h26.mv).any) ((F_c1.mv h26.mv).any) ((F_c2.mv h26.mv).any)).mono ?_
                rintro e v26 ⟨rfl, hb26⟩
                refine ⟨hb26, [.bool (besideT withinI b c)], _, rfl, by kernel_rfl, by kernel_rfl, fun g26 => ?_⟩
                replace F_a1 := F_a1.mv g26.mv; replace F_a2 := F_a2.mv g26.mv; replace F_b1 := F_b1.mv g26.mv; replace F_b2 := F_b2.mv g26.mv; replace F_c1 := F_c1.mv g26.mv; replace F_c2 := F_c2.mv g26.mv; replace r_L2 := g26.rdD r_L2; replace r_L4 := g26.rdD r_L4; replace r_o5l := g26.rdD r_o5l; replace r_o5h := g26.rdD r_o5h; replace r_L6 := g26.rdD r_L6; replace r_L7 := g26.rdD r_L7; replace F_t81 := F_t81.mv g26.mv; replace F_t82 := F_t82.mv g26.mv
                clear h26 hb26
                refine sat_prim (v := .bool (!(besideT withinI b c))) (by kernel_rfl) ?_
                refine sat_falseP (b := (!(besideT withinI b c))) (by kernel_rfl) (by rw [h_wbc]; rfl) ?_
                refine sat_call #[.agg #[.slice A_a a.at_.length c_a, .slice B_a a.v.length d_a], .agg #[.slice A_c c.at_.length c_c, .slice B_c c.v.length d_c]] (by kernel_rfl) fun w27 h27 => ?_
                refine (insideT_any _ _ _ _ _ _ _ _ a c _ ((F_a1.mv h27.mv).any) ((F_a2.mv h27.mv).any) ((F_c1.mv h27.mv).any) ((F_c2.mv h27.mv).any)).mono ?_
                rintro e v27 ⟨rfl, hb27⟩
                refine ⟨hb27, [.bool (besideT insideI a c)], _, rfl, by kernel_rfl, by kernel_rfl, fun g27 => ?_⟩
                replace F_a1 := F_a1.mv g27.mv; replace F_a2 := F_a2.mv g27.mv; replace F_b1 := F_b1.mv g27.mv; replace F_b2 := F_b2.mv g27.mv; replace F_c1 := F_c1.mv g27.mv; replace F_c2 := F_c2.mv g27.mv; replace r_L2 := g27.rdD r_L2; replace r_L4 := g27.rdD r_L4; replace r_o5l := g27.rdD r_o5l; replace r_o5h := g27.rdD r_o5h; replace r_L6 := g27.rdD r_L6; replace r_L7 := g27.rdD r_L7; replace F_t81 := F_t81.mv g27.mv; replace F_t82 := F_t82.mv g27.mv
                clear h27 hb27
                exact sat_ret (.bool (besideT insideI a c)) (by kernel_rfl) fun w9 h9 => congrArg Value.bool (ins_trans (limT F_a1 F_a2) (limT F_b1 F_b2) (limT F_c1 F_c2) h_iab h_wbc)

def tr_tubeTimes : Sx.Tree := .chk [.lf 0, .lf 1] (.chk [.lf 2, .lf 3] (.chk [.lf 4, .lf 5, .lf 6] (.chk [.lf 7, .lf 8, .lf 9] (.call 22 [.ag [.lf 0, .lf 1]] .one (.prim .not [.lf 10] (.ite (.lf 11) (.call 25 [] .one (.ret (.one (.lf 12)))) (.call 22 [.ag [.lf 2, .lf 3]] .one (.prim .not [.lf 12] (.ite (.lf 13) (.call 25 [] .one (.ret (.one (.lf 14)))) (.prim .len [.lf 5] (.prim (.bin .gtr) [.lf 14, .num .i64 6] (.ite (.lf 15) (.call 25 [] .one (.ret (.one (.lf 16)))) (.prim .len [.lf 8] (.prim (.bin .gtr) [.lf 16, .num .i64 6] (.ite (.lf 17) (.call 25 [] .one (.ret (.one (.lf 18)))) (.call 23 [.ag [.lf 0, .lf 1], .ag [.lf 2, .lf 3]] .one (.prim .not [.lf 18] (.ite (.lf 19) (.call 25 [] .one (.ret (.one (.lf 20)))) (.call 24 [.ag [.lf 4, .lf 5, .lf 6]] .one (.prim .not [.lf 20] (.ite (.lf 21) (.call 25 [] .one (.ret (.one (.lf 22)))) (.call 24 [.ag [.lf 7, .lf 8, .lf 9]] .one (.prim .not [.lf 22] (.ite (.lf 23) (.call 25 [] .one (.ret (.one (.lf 24)))) (.call 26 [.ag [.lf 4, .lf 5, .lf 6], .ag [.lf 7, .lf 8, .lf 9]] .one (.prim (.bin .gtr) [.lf 24, .num .i64 0] (.ite (.lf 25) (.chk [.lf 7, .lf 8, .lf 9] (.chk [.lf 4, .lf 5, .lf 6] (.call 27 [.ag [.lf 0, .lf 1], .ag [.lf 7, .lf 8, .lf 9], .ag [.lf 4, .lf 5, .lf 6]] (.tup [(true, 6), (false, 1)]) (.chk [.lf 26, .lf 27, .lf 28, .lf 29, .lf 30, .lf 31] (.call 27 [.ag [.lf 2, .lf 3], .ag [.lf 7, .lf 8, .lf 9], .ag [.lf 4, .lf 5, .lf 6]] (.tup [(true, 6), (false, 1)]) (.chk [.lf 33, .lf 34, .lf 35, .lf 36, .lf 37, .lf 38] (.prim (.bin .neq) [.lf 32, .lf 39] (.ite (.lf 40) (.ret (.one (.bit false))) (.prim (.bin .neq) [.lf 32, .num .i64 0] (.ite (.lf 41) (.call 25 [] .one (.ite (.lf 42) (.prim (.bin .eql) [.lf 32, .num .i64 5] (.ret (.one (.lf 43)))) (.ret (.one (.bit false))))) (.call 28 [.ag [.lf 0, .lf 1], .ag [.lf 7, .lf 8, .lf 9]] (.tup [(true, 6), (false, 1)]) (.chk [.lf 42, .lf 43, .lf 44, .lf 45, .lf 46, .lf 47] (.call 28 [.ag [.lf 2, .lf 3], .ag [.lf 7, .lf 8, .lf 9]] (.tup [(true, 6), (false, 1)]) (.chk [.lf 49, .lf 50, .lf 51, .lf 52, .lf 53, .lf 54] (.call 25 [] .one (.ite (.lf 56) (.call 18 [.ag [.lf 26, .lf 27, .lf 28, .lf 29, .lf 30, .lf 31], .ag [.lf 33, .lf 34, .lf 35, .lf 36, .lf 37, .lf 38]] .one (.ite (.lf 57) (.prim (.bin .eql) [.lf 48, .num .i64 0] (.ite (.lf 58) (.prim (.bin .eql) [.lf 55, .num .i64 0] (.ite (.lf 59) (.call 18 [.ag [.lf 42, .lf 43, .lf 44, .lf 45, .lf 46, .lf 47], .ag [.lf 49, .lf 50, .lf 51, .lf 52, .lf 53, .lf 54]] .one (.ite (.lf 60) (.call 29 [.ag [.lf 0, .lf 1], .ag [.lf 2, .lf 3]] .one (.prim .not [.lf 61] (.ite (.lf 62) (.ret (.one (.bit true))) (.call 23 [.ag [.lf 0, .lf 1], .ag [.lf 2, .lf 3]] .one (.ret (.one (.lf 63))))))) (.ret (.one (.bit false))))) (.ret (.one (.bit false))))) (.ret (.one (.bit false))))) (.ret (.one (.bit false))))) (.ret (.one (.bit false))))))))))))))))))) (.call 27 [.ag [.lf 0, .lf 1], .ag [.lf 4, .lf 5, .lf 6], .ag [.lf 7, .lf 8, .lf 9]] (.tup [(true, 6), (false, 1)]) (.chk [.lf 26, .lf 27, .lf 28, .lf 29, .lf 30, .lf 31] (.call 27 [.ag [.lf 2, .lf 3], .ag [.lf 4, .lf 5, .lf 6], .ag [.lf 7, .lf 8, .lf 9]] (.tup [(true, 6), (false, 1)]) (.chk [.lf 33, .lf 34, .lf 35, .lf 36, .lf 37, .lf 38] (.prim (.bin .neq) [.lf 32, .lf 39] (.ite (.lf 40) (.ret (.one (.bit false))) (.prim (.bin .neq) [.lf 32, .num .i64 0] (.ite (.lf 41) (.call 25 [] .one (.ite (.lf 42) (.prim (.bin .eql) [.lf 32, .num .i64 5] (.ret (.one (.lf 43)))) (.ret (.one (.bit false))))) (.call 28 [.ag [.lf 0, .lf 1], .ag [.lf 4, .lf 5, .lf 6]] (.tup [(true, 6), (false, 1)]) (.chk [.lf 42, .lf 43, .lf 44, .lf 45, .lf 46, .lf 47] (.call 28 [.ag [.lf 2, .lf 3], .ag [.lf 4, .lf 5, .lf 6]] (.tup [(true, 6), (false, 1)]) (.chk [.lf 49, .lf 50, .lf 51, .lf 52, .lf 53, .lf 54] (.call 25 [] .one (.ite (.lf 56) (.call 18 [.ag [.lf 26, .lf 27, .lf 28, .lf 29, .lf 30, .lf 31], .ag [.lf 33, .lf 34, .lf 35, .lf 36, .lf 37, .lf 38]] .one (.ite (.lf 57) (.prim (.bin .eql) [.lf 48, .num .i64 0] (.ite (.lf 58) (.prim (.bin .eql) [.lf 55, .num .i64 0] (.ite (.lf 59) (.call 18 [.ag [.lf 42, .lf 43, .lf 44, .lf 45, .lf 46, .lf 47], .ag [.lf 49, .lf 50, .lf 51, .lf 52, .lf 53, .lf 54]] .one (.ite (.lf 60) (.call 29 [.ag [.lf 0, .lf 1], .ag [.lf 2, .lf 3]] .one (.prim .not [.lf 61] (.ite (.lf 62) (.ret (.one (.bit true))) (.call 23 [.ag [.lf 0, .lf 1], .ag [.lf 2, .lf 3]] .one (.ret (.one (.lf 63))))))) (.ret (.one (.bit false))))) (.ret (.one (.bit false))))) (.ret (.one (.bit false))))) (.ret (.one (.bit false))))) (.ret (.one (.bit false))))))))))))))))))))))))))))))))))))))))))))
theorem tr_tubeTimes_eq : Sx.treeAt Tryd.prog 5 [] [] [(true, 2), (true, 2), (true, 3), (true, 3)] = some tr_tubeTimes := by kernel_rfl

set_option maxRecDepth 100000 in
set_option maxHeartbeats 4000000 in
theorem tubeTimes_any (A_a : Option Addr) (c_a : Nat) (B_a : Option Addr) (d_a : Nat) (A_b : Option Addr) (c_b : Nat) (B_b : Option Addr) (d_b : Nat) (v_x : Value) (v_y : Value) (a : Tb) (b : Tb) (x : Dy) (y : Dy) (w : World) (h_a1 : Sx.Rows Sx.kD (fun _ => True) w A_a a.at_.length c_a a.at_) (h_a2 : Sx.Rows Sx.kI (fun _ => True) w B_a a.v.length d_a a.v) (h_b1 : Sx.Rows Sx.kD (fun _ => True) w A_b b.at_.length c_b b.at_) (h_b2 : Sx.Rows Sx.kI (fun _ => True) w B_b b.v.length d_b b.v) (h_x : RdD w v_x x) (h_y : RdD w v_y y) (hT : TabAt w) :
    Calls Tryd.prog 5 #[.agg #[.slice A_a a.at_.length c_a, .slice B_a a.v.length d_a], .agg #[.slice A_b b.at_.length c_b, .slice B_b b.v.length d_b], v_x, v_y] w fun e w' => e = .returned (.bool true) ∧ Below w.heap.size w w' := by
  have r_x := h_x
  obtain ⟨A_x, n_x, c_x, rfl, _⟩ := h_x
  have r_y := h_y
  obtain ⟨A_y, n_y, c_y, rfl, _⟩ := h_y
  have F_a1 := h_a1.start
  have M_a1 := h_a1.le
  clear h_a1
  have F_a2 := h_a2.start
  have M_a2 := h_a2.le
  clear h_a2
  have F_b1 := h_b1.start
  have M_b1 := h_b1.le
  clear h_b1
  have F_b2 := h_b2.start
  have M_b2 := h_b2.le
  clear h_b2
  refine (Sx.runA [] [] (ls := [.slice A_a a.at_.length c_a, .slice B_a a.v.length d_a, .slice A_b b.at_.length c_b, .slice B_b b.v.length d_b, .bool x.neg, .slice A_x n_x c_x, .int .i64 x.e, .bool y.neg, .slice A_y n_y c_y, .int .i64 y.e]) (shs := [(true, 2), (true, 2), (true, 3), (true, 3)]) (R := fun v w' => v = .bool true) tr_tubeTimes_eq rfl (by decide) (fun q h => by cases h) ?_).mono (fun e w' ⟨v, he, hv, hb⟩ => ⟨by rw [he, hv], hb⟩)
  unfold tr_tubeTimes
  refine sat_chkB (by kernel_rfl) ?_
  refine sat_chkB (by kernel_rfl) ?_
  refine sat_chkB (by kernel_rfl) ?_
  refine sat_chkB (by kernel_rfl) ?_
  refine sat_call #[.agg #[.slice A_a a.at_.length c_a, .slice B_a a.v.length d_a]] (by kernel_rfl) fun w1 h1 => ?_
  refine (fewT_any _ _ _ _ a _ ((F_a1.mv h1.mv).any) ((F_a2.mv h1.mv).any)).mono ?_
  rintro e v1 ⟨rfl, hb1⟩
  refine ⟨hb1, [.bool (fewT a)], _, rfl, by kernel_rfl, by kernel_rfl, fun g1 => ?_⟩
  replace F_a1 := F_a1.mv g1.mv; replace F_a2 := F_a2.mv g1.mv; replace F_b1 := F_b1.mv g1.mv; replace F_b2 := F_b2.mv g1.mv; replace r_x := g1.rdD r_x; replace r_y := g1.rdD r_y
  clear h1 hb1
  refine sat_prim (v := .bool (!(fewT a))) (by kernel_rfl) ?_
  cases h_few_a : (fewT a)
  · refine sat_true (by kernel_rfl) ?_
    refine sat_call #[] (by kernel_rfl) fun w3 h3 => ?_
    refine (told13_any _ (h3.tab hT)).mono ?_
    rintro e v3 ⟨rfl, hb3⟩
    refine ⟨hb3, [.bool true], _, rfl, by kernel_rfl, by kernel_rfl, fun g3 => ?_⟩
    replace F_a1 := F_a1.mv g3.mv; replace F_a2 := F_a2.mv g3.mv; replace F_b1 := F_b1.mv g3.mv; replace F_b2 := F_b2.mv g3.mv; replace r_x := g3.rdD r_x; replace r_y := g3.rdD r_y
    clear h3 hb3
    exact sat_ret (.bool true) (by kernel_rfl) fun w9 h9 => rfl
  · refine sat_false (by kernel_rfl) ?_
    refine sat_call #[.agg #[.slice A_b b.at_.length c_b, .slice B_b b.v.length d_b]] (by kernel_rfl) fun w3 h3 => ?_
    refine (fewT_any _ _ _ _ b _ ((F_b1.mv h3.mv).any) ((F_b2.mv h3.mv).any)).mono ?_
    rintro e v3 ⟨rfl, hb3⟩
    refine ⟨hb3, [.bool (fewT b)], _, rfl, by kernel_rfl, by kernel_rfl, fun g3 => ?_⟩
    replace F_a1 := F_a1.mv g3.mv; replace F_a2 := F_a2.mv g3.mv; replace F_b1 := F_b1.mv g3.mv; replace F_b2 := F_b2.mv g3.mv; replace r_x := g3.rdD r_x; replace r_y := g3.rdD r_y
    clear h3 hb3
    refine sat_prim (v := .bool (!(fewT b))) (by kernel_rfl) ?_
    cases h_few_b : (fewT b)
    · refine sat_true (by kernel_rfl) ?_
      refine sat_call #[] (by kernel_rfl) fun w5 h5 => ?_
      refine (told13_any _ (h5.tab hT)).mono ?_
      rintro e v5 ⟨rfl, hb5⟩
      refine ⟨hb5, [.bool true], _, rfl, by kernel_rfl, by kernel_rfl, fun g5 => ?_⟩
      replace F_a1 := F_a1.mv g5.mv; replace F_a2 := F_a2.mv g5.mv; replace F_b1 := F_b1.mv g5.mv; replace F_b2 := F_b2.mv g5.mv; replace r_x := g5.rdD r_x; replace r_y := g5.rdD r_y
      clear h5 hb5
      exact sat_ret (.bool true) (by kernel_rfl) fun w9 h9 => rfl
    · refine sat_false (by kernel_rfl) ?_
      refine sat_prim (v := .int .i64 ((n_x : Nat) : Int)) (by kernel_rfl) ?_
      refine sat_prim (v := .bool (decide ((6 : Int) < ((n_x : Nat) : Int)))) (by kernel_rfl) ?_
      cases hE5 : (decide ((6 : Int) < ((n_x : Nat) : Int)))
      · refine sat_false (by kernel_rfl) ?_
        refine sat_prim (v := .int .i64 ((n_y : Nat) : Int)) (by kernel_rfl) ?_
        refine sat_prim (v := .bool (decide ((6 : Int) < ((n_y : Nat) : Int)))) (by kernel_rfl) ?_
        cases hE6 : (decide ((6 : Int) < ((n_y : Nat) : Int)))
        · refine sat_false (by kernel_rfl) ?_
          refine sat_call #[.agg #[.slice A_a a.at_.length c_a, .slice B_a a.v.length d_a], .agg #[.slice A_b b.at_.length c_b, .slice B_b b.v.length d_b]] (by kernel_rfl) fun w7 h7 => ?_
          refine (withinT_any _ _ _ _ _ _ _ _ a b _ ((F_a1.mv h7.mv).any) ((F_a2.mv h7.mv).any) ((F_b1.mv h7.mv).any) ((F_b2.mv h7.mv).any)).mono ?_
          rintro e v7 ⟨rfl, hb7⟩
          refine ⟨hb7, [.bool (besideT withinI a b)], _, rfl, by kernel_rfl, by kernel_rfl, fun g7 => ?_⟩
          replace F_a1 := F_a1.mv g7.mv; replace F_a2 := F_a2.mv g7.mv; replace F_b1 := F_b1.mv g7.mv; replace F_b2 := F_b2.mv g7.mv; replace r_x := g7.rdD r_x; replace r_y := g7.rdD r_y
          clear h7 hb7
          refine sat_prim (v := .bool (!(besideT withinI a b))) (by kernel_rfl) ?_
          cases h_wab : (besideT withinI a b)
          · refine sat_true (by kernel_rfl) ?_
            refine sat_call #[] (by kernel_rfl) fun w9 h9 => ?_
            refine (told13_any _ (h9.tab hT)).mono ?_
            rintro e v9 ⟨rfl, hb9⟩
            refine ⟨hb9, [.bool true], _, rfl, by kernel_rfl, by kernel_rfl, fun g9 => ?_⟩
            replace F_a1 := F_a1.mv g9.mv; replace F_a2 := F_a2.mv g9.mv; replace F_b1 := F_b1.mv g9.mv; replace F_b2 := F_b2.mv g9.mv; replace r_x := g9.rdD r_x; replace r_y := g9.rdD r_y
            clear h9 hb9
            exact sat_ret (.bool true) (by kernel_rfl) fun w9 h9 => rfl
          · refine sat_false (by kernel_rfl) ?_
            refine sat_call #[.agg #[.bool x.neg, .slice A_x n_x c_x, .int .i64 x.e]] (by kernel_rfl) fun w9 h9 => ?_
            refine (mayD_any _ (x) _ (h9.rdD r_x)).mono ?_
            rintro e v9 ⟨rfl, hb9⟩
            refine ⟨hb9, [.bool (mayD x)], _, rfl, by kernel_rfl, by kernel_rfl, fun g9 => ?_⟩
            replace F_a1 := F_a1.mv g9.mv; replace F_a2 := F_a2.mv g9.mv; replace F_b1 := F_b1.mv g9.mv; replace F_b2 := F_b2.mv g9.mv; replace r_x := g9.rdD r_x; replace r_y := g9.rdD r_y
            clear h9 hb9
            refine sat_prim (v := .bool (!(mayD x))) (by kernel_rfl) ?_
            cases h_mx : (mayD x)
            · refine sat_true (by kernel_rfl) ?_
              refine sat_call #[] (by kernel_rfl) fun w11 h11 => ?_
              refine (told13_any _ (h11.tab hT)).mono ?_
              rintro e v11 ⟨rfl, hb11⟩
              refine ⟨hb11, [.bool true], _, rfl, by kernel_rfl, by kernel_rfl, fun g11 => ?_⟩
              replace F_a1 := F_a1.mv g11.mv; replace F_a2 := F_a2.mv g11.mv; replace F_b1 := F_b1.mv g11.mv; replace F_b2 := F_b2.mv g11.mv; replace r_x := g11.rdD r_x; replace r_y := g11.rdD r_y
              clear h11 hb11
              exact sat_ret (.bool true) (by kernel_rfl) fun w9 h9 => rfl
            · refine sat_false (by kernel_rfl) ?_
              refine sat_call #[.agg #[.bool y.neg, .slice A_y n_y c_y, .int .i64 y.e]] (by kernel_rfl) fun w11 h11 => ?_
              refine (mayD_any _ (y) _ (h11.rdD r_y)).mono ?_
              rintro e v11 ⟨rfl, hb11⟩
              refine ⟨hb11, [.bool (mayD y)], _, rfl, by kernel_rfl, by kernel_rfl, fun g11 => ?_⟩
              replace F_a1 := F_a1.mv g11.mv; replace F_a2 := F_a2.mv g11.mv; replace F_b1 := F_b1.mv g11.mv; replace F_b2 := F_b2.mv g11.mv; replace r_x := g11.rdD r_x; replace r_y := g11.rdD r_y
              clear h11 hb11
              refine sat_prim (v := .bool (!(mayD y))) (by kernel_rfl) ?_
              cases h_my : (mayD y)
              · refine sat_true (by kernel_rfl) ?_
                refine sat_call #[] (by kernel_rfl) fun w13 h13 => ?_
                refine (told13_any _ (h13.tab hT)).mono ?_
                rintro e v13 ⟨rfl, hb13⟩
                refine ⟨hb13, [.bool true], _, rfl, by kernel_rfl, by kernel_rfl, fun g13 => ?_⟩
                replace F_a1 := F_a1.mv g13.mv; replace F_a2 := F_a2.mv g13.mv; replace F_b1 := F_b1.mv g13.mv; replace F_b2 := F_b2.mv g13.mv; replace r_x := g13.rdD r_x; replace r_y := g13.rdD r_y
                clear h13 hb13
                exact sat_ret (.bool true) (by kernel_rfl) fun w9 h9 => rfl
              · refine sat_false (by kernel_rfl) ?_
                refine sat_call #[.agg #[.bool x.neg, .slice A_x n_x c_x, .int .i64 x.e], .agg #[.bool y.neg, .slice A_y n_y c_y, .int .i64 y.e]] (by kernel_rfl) fun w13 h13 => ?_
                refine (cmpD_any _ _ (x) (y) _ (h13.rdD r_x) (h13.rdD r_y)).mono ?_
                rintro e v13 ⟨rfl, hb13⟩
                refine ⟨hb13, [.int .i64 (cmpD x y)], _, rfl, by kernel_rfl, by kernel_rfl, fun g13 => ?_⟩
                replace F_a1 := F_a1.mv g13.mv; replace F_a2 := F_a2.mv g13.mv; replace F_b1 := F_b1.mv g13.mv; replace F_b2 := F_b2.mv g13.mv; replace r_x := g13.rdD r_x; replace r_y := g13.rdD r_y
                clear h13 hb13
                refine sat_prim (v := .bool (decide ((0 : Int) < (cmpD x y)))) (by kernel_rfl) ?_
                cases h_c : (decide ((0 : Int) < (cmpD x y)))
                · refine sat_false (by kernel_rfl) ?_
                  refine sat_call #[.agg #[.slice A_a a.at_.length c_a, .slice B_a a.v.length d_a], .agg #[.bool x.neg, .slice A_x n_x c_x, .int .i64 x.e], .agg #[.bool y.neg, .slice A_y n_y c_y, .int .i64 y.e]] (by kernel_rfl) fun w15 h15 => ?_
                  refine (overT_any _ _ _ _ _ _ a (x) (y) _ ((F_a1.mv h15.mv).any) ((F_a2.mv h15.mv).any) (h15.rdD r_x) (h15.rdD r_y)).mono ?_
                  rintro e v15 ⟨⟨l_o1, g_o1, x_o1, A_o1, n_o1, c_o1, B_o1, m_o1, k_o1, h_o1, rfl, r_o1l, r_o1h⟩, hb15⟩
                  refine ⟨hb15, [.bool l_o1.neg, .slice A_o1 n_o1 c_o1, .int .i64 l_o1.e, .bool g_o1.neg, .slice B_o1 m_o1 k_o1, .int .i64 g_o1.e, .int .i64 x_o1], _, rfl, by kernel_rfl, by kernel_rfl, fun g15 => ?_⟩
                  replace F_a1 := F_a1.mv g15.mv; replace F_a2 := F_a2.mv g15.mv; replace F_b1 := F_b1.mv g15.mv; replace F_b2 := F_b2.mv g15.mv; replace r_x := g15.rdD r_x; replace r_y := g15.rdD r_y
                  clear h15 hb15
                  refine sat_chkB (by kernel_rfl) ?_
                  refine sat_call #[.agg #[.slice A_b b.at_.length c_b, .slice B_b b.v.length d_b], .agg #[.bool x.neg, .slice A_x n_x c_x, .int .i64 x.e], .agg #[.bool y.neg, .slice A_y n_y c_y, .int .i64 y.e]] (by kernel_rfl) fun w16 h16 => ?_
                  refine (overT_any _ _ _ _ _ _ b (x) (y) _ ((F_b1.mv h16.mv).any) ((F_b2.mv h16.mv).any) (h16.rdD r_x) (h16.rdD r_y)).mono ?_
                  rintro e v16 ⟨⟨l_o2, g_o2, x_o2, A_o2, n_o2, c_o2, B_o2, m_o2, k_o2, h_o2, rfl, r_o2l, r_o2h⟩, hb16⟩
                  refine ⟨hb16, [.bool l_o2.neg, .slice A_o2 n_o2 c_o2, .int .i64 l_o2.e, .bool g_o2.neg, .slice B_o2 m_o2 k_o2, .int .i64 g_o2.e, .int .i64 x_o2], _, rfl, by kernel_rfl, by kernel_rfl, fun g16 => ?_⟩
                  replace F_a1 := F_a1.mv g16.mv; replace F_a2 := F_a2.mv g16.mv; replace F_b1 := F_b1.mv g16.mv; replace F_b2 := F_b2.mv g16.mv; replace r_x := g16.rdD r_x; replace r_y := g16.rdD r_y; replace r_o1l := g16.rdD r_o1l; replace r_o1h := g16.rdD r_o1h
                  clear h16 hb16
                  have gx : GD x := ⟨h_mx, r_x.lim⟩
                  have gy : GD y := ⟨h_my, r_y.lim⟩
                  obtain ⟨T1, T2, T3⟩ := tms (limT F_a1 F_a2) (limT F_b1 F_b2) h_wab gx gy (by have h5 := of_decide_eq_false h_c; rw [gx.gt gy] at h5; omega) h_o1 h_o2
                  refine sat_chkB (by kernel_rfl) ?_
                  refine sat_prim (v := .bool ((x_o1 : Int) != x_o2)) (by kernel_rfl) ?_
                  refine sat_falseP (b := ((x_o1 : Int) != x_o2)) (by kernel_rfl) (T1) ?_
                  refine sat_prim (v := .bool ((x_o1 : Int) != 0)) (by kernel_rfl) ?_
                  cases h_z : ((x_o1 : Int) != 0)
                  · refine sat_false (by kernel_rfl) ?_
                    refine sat_call #[.agg #[.slice A_a a.at_.length c_a, .slice B_a a.v.length d_a], .agg #[.bool x.neg, .slice A_x n_x c_x, .int .i64 x.e]] (by kernel_rfl) fun w18 h18 => ?_
                    refine (atT_any _ _ _ _ _ a (x) _ ((F_a1.mv h18.mv).any) ((F_a2.mv h18.mv).any) (h18.rdD r_x)).mono ?_
                    rintro e v18 ⟨⟨l_o3, g_o3, x_o3, A_o3, n_o3, c_o3, B_o3, m_o3, k_o3, h_o3, rfl, r_o3l, r_o3h⟩, hb18⟩
                    refine ⟨hb18, [.bool l_o3.neg, .slice A_o3 n_o3 c_o3, .int .i64 l_o3.e, .bool g_o3.neg, .slice B_o3 m_o3 k_o3, .int .i64 g_o3.e, .int .i64 x_o3], _, rfl, by kernel_rfl, by kernel_rfl, fun g18 => ?_⟩
                    replace F_a1 := F_a1.mv g18.mv; replace F_a2 := F_a2.mv g18.mv; replace F_b1 := F_b1.mv g18.mv; replace F_b2 := F_b2.mv g18.mv; replace r_x := g18.rdD r_x; replace r_y := g18.rdD r_y; replace r_o1l := g18.rdD r_o1l; replace r_o1h := g18.rdD r_o1h; replace r_o2l := g18.rdD r_o2l; replace r_o2h := g18.rdD r_o2h
                    clear h18 hb18
                    refine sat_chkB (by kernel_rfl) ?_
                    refine sat_call #[.agg #[.slice A_b b.at_.length c_b, .slice B_b b.v.length d_b], .agg #[.bool x.neg, .slice A_x n_x c_x, .int .i64 x.e]] (by kernel_rfl) fun w19 h19 => ?_
                    refine (atT_any _ _ _ _ _ b (x) _ ((F_b1.mv h19.mv).any) ((F_b2.mv h19.mv).any) (h19.rdD r_x)).mono ?_
                    rintro e v19 ⟨⟨l_o4, g_o4, x_o4, A_o4, n_o4, c_o4, B_o4, m_o4, k_o4, h_o4, rfl, r_o4l, r_o4h⟩, hb19⟩
                    refine ⟨hb19, [.bool l_o4.neg, .slice A_o4 n_o4 c_o4, .int .i64 l_o4.e, .bool g_o4.neg, .slice B_o4 m_o4 k_o4, .int .i64 g_o4.e, .int .i64 x_o4], _, rfl, by kernel_rfl, by kernel_rfl, fun g19 => ?_⟩
                    replace F_a1 := F_a1.mv g19.mv; replace F_a2 := F_a2.mv g19.mv; replace F_b1 := F_b1.mv g19.mv; replace F_b2 := F_b2.mv g19.mv; replace r_x := g19.rdD r_x; replace r_y := g19.rdD r_y; replace r_o1l := g19.rdD r_o1l; replace r_o1h := g19.rdD r_o1h; replace r_o2l := g19.rdD r_o2l; replace r_o2h := g19.rdD r_o2h; replace r_o3l := g19.rdD r_o3l; replace r_o3h := g19.rdD r_o3h
                    clear h19 hb19
                    obtain ⟨T4, T5⟩ := T3 h_z
                    obtain ⟨T6, T7, T8⟩ := tms_at T5 h_o3 h_o4
                    refine sat_chkB (by kernel_rfl) ?_
                    refine sat_call #[] (by kernel_rfl) fun w20 h20 => ?_
                    refine (told13_any _ (h20.tab hT)).mono ?_
                    rintro e v20 ⟨rfl, hb20⟩
                    refine ⟨hb20, [.bool true], _, rfl, by kernel_rfl, by kernel_rfl, fun g20 => ?_⟩
                    replace F_a1 := F_a1.mv g20.mv; replace F_a2 := F_a2.mv g20.mv; replace F_b1 := F_b1.mv g20.mv; replace F_b2 := F_b2.mv g20.mv; replace r_x := g20.rdD r_x; replace r_y := g20.rdD r_y; replace r_o1l := g20.rdD r_o1l; replace r_o1h := g20.rdD r_o1h; replace r_o2l := g20.rdD r_o2l; replace r_o2h := g20.rdD r_o2h; replace r_o3l := g20.rdD r_o3l; replace r_o3h := g20.rdD r_o3h; replace r_o4l := g20.rdD r_o4l; replace r_o4h := g20.rdD r_o4h
                    clear h20 hb20
                    refine sat_true (by kernel_rfl) ?_
                    refine sat_call #[.agg #[.bool l_o1.neg, .slice A_o1 n_o1 c_o1, .int .i64 l_o1.e, .bool g_o1.neg, .slice B_o1 m_o1 k_o1, .int .i64 g_o1.e], .agg #[.bool l_o2.neg, .slice A_o2 n_o2 c_o2, .int .i64 l_o2.e, .bool g_o2.neg, .slice B_o2 m_o2 k_o2, .int .i64 g_o2.e]] (by kernel_rfl) fun w21 h21 => ?_
                    refine (withinI_any _ _ ⟨l_o1, g_o1⟩ ⟨l_o2, g_o2⟩ _ (mkI (h21.rdD r_o1l) (h21.rdD r_o1h)) (mkI (h21.rdD r_o2l) (h21.rdD r_o2h))).mono ?_
                    rintro e v21 ⟨rfl, hb21⟩
                    refine ⟨hb21, [.bool (withinI ⟨l_o1, g_o1⟩ ⟨l_o2, g_o2⟩)], _, rfl, by kernel_rfl, by kernel_rfl, fun g21 => ?_⟩
                    replace F_a1 := F_a1.mv g21.mv; replace F_a2 := F_a2.mv g21.mv; replace F_b1 := F_b1.mv g21.mv; replace F_b2 := F_b2.mv g21.mv; replace r_x := g21.rdD r_x; replace r_y := g21.rdD r_y; replace r_o1l := g21.rdD r_o1l; replace r_o1h := g21.rdD r_o1h; replace r_o2l := g21.rdD r_o2l; replace r_o2h := g21.rdD r_o2h; replace r_o3l := g21.rdD r_o3l; replace r_o3h := g21.rdD r_o3h; replace r_o4l := g21.rdD r_o4l; replace r_o4h := g21.rdD r_o4h
                    clear h21 hb21
                    refine sat_trueP (b := (withinI ⟨l_o1, g_o1⟩ ⟨l_o2, g_o2⟩)) (by kernel_rfl) (T4) ?_
                    refine sat_prim (v := .bool ((x_o3 : Int) == 0)) (by kernel_rfl) ?_
                    refine sat_trueP (b := ((x_o3 : Int) == 0)) (by kernel_rfl) (T6) ?_
                    refine sat_prim (v := .bool ((x_o4 : Int) == 0)) (by kernel_rfl) ?_
                    refine sat_trueP (b := ((x_o4 : Int) == 0)) (by kernel_rfl) (T7) ?_
                    refine sat_call #[.agg #[.bool l_o3.neg, .slice A_o3 n_o3 c_o3, .int .i64 l_o3.e, .bool g_o3.neg, .slice B_o3 m_o3 k_o3, .int .i64 g_o3.e], .agg #[.bool l_o4.neg, .slice A_o4 n_o4 c_o4, .int .i64 l_o4.e, .bool g_o4.neg, .slice B_o4 m_o4 k_o4, .int .i64 g_o4.e]] (by kernel_rfl) fun w22 h22 => ?_
                    refine (withinI_any _ _ ⟨l_o3, g_o3⟩ ⟨l_o4, g_o4⟩ _ (mkI (h22.rdD r_o3l) (h22.rdD r_o3h)) (mkI (h22.rdD r_o4l) (h22.rdD r_o4h))).mono ?_
                    rintro e v22 ⟨rfl, hb22⟩
                    refine ⟨hb22, [.bool (withinI ⟨l_o3, g_o3⟩ ⟨l_o4, g_o4⟩)], _, rfl, by kernel_rfl, by kernel_rfl, fun g22 => ?_⟩
                    replace F_a1 := F_a1.mv g22.mv; replace F_a2 := F_a2.mv g22.mv; replace F_b1 := F_b1.mv g22.mv; replace F_b2 := F_b2.mv g22.mv; replace r_x := g22.rdD r_x; replace r_y := g22.rdD r_y; replace r_o1l := g22.rdD r_o1l; replace r_o1h := g22.rdD r_o1h; replace r_o2l := g22.rdD r_o2l; replace r_o2h := g22.rdD r_o2h; replace r_o3l := g22.rdD r_o3l; replace r_o3h := g22.rdD r_o3h; replace r_o4l := g22.rdD r_o4l; replace r_o4h := g22.rdD r_o4h
                    clear h22 hb22
                    refine sat_trueP (b := (withinI ⟨l_o3, g_o3⟩ ⟨l_o4, g_o4⟩)) (by kernel_rfl) (T8) ?_
                    refine sat_call #[.agg #[.slice A_a a.at_.length c_a, .slice B_a a.v.length d_a], .agg #[.slice A_b b.at_.length c_b, .slice B_b b.v.length d_b]] (by kernel_rfl) fun w23 h23 => ?_
                    refine (insideT_any _ _ _ _ _ _ _ _ a b _ ((F_a1.mv h23.mv).any) ((F_a2.mv h23.mv).any) ((F_b1.mv h23.mv).any) ((F_b2.mv h23.mv).any)).mono ?_
                    rintro e v23 ⟨rfl, hb23⟩
                    refine ⟨hb23, [.bool (besideT insideI a b)], _, rfl, by kernel_rfl, by kernel_rfl, fun g23 => ?_⟩
                    replace F_a1 := F_a1.mv g23.mv; replace F_a2 := F_a2.mv g23.mv; replace F_b1 := F_b1.mv g23.mv; replace F_b2 := F_b2.mv g23.mv; replace r_x := g23.rdD r_x; replace r_y := g23.rdD r_y; replace r_o1l := g23.rdD r_o1l; replace r_o1h := g23.rdD r_o1h; replace r_o2l := g23.rdD r_o2l; replace r_o2h := g23.rdD r_o2h; replace r_o3l := g23.rdD r_o3l; replace r_o3h := g23.rdD r_o3h; replace r_o4l := g23.rdD r_o4l; replace r_o4h := g23.rdD r_o4h
                    clear h23 hb23
                    refine sat_prim (v := .bool (!(besideT insideI a b))) (by kernel_rfl) ?_
                    cases h_iab : (besideT insideI a b)
                    · refine sat_true (by kernel_rfl) ?_
                      exact sat_ret (.bool true) (by kernel_rfl) fun w9 h9 => rfl
                    · refine sat_false (by kernel_rfl) ?_
                      refine sat_call #[.agg #[.slice A_a a.at_.length c_a, .slice B_a a.v.length d_a], .agg #[.slice A_b b.at_.length c_b, .slice B_b b.v.length d_b]] (by kernel_rfl) fun w25 h25 => ?_
                      refine (withinT_any _ _ _ _ _ _ _ _ a b _ ((F_a1.mv h25.mv).any) ((F_a2.mv h25.mv).any) ((F_b1.mv h25.mv).any) ((F_b2.mv h25.mv).any)).mono ?_
                      rintro e v25 ⟨rfl, hb25⟩
                      refine ⟨hb25, [.bool (besideT withinI a b)], _, rfl, by kernel_rfl, by kernel_rfl, fun g25 => ?_⟩
                      replace F_a1 := F_a1.mv g25.mv; replace F_a2 := F_a2.mv g25.mv; replace F_b1 := F_b1.mv g25.mv; replace F_b2 := F_b2.mv g25.mv; replace r_x := g25.rdD r_x; replace r_y := g25.rdD r_y; replace r_o1l := g25.rdD r_o1l; replace r_o1h := g25.rdD r_o1h; replace r_o2l := g25.rdD r_o2l; replace r_o2h := g25.rdD r_o2h; replace r_o3l := g25.rdD r_o3l; replace r_o3h := g25.rdD r_o3h; replace r_o4l := g25.rdD r_o4l; replace r_o4h := g25.rdD r_o4h
                      clear h25 hb25
                      exact sat_ret (.bool (besideT withinI a b)) (by kernel_rfl) fun w9 h9 => congrArg Value.bool (h_wab)
                  · refine sat_true (by kernel_rfl) ?_
                    refine sat_call #[] (by kernel_rfl) fun w18 h18 => ?_
                    refine (told13_any _ (h18.tab hT)).mono ?_
                    rintro e v18 ⟨rfl, hb18⟩
                    refine ⟨hb18, [.bool true], _, rfl, by kernel_rfl, by kernel_rfl, fun g18 => ?_⟩
                    replace F_a1 := F_a1.mv g18.mv; replace F_a2 := F_a2.mv g18.mv; replace F_b1 := F_b1.mv g18.mv; replace F_b2 := F_b2.mv g18.mv; replace r_x := g18.rdD r_x; replace r_y := g18.rdD r_y; replace r_o1l := g18.rdD r_o1l; replace r_o1h := g18.rdD r_o1h; replace r_o2l := g18.rdD r_o2l; replace r_o2h := g18.rdD r_o2h
                    clear h18 hb18
                    refine sat_true (by kernel_rfl) ?_
                    refine sat_prim (v := .bool ((x_o1 : Int) == 5)) (by kernel_rfl) ?_
                    exact sat_ret (.bool ((x_o1 : Int) == 5)) (by kernel_rfl) fun w9 h9 => congrArg Value.bool (T2 h_z)
                · refine sat_true (by kernel_rfl) ?_
                  refine sat_chkB (by kernel_rfl) ?_
                  refine sat_chkB (by kernel_rfl) ?_
                  refine sat_call #[.agg #[.slice A_a a.at_.length c_a, .slice B_a a.v.length d_a], .agg #[.bool y.neg, .slice A_y n_y c_y, .int .i64 y.e], .agg #[.bool x.neg, .slice A_x n_x c_x, .int .i64 x.e]] (by kernel_rfl) fun w15 h15 => ?_
                  refine (overT_any _ _ _ _ _ _ a (y) (x) _ ((F_a1.mv h15.mv).any) ((F_a2.mv h15.mv).any) (h15.rdD r_y) (h15.rdD r_x)).mono ?_
                  rintro e v15 ⟨⟨l_o1, g_o1, x_o1, A_o1, n_o1, c_o1, B_o1, m_o1, k_o1, h_o1, rfl, r_o1l, r_o1h⟩, hb15⟩
                  refine ⟨hb15, [.bool l_o1.neg, .slice A_o1 n_o1 c_o1, .int .i64 l_o1.e, .bool g_o1.neg, .slice B_o1 m_o1 k_o1, .int .i64 g_o1.e, .int .i64 x_o1], _, rfl, by kernel_rfl, by kernel_rfl, fun g15 => ?_⟩
                  replace F_a1 := F_a1.mv g15.mv; replace F_a2 := F_a2.mv g15.mv; replace F_b1 := F_b1.mv g15.mv; replace F_b2 := F_b2.mv g15.mv; replace r_x := g15.rdD r_x; replace r_y := g15.rdD r_y
                  clear h15 hb15
                  refine sat_chkB (by kernel_rfl) ?_
                  refine sat_call #[.agg #[.slice A_b b.at_.length c_b, .slice B_b b.v.length d_b], .agg #[.bool y.neg, .slice A_y n_y c_y, .int .i64 y.e], .agg #[.bool x.neg, .slice A_x n_x c_x, .int .i64 x.e]] (by kernel_rfl) fun w16 h16 => ?_
                  refine (overT_any _ _ _ _ _ _ b (y) (x) _ ((F_b1.mv h16.mv).any) ((F_b2.mv h16.mv).any) (h16.rdD r_y) (h16.rdD r_x)).mono ?_
                  rintro e v16 ⟨⟨l_o2, g_o2, x_o2, A_o2, n_o2, c_o2, B_o2, m_o2, k_o2, h_o2, rfl, r_o2l, r_o2h⟩, hb16⟩
                  refine ⟨hb16, [.bool l_o2.neg, .slice A_o2 n_o2 c_o2, .int .i64 l_o2.e, .bool g_o2.neg, .slice B_o2 m_o2 k_o2, .int .i64 g_o2.e, .int .i64 x_o2], _, rfl, by kernel_rfl, by kernel_rfl, fun g16 => ?_⟩
                  replace F_a1 := F_a1.mv g16.mv; replace F_a2 := F_a2.mv g16.mv; replace F_b1 := F_b1.mv g16.mv; replace F_b2 := F_b2.mv g16.mv; replace r_x := g16.rdD r_x; replace r_y := g16.rdD r_y; replace r_o1l := g16.rdD r_o1l; replace r_o1h := g16.rdD r_o1h
                  clear h16 hb16
                  have gx : GD x := ⟨h_mx, r_x.lim⟩
                  have gy : GD y := ⟨h_my, r_y.lim⟩
                  obtain ⟨T1, T2, T3⟩ := tms (limT F_a1 F_a2) (limT F_b1 F_b2) h_wab gy gx (by have h5 := (gx.gt gy).1 (of_decide_eq_true h_c); omega) h_o1 h_o2
                  refine sat_chkB (by kernel_rfl) ?_
                  refine sat_prim (v := .bool ((x_o1 : Int) != x_o2)) (by kernel_rfl) ?_
                  refine sat_falseP (b := ((x_o1 : Int) != x_o2)) (by kernel_rfl) (T1) ?_
                  refine sat_prim (v := .bool ((x_o1 : Int) != 0)) (by kernel_rfl) ?_
                  cases h_z : ((x_o1 : Int) != 0)
                  · refine sat_false (by kernel_rfl) ?_
                    refine sat_call #[.agg #[.slice A_a a.at_.length c_a, .slice B_a a.v.length d_a], .agg #[.bool y.neg, .slice A_y n_y c_y, .int .i64 y.e]] (by kernel_rfl) fun w18 h18 => ?_
                    refine (atT_any _ _ _ _ _ a (y) _ ((F_a1.mv h18.mv).any) ((F_a2.mv h18.mv).any) (h18.rdD r_y)).mono ?_
                    rintro e v18 ⟨⟨l_o3, g_o3, x_o3, A_o3, n_o3, c_o3, B_o3, m_o3, k_o3, h_o3, rfl, r_o3l, r_o3h⟩, hb18⟩
                    refine ⟨hb18, [.bool l_o3.neg, .slice A_o3 n_o3 c_o3, .int .i64 l_o3.e, .bool g_o3.neg, .slice B_o3 m_o3 k_o3, .int .i64 g_o3.e, .int .i64 x_o3], _, rfl, by kernel_rfl, by kernel_rfl, fun g18 => ?_⟩
                    replace F_a1 := F_a1.mv g18.mv; replace F_a2 := F_a2.mv g18.mv; replace F_b1 := F_b1.mv g18.mv; replace F_b2 := F_b2.mv g18.mv; replace r_x := g18.rdD r_x; replace r_y := g18.rdD r_y; replace r_o1l := g18.rdD r_o1l; replace r_o1h := g18.rdD r_o1h; replace r_o2l := g18.rdD r_o2l; replace r_o2h := g18.rdD r_o2h
                    clear h18 hb18
                    refine sat_chkB (by kernel_rfl) ?_
                    refine sat_call #[.agg #[.slice A_b b.at_.length c_b, .slice B_b b.v.length d_b], .agg #[.bool y.neg, .slice A_y n_y c_y, .int .i64 y.e]] (by kernel_rfl) fun w19 h19 => ?_
                    refine (atT_any _ _ _ _ _ b (y) _ ((F_b1.mv h19.mv).any) ((F_b2.mv h19.mv).any) (h19.rdD r_y)).mono ?_
                    rintro e v19 ⟨⟨l_o4, g_o4, x_o4, A_o4, n_o4, c_o4, B_o4, m_o4, k_o4, h_o4, rfl, r_o4l, r_o4h⟩, hb19⟩
                    refine ⟨hb19, [.bool l_o4.neg, .slice A_o4 n_o4 c_o4, .int .i64 l_o4.e, .bool g_o4.neg, .slice B_o4 m_o4 k_o4, .int .i64 g_o4.e, .int .i64 x_o4], _, rfl, by kernel_rfl, by kernel_rfl, fun g19 => ?_⟩
                    replace F_a1 := F_a1.mv g19.mv; replace F_a2 := F_a2.mv g19.mv; replace F_b1 := F_b1.mv g19.mv; replace F_b2 := F_b2.mv g19.mv; replace r_x := g19.rdD r_x; replace r_y := g19.rdD r_y; replace r_o1l := g19.rdD r_o1l; replace r_o1h := g19.rdD r_o1h; replace r_o2l := g19.rdD r_o2l; replace r_o2h := g19.rdD r_o2h; replace r_o3l := g19.rdD r_o3l; replace r_o3h := g19.rdD r_o3h
                    clear h19 hb19
                    obtain ⟨T4, T5⟩ := T3 h_z
                    obtain ⟨T6, T7, T8⟩ := tms_at T5 h_o3 h_o4
                    refine sat_chkB (by kernel_rfl) ?_
                    refine sat_call #[] (by kernel_rfl) fun w20 h20 => ?_
                    refine (told13_any _ (h20.tab hT)).mono ?_
                    rintro e v20 ⟨rfl, hb20⟩
                    refine ⟨hb20, [.bool true], _, rfl, by kernel_rfl, by kernel_rfl, fun g20 => ?_⟩
                    replace F_a1 := F_a1.mv g20.mv; replace F_a2 := F_a2.mv g20.mv; replace F_b1 := F_b1.mv g20.mv; replace F_b2 := F_b2.mv g20.mv; replace r_x := g20.rdD r_x; replace r_y := g20.rdD r_y; replace r_o1l := g20.rdD r_o1l; replace r_o1h := g20.rdD r_o1h; replace r_o2l := g20.rdD r_o2l; replace r_o2h := g20.rdD r_o2h; replace r_o3l := g20.rdD r_o3l; replace r_o3h := g20.rdD r_o3h; replace r_o4l := g20.rdD r_o4l; replace r_o4h := g20.rdD r_o4h
                    clear h20 hb20
                    refine sat_true (by kernel_rfl) ?_
                    refine sat_call #[.agg #[.bool l_o1.neg, .slice A_o1 n_o1 c_o1, .int .i64 l_o1.e, .bool g_o1.neg, .slice B_o1 m_o1 k_o1, .int .i64 g_o1.e], .agg #[.bool l_o2.neg, .slice A_o2 n_o2 c_o2, .int .i64 l_o2.e, .bool g_o2.neg, .slice B_o2 m_o2 k_o2, .int .i64 g_o2.e]] (by kernel_rfl) fun w21 h21 => ?_
                    refine (withinI_any _ _ ⟨l_o1, g_o1⟩ ⟨l_o2, g_o2⟩ _ (mkI (h21.rdD r_o1l) (h21.rdD r_o1h)) (mkI (h21.rdD r_o2l) (h21.rdD r_o2h))).mono ?_
                    rintro e v21 ⟨rfl, hb21⟩
                    refine ⟨hb21, [.bool (withinI ⟨l_o1, g_o1⟩ ⟨l_o2, g_o2⟩)], _, rfl, by kernel_rfl, by kernel_rfl, fun g21 => ?_⟩
                    replace F_a1 := F_a1.mv g21.mv; replace F_a2 := F_a2.mv g21.mv; replace F_b1 := F_b1.mv g21.mv; replace F_b2 := F_b2.mv g21.mv; replace r_x := g21.rdD r_x; replace r_y := g21.rdD r_y; replace r_o1l := g21.rdD r_o1l; replace r_o1h := g21.rdD r_o1h; replace r_o2l := g21.rdD r_o2l; replace r_o2h := g21.rdD r_o2h; replace r_o3l := g21.rdD r_o3l; replace r_o3h := g21.rdD r_o3h; replace r_o4l := g21.rdD r_o4l; replace r_o4h := g21.rdD r_o4h
                    clear h21 hb21
                    refine sat_trueP (b := (withinI ⟨l_o1, g_o1⟩ ⟨l_o2, g_o2⟩)) (by kernel_rfl) (T4) ?_
                    refine sat_prim (v := .bool ((x_o3 : Int) == 0)) (by kernel_rfl) ?_
                    refine sat_trueP (b := ((x_o3 : Int) == 0)) (by kernel_rfl) (T6) ?_
                    refine sat_prim (v := .bool ((x_o4 : Int) == 0)) (by kernel_rfl) ?_
                    refine sat_trueP (b := ((x_o4 : Int) == 0)) (by kernel_rfl) (T7) ?_
                    refine sat_call #[.agg #[.bool l_o3.neg, .slice A_o3 n_o3 c_o3, .int .i64 l_o3.e, .bool g_o3.neg, .slice B_o3 m_o3 k_o3, .int .i64 g_o3.e], .agg #[.bool l_o4.neg, .slice A_o4 n_o4 c_o4, .int .i64 l_o4.e, .bool g_o4.neg, .slice B_o4 m_o4 k_o4, .int .i64 g_o4.e]] (by kernel_rfl) fun w22 h22 => ?_
                    refine (withinI_any _ _ ⟨l_o3, g_o3⟩ ⟨l_o4, g_o4⟩ _ (mkI (h22.rdD r_o3l) (h22.rdD r_o3h)) (mkI (h22.rdD r_o4l) (h22.rdD r_o4h))).mono ?_
                    rintro e v22 ⟨rfl, hb22⟩
                    refine ⟨hb22, [.bool (withinI ⟨l_o3, g_o3⟩ ⟨l_o4, g_o4⟩)], _, rfl, by kernel_rfl, by kernel_rfl, fun g22 => ?_⟩
                    replace F_a1 := F_a1.mv g22.mv; replace F_a2 := F_a2.mv g22.mv; replace F_b1 := F_b1.mv g22.mv; replace F_b2 := F_b2.mv g22.mv; replace r_x := g22.rdD r_x; replace r_y := g22.rdD r_y; replace r_o1l := g22.rdD r_o1l; replace r_o1h := g22.rdD r_o1h; replace r_o2l := g22.rdD r_o2l; replace r_o2h := g22.rdD r_o2h; replace r_o3l := g22.rdD r_o3l; replace r_o3h := g22.rdD r_o3h; replace r_o4l := g22.rdD r_o4l; replace r_o4h := g22.rdD r_o4h
                    clear h22 hb22
                    refine sat_trueP (b := (withinI ⟨l_o3, g_o3⟩ ⟨l_o4, g_o4⟩)) (by kernel_rfl) (T8) ?_
                    refine sat_call #[.agg #[.slice A_a a.at_.length c_a, .slice B_a a.v.length d_a], .agg #[.slice A_b b.at_.length c_b, .slice B_b b.v.length d_b]] (by kernel_rfl) fun w23 h23 => ?_
                    refine (insideT_any _ _ _ _ _ _ _ _ a b _ ((F_a1.mv h23.mv).any) ((F_a2.mv h23.mv).any) ((F_b1.mv h23.mv).any) ((F_b2.mv h23.mv).any)).mono ?_
                    rintro e v23 ⟨rfl, hb23⟩
                    refine ⟨hb23, [.bool (besideT insideI a b)], _, rfl, by kernel_rfl, by kernel_rfl, fun g23 => ?_⟩
                    replace F_a1 := F_a1.mv g23.mv; replace F_a2 := F_a2.mv g23.mv; replace F_b1 := F_b1.mv g23.mv; replace F_b2 := F_b2.mv g23.mv; replace r_x := g23.rdD r_x; replace r_y := g23.rdD r_y; replace r_o1l := g23.rdD r_o1l; replace r_o1h := g23.rdD r_o1h; replace r_o2l := g23.rdD r_o2l; replace r_o2h := g23.rdD r_o2h; replace r_o3l := g23.rdD r_o3l; replace r_o3h := g23.rdD r_o3h; replace r_o4l := g23.rdD r_o4l; replace r_o4h := g23.rdD r_o4h
                    clear h23 hb23
                    refine sat_prim (v := .bool (!(besideT insideI a b))) (by kernel_rfl) ?_
                    cases h_iab : (besideT insideI a b)
                    · refine sat_true (by kernel_rfl) ?_
                      exact sat_ret (.bool true) (by kernel_rfl) fun w9 h9 => rfl
                    · refine sat_false (by kernel_rfl) ?_
                      refine sat_call #[.agg #[.slice A_a a.at_.length c_a, .slice B_a a.v.length d_a], .agg #[.slice A_b b.at_.length c_b, .slice B_b b.v.length d_b]] (by kernel_rfl) fun w25 h25 => ?_
                      refine (withinT_any _ _ _ _ _ _ _ _ a b _ ((F_a1.mv h25.mv).any) ((F_a2.mv h25.mv).any) ((F_b1.mv h25.mv).any) ((F_b2.mv h25.mv).any)).mono ?_
                      rintro e v25 ⟨rfl, hb25⟩
                      refine ⟨hb25, [.bool (besideT withinI a b)], _, rfl, by kernel_rfl, by kernel_rfl, fun g25 => ?_⟩
                      replace F_a1 := F_a1.mv g25.mv; replace F_a2 := F_a2.mv g25.mv; replace F_b1 := F_b1.mv g25.mv; replace F_b2 := F_b2.mv g25.mv; replace r_x := g25.rdD r_x; replace r_y := g25.rdD r_y; replace r_o1l := g25.rdD r_o1l; replace r_o1h := g25.rdD r_o1h; replace r_o2l := g25.rdD r_o2l; replace r_o2h := g25.rdD r_o2h; replace r_o3l := g25.rdD r_o3l; replace r_o3h := g25.rdD r_o3h; replace r_o4l := g25.rdD r_o4l; replace r_o4h := g25.rdD r_o4h
                      clear h25 hb25
                      exact sat_ret (.bool (besideT withinI a b)) (by kernel_rfl) fun w9 h9 => congrArg Value.bool (h_wab)
                  · refine sat_true (by kernel_rfl) ?_
                    refine sat_call #[] (by kernel_rfl) fun w18 h18 => ?_
                    refine (told13_any _ (h18.tab hT)).mono ?_
                    rintro e v18 ⟨rfl, hb18⟩
                    refine ⟨hb18, [.bool true], _, rfl, by kernel_rfl, by kernel_rfl, fun g18 => ?_⟩
                    replace F_a1 := F_a1.mv g18.mv; replace F_a2 := F_a2.mv g18.mv; replace F_b1 := F_b1.mv g18.mv; replace F_b2 := F_b2.mv g18.mv; replace r_x := g18.rdD r_x; replace r_y := g18.rdD r_y; replace r_o1l := g18.rdD r_o1l; replace r_o1h := g18.rdD r_o1h; replace r_o2l := g18.rdD r_o2l; replace r_o2h := g18.rdD r_o2h
                    clear h18 hb18
                    refine sat_true (by kernel_rfl) ?_
                    refine sat_prim (v := .bool ((x_o1 : Int) == 5)) (by kernel_rfl) ?_
                    exact sat_ret (.bool ((x_o1 : Int) == 5)) (by kernel_rfl) fun w9 h9 => congrArg Value.bool (T2 h_z)
        · refine sat_true (by kernel_rfl) ?_
          refine sat_call #[] (by kernel_rfl) fun w7 h7 => ?_
          refine (told13_any _ (h7.tab hT)).mono ?_
          rintro e v7 ⟨rfl, hb7⟩
          refine ⟨hb7, [.bool true], _, rfl, by kernel_rfl, by kernel_rfl, fun g7 => ?_⟩
          replace F_a1 := F_a1.mv g7.mv; replace F_a2 := F_a2.mv g7.mv; replace F_b1 := F_b1.mv g7.mv; replace F_b2 := F_b2.mv g7.mv; replace r_x := g7.rdD r_x; replace r_y := g7.rdD r_y
          clear h7 hb7
          exact sat_ret (.bool true) (by kernel_rfl) fun w9 h9 => rfl
      · refine sat_true (by kernel_rfl) ?_
        refine sat_call #[] (by kernel_rfl) fun w6 h6 => ?_
        refine (told13_any _ (h6.tab hT)).mono ?_
        rintro e v6 ⟨rfl, hb6⟩
        refine ⟨hb6, [.bool true], _, rfl, by kernel_rfl, by kernel_rfl, fun g6 => ?_⟩
        replace F_a1 := F_a1.mv g6.mv; replace F_a2 := F_a2.mv g6.mv; replace F_b1 := F_b1.mv g6.mv; replace F_b2 := F_b2.mv g6.mv; replace r_x := g6.rdD r_x; replace r_y := g6.rdD r_y
        clear h6 hb6
        exact sat_ret (.bool true) (by kernel_rfl) fun w9 h9 => rfl

end Go.Proofs.YtbpfnooloemieaaDoor
