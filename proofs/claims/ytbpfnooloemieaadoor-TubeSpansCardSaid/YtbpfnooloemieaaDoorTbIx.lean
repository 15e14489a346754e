/- The walk of TubeSpans, by its tree. Printed by wip/mk_TbI.py. -/
import Derived.Test.YtbpfnooloemieaaDoorTbRx
import Derived.Test.YtbpfnooloemieaaDoorTbQx
namespace Go.Proofs.YtbpfnooloemieaaDoor
open Go.RowKit Pl
open Sx (sat_call sat_chk sat_prim sat_ite sat_true sat_false sat_trueP sat_falseP sat_ret sat_row sat_callP sat_loop sat_back sat_idx sat_el sat_elf sat_elc sat_load sat_rowN sat_app sat_callB sat_alt rows_one rows_two all_nil all_cons okB okS okI)

theorem spans_all {a : Tb} {p q l g : Dy} {x : Int} (A : OkT a) (h1 : a.at_[0]? = some p) (h2 : a.at_[a.v.length]? = some q) (ho : Hid ((⟨l, g⟩, x) = overT a p q)) : (x != 0) = false ∧ ∀ (i : Nat) v, a.v[i]? = some v → withinI v ⟨l, g⟩ = true := by
  obtain ⟨c, C⟩ := over_all A
  rw [atT_is h1, atT_is h2] at C
  have h3 := ho.out.trans C.eq
  cases h3
  refine ⟨rfl, fun i v hv => (A.cells.ok hv).within C.ok (C.each i v hv ?_ ?_)⟩
  · rw [← atT_is h1]
    exact A.le (Nat.zero_le _) (get_lt hv)
  · rw [← atT_is h2]
    exact A.le (by have := get_lt hv; omega) (Nat.le_refl _)
theorem cut_got {t : Tb} {x y : Dy} {p : List Dy} {q : List Iv} {e : Int} (h : ∃ c, Cut t x y c) (k : Hid ((⟨p, q⟩, e) = cutT t x y)) : e = 0 ∧ Cut t x y ⟨p, q⟩ := by
  obtain ⟨c, C⟩ := h
  have h3 := k.out.trans C.eq
  cases h3
  exact ⟨rfl, C⟩
theorem join_got {a b : Tb} {p : List Dy} {q : List Iv} {e : Int} (h : ∃ c, Joi a b c) (k : Hid ((⟨p, q⟩, e) = joinT a b)) : e = 0 ∧ Joi a b ⟨p, q⟩ := by
  obtain ⟨c, C⟩ := h
  have h3 := k.out.trans C.eq
  cases h3
  exact ⟨rfl, C⟩
theorem halve_got {a : Tb} {p : List Dy} {q : List Iv} {e : Int} (A : OkT a) (h : (e != 0) = false) (k : Hid ((⟨p, q⟩, e) = halveT a)) : Eqv ⟨p, q⟩ a ∧ q.length = 2 * a.v.length := by
  have : e = 0 := by simpa using h
  subst this
  have r := halve_is A k.out.symm
  exact ⟨r.2.1, r.1⟩
theorem spans_eqv {a c p q j k : Tb} {x y u v : Dy} (A : OkT a) (C : Cut a x y c) (P : Cut a u x p) (Q : Cut a y v q) (J : Joi p c j) (K : Joi j q k) (z0 : ZD u = ZT a 0) (z1 : ZD v = ZT a a.v.length) : Eqv k a := by
  refine ⟨K.C, A, ?_, ?_, fun z w h => ?_⟩
  · rw [K.z0, J.z0, P.z0, z0]
  · rw [K.z1, Q.z1, z1]
  · rcases K.val z w h with h | h
    · rcases J.val z w h with h | h
      · exact P.val z w h
      · exact C.val z w h
    · exact Q.val z w h
theorem cut_first {a : Tb} {x y e : Dy} {p : List Dy} {q : List Iv} (C : Cut a x y ⟨p, q⟩) (h : p[0]? = some e) : sameD e x = true := by
  rw [← C.first, show atT (⟨p, q⟩ : Tb).at_ 0 = e from atT_is h]
  exact sameD_self _
theorem cut_last {a : Tb} {x y e : Dy} {p : List Dy} {q : List Iv} (gy : GD y) (C : Cut a x y ⟨p, q⟩) (h : p[q.length]? = some e) : sameD e y = true := by
  have g : GD e := atT_is h ▸ C.C.gd q.length (Nat.le_refl _)
  rw [g.same gy]
  refine decide_eq_true ?_
  rw [← C.z1, ← atT_is h]
  rfl

def tr_tubeSpans : Sx.Tree := .chk [.lf 0, .lf 1] (.chk [.lf 2, .lf 3, .lf 4] (.chk [.lf 5, .lf 6, .lf 7] (.call 22 [.ag [.lf 0, .lf 1]] .one (.prim .not [.lf 8] (.ite (.lf 9) (.call 25 [] .one (.ret (.one (.lf 10)))) (.prim .len [.lf 3] (.prim (.bin .gtr) [.lf 10, .num .i64 6] (.ite (.lf 11) (.call 25 [] .one (.ret (.one (.lf 12)))) (.prim .len [.lf 6] (.prim (.bin .gtr) [.lf 12, .num .i64 6] (.ite (.lf 13) (.call 25 [] .one (.ret (.one (.lf 14)))) (.call 30 [.ag [.lf 0, .lf 1]] .one (.prim .not [.lf 14] (.ite (.lf 15) (.call 25 [] .one (.ret (.one (.lf 16)))) (.call 24 [.ag [.lf 2, .lf 3, .lf 4]] .one (.prim .not [.lf 16] (.ite (.lf 17) (.call 25 [] .one (.ret (.one (.lf 18)))) (.call 24 [.ag [.lf 5, .lf 6, .lf 7]] .one (.prim .not [.lf 18] (.ite (.lf 19) (.call 25 [] .one (.ret (.one (.lf 20)))) (.prim (.idx 3) [.lf 0, .num .i64 0] (.load 35 (.lf 20) (.ag 3) (.prim .len [.lf 1] (.prim (.idx 3) [.lf 0, .lf 24] (.load 35 (.lf 25) (.ag 3) (.call 27 [.ag [.lf 0, .lf 1], .ag [.lf 21, .lf 22, .lf 23], .ag [.lf 26, .lf 27, .lf 28]] (.tup [(true, 6), (false, 1)]) (.chk [.lf 29, .lf 30, .lf 31, .lf 32, .lf 33, .lf 34] (.prim (.bin .neq) [.lf 35, .num .i64 0] (.ite (.lf 36) (.ret (.one (.bit false))) (.loop 0 [.num .i64 0, .bit false] (.prim .len [.lf 1] (.prim (.bin .lss) [.lf 37, .lf 39] (.ite (.lf 40) (.prim (.idx 6) [.lf 1, .lf 37] (.load 37 (.lf 41) (.ag 6) (.call 18 [.ag [.lf 42, .lf 43, .lf 44, .lf 45, .lf 46, .lf 47], .ag [.lf 29, .lf 30, .lf 31, .lf 32, .lf 33, .lf 34]] .one (.prim .not [.lf 48] (.ite (.lf 49) (.ret (.one (.bit false))) (.prim (.bin .add) [.lf 37, .num .i64 1] (.back 0 [.lf 50, .lf 38]))))))) (.prim (.idx 3) [.lf 0, .num .i64 0] (.load 35 (.lf 41) (.ag 3) (.call 26 [.ag [.lf 42, .lf 43, .lf 44], .ag [.lf 2, .lf 3, .lf 4]] .one (.prim (.bin .geq) [.lf 45, .num .i64 0] (.ite (.lf 46) (.call 25 [] .one (.ret (.one (.lf 47)))) (.call 26 [.ag [.lf 2, .lf 3, .lf 4], .ag [.lf 5, .lf 6, .lf 7]] .one (.prim (.bin .geq) [.lf 47, .num .i64 0] (.ite (.lf 48) (.call 25 [] .one (.ret (.one (.lf 49)))) (.prim .len [.lf 1] (.prim (.idx 3) [.lf 0, .lf 49] (.load 35 (.lf 50) (.ag 3) (.call 26 [.ag [.lf 5, .lf 6, .lf 7], .ag [.lf 51, .lf 52, .lf 53]] .one (.prim (.bin .geq) [.lf 54, .num .i64 0] (.ite (.lf 55) (.call 25 [] .one (.ret (.one (.lf 56)))) (.call 42 [.ag [.lf 0, .lf 1], .ag [.lf 2, .lf 3, .lf 4], .ag [.lf 5, .lf 6, .lf 7]] (.tup [(true, 2), (false, 1)]) (.chk [.lf 56, .lf 57] (.prim (.idx 3) [.lf 0, .num .i64 0] (.load 35 (.lf 59) (.ag 3) (.call 42 [.ag [.lf 0, .lf 1], .ag [.lf 60, .lf 61, .lf 62], .ag [.lf 2, .lf 3, .lf 4]] (.tup [(true, 2), (false, 1)]) (.chk [.lf 63, .lf 64] (.prim .len [.lf 1] (.prim (.idx 3) [.lf 0, .lf 66] (.load 35 (.lf 67) (.ag 3) (.call 42 [.ag [.lf 0, .lf 1], .ag [.lf 5, .lf 6, .lf 7], .ag [.lf 68, .lf 69, .lf 70]] (.tup [(true, 2), (false, 1)]) (.chk [.lf 71, .lf 72] (.prim (.bin .add) [.lf 58, .lf 65] (.prim (.bin .add) [.lf 74, .lf 73] (.prim (.bin .neq) [.lf 75, .num .i64 0] (.ite (.lf 76) (.ret (.one (.bit false))) (.call 34 [.ag [.lf 63, .lf 64], .ag [.lf 56, .lf 57]] (.tup [(true, 2), (false, 1)]) (.chk [.lf 77, .lf 78] (.call 34 [.ag [.lf 77, .lf 78], .ag [.lf 71, .lf 72]] (.tup [(true, 2), (false, 1)]) (.chk [.lf 80, .lf 81] (.prim (.bin .neq) [.lf 79, .num .i64 0] (.ite (.lf 83) (.ret (.one (.bit false))) (.prim (.bin .neq) [.lf 82, .num .i64 0] (.ite (.lf 84) (.ret (.one (.bit false))) (.call 23 [.ag [.lf 80, .lf 81], .ag [.lf 0, .lf 1]] .one (.prim .not [.lf 85] (.ite (.lf 86) (.ret (.one (.bit false))) (.call 23 [.ag [.lf 0, .lf 1], .ag [.lf 80, .lf 81]] .one (.prim .not [.lf 87] (.ite (.lf 88) (.ret (.one (.bit false))) (.call 43 [.ag [.lf 0, .lf 1]] (.tup [(true, 2), (false, 1)]) (.chk [.lf 89, .lf 90] (.call 25 [] .one (.ite (.lf 92) (.prim (.bin .neq) [.lf 91, .num .i64 0] (.ite (.lf 93) (.prim (.idx 3) [.lf 56, .num .i64 0] (.load 35 (.lf 94) (.ag 3) (.call 44 [.ag [.lf 95, .lf 96, .lf 97], .ag [.lf 2, .lf 3, .lf 4]] .one (.ite (.lf 98) (.prim .len [.lf 57] (.prim (.idx 3) [.lf 56, .lf 99] (.load 35 (.lf 100) (.ag 3) (.call 44 [.ag [.lf 101, .lf 102, .lf 103], .ag [.lf 5, .lf 6, .lf 7]] .one (.ret (.one (.lf 104))))))) (.ret (.one (.bit false))))))) (.call 23 [.ag [.lf 89, .lf 90], .ag [.lf 0, .lf 1]] .one (.ite (.lf 94) (.call 23 [.ag [.lf 0, .lf 1], .ag [.lf 89, .lf 90]] .one (.ite (.lf 95) (.prim .len [.lf 90] (.prim .len [.lf 1] (.prim (.bin .mul) [.num .i64 2, .lf 97] (.prim (.bin .eql) [.lf 96, .lf 98] (.ite (.lf 99) (.prim (.idx 3) [.lf 56, .num .i64 0] (.load 35 (.lf 100) (.ag 3) (.call 44 [.ag [.lf 101, .lf 102, .lf 103], .ag [.lf 2, .lf 3, .lf 4]] .one (.ite (.lf 104) (.prim .len [.lf 57] (.prim (.idx 3) [.lf 56, .lf 105] (.load 35 (.lf 106) (.ag 3) (.call 44 [.ag [.lf 107, .lf 108, .lf 109], .ag [.lf 5, .lf 6, .lf 7]] .one (.ret (.one (.lf 110))))))) (.ret (.one (.bit false))))))) (.ret (.one (.bit false)))))))) (.ret (.one (.bit false))))) (.ret (.one (.bit false))))))) (.ret (.one (.bit false)))))))))))))))))))))))))))))))))))))))))))))))))))))))))))))))))))))))))))))))))))
theorem tr_tubeSpans_eq : Sx.treeAt Tryd.prog 8 [] [] [(true, 2), (true, 3), (true, 3)] = some tr_tubeSpans := by kernel_rfl

set_option maxRecDepth 100000 in
set_option maxHeartbeats 4000000 in
theorem tubeSpans_any (A_a : Option Addr) (c_a : Nat) (B_a : Option Addr) (d_a : Nat) (v_x : Value) (v_y : Value) (a : Tb) (x : Dy) (y : Dy) (w : World) (h_a1 : Sx.Rows Sx.kD (fun _ => True) w A_a a.at_.length c_a a.at_) (h_a2 : Sx.Rows Sx.kI (fun _ => True) w B_a a.v.length d_a a.v) (h_x : RdD w v_x x) (h_y : RdD w v_y y) (hT : TabAt w) :
    Calls Tryd.prog 8 #[.agg #[.slice A_a a.at_.length c_a, .slice B_a a.v.length d_a], v_x, v_y] w fun e w' => e = .returned (.bool true) ∧ Below w.heap.size w w' := by
  have r_x := h_x
  obtain ⟨A_x, n_x, c_x, rfl, _⟩ := h_x
  have r_y := h_y
  obtain ⟨A_y, n_y, c_y, rfl, _⟩ := h_y
  have F_a1 := h_a1.start
  have M_a1 := h_a1.le
  clear h_a1
  have F_a2 := h_a2.start
  have M_a2 := h_a2.le
  clear h_a2
  refine (Sx.runA [] [] (ls := [.slice A_a a.at_.length c_a, .slice B_a a.v.length d_a, .bool x.neg, .slice A_x n_x c_x, .int .i64 x.e, .bool y.neg, .slice A_y n_y c_y, .int .i64 y.e]) (shs := [(true, 2), (true, 3), (true, 3)]) (R := fun v w' => v = .bool true) tr_tubeSpans_eq rfl (by decide) (fun q h => by cases h) ?_).mono (fun e w' ⟨v, he, hv, hb⟩ => ⟨by rw [he, hv], hb⟩)
  unfold tr_tubeSpans
  refine sat_chkB (by kernel_rfl) ?_
  refine sat_chkB (by kernel_rfl) ?_
  refine sat_chkB (by kernel_rfl) ?_
  refine sat_call #[.agg #[.slice A_a a.at_.length c_a, .slice B_a a.v.length d_a]] (by kernel_rfl) fun w1 h1 => ?_
  refine (fewT_any _ _ _ _ a _ ((F_a1.mv h1.mv).any) ((F_a2.mv h1.mv).any)).mono ?_
  rintro e v1 ⟨rfl, hb1⟩
  refine ⟨hb1, [.bool (fewT a)], _, rfl, by kernel_rfl, by kernel_rfl, fun g1 => ?_⟩
  replace F_a1 := F_a1.mv g1.mv; replace F_a2 := F_a2.mv g1.mv; replace r_x := g1.rdD r_x; replace r_y := g1.rdD r_y
  clear h1 hb1
  refine sat_prim (v := .bool (!(fewT a))) (by kernel_rfl) ?_
  cases h_few_a : (fewT a)
  · refine sat_true (by kernel_rfl) ?_
    refine sat_call #[] (by kernel_rfl) fun w3 h3 => ?_
    refine (told13_any _ (h3.tab hT)).mono ?_
    rintro e v3 ⟨rfl, hb3⟩
    refine ⟨hb3, [.bool true], _, rfl, by kernel_rfl, by kernel_rfl, fun g3 => ?_⟩
    replace F_a1 := F_a1.mv g3.mv; replace F_a2 := F_a2.mv g3.mv; replace r_x := g3.rdD r_x; replace r_y := g3.rdD r_y
    clear h3 hb3
    exact sat_ret (.bool true) (by kernel_rfl) fun w9 h9 => rfl
  · refine sat_false (by kernel_rfl) ?_
    refine sat_prim (v := .int .i64 ((n_x : Nat) : Int)) (by kernel_rfl) ?_
    refine sat_prim (v := .bool (decide ((6 : Int) < ((n_x : Nat) : Int)))) (by kernel_rfl) ?_
    cases hE3 : (decide ((6 : Int) < ((n_x : Nat) : Int)))
    · refine sat_false (by kernel_rfl) ?_
      refine sat_prim (v := .int .i64 ((n_y : Nat) : Int)) (by kernel_rfl) ?_
      refine sat_prim (v := .bool (decide ((6 : Int) < ((n_y : Nat) : Int)))) (by kernel_rfl) ?_
      cases hE4 : (decide ((6 : Int) < ((n_y : Nat) : Int)))
      · refine sat_false (by kernel_rfl) ?_
        refine sat_call #[.agg #[.slice A_a a.at_.length c_a, .slice B_a a.v.length d_a]] (by kernel_rfl) fun w5 h5 => ?_
        refine (mayT_any _ _ _ _ a _ ((F_a1.mv h5.mv).any) ((F_a2.mv h5.mv).any)).mono ?_
        rintro e v5 ⟨rfl, hb5⟩
        refine ⟨hb5, [.bool (mayT a)], _, rfl, by kernel_rfl, by kernel_rfl, fun g5 => ?_⟩
        replace F_a1 := F_a1.mv g5.mv; replace F_a2 := F_a2.mv g5.mv; replace r_x := g5.rdD r_x; replace r_y := g5.rdD r_y
        clear h5 hb5
        refine sat_prim (v := .bool (!(mayT a))) (by kernel_rfl) ?_
        cases h_may_a : (mayT a)
        · refine sat_true (by kernel_rfl) ?_
          refine sat_call #[] (by kernel_rfl) fun w7 h7 => ?_
          refine (told13_any _ (h7.tab hT)).mono ?_
          rintro e v7 ⟨rfl, hb7⟩
          refine ⟨hb7, [.bool true], _, rfl, by kernel_rfl, by kernel_rfl, fun g7 => ?_⟩
          replace F_a1 := F_a1.mv g7.mv; replace F_a2 := F_a2.mv g7.mv; replace r_x := g7.rdD r_x; replace r_y := g7.rdD r_y
          clear h7 hb7
          exact sat_ret (.bool true) (by kernel_rfl) fun w9 h9 => rfl
        · refine sat_false (by kernel_rfl) ?_
          refine sat_call #[.agg #[.bool x.neg, .slice A_x n_x c_x, .int .i64 x.e]] (by kernel_rfl) fun w7 h7 => ?_
          refine (mayD_any _ (x) _ (h7.rdD r_x)).mono ?_
          rintro e v7 ⟨rfl, hb7⟩
          refine ⟨hb7, [.bool (mayD x)], _, rfl, by kernel_rfl, by kernel_rfl, fun g7 => ?_⟩
          replace F_a1 := F_a1.mv g7.mv; replace F_a2 := F_a2.mv g7.mv; replace r_x := g7.rdD r_x; replace r_y := g7.rdD r_y
          clear h7 hb7
          refine sat_prim (v := .bool (!(mayD x))) (by kernel_rfl) ?_
          cases h_mx : (mayD x)
          · refine sat_true (by kernel_rfl) ?_
            refine sat_call #[] (by kernel_rfl) fun w9 h9 => ?_
            refine (told13_any _ (h9.tab hT)).mono ?_
            rintro e v9 ⟨rfl, hb9⟩
            refine ⟨hb9, [.bool true], _, rfl, by kernel_rfl, by kernel_rfl, fun g9 => ?_⟩
            replace F_a1 := F_a1.mv g9.mv; replace F_a2 := F_a2.mv g9.mv; replace r_x := g9.rdD r_x; replace r_y := g9.rdD r_y
            clear h9 hb9
            exact sat_ret (.bool true) (by kernel_rfl) fun w9 h9 => rfl
          · refine sat_false (by kernel_rfl) ?_
            refine sat_call #[.agg #[.bool y.neg, .slice A_y n_y c_y, .int .i64 y.e]] (by kernel_rfl) fun w9 h9 => ?_
            refine (mayD_any _ (y) _ (h9.rdD r_y)).mono ?_
            rintro e v9 ⟨rfl, hb9⟩
            refine ⟨hb9, [.bool (mayD y)], _, rfl, by kernel_rfl, by kernel_rfl, fun g9 => ?_⟩
            replace F_a1 := F_a1.mv g9.mv; replace F_a2 := F_a2.mv g9.mv; replace r_x := g9.rdD r_x; replace r_y := g9.rdD r_y
            clear h9 hb9
            refine sat_prim (v := .bool (!(mayD y))) (by kernel_rfl) ?_
            cases h_my : (mayD y)
            · refine sat_true (by kernel_rfl) ?_
              refine sat_call #[] (by kernel_rfl) fun w11 h11 => ?_
              refine (told13_any _ (h11.tab hT)).mono ?_
              rintro e v11 ⟨rfl, hb11⟩
              refine ⟨hb11, [.bool true], _, rfl, by kernel_rfl, by kernel_rfl, fun g11 => ?_⟩
              replace F_a1 := F_a1.mv g11.mv; replace F_a2 := F_a2.mv g11.mv; replace r_x := g11.rdD r_x; replace r_y := g11.rdD r_y
              clear h11 hb11
              exact sat_ret (.bool true) (by kernel_rfl) fun w9 h9 => rfl
            · refine sat_false (by kernel_rfl) ?_
              refine sat_idx (A := A_a) (c := c_a) (kk := .i64) 0 (by kernel_rfl) (by kernel_rfl) (by have := (MayT.of h_may_a).len; omega) F_a1.addr fun g11 o11 e11 => ?_
              obtain ⟨x1, h_x1⟩ : ∃ x_, a.at_[0]? = some x_ := ⟨_, List.getElem?_eq_getElem (by have := (MayT.of h_may_a).len; omega)⟩
              refine sat_el F_a1 e11 h_x1 rfl (by kernel_rfl) (by kernel_rfl) (by kernel_rfl) ?_
              rintro _ ⟨A_L2, n_L2, c_L2, rfl, r_L2⟩
              refine sat_prim (v := .int .i64 ((a.v.length : Nat) : Int)) (by kernel_rfl) ?_
              refine sat_idx (A := A_a) (c := c_a) (kk := .i64) (a.v.length) (by kernel_rfl) (by kernel_rfl) (by have := (MayT.of h_may_a).len; omega) F_a1.addr fun g12 o12 e12 => ?_
              obtain ⟨x3, h_x3⟩ : ∃ x_, a.at_[(a.v.length)]? = some x_ := ⟨_, List.getElem?_eq_getElem (by have := (MayT.of h_may_a).len; omega)⟩
              refine sat_el F_a1 e12 h_x3 rfl (by kernel_rfl) (by kernel_rfl) (by kernel_rfl) ?_
              rintro _ ⟨A_L4, n_L4, c_L4, rfl, r_L4⟩
              refine sat_call #[.agg #[.slice A_a a.at_.length c_a, .slice B_a a.v.length d_a], .agg #[.bool x1.neg, .slice A_L2 n_L2 c_L2, .int .i64 x1.e], .agg #[.bool x3.neg, .slice A_L4 n_L4 c_L4, .int .i64 x3.e]] (by kernel_rfl) fun w13 h13 => ?_
              refine (overT_any _ _ _ _ _ _ a (x1) (x3) _ ((F_a1.mv h13.mv).any) ((F_a2.mv h13.mv).any) (h13.rdD r_L2) (h13.rdD r_L4)).mono ?_
              rintro e v13 ⟨⟨l_o5, g_o5, x_o5, A_o5, n_o5, c_o5, B_o5, m_o5, k_o5, h_o5, rfl, r_o5l, r_o5h⟩, hb13⟩
              refine ⟨hb13, [.bool l_o5.neg, .slice A_o5 n_o5 c_o5, .int .i64 l_o5.e, .bool g_o5.neg, .slice B_o5 m_o5 k_o5, .int .i64 g_o5.e, .int .i64 x_o5], _, rfl, by kernel_rfl, by kernel_rfl, fun g13 => ?_⟩
              replace F_a1 := F_a1.mv g13.mv; replace F_a2 := F_a2.mv g13.mv; replace r_x := g13.rdD r_x; replace r_y := g13.rdD r_y; replace r_L2 := g13.rdD r_L2; replace r_L4 := g13.rdD r_L4
              clear h13 hb13
              have OA := OkT.of h_may_a (limT F_a1 F_a2)
              obtain ⟨SA1, SA2⟩ := spans_all OA h_x1 h_x3 h_o5
              refine sat_chkB (by kernel_rfl) ?_
              refine sat_prim (v := .bool ((x_o5 : Int) != 0)) (by kernel_rfl) ?_
              refine sat_falseP (b := ((x_o5 : Int) != 0)) (by kernel_rfl) (SA1) ?_
              refine sat_loop (fun Kn vs W => ∃ (i : Nat), vs = [.int .i64 ((i : Nat) : Int), .bool false] ∧ Kn = a.v.length - i ∧ i ≤ a.v.length) [.int .i64 0, .bool false] (by kernel_rfl) (fun w1 h1 => ⟨_, 0, rfl, rfl, Nat.zero_le _⟩) ?_
              rintro Kn vs w14 h14 ⟨i, rfl, rfl, h_i⟩
              replace F_a1 := F_a1.mv h14.mv; replace F_a2 := F_a2.mv h14.mv; replace r_x := h14.rdD r_x; replace r_y := h14.rdD r_y; replace r_L2 := h14.rdD r_L2; replace r_L4 := h14.rdD r_L4; replace r_o5l := h14.rdD r_o5l; replace r_o5h := h14.rdD r_o5h
              clear h14
              refine sat_prim (v := .int .i64 ((a.v.length : Nat) : Int)) (by kernel_rfl) ?_
              refine sat_prim (v := .bool (decide ((((i : Nat) : Int) : Int) < ((a.v.length : Nat) : Int)))) (by kernel_rfl) ?_
              cases hlt : (decide ((((i : Nat) : Int) : Int) < ((a.v.length : Nat) : Int)))
              · refine sat_false (by kernel_rfl) ?_
                refine sat_idx (A := A_a) (c := c_a) (kk := .i64) 0 (by kernel_rfl) (by kernel_rfl) (by have := (MayT.of h_may_a).len; omega) F_a1.addr fun g16 o16 e16 => ?_
                refine sat_el F_a1 e16 h_x1 rfl (by kernel_rfl) (by kernel_rfl) (by kernel_rfl) ?_
                rintro _ ⟨A_L6, n_L6, c_L6, rfl, r_L6⟩
                refine sat_call #[.agg #[.bool x1.neg, .slice A_L6 n_L6 c_L6, .int .i64 x1.e], .agg #[.bool x.neg, .slice A_x n_x c_x, .int .i64 x.e]] (by kernel_rfl) fun w17 h17 => ?_
                refine (cmpD_any _ _ (x1) (x) _ (h17.rdD r_L6) (h17.rdD r_x)).mono ?_
                rintro e v17 ⟨rfl, hb17⟩
                refine ⟨hb17, [.int .i64 (cmpD x1 x)], _, rfl, by kernel_rfl, by kernel_rfl, fun g17 => ?_⟩
                replace F_a1 := F_a1.mv g17.mv; replace F_a2 := F_a2.mv g17.mv; replace r_x := g17.rdD r_x; replace r_y := g17.rdD r_y; replace r_L2 := g17.rdD r_L2; replace r_L4 := g17.rdD r_L4; replace r_o5l := g17.rdD r_o5l; replace r_o5h := g17.rdD r_o5h; replace r_L6 := g17.rdD r_L6
                clear h17 hb17
                refine sat_prim (v := .bool (decide ((0 : Int) ≤ (cmpD x1 x)))) (by kernel_rfl) ?_
                cases h_c1 : (decide ((0 : Int) ≤ (cmpD x1 x)))
                · refine sat_false (by kernel_rfl) ?_
                  refine sat_call #[.agg #[.bool x.neg, .slice A_x n_x c_x, .int .i64 x.e], .agg #[.bool y.neg, .slice A_y n_y c_y, .int .i64 y.e]] (by kernel_rfl) fun w19 h19 => ?_
                  refine (cmpD_any _ _ (x) (y) _ (h19.rdD r_x) (h19.rdD r_y)).mono ?_
                  rintro e v19 ⟨rfl, hb19⟩
                  refine ⟨hb19, [.int .i64 (cmpD x y)], _, rfl, by kernel_rfl, by kernel_rfl, fun g19 => ?_⟩
                  replace F_a1 := F_a1.mv g19.mv; replace F_a2 := F_a2.mv g19.mv; replace r_x := g19.rdD r_x; replace r_y := g19.rdD r_y; replace r_L2 := g19.rdD r_L2; replace r_L4 := g19.rdD r_L4; replace r_o5l := g19.rdD r_o5l; replace r_o5h := g19.rdD r_o5h; replace r_L6 := g19.rdD r_L6
                  clear h19 hb19
                  refine sat_prim (v := .bool (decide ((0 : Int) ≤ (cmpD x y)))) (by kernel_rfl) ?_
                  cases h_c2 : (decide ((0 : Int) ≤ (cmpD x y)))
                  · refine sat_false (by kernel_rfl) ?_
                    refine sat_prim (v := .int .i64 ((a.v.length : Nat) : Int)) (by kernel_rfl) ?_
                    refine sat_idx (A := A_a) (c := c_a) (kk := .i64) (a.v.length) (by kernel_rfl) (by kernel_rfl) (by have := (MayT.of h_may_a).len; omega) F_a1.addr fun g21 o21 e21 => ?_
                    refine sat_el F_a1 e21 h_x3 rfl (by kernel_rfl) (by kernel_rfl) (by kernel_rfl) ?_
                    rintro _ ⟨A_L7, n_L7, c_L7, rfl, r_L7⟩
                    refine sat_call #[.agg #[.bool y.neg, .slice A_y n_y c_y, .int .i64 y.e], .agg #[.bool x3.neg, .slice A_L7 n_L7 c_L7, .int .i64 x3.e]] (by kernel_rfl) fun w22 h22 => ?_
                    refine (cmpD_any _ _ (y) (x3) _ (h22.rdD r_y) (h22.rdD r_L7)).mono ?_
                    rintro e v22 ⟨rfl, hb22⟩
                    refine ⟨hb22, [.int .i64 (cmpD y x3)], _, rfl, by kernel_rfl, by kernel_rfl, fun g22 => ?_⟩
                    replace F_a1 := F_a1.mv g22.mv; replace F_a2 := F_a2.mv g22.mv; replace r_x := g22.rdD r_x; replace r_y := g22.rdD r_y; replace r_L2 := g22.rdD r_L2; replace r_L4 := g22.rdD r_L4; replace r_o5l := g22.rdD r_o5l; replace r_o5h := g22.rdD r_o5h; replace r_L6 := g22.rdD r_L6; replace r_L7 := g22.rdD r_L7
                    clear h22 hb22
                    refine sat_prim (v := .bool (decide ((0 : Int) ≤ (cmpD y x3)))) (by kernel_rfl) ?_
                    cases h_c3 : (decide ((0 : Int) ≤ (cmpD y x3)))
                    · refine sat_false (by kernel_rfl) ?_
                      have gx : GD x := ⟨h_mx, r_x.lim⟩
                      have gy : GD y := ⟨h_my, r_y.lim⟩
                      have g0 : GD x1 := atT_is h_x1 ▸ OA.gd 0 (Nat.zero_le _)
                      have gn : GD x3 := atT_is h_x3 ▸ OA.gd _ (Nat.le_refl _)
                      have z0 : ZD x1 = ZT a 0 := by rw [← atT_is h_x1]; rfl
                      have z1 : ZD x3 = ZT a a.v.length := by rw [← atT_is h_x3]; rfl
                      have o1 : ZD x1 < ZD x := by have h5 := of_decide_eq_false h_c1; rw [g0.ge gx] at h5; omega
                      have o2 : ZD x < ZD y := by have h5 := of_decide_eq_false h_c2; rw [gx.ge gy] at h5; omega
                      have o3 : ZD y < ZD x3 := by have h5 := of_decide_eq_false h_c3; rw [gy.ge gn] at h5; omega
                      have few12 := (FewT.of h_few_a).v
                      refine sat_call #[.agg #[.slice A_a a.at_.length c_a, .slice B_a a.v.length d_a], .agg #[.bool x.neg, .slice A_x n_x c_x, .int .i64 x.e], .agg #[.bool y.neg, .slice A_y n_y c_y, .int .i64 y.e]] (by kernel_rfl) fun w24 h24 => ?_
                      refine (cutT_any _ _ _ _ _ _ a (x) (y) _ ((F_a1.mv h24.mv).any) ((F_a2.mv h24.mv).any) (h24.rdD r_x) (h24.rdD r_y)).mono ?_
                      rintro e v24 ⟨⟨p_t8, q_t8, x_t8, A_t8, c_t8, B_t8, d_t8, rfl, h_t8, F_t81, F_t82⟩, hb24⟩
                      obtain ⟨rfl, C1⟩ := cut_got (cut_is OA gx gy (by omega) (by omega) (by omega)) h_t8
                      refine ⟨hb24, [.slice A_t8 p_t8.length c_t8, .slice B_t8 q_t8.length d_t8, .int .i64 0], _, rfl, by kernel_rfl, by kernel_rfl, fun g24 => ?_⟩
                      replace F_a1 := F_a1.mv g24.mv; replace F_a2 := F_a2.mv g24.mv; replace r_x := g24.rdD r_x; replace r_y := g24.rdD r_y; replace r_L2 := g24.rdD r_L2; replace r_L4 := g24.rdD r_L4; replace r_o5l := g24.rdD r_o5l; replace r_o5h := g24.rdD r_o5h; replace r_L6 := g24.rdD r_L6; replace r_L7 := g24.rdD r_L7
                      replace F_t81 := F_t81.mv (Sx.Mv.fresh h24.wf)
                      replace F_t82 := F_t82.mv (Sx.Mv.fresh h24.wf)
                      clear h24 hb24
                      refine sat_chkB (by kernel_rfl) ?_
                      refine sat_idx (A := A_a) (c := c_a) (kk := .i64) 0 (by kernel_rfl) (by kernel_rfl) (by have := (MayT.of h_may_a).len; omega) F_a1.addr fun g25 o25 e25 => ?_
                      refine sat_el F_a1 e25 h_x1 rfl (by kernel_rfl) (by kernel_rfl) (by kernel_rfl) ?_
                      rintro _ ⟨A_L9, n_L9, c_L9, rfl, r_L9⟩
                      refine sat_call #[.agg #[.slice A_a a.at_.length c_a, .slice B_a a.v.length d_a], .agg #[.bool x1.neg, .slice A_L9 n_L9 c_L9, .int .i64 x1.e], .agg #[.bool x.neg, .slice A_x n_x c_x, .int .i64 x.e]] (by kernel_rfl) fun w26 h26 => ?_
                      refine (cutT_any _ _ _ _ _ _ a (x1) (x) _ ((F_a1.mv h26.mv).any) ((F_a2.mv h26.mv).any) (h26.rdD r_L9) (h26.rdD r_x)).mono ?_
                      rintro e v26 ⟨⟨p_t10, q_t10, x_t10, A_t10, c_t10, B_t10, d_t10, rfl, h_t10, F_t101, F_t102⟩, hb26⟩
                      obtain ⟨rfl, C2⟩ := cut_got (cut_is OA g0 gx (by omega) (by omega) (by omega)) h_t10
                      refine ⟨hb26, [.slice A_t10 p_t10.length c_t10, .slice B_t10 q_t10.length d_t10, .int .i64 0], _, rfl, by kernel_rfl, by kernel_rfl, fun g26 => ?_⟩
                      replace F_a1 := F_a1.mv g26.mv; replace F_a2 := F_a2.mv g26.mv; replace r_x := g26.rdD r_x; replace r_y := g26.rdD r_y; replace r_L2 := g26.rdD r_L2; replace r_L4 := g26.rdD r_L4; replace r_o5l := g26.rdD r_o5l; replace r_o5h := g26.rdD r_o5h; replace r_L6 := g26.rdD r_L6; replace r_L7 := g26.rdD r_L7; replace F_t81 := F_t81.mv g26.mv; replace F_t82 := F_t82.mv g26.mv; replace r_L9 := g26.rdD r_L9
                      replace F_t101 := F_t101.mv (Sx.Mv.fresh h26.wf)
                      replace F_t102 := F_t102.mv (Sx.Mv.fresh h26.wf)
                      clear h26 hb26
                      refine sat_chkB (by kernel_rfl) ?_
                      refine sat_prim (v := .int .i64 ((a.v.length : Nat) : Int)) (by kernel_rfl) ?_
                      refine sat_idx (A := A_a) (c := c_a) (kk := .i64) (a.v.length) (by kernel_rfl) (by kernel_rfl) (by have := (MayT.of h_may_a).len; omega) F_a1.addr fun g27 o27 e27 => ?_
                      refine sat_el F_a1 e27 h_x3 rfl (by kernel_rfl) (by kernel_rfl) (by kernel_rfl) ?_
                      rintro _ ⟨A_L11, n_L11, c_L11, rfl, r_L11⟩
                      refine sat_call #[.agg #[.slice A_a a.at_.length c_a, .slice B_a a.v.length d_a], .agg #[.bool y.neg, .slice A_y n_y c_y, .int .i64 y.e], .agg #[.bool x3.neg, .slice A_L11 n_L11 c_L11, .int .i64 x3.e]] (by kernel_rfl) fun w28 h28 => ?_
                      refine (cutT_any _ _ _ _ _ _ a (y) (x3) _ ((F_a1.mv h28.mv).any) ((F_a2.mv h28.mv).any) (h28.rdD r_y) (h28.rdD r_L11)).mono ?_
                      rintro e v28 ⟨⟨p_t12, q_t12, x_t12, A_t12, c_t12, B_t12, d_t12, rfl, h_t12, F_t121, F_t122⟩, hb28⟩
                      obtain ⟨rfl, C3⟩ := cut_got (cut_is OA gy gn (by omega) (by omega) (by omega)) h_t12
                      refine ⟨hb28, [.slice A_t12 p_t12.length c_t12, .slice B_t12 q_t12.length d_t12, .int .i64 0], _, rfl, by kernel_rfl, by kernel_rfl, fun g28 => ?_⟩
                      replace F_a1 := F_a1.mv g28.mv; replace F_a2 := F_a2.mv g28.mv; replace r_x := g28.rdD r_x; replace r_y := g28.rdD r_y; replace r_L2 := g28.rdD r_L2; replace r_L4 := g28.rdD r_L4; replace r_o5l := g28.rdD r_o5l; replace r_o5h := g28.rdD r_o5h; replace r_L6 := g28.rdD r_L6; replace r_L7 := g28.rdD r_L7; replace F_t81 := F_t81.mv g28.mv; replace F_t82 := F_t82.mv g28.mv; replace r_L9 := g28.rdD r_L9; replace F_t101 := F_t101.mv g28.mv; replace F_t102 := F_t102.mv g28.mv; replace r_L11 := g28.rdD r_L11
                      replace F_t121 := F_t121.mv (Sx.Mv.fresh h28.wf)
                      replace F_t122 := F_t122.mv (Sx.Mv.fresh h28.wf)
                      clear h28 hb28
                      refine sat_chkB (by kernel_rfl) ?_
                      refine sat_prim (v := .int .i64 0) (by kernel_rfl) ?_
                      refine sat_prim (v := .int .i64 0) (by kernel_rfl) ?_
                      refine sat_prim (v := .bool false) (by kernel_rfl) ?_
                      refine sat_false (by kernel_rfl) ?_
                      refine sat_call #[.agg #[.slice A_t10 p_t10.length c_t10, .slice B_t10 q_t10.length d_t10], .agg #[.slice A_t8 p_t8.length c_t8, .slice B_t8 q_t8.length d_t8]] (by kernel_rfl) fun w29 h29 => ?_
                      refine (joinT_any _ _ _ _ _ _ _ _ (⟨p_t10, q_t10⟩ : Tb) (⟨p_t8, q_t8⟩ : Tb) _ ((F_t101.mv h29.mv).any) ((F_t102.mv h29.mv).any) ((F_t81.mv h29.mv).any) ((F_t82.mv h29.mv).any)).mono ?_
                      rintro e v29 ⟨⟨p_t13, q_t13, x_t13, A_t13, c_t13, B_t13, d_t13, rfl, h_t13, F_t131, F_t132⟩, hb29⟩
                      obtain ⟨rfl, J4⟩ := join_got (join_is C2.C C1.C (C2.z1.trans C1.z0.symm) (by have := C1.few; have := C2.few; omega)) h_t13
                      refine ⟨hb29, [.slice A_t13 p_t13.length c_t13, .slice B_t13 q_t13.length d_t13, .int .i64 0], _, rfl, by kernel_rfl, by kernel_rfl, fun g29 => ?_⟩
                      replace F_a1 := F_a1.mv g29.mv; replace F_a2 := F_a2.mv g29.mv; replace r_x := g29.rdD r_x; replace r_y := g29.rdD r_y; replace r_L2 := g29.rdD r_L2; replace r_L4 := g29.rdD r_L4; replace r_o5l := g29.rdD r_o5l; replace r_o5h := g29.rdD r_o5h; replace r_L6 := g29.rdD r_L6; replace r_L7 := g29.rdD r_L7; replace F_t81 := F_t81.mv g29.mv; replace F_t82 := F_t82.mv g29.mv; replace r_L9 := g29.rdD r_L9; replace F_t101 := F_t101.mv g29.mv; replace F_t102 := F_t102.mv g29.mv; replace r_L11 := g29.rdD r_L11; replace F_t121 := F_t121.mv g29.mv; replace F_t122 := F_t122.mv g29.mv
                      replace F_t131 := F_t131.mv (Sx.Mv.fresh h29.wf)
                      replace F_t132 := F_t132.mv (Sx.Mv.fresh h29.wf)
                      clear h29 hb29
                      refine sat_chkB (by kernel_rfl) ?_
                      refine sat_call #[.agg #[.slice A_t13 p_t13.length c_t13, .slice B_t13 q_t13.length d_t13], .agg #[.slice A_t12 p_t12.length c_t12, .slice B_t12 q_t12.length d_t12]] (by kernel_rfl) fun w30 h30 => ?_
                      refine (joinT_any _ _ _ _ _ _ _ _ (⟨p_t13, q_t13⟩ : Tb) (⟨p_t12, q_t12⟩ : Tb) _ ((F_t131.mv h30.mv).any) ((F_t132.mv h30.mv).any) ((F_t121.mv h30.mv).any) ((F_t122.mv h30.mv).any)).mono ?_
                      rintro e v30 ⟨⟨p_t14, q_t14, x_t14, A_t14, c_t14, B_t14, d_t14, rfl, h_t14, F_t141, F_t142⟩, hb30⟩
                      obtain ⟨rfl, J5⟩ := join_got (join_is J4.C C3.C (J4.z1.trans (C1.z1.trans C3.z0.symm)) (by have := C1.few; have := C2.few; have := C3.few; have := J4.len; omega)) h_t14
                      refine ⟨hb30, [.slice A_t14 p_t14.length c_t14, .slice B_t14 q_t14.length d_t14, .int .i64 0], _, rfl, by kernel_rfl, by kernel_rfl, fun g30 => ?_⟩
                      replace F_a1 := F_a1.mv g30.mv; replace F_a2 := F_a2.mv g30.mv; replace r_x := g30.rdD r_x; replace r_y := g30.rdD r_y; replace r_L2 := g30.rdD r_L2; replace r_L4 := g30.rdD r_L4; replace r_o5l := g30.rdD r_o5l; replace r_o5h := g30.rdD r_o5h; replace r_L6 := g30.rdD r_L6; replace r_L7 := g30.rdD r_L7; replace F_t81 := F_t81.mv g30.mv; replace F_t82 := F_t82.mv g30.mv; replace r_L9 := g30.rdD r_L9; replace F_t101 := F_t101.mv g30.mv; replace F_t102 := F_t102.mv g30.mv; replace r_L11 := g30.rdD r_L11; replace F_t121 := F_t121.mv g30.mv; replace F_t122 := F_t122.mv g30.mv; replace F_t131 := F_t131.mv g30.mv; replace F_t132 := F_t132.mv g30.mv
                      replace F_t141 := F_t141.mv (Sx.Mv.fresh h30.wf)
                      replace F_t142 := F_t142.mv (Sx.Mv.fresh h30.wf)
                      clear h30 hb30
                      have EK := spans_eqv OA C1 C2 C3 J4 J5 z0 z1
                      refine sat_chkB (by kernel_rfl) ?_
                      refine sat_prim (v := .bool false) (by kernel_rfl) ?_
                      refine sat_false (by kernel_rfl) ?_
                      refine sat_prim (v := .bool false) (by kernel_rfl) ?_
                      refine sat_false (by kernel_rfl) ?_
                      refine sat_call #[.agg #[.slice A_t14 p_t14.length c_t14, .slice B_t14 q_t14.length d_t14], .agg #[.slice A_a a.at_.length c_a, .slice B_a a.v.length d_a]] (by kernel_rfl) fun w31 h31 => ?_
                      refine (withinT_any _ _ _ _ _ _ _ _ (⟨p_t14, q_t14⟩ : Tb) a _ ((F_t141.mv h31.mv).any) ((F_t142.mv h31.mv).any) ((F_a1.mv h31.mv).any) ((F_a2.mv h31.mv).any)).mono ?_
                      rintro e v31 ⟨rfl, hb31⟩
                      refine ⟨hb31, [.bool (besideT withinI (⟨p_t14, q_t14⟩ : Tb) a)], _, rfl, by kernel_rfl, by kernel_rfl, fun g31 => ?_⟩
                      replace F_a1 := F_a1.mv g31.mv; replace F_a2 := F_a2.mv g31.mv; replace r_x := g31.rdD r_x; replace r_y := g31.rdD r_y; replace r_L2 := g31.rdD r_L2; replace r_L4 := g31.rdD r_L4; replace r_o5l := g31.rdD r_o5l; replace r_o5h := g31.rdD r_o5h; replace r_L6 := g31.rdD r_L6; replace r_L7 := g31.rdD r_L7; replace F_t81 := F_t81.mv g31.mv; replace F_t82 := F_t82.mv g31.mv; replace r_L9 := g31.rdD r_L9; replace F_t101 := F_t101.mv g31.mv; replace F_t102 := F_t102.mv g31.mv; replace r_L11 := g31.rdD r_L11; replace F_t121 := F_t121.mv g31.mv; replace F_t122 := F_t122.mv g31.mv; replace F_t131 := F_t131.mv g31.mv; replace F_t132 := F_t132.mv g31.mv; replace F_t141 := F_t141.mv g31.mv; replace F_t142 := F_t142.mv g31.mv
                      clear h31 hb31
                      refine sat_prim (v := .bool (!(besideT withinI (⟨p_t14, q_t14⟩ : Tb) a))) (by kernel_rfl) ?_
                      refine sat_falseP (b := (!(besideT withinI (⟨p_t14, q_t14⟩ : Tb) a))) (by kernel_rfl) (by rw [show (besideT withinI (⟨p_t14, q_t14⟩ : Tb) a) = true from EK.ab]; rfl) ?_
                      refine sat_call #[.agg #[.slice A_a a.at_.length c_a, .slice B_a a.v.length d_a], .agg #[.slice A_t14 p_t14.length c_t14, .slice B_t14 q_t14.length d_t14]] (by kernel_rfl) fun w32 h32 => ?_
                      refine (withinT_any _ _ _ _ _ _ _ _ a (⟨p_t14, q_t14⟩ : Tb) _ ((F_a1.mv h32.mv).any) ((F_a2.mv h32.mv).any) ((F_t141.mv h32.mv).any) ((F_t142.mv h32.mv).any)).mono ?_
                      rintro e v32 ⟨rfl, hb32⟩
                      refine ⟨hb32, [.bool (besideT withinI a (⟨p_t14, q_t14⟩ : Tb))], _, rfl, by kernel_rfl, by kernel_rfl, fun g32 => ?_⟩
                      replace F_a1 := F_a1.mv g32.mv; replace F_a2 := F_a2.mv g32.mv; replace r_x := g32.rdD r_x; replace r_y := g32.rdD r_y; replace r_L2 := g32.rdD r_L2; replace r_L4 := g32.rdD r_L4; replace r_o5l := g32.rdD r_o5l; replace r_o5h := g32.rdD r_o5h; replace r_L6 := g32.rdD r_L6; replace r_L7 := g32.rdD r_L7; replace F_t81 := F_t81.mv g32.mv; replace F_t82 := F_t82.mv g32.mv; replace r_L9 := g32.rdD r_L9; replace F_t101 := F_t101.mv g32.mv; replace F_t102 := F_t102.mv g32.mv; replace r_L11 := g32.rdD r_L11; replace F_t121 := F_t121.mv g32.mv; replace F_t122 := F_t122.mv g32.mv; replace F_t131 := F_t131.mv g32.mv; replace F_t132 := F_t132.mv g32.mv; replace F_t141 := F_t141.mv g32.mv; replace F_t142 := F_t142.mv g32.mv
                      clear h32 hb32
                      refine sat_prim (v := .bool (!(besideT withinI a (⟨p_t14, q_t14⟩ : Tb)))) (by kernel_rfl) ?_
                      refine sat_falseP (b := (!(besideT withinI a (⟨p_t14, q_t14⟩ : Tb)))) (by kernel_rfl) (by rw [show (besideT withinI a (⟨p_t14, q_t14⟩ : Tb)) = true from EK.ba]; rfl) ?_
                      refine sat_call #[.agg #[.slice A_a a.at_.length c_a, .slice B_a a.v.length d_a]] (by kernel_rfl) fun w33 h33 => ?_
                      refine (halveT_any _ _ _ _ a _ ((F_a1.mv h33.mv).any) ((F_a2.mv h33.mv).any) (h33.tab hT)).mono ?_
                      rintro e v33 ⟨⟨p_t15, q_t15, x_t15, A_t15, c_t15, B_t15, d_t15, rfl, h_t15, F_t151, F_t152⟩, hb33⟩
                      refine ⟨hb33, [.slice A_t15 p_t15.length c_t15, .slice B_t15 q_t15.length d_t15, .int .i64 x_t15], _, rfl, by kernel_rfl, by kernel_rfl, fun g33 => ?_⟩
                      replace F_a1 := F_a1.mv g33.mv; replace F_a2 := F_a2.mv g33.mv; replace r_x := g33.rdD r_x; replace r_y := g33.rdD r_y; replace r_L2 := g33.rdD r_L2; replace r_L4 := g33.rdD r_L4; replace r_o5l := g33.rdD r_o5l; replace r_o5h := g33.rdD r_o5h; replace r_L6 := g33.rdD r_L6; replace r_L7 := g33.rdD r_L7; replace F_t81 := F_t81.mv g33.mv; replace F_t82 := F_t82.mv g33.mv; replace r_L9 := g33.rdD r_L9; replace F_t101 := F_t101.mv g33.mv; replace F_t102 := F_t102.mv g33.mv; replace r_L11 := g33.rdD r_L11; replace F_t121 := F_t121.mv g33.mv; replace F_t122 := F_t122.mv g33.mv; replace F_t131 := F_t131.mv g33.mv; replace F_t132 := F_t132.mv g33.mv; replace F_t141 := F_t141.mv g33.mv; replace F_t142 := F_t142.mv g33.mv
                      replace F_t151 := F_t151.mv (Sx.Mv.fresh h33.wf)
                      replace F_t152 := F_t152.mv (Sx.Mv.fresh h33.wf)
                      clear h33 hb33
                      refine sat_chkB (by kernel_rfl) ?_
                      refine sat_call #[] (by kernel_rfl) fun w34 h34 => ?_
                      refine (told13_any _ (h34.tab hT)).mono ?_
                      rintro e v34 ⟨rfl, hb34⟩
                      refine ⟨hb34, [.bool true], _, rfl, by kernel_rfl, by kernel_rfl, fun g34 => ?_⟩
                      replace F_a1 := F_a1.mv g34.mv; replace F_a2 := F_a2.mv g34.mv; replace r_x := g34.rdD r_x; replace r_y := g34.rdD r_y; replace r_L2 := g34.rdD r_L2; replace r_L4 := g34.rdD r_L4; replace r_o5l := g34.rdD r_o5l; replace r_o5h := g34.rdD r_o5h; replace r_L6 := g34.rdD r_L6; replace r_L7 := g34.rdD r_L7; replace F_t81 := F_t81.mv g34.mv; replace F_t82 := F_t82.mv g34.mv; replace r_L9 := g34.rdD r_L9; replace F_t101 := F_t101.mv g34.mv; replace F_t102 := F_t102.mv g34.mv; replace r_L11 := g34.rdD r_L11; replace F_t121 := F_t121.mv g34.mv; replace F_t122 := F_t122.mv g34.mv; replace F_t131 := F_t131.mv g34.mv; replace F_t132 := F_t132.mv g34.mv; replace F_t141 := F_t141.mv g34.mv; replace F_t142 := F_t142.mv g34.mv; replace F_t151 := F_t151.mv g34.mv; replace F_t152 := F_t152.mv g34.mv
                      clear h34 hb34
                      refine sat_true (by kernel_rfl) ?_
                      refine sat_prim (v := .bool ((x_t15 : Int) != 0)) (by kernel_rfl) ?_
                      cases h_z : ((x_t15 : Int) != 0)
                      · refine sat_false (by kernel_rfl) ?_
                        refine sat_call #[.agg #[.slice A_t15 p_t15.length c_t15, .slice B_t15 q_t15.length d_t15], .agg #[.slice A_a a.at_.length c_a, .slice B_a a.v.length d_a]] (by kernel_rfl) fun w36 h36 => ?_
                        refine (withinT_any _ _ _ _ _ _ _ _ (⟨p_t15, q_t15⟩ : Tb) a _ ((F_t151.mv h36.mv).any) ((F_t152.mv h36.mv).any) ((F_a1.mv h36.mv).any) ((F_a2.mv h36.mv).any)).mono ?_
                        rintro e v36 ⟨rfl, hb36⟩
                        refine ⟨hb36, [.bool (besideT withinI (⟨p_t15, q_t15⟩ : Tb) a)], _, rfl, by kernel_rfl, by kernel_rfl, fun g36 => ?_⟩
                        replace F_a1 := F_a1.mv g36.mv; replace F_a2 := F_a2.mv g36.mv; replace r_x := g36.rdD r_x; replace r_y := g36.rdD r_y; replace r_L2 := g36.rdD r_L2; replace r_L4 := g36.rdD r_L4; replace r_o5l := g36.rdD r_o5l; replace r_o5h := g36.rdD r_o5h; replace r_L6 := g36.rdD r_L6; replace r_L7 := g36.rdD r_L7; replace F_t81 := F_t81.mv g36.mv; replace F_t82 := F_t82.mv g36.mv; replace r_L9 := g36.rdD r_L9; replace F_t101 := F_t101.mv g36.mv; replace F_t102 := F_t102.mv g36.mv; replace r_L11 := g36.rdD r_L11; replace F_t121 := F_t121.mv g36.mv; replace F_t122 := F_t122.mv g36.mv; replace F_t131 := F_t131.mv g36.mv; replace F_t132 := F_t132.mv g36.mv; replace F_t141 := F_t141.mv g36.mv; replace F_t142 := F_t142.mv g36.mv; replace F_t151 := F_t151.mv g36.mv; replace F_t152 := F_t152.mv g36.mv
                        clear h36 hb36
                        refine sat_trueP (b := (besideT withinI (⟨p_t15, q_t15⟩ : Tb) a)) (by kernel_rfl) ((halve_got OA h_z h_t15).1.ab) ?_
                        refine sat_call #[.agg #[.slice A_a a.at_.length c_a, .slice B_a a.v.length d_a], .agg #[.slice A_t15 p_t15.length c_t15, .slice B_t15 q_t15.length d_t15]] (by kernel_rfl) fun w37 h37 => ?_
                        refine (withinT_any _ _ _ _ _ _ _ _ a (⟨p_t15, q_t15⟩ : Tb) _ ((F_a1.mv h37.mv).any) ((F_a2.mv h37.mv).any) ((F_t151.mv h37.mv).any) ((F_t152.mv h37.mv).any)).mono ?_
                        rintro e v37 ⟨rfl, hb37⟩
                        refine ⟨hb37, [.bool (besideT withinI a (⟨p_t15, q_t15⟩ : Tb))], _, rfl, by kernel_rfl, by kernel_rfl, fun g37 => ?_⟩
                        replace F_a1 := F_a1.mv g37.mv; replace F_a2 := F_a2.mv g37.mv; replace r_x := g37.rdD r_x; replace r_y := g37.rdD r_y; replace r_L2 := g37.rdD r_L2; replace r_L4 := g37.rdD r_L4; replace r_o5l := g37.rdD r_o5l; replace r_o5h := g37.rdD r_o5h; replace r_L6 := g37.rdD r_L6; replace r_L7 := g37.rdD r_L7; replace F_t81 := F_t81.mv g37.mv; replace F_t82 := F_t82.mv g37.mv; replace r_L9 := g37.rdD r_L9; replace F_t101 := F_t101.mv g37.mv; replace F_t102 := F_t102.mv g37.mv; replace r_L11 := g37.rdD r_L11; replace F_t121 := F_t121.mv g37.mv; replace F_t122 := F_t122.mv g37.mv; replace F_t131 := F_t131.mv g37.mv; replace F_t132 := F_t132.mv g37.mv; replace F_t141 := F_t141.mv g37.mv; replace F_t142 := F_t142.mv g37.mv; replace F_t151 := F_t151.mv g37.mv; replace F_t152 := F_t152.mv g37.mv
                        clear h37 hb37
                        refine sat_trueP (b := (besideT withinI a (⟨p_t15, q_t15⟩ : Tb))) (by kernel_rfl) ((halve_got OA h_z h_t15).1.ba) ?_
                        refine sat_prim (v := .int .i64 ((q_t15.length : Nat) : Int)) (by kernel_rfl) ?_
                        refine sat_prim (v := .int .i64 ((a.v.length : Nat) : Int)) (by kernel_rfl) ?_
                        refine sat_prim (v := .int .i64 ((2 * a.v.length : Nat) : Int)) (Eq.trans (b := some (.int .i64 (IntKind.i64.wrap (2 * ((a.v.length : Nat) : Int))))) (by kernel_rfl) (sml (by have := (FewT.of h_few_a).v; omega) (by have := (FewT.of h_few_a).v; omega))) ?_
                        refine sat_prim (v := .bool ((((q_t15.length : Nat) : Int) : Int) == ((2 * a.v.length : Nat) : Int))) (by kernel_rfl) ?_
                        refine sat_trueP (b := ((((q_t15.length : Nat) : Int) : Int) == ((2 * a.v.length : Nat) : Int))) (by kernel_rfl) (by rw [(halve_got OA h_z h_t15).2]; simp) ?_
                        refine sat_idx (A := A_t8) (c := c_t8) (kk := .i64) 0 (by kernel_rfl) (by kernel_rfl) (by have h5 : p_t8.length = q_t8.length + 1 := C1.C.len; have h6 : 0 < q_t8.length := C1.C.n; omega) F_t81.addr fun g38 o38 e38 => ?_
                        obtain ⟨x16, h_x16⟩ : ∃ x_, p_t8[0]? = some x_ := ⟨_, List.getElem?_eq_getElem (by have h5 : p_t8.length = q_t8.length + 1 := C1.C.len; have h6 : 0 < q_t8.length := C1.C.n; omega)⟩
                        refine sat_el F_t81 e38 h_x16 rfl (by kernel_rfl) (by kernel_rfl) (by kernel_rfl) ?_
                        rintro _ ⟨A_L17, n_L17, c_L17, rfl, r_L17⟩
                        refine sat_call #[.agg #[.bool x16.neg, .slice A_L17 n_L17 c_L17, .int .i64 x16.e], .agg #[.bool x.neg, .slice A_x n_x c_x, .int .i64 x.e]] (by kernel_rfl) fun w39 h39 => ?_
                        refine (sameD_any _ _ (x16) (x) _ (h39.rdD r_L17) (h39.rdD r_x)).mono ?_
                        rintro e v39 ⟨rfl, hb39⟩
                        refine ⟨hb39, [.bool (sameD x16 x)], _, rfl, by kernel_rfl, by kernel_rfl, fun g39 => ?_⟩
                        replace F_a1 := F_a1.mv g39.mv; replace F_a2 := F_a2.mv g39.mv; replace r_x := g39.rdD r_x; replace r_y := g39.rdD r_y; replace r_L2 := g39.rdD r_L2; replace r_L4 := g39.rdD r_L4; replace r_o5l := g39.rdD r_o5l; replace r_o5h := g39.rdD r_o5h; replace r_L6 := g39.rdD r_L6; replace r_L7 := g39.rdD r_L7; replace F_t81 := F_t81.mv g39.mv; replace F_t82 := F_t82.mv g39.mv; replace r_L9 := g39.rdD r_L9; replace F_t101 := F_t101.mv g39.mv; replace F_t102 := F_t102.mv g39.mv; replace r_L11 := g39.rdD r_L11; replace F_t121 := F_t121.mv g39.mv; replace F_t122 := F_t122.mv g39.mv; replace F_t131 := F_t131.mv g39.mv; replace F_t132 := F_t132.mv g39.mv; replace F_t141 := F_t141.mv g39.mv; replace F_t142 := F_t142.mv g39.mv; replace F_t151 := F_t151.mv g39.mv; replace F_t152 := F_t152.mv g39.mv; replace r_L17 := g39.rdD r_L17
                        clear h39 hb39
                        refine sat_trueP (b := (sameD x16 x)) (by kernel_rfl) (cut_first C1 h_x16) ?_
                        refine sat_prim (v := .int .i64 ((q_t8.length : Nat) : Int)) (by kernel_rfl) ?_
                        refine sat_idx (A := A_t8) (c := c_t8) (kk := .i64) (q_t8.length) (by kernel_rfl) (by kernel_rfl) (by have h5 : p_t8.length = q_t8.length + 1 := C1.C.len; have h6 : 0 < q_t8.length := C1.C.n; omega) F_t81.addr fun g40 o40 e40 => ?_
                        obtain ⟨x18, h_x18⟩ : ∃ x_, p_t8[(q_t8.length)]? = some x_ := ⟨_, List.getElem?_eq_getElem (by have h5 : p_t8.length = q_t8.length + 1 := C1.C.len; have h6 : 0 < q_t8.length := C1.C.n; omega)⟩
                        refine sat_el F_t81 e40 h_x18 rfl (by kernel_rfl) (by kernel_rfl) (by kernel_rfl) ?_
                        rintro _ ⟨A_L19, n_L19, c_L19, rfl, r_L19⟩
                        refine sat_call #[.agg #[.bool x18.neg, .slice A_L19 n_L19 c_L19, .int .i64 x18.e], .agg #[.bool y.neg, .slice A_y n_y c_y, .int .i64 y.e]] (by kernel_rfl) fun w41 h41 => ?_
                        refine (sameD_any _ _ (x18) (y) _ (h41.rdD r_L19) (h41.rdD r_y)).mono ?_
                        rintro e v41 ⟨rfl, hb41⟩
                        refine ⟨hb41, [.bool (sameD x18 y)], _, rfl, by kernel_rfl, by kernel_rfl, fun g41 => ?_⟩
                        replace F_a1 := F_a1.mv g41.mv; replace F_a2 := F_a2.mv g41.mv; replace r_x := g41.rdD r_x; replace r_y := g41.rdD r_y; replace r_L2 := g41.rdD r_L2; replace r_L4 := g41.rdD r_L4; replace r_o5l := g41.rdD r_o5l; replace r_o5h := g41.rdD r_o5h; replace r_L6 := g41.rdD r_L6; replace r_L7 := g41.rdD r_L7; replace F_t81 := F_t81.mv g41.mv; replace F_t82 := F_t82.mv g41.mv; replace r_L9 := g41.rdD r_L9; replace F_t101 := F_t101.mv g41.mv; replace F_t102 := F_t102.mv g41.mv; replace r_L11 := g41.rdD r_L11; replace F_t121 := F_t121.mv g41.mv; replace F_t122 := F_t122.mv g41.mv; replace F_t131 := F_t131.mv g41.mv; replace F_t132 := F_t132.mv g41.mv; replace F_t141 := F_t141.mv g41.mv; replace F_t142 := F_t142.mv g41.mv; replace F_t151 := F_t151.mv g41.mv; replace F_t152 := F_t152.mv g41.mv; replace r_L17 := g41.rdD r_L17; replace r_L19 := g41.rdD r_L19
                        clear h41 hb41
                        exact sat_ret (.bool (sameD x18 y)) (by kernel_rfl) fun w9 h9 => congrArg Value.bool (cut_last gy C1 h_x18)
                      · refine sat_true (by kernel_rfl) ?_
                        refine sat_idx (A := A_t8) (c := c_t8) (kk := .i64) 0 (by kernel_rfl) (by kernel_rfl) (by have h5 : p_t8.length = q_t8.length + 1 := C1.C.len; have h6 : 0 < q_t8.length := C1.C.n; omega) F_t81.addr fun g36 o36 e36 => ?_
                        obtain ⟨x16, h_x16⟩ : ∃ x_, p_t8[0]? = some x_ := ⟨_, List.getElem?_eq_getElem (by have h5 : p_t8.length = q_t8.length + 1 := C1.C.len; have h6 : 0 < q_t8.length := C1.C.n; omega)⟩
                        refine sat_el F_t81 e36 h_x16 rfl (by kernel_rfl) (by kernel_rfl) (by kernel_rfl) ?_
                        rintro _ ⟨A_L17, n_L17, c_L17, rfl, r_L17⟩
                        refine sat_call #[.agg #[.bool x16.neg, .slice A_L17 n_L17 c_L17, .int .i64 x16.e], .agg #[.bool x.neg, .slice A_x n_x c_x, .int .i64 x.e]] (by kernel_rfl) fun w37 h37 => ?_
                        refine (sameD_any _ _ (x16) (x) _ (h37.rdD r_L17) (h37.rdD r_x)).mono ?_
                        rintro e v37 ⟨rfl, hb37⟩
                        refine ⟨hb37, [.bool (sameD x16 x)], _, rfl, by kernel_rfl, by kernel_rfl, fun g37 => ?_⟩
                        replace F_a1 := F_a1.mv g37.mv; replace F_a2 := F_a2.mv g37.mv; replace r_x := g37.rdD r_x; replace r_y := g37.rdD r_y; replace r_L2 := g37.rdD r_L2; replace r_L4 := g37.rdD r_L4; replace r_o5l := g37.rdD r_o5l; replace r_o5h := g37.rdD r_o5h; replace r_L6 := g37.rdD r_L6; replace r_L7 := g37.rdD r_L7; replace F_t81 := F_t81.mv g37.mv; replace F_t82 := F_t82.mv g37.mv; replace r_L9 := g37.rdD r_L9; replace F_t101 := F_t101.mv g37.mv; replace F_t102 := F_t102.mv g37.mv; replace r_L11 := g37.rdD r_L11; replace F_t121 := F_t121.mv g37.mv; replace F_t122 := F_t122.mv g37.mv; replace F_t131 := F_t131.mv g37.mv; replace F_t132 := F_t132.mv g37.mv; replace F_t141 := F_t141.mv g37.mv; replace F_t142 := F_t142.mv g37.mv; replace F_t151 := F_t151.mv g37.mv; replace F_t152 := F_t152.mv g37.mv; replace r_L17 := g37.rdD r_L17
                        clear h37 hb37
                        refine sat_trueP (b := (sameD x16 x)) (by kernel_rfl) (cut_first C1 h_x16) ?_
                        refine sat_prim (v := .int .i64 ((q_t8.length : Nat) : Int)) (by kernel_rfl) ?_
                        refine sat_idx (A := A_t8) (c := c_t8) (kk := .i64) (q_t8.length) (by kernel_rfl) (by kernel_rfl) (by have h5 : p_t8.length = q_t8.length + 1 := C1.C.len; have h6 : 0 < q_t8.length := C1.C.n; omega) F_t81.addr fun g38 o38 e38 => ?_
                        obtain ⟨x18, h_x18⟩ : ∃ x_, p_t8[(q_t8.length)]? = some x_ := ⟨_, List.getElem?_eq_getElem (by have h5 : p_t8.length = q_t8.length + 1 := C1.C.len; have h6 : 0 < q_t8.length := C1.C.n; omega)⟩
                        refine sat_el F_t81 e38 h_x18 rfl (by kernel_rfl) (by kernel_rfl) (by kernel_rfl) ?_
                        rintro _ ⟨A_L19, n_L19, c_L19, rfl, r_L19⟩
                        refine sat_call #[.agg #[.bool x18.neg, .slice A_L19 n_L19 c_L19, .int .i64 x18.e], .agg #[.bool y.neg, .slice A_y n_y c_y, .int .i64 y.e]] (by kernel_rfl) fun w39 h39 => ?_
                        refine (sameD_any _ _ (x18) (y) _ (h39.rdD r_L19) (h39.rdD r_y)).mono ?_
                        rintro e v39 ⟨rfl, hb39⟩
                        refine ⟨hb39, [.bool (sameD x18 y)], _, rfl, by kernel_rfl, by kernel_rfl, fun g39 => ?_⟩
                        replace F_a1 := F_a1.mv g39.mv; replace F_a2 := F_a2.mv g39.mv; replace r_x := g39.rdD r_x; replace r_y := g39.rdD r_y; replace r_L2 := g39.rdD r_L2; replace r_L4 := g39.rdD r_L4; replace r_o5l := g39.rdD r_o5l; replace r_o5h := g39.rdD r_o5h; replace r_L6 := g39.rdD r_L6; replace r_L7 := g39.rdD r_L7; replace F_t81 := F_t81.mv g39.mv; replace F_t82 := F_t82.mv g39.mv; replace r_L9 := g39.rdD r_L9; replace F_t101 := F_t101.mv g39.mv; replace F_t102 := F_t102.mv g39.mv; replace r_L11 := g39.rdD r_L11; replace F_t121 := F_t121.mv g39.mv; replace F_t122 := F_t122.mv g39.mv; replace F_t131 := F_t131.mv g39.mv; replace F_t132 := F_t132.mv g39.mv; replace F_t141 := F_t141.mv g39.mv; replace F_t142 := F_t142.mv g39.mv; replace F_t151 := F_t151.mv g39.mv; replace F_t152 := F_t152.mv g39.mv; replace r_L17 := g39.rdD r_L17; replace r_L19 := g39.rdD r_L19
                        clear h39 hb39
                        exact sat_ret (.bool (sameD x18 y)) (by kernel_rfl) fun w9 h9 => congrArg Value.bool (cut_last gy C1 h_x18)
                    · refine sat_true (by kernel_rfl) ?_
                      refine sat_call #[] (by kernel_rfl) fun w24 h24 => ?_
                      refine (told13_any _ (h24.tab hT)).mono ?_
                      rintro e v24 ⟨rfl, hb24⟩
                      refine ⟨hb24, [.bool true], _, rfl, by kernel_rfl, by kernel_rfl, fun g24 => ?_⟩
                      replace F_a1 := F_a1.mv g24.mv; replace F_a2 := F_a2.mv g24.mv; replace r_x := g24.rdD r_x; replace r_y := g24.rdD r_y; replace r_L2 := g24.rdD r_L2; replace r_L4 := g24.rdD r_L4; replace r_o5l := g24.rdD r_o5l; replace r_o5h := g24.rdD r_o5h; replace r_L6 := g24.rdD r_L6; replace r_L7 := g24.rdD r_L7
                      clear h24 hb24
                      exact sat_ret (.bool true) (by kernel_rfl) fun w9 h9 => rfl
                  · refine sat_true (by kernel_rfl) ?_
                    refine sat_call #[] (by kernel_rfl) fun w21 h21 => ?_
                    refine (told13_any _ (h21.tab hT)).mono ?_
                    rintro e v21 ⟨rfl, hb21⟩
                    refine ⟨hb21, [.bool true], _, rfl, by kernel_rfl, by kernel_rfl, fun g21 => ?_⟩
                    replace F_a1 := F_a1.mv g21.mv; replace F_a2 := F_a2.mv g21.mv; replace r_x := g21.rdD r_x; replace r_y := g21.rdD r_y; replace r_L2 := g21.rdD r_L2; replace r_L4 := g21.rdD r_L4; replace r_o5l := g21.rdD r_o5l; replace r_o5h := g21.rdD r_o5h; replace r_L6 := g21.rdD r_L6
                    clear h21 hb21
                    exact sat_ret (.bool true) (by kernel_rfl) fun w9 h9 => rfl
                · refine sat_true (by kernel_rfl) ?_
                  refine sat_call #[] (by kernel_rfl) fun w19 h19 => ?_
                  refine (told13_any _ (h19.tab hT)).mono ?_
                  rintro e v19 ⟨rfl, hb19⟩
                  refine ⟨hb19, [.bool true], _, rfl, by kernel_rfl, by kernel_rfl, fun g19 => ?_⟩
                  replace F_a1 := F_a1.mv g19.mv; replace F_a2 := F_a2.mv g19.mv; replace r_x := g19.rdD r_x; replace r_y := g19.rdD r_y; replace r_L2 := g19.rdD r_L2; replace r_L4 := g19.rdD r_L4; replace r_o5l := g19.rdD r_o5l; replace r_o5h := g19.rdD r_o5h; replace r_L6 := g19.rdD r_L6
                  clear h19 hb19
                  exact sat_ret (.bool true) (by kernel_rfl) fun w9 h9 => rfl
              · refine sat_true (by kernel_rfl) ?_
                refine sat_idx (A := B_a) (c := d_a) (kk := .i64) (i) (by kernel_rfl) (by kernel_rfl) (lt_of hlt) F_a2.addr fun g16 o16 e16 => ?_
                obtain ⟨x6, h_x6⟩ : ∃ x_, a.v[(i)]? = some x_ := ⟨_, List.getElem?_eq_getElem (lt_of hlt)⟩
                refine sat_el F_a2 e16 h_x6 rfl (by kernel_rfl) (by kernel_rfl) (by kernel_rfl) ?_
                rintro _ ⟨A_L7, n_L7, c_L7, B_L7, m_L7, k_L7, rfl, r_L7l, r_L7h⟩
                refine sat_call #[.agg #[.bool x6.lo.neg, .slice A_L7 n_L7 c_L7, .int .i64 x6.lo.e, .bool x6.hi.neg, .slice B_L7 m_L7 k_L7, .int .i64 x6.hi.e], .agg #[.bool l_o5.neg, .slice A_o5 n_o5 c_o5, .int .i64 l_o5.e, .bool g_o5.neg, .slice B_o5 m_o5 k_o5, .int .i64 g_o5.e]] (by kernel_rfl) fun w17 h17 => ?_
                refine (withinI_any _ _ x6 ⟨l_o5, g_o5⟩ _ (mkI (h17.rdD r_L7l) (h17.rdD r_L7h)) (mkI (h17.rdD r_o5l) (h17.rdD r_o5h))).mono ?_
                rintro e v17 ⟨rfl, hb17⟩
                refine ⟨hb17, [.bool (withinI x6 ⟨l_o5, g_o5⟩)], _, rfl, by kernel_rfl, by kernel_rfl, fun g17 => ?_⟩
                replace F_a1 := F_a1.mv g17.mv; replace F_a2 := F_a2.mv g17.mv; replace r_x := g17.rdD r_x; replace r_y := g17.rdD r_y; replace r_L2 := g17.rdD r_L2; replace r_L4 := g17.rdD r_L4; replace r_o5l := g17.rdD r_o5l; replace r_o5h := g17.rdD r_o5h; replace r_L7l := g17.rdD r_L7l; replace r_L7h := g17.rdD r_L7h
                clear h17 hb17
                refine sat_prim (v := .bool (!(withinI x6 ⟨l_o5, g_o5⟩))) (by kernel_rfl) ?_
                refine sat_falseP (b := (!(withinI x6 ⟨l_o5, g_o5⟩))) (by kernel_rfl) (by rw [show (withinI x6 ⟨l_o5, g_o5⟩) = true from SA2 _ _ h_x6]; rfl) ?_
                refine sat_prim (v := .int .i64 (((i + 1 : Nat)) : Int)) (Eq.trans (b := some (.int .i64 (IntKind.i64.wrap ((((i) : Nat) : Int) + 1)))) (by kernel_rfl) (by rw [Sx.wrap_succ (n := a.v.length) (lt_of hlt) M_a2])) ?_
                exact sat_back [.int .i64 (((i + 1 : Nat)) : Int), .bool false] (by kernel_rfl) fun w9 h9 => ⟨_, by have := lt_of hlt; omega, i + 1, rfl, rfl, by have := lt_of hlt; omega⟩
      · refine sat_true (by kernel_rfl) ?_
        refine sat_call #[] (by kernel_rfl) fun w5 h5 => ?_
        refine (told13_any _ (h5.tab hT)).mono ?_
        rintro e v5 ⟨rfl, hb5⟩
        refine ⟨hb5, [.bool true], _, rfl, by kernel_rfl, by kernel_rfl, fun g5 => ?_⟩
        replace F_a1 := F_a1.mv g5.mv; replace F_a2 := F_a2.mv g5.mv; replace r_x := g5.rdD r_x; replace r_y := g5.rdD r_y
        clear h5 hb5
        exact sat_ret (.bool true) (by kernel_rfl) fun w9 h9 => rfl
    · refine sat_true (by kernel_rfl) ?_
      refine sat_call #[] (by kernel_rfl) fun w4 h4 => ?_
      refine (told13_any _ (h4.tab hT)).mono ?_
      rintro e v4 ⟨rfl, hb4⟩
      refine ⟨hb4, [.bool true], _, rfl, by kernel_rfl, by kernel_rfl, fun g4 => ?_⟩
      replace F_a1 := F_a1.mv g4.mv; replace F_a2 := F_a2.mv g4.mv; replace r_x := g4.rdD r_x; replace r_y := g4.rdD r_y
      clear h4 hb4
      exact sat_ret (.bool true) (by kernel_rfl) fun w9 h9 => rfl

end Go.Proofs.YtbpfnooloemieaaDoor
