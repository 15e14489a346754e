/- The boxes of sluicewayref11, the walk of BoxAsks, by their trees. Printed by wip/mk_BxC.py. -/
import Derived.Test.YtbpfnooloemieaaGreatDoorBxBx
import Derived.Test.YtbpfnooloemieaaGreatDoorBxPx
import Derived.Test.YtbpfnooloemieaaGreatDoorL2Fx
namespace Go.Proofs.YtbpfnooloemieaaGreatDoor
open Go.RowKit Pl
open Sx (sat_call sat_chk sat_prim sat_ite sat_true sat_false sat_trueP sat_falseP sat_ret sat_row sat_callP sat_loop sat_back sat_idx sat_el sat_elf sat_elc sat_load sat_rowN sat_app rows_one rows_two all_nil all_cons okB okS okI)

theorem two_ref {a b : List Iv} (h : mayB a = true) (k : mayB b = true) : ((((a.length : Nat) : Int)) == (((b.length : Nat) : Int))) = twoB a b := by unfold twoB; rw [h, k]; simp
theorem two_ref1 {a b : List Iv} (h : mayB a = false) : false = twoB a b := by unfold twoB; rw [h]; simp
theorem two_ref2 {a b : List Iv} (h : mayB b = false) : false = twoB a b := by unfold twoB; rw [h]; simp

def tr_r11may : Sx.Tree := .loop 0 [.num .i64 0, .bit false] (.prim .len [.lf 0] (.prim (.bin .lss) [.lf 1, .lf 3] (.ite (.lf 4) (.prim (.idx 6) [.lf 0, .lf 1] (.load 49 (.lf 5) (.ag 6) (.call 53 [.ag [.lf 6, .lf 7, .lf 8, .lf 9, .lf 10, .lf 11]] .one (.prim .not [.lf 12] (.ite (.lf 13) (.ret (.one (.bit false))) (.prim (.bin .add) [.lf 1, .num .i64 1] (.back 0 [.lf 14, .lf 2]))))))) (.ret (.one (.bit true))))))
theorem tr_r11may_eq : Sx.treeAt Tryz.prog 17 [] [] [(false, 1)] = some tr_r11may := by kernel_rfl

theorem rmayB_any (A_l : Option Addr) (c_l : Nat) (l : List Iv) (w : World) (h_l : Sx.Rows Sx.kI (fun _ => True) w A_l l.length c_l l) :
    Calls Tryz.prog 17 #[.slice A_l l.length c_l] w fun e w' => e = .returned (.bool (mayB l)) ∧ Below w.heap.size w w' := by
  have F_l := h_l.start
  have M_l := h_l.le
  clear h_l
  refine (Sx.runA [] [] (ls := [.slice A_l l.length c_l]) (shs := [(false, 1)]) (R := fun v _ => v = .bool (mayB l)) tr_r11may_eq rfl (by decide) (fun q h => by cases h) ?_).mono (fun e w' ⟨v, he, hv, hb⟩ => ⟨by rw [he, hv], hb⟩)
  unfold tr_r11may
  refine sat_loop (fun Kn vs W => ∃ (i : Nat), vs = [.int .i64 ((i : Nat) : Int), .bool false] ∧ Kn = l.length - i ∧ i ≤ l.length ∧ (mayB l = mayB (l.drop i))) [.int .i64 0, .bool false] (by kernel_rfl) (fun w1 h1 => ⟨_, 0, rfl, rfl, Nat.zero_le _, rfl⟩) ?_
  rintro Kn vs w1 h1 ⟨i, rfl, rfl, h_i, hm⟩
  replace F_l := F_l.mv h1.mv
  clear h1
  refine sat_prim (v := .int .i64 ((l.length : Nat) : Int)) (by kernel_rfl) ?_
  refine sat_prim (v := .bool (decide ((((i : Nat) : Int) : Int) < ((l.length : Nat) : Int)))) (by kernel_rfl) ?_
  cases hlt : (decide ((((i : Nat) : Int) : Int) < ((l.length : Nat) : Int)))
  · refine sat_false (by kernel_rfl) ?_
    exact sat_ret (.bool true) (by kernel_rfl) fun w9 h9 => congrArg Value.bool (by rw [hm, drop_end hlt]; rfl)
  · refine sat_true (by kernel_rfl) ?_
    refine sat_idx (A := A_l) (c := c_l) (kk := .i64) (i) (by kernel_rfl) (by kernel_rfl) (lt_of hlt) F_l.addr fun g3 o3 e3 => ?_
    obtain ⟨x1, h_x1⟩ : ∃ x_, l[(i)]? = some x_ := ⟨_, List.getElem?_eq_getElem (lt_of hlt)⟩
    refine sat_el F_l e3 h_x1 rfl (by kernel_rfl) (by kernel_rfl) (by kernel_rfl) ?_
    rintro _ ⟨A_L2, n_L2, c_L2, B_L2, m_L2, k_L2, rfl, r_L2l, r_L2h⟩
    refine sat_call #[.agg #[.bool x1.lo.neg, .slice A_L2 n_L2 c_L2, .int .i64 x1.lo.e, .bool x1.hi.neg, .slice B_L2 m_L2 k_L2, .int .i64 x1.hi.e]] (by kernel_rfl) fun w4 h4 => ?_
    refine (rmayI_any _ x1 _ (mkI (h4.rdD r_L2l) (h4.rdD r_L2h))).mono ?_
    rintro e v4 ⟨rfl, hb4⟩
    refine ⟨hb4, [.bool (mayI x1)], _, rfl, by kernel_rfl, by kernel_rfl, fun g4 => ?_⟩
    replace F_l := F_l.mv g4.mv; replace r_L2l := g4.rdD r_L2l; replace r_L2h := g4.rdD r_L2h
    clear h4 hb4
    refine sat_prim (v := .bool (!(mayI x1))) (by kernel_rfl) ?_
    cases hm2 : (mayI x1)
    · refine sat_true (by kernel_rfl) ?_
      exact sat_ret (.bool false) (by kernel_rfl) fun w9 h9 => congrArg Value.bool (by rw [hm, mayB_cons h_x1, hm2]; rfl)
    · refine sat_false (by kernel_rfl) ?_
      refine sat_prim (v := .int .i64 (((i + 1 : Nat)) : Int)) (Eq.trans (b := some (.int .i64 (IntKind.i64.wrap ((((i) : Nat) : Int) + 1)))) (by kernel_rfl) (by rw [Sx.wrap_succ (n := l.length) (lt_of hlt) M_l])) ?_
      exact sat_back [.int .i64 (((i + 1 : Nat)) : Int), .bool false] (by kernel_rfl) fun w9 h9 => ⟨_, by have := lt_of hlt; omega, i + 1, rfl, rfl, by have := lt_of hlt; omega, by rw [hm, mayB_cons h_x1, hm2, Bool.true_and]⟩

def tr_r11two : Sx.Tree := .call 17 [.one (.lf 0)] .one (.ite (.lf 2) (.call 17 [.one (.lf 1)] .one (.ite (.lf 3) (.prim .len [.lf 0] (.prim .len [.lf 1] (.prim (.bin .eql) [.lf 4, .lf 5] (.ret (.one (.lf 6)))))) (.ret (.one (.bit false))))) (.ret (.one (.bit false))))
theorem tr_r11two_eq : Sx.treeAt Tryz.prog 42 [] [] [(false, 1), (false, 1)] = some tr_r11two := by kernel_rfl

theorem rtwoB_any (A_a : Option Addr) (c_a : Nat) (A_b : Option Addr) (c_b : Nat) (a : List Iv) (b : List Iv) (w : World) (h_a : Sx.Rows Sx.kI (fun _ => True) w A_a a.length c_a a) (h_b : Sx.Rows Sx.kI (fun _ => True) w A_b b.length c_b b) :
    Calls Tryz.prog 42 #[.slice A_a a.length c_a, .slice A_b b.length c_b] w fun e w' => e = .returned (.bool (twoB a b)) ∧ Below w.heap.size w w' := by
  have F_a := h_a.start
  have M_a := h_a.le
  clear h_a
  have F_b := h_b.start
  have M_b := h_b.le
  clear h_b
  refine (Sx.runA [] [] (ls := [.slice A_a a.length c_a, .slice A_b b.length c_b]) (shs := [(false, 1), (false, 1)]) (R := fun v _ => v = .bool (twoB a b)) tr_r11two_eq rfl (by decide) (fun q h => by cases h) ?_).mono (fun e w' ⟨v, he, hv, hb⟩ => ⟨by rw [he, hv], hb⟩)
  unfold tr_r11two
  refine sat_call #[.slice A_a a.length c_a] (by kernel_rfl) fun w1 h1 => ?_
  refine (rmayB_any _ _ a _ ((F_a.mv h1.mv).any)).mono ?_
  rintro e v1 ⟨rfl, hb1⟩
  refine ⟨hb1, [.bool (mayB a)], _, rfl, by kernel_rfl, by kernel_rfl, fun g1 => ?_⟩
  replace F_a := F_a.mv g1.mv; replace F_b := F_b.mv g1.mv
  clear h1 hb1
  cases hA : (mayB a)
  · refine sat_false (by kernel_rfl) ?_
    exact sat_ret (.bool false) (by kernel_rfl) fun w9 h9 => congrArg Value.bool (two_ref1 hA)
  · refine sat_true (by kernel_rfl) ?_
    refine sat_call #[.slice A_b b.length c_b] (by kernel_rfl) fun w3 h3 => ?_
    refine (rmayB_any _ _ b _ ((F_b.mv h3.mv).any)).mono ?_
    rintro e v3 ⟨rfl, hb3⟩
    refine ⟨hb3, [.bool (mayB b)], _, rfl, by kernel_rfl, by kernel_rfl, fun g3 => ?_⟩
    replace F_a := F_a.mv g3.mv; replace F_b := F_b.mv g3.mv
    clear h3 hb3
    cases hB : (mayB b)
    · refine sat_false (by kernel_rfl) ?_
      exact sat_ret (.bool false) (by kernel_rfl) fun w9 h9 => congrArg Value.bool (two_ref2 hB)
    · refine sat_true (by kernel_rfl) ?_
      refine sat_prim (v := .int .i64 ((a.length : Nat) : Int)) (by kernel_rfl) ?_
      refine sat_prim (v := .int .i64 ((b.length : Nat) : Int)) (by kernel_rfl) ?_
      refine sat_prim (v := .bool ((((a.length : Nat) : Int) : Int) == ((b.length : Nat) : Int))) (by kernel_rfl) ?_
      exact sat_ret (.bool ((((a.length : Nat) : Int) : Int) == ((b.length : Nat) : Int))) (by kernel_rfl) fun w9 h9 => congrArg Value.bool (two_ref hA hB)

def tr_r11within : Sx.Tree := .call 42 [.one (.lf 0), .one (.lf 1)] .one (.loop 0 [.num .i64 0, .lf 2] (.ite (.lf 4) (.prim .len [.lf 0] (.prim (.bin .lss) [.lf 3, .lf 5] (.ite (.lf 6) (.prim (.idx 6) [.lf 0, .lf 3] (.load 49 (.lf 7) (.ag 6) (.prim (.idx 6) [.lf 1, .lf 3] (.load 49 (.lf 14) (.ag 6) (.call 58 [.ag [.lf 8, .lf 9, .lf 10, .lf 11, .lf 12, .lf 13], .ag [.lf 15, .lf 16, .lf 17, .lf 18, .lf 19, .lf 20]] .one (.prim (.bin .add) [.lf 3, .num .i64 1] (.back 0 [.lf 22, .lf 21]))))))) (.ret (.one (.lf 4)))))) (.ret (.one (.lf 4)))))
theorem tr_r11within_eq : Sx.treeAt Tryz.prog 20 [] [] [(false, 1), (false, 1)] = some tr_r11within := by kernel_rfl

theorem rwithinB_any (A_a : Option Addr) (c_a : Nat) (A_b : Option Addr) (c_b : Nat) (a : List Iv) (b : List Iv) (w : World) (h_a : Sx.Rows Sx.kI (fun _ => True) w A_a a.length c_a a) (h_b : Sx.Rows Sx.kI (fun _ => True) w A_b b.length c_b b) :
    Calls Tryz.prog 20 #[.slice A_a a.length c_a, .slice A_b b.length c_b] w fun e w' => e = .returned (.bool (withinB a b)) ∧ Below w.heap.size w w' := by
  have F_a := h_a.start
  have M_a := h_a.le
  clear h_a
  have F_b := h_b.start
  have M_b := h_b.le
  clear h_b
  refine (Sx.runA [] [] (ls := [.slice A_a a.length c_a, .slice A_b b.length c_b]) (shs := [(false, 1), (false, 1)]) (R := fun v _ => v = .bool (withinB a b)) tr_r11within_eq rfl (by decide) (fun q h => by cases h) ?_).mono (fun e w' ⟨v, he, hv, hb⟩ => ⟨by rw [he, hv], hb⟩)
  unfold tr_r11within
  refine sat_call #[.slice A_a a.length c_a, .slice A_b b.length c_b] (by kernel_rfl) fun w1 h1 => ?_
  refine (rtwoB_any _ _ _ _ a b _ ((F_a.mv h1.mv).any) ((F_b.mv h1.mv).any)).mono ?_
  rintro e v1 ⟨rfl, hb1⟩
  refine ⟨hb1, [.bool (twoB a b)], _, rfl, by kernel_rfl, by kernel_rfl, fun g1 => ?_⟩
  replace F_a := F_a.mv g1.mv; replace F_b := F_b.mv g1.mv
  clear h1 hb1
  refine sat_loop (fun Kn vs W => ∃ (i : Nat) (ok : Bool), vs = [.int .i64 ((i : Nat) : Int), .bool ok] ∧ Kn = a.length - i ∧ i ≤ a.length ∧ (withinB a b = (ok && all2 withinI (a.drop i) (b.drop i))) ∧ (ok = true → twoB a b = true)) [.int .i64 0, .bool (twoB a b)] (by kernel_rfl) (fun w1 h1 => ⟨_, 0, twoB a b, rfl, rfl, Nat.zero_le _, rfl, fun h => h⟩) ?_
  rintro Kn vs w2 h2 ⟨i, ok, rfl, rfl, h_i, hm, hT⟩
  replace F_a := F_a.mv h2.mv; replace F_b := F_b.mv h2.mv
  clear h2
  cases hok : (ok)
  · refine sat_false (by kernel_rfl) ?_
    exact sat_ret (.bool false) (by kernel_rfl) fun w9 h9 => congrArg Value.bool (by rw [hm, hok]; rfl)
  · refine sat_true (by kernel_rfl) ?_
    refine sat_prim (v := .int .i64 ((a.length : Nat) : Int)) (by kernel_rfl) ?_
    refine sat_prim (v := .bool (decide ((((i : Nat) : Int) : Int) < ((a.length : Nat) : Int)))) (by kernel_rfl) ?_
    cases hlt : (decide ((((i : Nat) : Int) : Int) < ((a.length : Nat) : Int)))
    · refine sat_false (by kernel_rfl) ?_
      exact sat_ret (.bool true) (by kernel_rfl) fun w9 h9 => congrArg Value.bool (by rw [hm, hok, drop_end hlt, all2_nil]; rfl)
    · refine sat_true (by kernel_rfl) ?_
      refine sat_idx (A := A_a) (c := c_a) (kk := .i64) (i) (by kernel_rfl) (by kernel_rfl) (lt_of hlt) F_a.addr fun g5 o5 e5 => ?_
      obtain ⟨x1, h_x1⟩ : ∃ x_, a[(i)]? = some x_ := ⟨_, List.getElem?_eq_getElem (lt_of hlt)⟩
      refine sat_el F_a e5 h_x1 rfl (by kernel_rfl) (by kernel_rfl) (by kernel_rfl) ?_
      rintro _ ⟨A_L2, n_L2, c_L2, B_L2, m_L2, k_L2, rfl, r_L2l, r_L2h⟩
      refine sat_idx (A := A_b) (c := c_b) (kk := .i64) (i) (by kernel_rfl) (by kernel_rfl) (by have := twoB_len (hT hok); have := lt_of hlt; omega) F_b.addr fun g6 o6 e6 => ?_
      obtain ⟨x3, h_x3⟩ : ∃ x_, b[(i)]? = some x_ := ⟨_, List.getElem?_eq_getElem (by have := twoB_len (hT hok); have := lt_of hlt; omega)⟩
      refine sat_el F_b e6 h_x3 rfl (by kernel_rfl) (by kernel_rfl) (by kernel_rfl) ?_
      rintro _ ⟨A_L4, n_L4, c_L4, B_L4, m_L4, k_L4, rfl, r_L4l, r_L4h⟩
      refine sat_call #[.agg #[.bool x1.lo.neg, .slice A_L2 n_L2 c_L2, .int .i64 x1.lo.e, .bool x1.hi.neg, .slice B_L2 m_L2 k_L2, .int .i64 x1.hi.e], .agg #[.bool x3.lo.neg, .slice A_L4 n_L4 c_L4, .int .i64 x3.lo.e, .bool x3.hi.neg, .slice B_L4 m_L4 k_L4, .int .i64 x3.hi.e]] (by kernel_rfl) fun w7 h7 => ?_
      refine (rwithinI_any _ _ x1 x3 _ (mkI (h7.rdD r_L2l) (h7.rdD r_L2h)) (mkI (h7.rdD r_L4l) (h7.rdD r_L4h))).mono ?_
      rintro e v7 ⟨rfl, hb7⟩
      refine ⟨hb7, [.bool (withinI x1 x3)], _, rfl, by kernel_rfl, by kernel_rfl, fun g7 => ?_⟩
      replace F_a := F_a.mv g7.mv; replace F_b := F_b.mv g7.mv; replace r_L2l := g7.rdD r_L2l; replace r_L2h := g7.rdD r_L2h; replace r_L4l := g7.rdD r_L4l; replace r_L4h := g7.rdD r_L4h
      clear h7 hb7
      refine sat_prim (v := .int .i64 (((i + 1 : Nat)) : Int)) (Eq.trans (b := some (.int .i64 (IntKind.i64.wrap ((((i) : Nat) : Int) + 1)))) (by kernel_rfl) (by rw [Sx.wrap_succ (n := a.length) (lt_of hlt) M_a])) ?_
      exact sat_back [.int .i64 (((i + 1 : Nat)) : Int), .bool (withinI x1 x3)] (by kernel_rfl) fun w9 h9 => ⟨_, by have := lt_of hlt; omega, i + 1, _, rfl, rfl, by have := lt_of hlt; omega, by rw [hm, all2_cons h_x1 h_x3, hok, Bool.true_and], fun _ => hT hok⟩

def tr_r11inside : Sx.Tree := .call 42 [.one (.lf 0), .one (.lf 1)] .one (.loop 0 [.num .i64 0, .lf 2] (.ite (.lf 4) (.prim .len [.lf 0] (.prim (.bin .lss) [.lf 3, .lf 5] (.ite (.lf 6) (.prim (.idx 6) [.lf 0, .lf 3] (.load 49 (.lf 7) (.ag 6) (.prim (.idx 6) [.lf 1, .lf 3] (.load 49 (.lf 14) (.ag 6) (.call 60 [.ag [.lf 8, .lf 9, .lf 10, .lf 11, .lf 12, .lf 13], .ag [.lf 15, .lf 16, .lf 17, .lf 18, .lf 19, .lf 20]] .one (.prim (.bin .add) [.lf 3, .num .i64 1] (.back 0 [.lf 22, .lf 21]))))))) (.ret (.one (.lf 4)))))) (.ret (.one (.lf 4)))))
theorem tr_r11inside_eq : Sx.treeAt Tryz.prog 22 [] [] [(false, 1), (false, 1)] = some tr_r11inside := by kernel_rfl

theorem rinsideB_any (A_a : Option Addr) (c_a : Nat) (A_b : Option Addr) (c_b : Nat) (a : List Iv) (b : List Iv) (w : World) (h_a : Sx.Rows Sx.kI (fun _ => True) w A_a a.length c_a a) (h_b : Sx.Rows Sx.kI (fun _ => True) w A_b b.length c_b b) :
    Calls Tryz.prog 22 #[.slice A_a a.length c_a, .slice A_b b.length c_b] w fun e w' => e = .returned (.bool (insideB a b)) ∧ Below w.heap.size w w' := by
  have F_a := h_a.start
  have M_a := h_a.le
  clear h_a
  have F_b := h_b.start
  have M_b := h_b.le
  clear h_b
  refine (Sx.runA [] [] (ls := [.slice A_a a.length c_a, .slice A_b b.length c_b]) (shs := [(false, 1), (false, 1)]) (R := fun v _ => v = .bool (insideB a b)) tr_r11inside_eq rfl (by decide) (fun q h => by cases h) ?_).mono (fun e w' ⟨v, he, hv, hb⟩ => ⟨by rw [he, hv], hb⟩)
  unfold tr_r11inside
  refine sat_call #[.slice A_a a.length c_a, .slice A_b b.length c_b] (by kernel_rfl) fun w1 h1 => ?_
  refine (rtwoB_any _ _ _ _ a b _ ((F_a.mv h1.mv).any) ((F_b.mv h1.mv).any)).mono ?_
  rintro e v1 ⟨rfl, hb1⟩
  refine ⟨hb1, [.bool (twoB a b)], _, rfl, by kernel_rfl, by kernel_rfl, fun g1 => ?_⟩
  replace F_a := F_a.mv g1.mv; replace F_b := F_b.mv g1.mv
  clear h1 hb1
  refine sat_loop (fun Kn vs W => ∃ (i : Nat) (ok : Bool), vs = [.int .i64 ((i : Nat) : Int), .bool ok] ∧ Kn = a.length - i ∧ i ≤ a.length ∧ (insideB a b = (ok && all2 insideI (a.drop i) (b.drop i))) ∧ (ok = true → twoB a b = true)) [.int .i64 0, .bool (twoB a b)] (by kernel_rfl) (fun w1 h1 => ⟨_, 0, twoB a b, rfl, rfl, Nat.zero_le _, rfl, fun h => h⟩) ?_
  rintro Kn vs w2 h2 ⟨i, ok, rfl, rfl, h_i, hm, hT⟩
  replace F_a := F_a.mv h2.mv; replace F_b := F_b.mv h2.mv
  clear h2
  cases hok : (ok)
  · refine sat_false (by kernel_rfl) ?_
    exact sat_ret (.bool false) (by kernel_rfl) fun w9 h9 => congrArg Value.bool (by rw [hm, hok]; rfl)
  · refine sat_true (by kernel_rfl) ?_
    refine sat_prim (v := .int .i64 ((a.length : Nat) : Int)) (by kernel_rfl) ?_
    refine sat_prim (v := .bool (decide ((((i : Nat) : Int) : Int) < ((a.length : Nat) : Int)))) (by kernel_rfl) ?_
    cases hlt : (decide ((((i : Nat) : Int) : Int) < ((a.length : Nat) : Int)))
    · refine sat_false (by kernel_rfl) ?_
      exact sat_ret (.bool true) (by kernel_rfl) fun w9 h9 => congrArg Value.bool (by rw [hm, hok, drop_end hlt, all2_nil]; rfl)
    · refine sat_true (by kernel_rfl) ?_
      refine sat_idx (A := A_a) (c := c_a) (kk := .i64) (i) (by kernel_rfl) (by kernel_rfl) (lt_of hlt) F_a.addr fun g5 o5 e5 => ?_
      obtain ⟨x1, h_x1⟩ : ∃ x_, a[(i)]? = some x_ := ⟨_, List.getElem?_eq_getElem (lt_of hlt)⟩
      refine sat_el F_a e5 h_x1 rfl (by kernel_rfl) (by kernel_rfl) (by kernel_rfl) ?_
      rintro _ ⟨A_L2, n_L2, c_L2, B_L2, m_L2, k_L2, rfl, r_L2l, r_L2h⟩
      refine sat_idx (A := A_b) (c := c_b) (kk := .i64) (i) (by kernel_rfl) (by kernel_rfl) (by have := twoB_len (hT hok); have := lt_of hlt; omega) F_b.addr fun g6 o6 e6 => ?_
      obtain ⟨x3, h_x3⟩ : ∃ x_, b[(i)]? = some x_ := ⟨_, List.getElem?_eq_getElem (by have := twoB_len (hT hok); have := lt_of hlt; omega)⟩
      refine sat_el F_b e6 h_x3 rfl (by kernel_rfl) (by kernel_rfl) (by kernel_rfl) ?_
      rintro _ ⟨A_L4, n_L4, c_L4, B_L4, m_L4, k_L4, rfl, r_L4l, r_L4h⟩
      refine sat_call #[.agg #[.bool x1.lo.neg, .slice A_L2 n_L2 c_L2, .int .i64 x1.lo.e, .bool x1.hi.neg, .slice B_L2 m_L2 k_L2, .int .i64 x1.hi.e], .agg #[.bool x3.lo.neg, .slice A_L4 n_L4 c_L4, .int .i64 x3.lo.e, .bool x3.hi.neg, .slice B_L4 m_L4 k_L4, .int .i64 x3.hi.e]] (by kernel_rfl) fun w7 h7 => ?_
      refine (rinsideI_any _ _ x1 x3 _ (mkI (h7.rdD r_L2l) (h7.rdD r_L2h)) (mkI (h7.rdD r_L4l) (h7.rdD r_L4h))).mono ?_
      rintro e v7 ⟨rfl, hb7⟩
      refine ⟨hb7, [.bool (insideI x1 x3)], _, rfl, by kernel_rfl, by kernel_rfl, fun g7 => ?_⟩
      replace F_a := F_a.mv g7.mv; replace F_b := F_b.mv g7.mv; replace r_L2l := g7.rdD r_L2l; replace r_L2h := g7.rdD r_L2h; replace r_L4l := g7.rdD r_L4l; replace r_L4h := g7.rdD r_L4h
      clear h7 hb7
      refine sat_prim (v := .int .i64 (((i + 1 : Nat)) : Int)) (Eq.trans (b := some (.int .i64 (IntKind.i64.wrap ((((i) : Nat) : Int) + 1)))) (by kernel_rfl) (by rw [Sx.wrap_succ (n := a.length) (lt_of hlt) M_a])) ?_
      exact sat_back [.int .i64 (((i + 1 : Nat)) : Int), .bool (insideI x1 x3)] (by kernel_rfl) fun w9 h9 => ⟨_, by have := lt_of hlt; omega, i + 1, _, rfl, rfl, by have := lt_of hlt; omega, by rw [hm, all2_cons h_x1 h_x3, hok, Bool.true_and], fun _ => hT hok⟩

def tr_r11has : Sx.Tree := .call 17 [.one (.lf 0)] .one (.prim .not [.lf 2] (.ite (.lf 3) (.ret (.one (.bit false))) (.prim .len [.lf 0] (.prim .len [.lf 1] (.prim (.bin .neq) [.lf 4, .lf 5] (.ite (.lf 6) (.ret (.one (.bit false))) (.loop 0 [.num .i64 0, .bit false] (.prim .len [.lf 0] (.prim (.bin .lss) [.lf 7, .lf 9] (.ite (.lf 10) (.prim (.idx 6) [.lf 0, .lf 7] (.load 49 (.lf 11) (.ag 6) (.prim (.idx 3) [.lf 1, .lf 7] (.load 30 (.lf 18) (.ag 3) (.call 63 [.ag [.lf 12, .lf 13, .lf 14, .lf 15, .lf 16, .lf 17], .ag [.lf 19, .lf 20, .lf 21]] .one (.prim .not [.lf 22] (.ite (.lf 23) (.ret (.one (.bit false))) (.prim (.bin .add) [.lf 7, .num .i64 1] (.back 0 [.lf 24, .lf 8]))))))))) (.ret (.one (.bit true)))))))))))))
theorem tr_r11has_eq : Sx.treeAt Tryz.prog 24 [] [] [(false, 1), (false, 1)] = some tr_r11has := by kernel_rfl

theorem rhasB_any (A_b : Option Addr) (c_b : Nat) (A_x : Option Addr) (c_x : Nat) (b : List Iv) (x : List Dy) (w : World) (h_b : Sx.Rows Sx.kI (fun _ => True) w A_b b.length c_b b) (h_x : Sx.Rows Sx.kD (fun _ => True) w A_x x.length c_x x) :
    Calls Tryz.prog 24 #[.slice A_b b.length c_b, .slice A_x x.length c_x] w fun e w' => e = .returned (.bool (hasB b x)) ∧ Below w.heap.size w w' := by
  have F_b := h_b.start
  have M_b := h_b.le
  clear h_b
  have F_x := h_x.start
  have M_x := h_x.le
  clear h_x
  refine (Sx.runA [] [] (ls := [.slice A_b b.length c_b, .slice A_x x.length c_x]) (shs := [(false, 1), (false, 1)]) (R := fun v _ => v = .bool (hasB b x)) tr_r11has_eq rfl (by decide) (fun q h => by cases h) ?_).mono (fun e w' ⟨v, he, hv, hb⟩ => ⟨by rw [he, hv], hb⟩)
  unfold tr_r11has
  refine sat_call #[.slice A_b b.length c_b] (by kernel_rfl) fun w1 h1 => ?_
  refine (rmayB_any _ _ b _ ((F_b.mv h1.mv).any)).mono ?_
  rintro e v1 ⟨rfl, hb1⟩
  refine ⟨hb1, [.bool (mayB b)], _, rfl, by kernel_rfl, by kernel_rfl, fun g1 => ?_⟩
  replace F_b := F_b.mv g1.mv; replace F_x := F_x.mv g1.mv
  clear h1 hb1
  refine sat_prim (v := .bool (!(mayB b))) (by kernel_rfl) ?_
  cases hT2 : (mayB b)
  · refine sat_true (by kernel_rfl) ?_
    exact sat_ret (.bool false) (by kernel_rfl) fun w9 h9 => congrArg Value.bool (by unfold hasB; rw [hT2]; rfl)
  · refine sat_false (by kernel_rfl) ?_
    refine sat_prim (v := .int .i64 ((b.length : Nat) : Int)) (by kernel_rfl) ?_
    refine sat_prim (v := .int .i64 ((x.length : Nat) : Int)) (by kernel_rfl) ?_
    refine sat_prim (v := .bool ((((b.length : Nat) : Int) : Int) != ((x.length : Nat) : Int))) (by kernel_rfl) ?_
    cases hne : ((((b.length : Nat) : Int) : Int) != ((x.length : Nat) : Int))
    · refine sat_false (by kernel_rfl) ?_
      have hl := eqf_len' hne
      refine sat_loop (fun Kn vs W => ∃ (i : Nat), vs = [.int .i64 ((i : Nat) : Int), .bool false] ∧ Kn = b.length - i ∧ i ≤ b.length ∧ (all2 hasI b x = all2 hasI (b.drop i) (x.drop i))) [.int .i64 0, .bool false] (by kernel_rfl) (fun w1 h1 => ⟨_, 0, rfl, rfl, Nat.zero_le _, rfl⟩) ?_
      rintro Kn vs w4 h4 ⟨i, rfl, rfl, h_i, hm⟩
      replace F_b := F_b.mv h4.mv; replace F_x := F_x.mv h4.mv
      clear h4
      refine sat_prim (v := .int .i64 ((b.length : Nat) : Int)) (by kernel_rfl) ?_
      refine sat_prim (v := .bool (decide ((((i : Nat) : Int) : Int) < ((b.length : Nat) : Int)))) (by kernel_rfl) ?_
      cases hlt : (decide ((((i : Nat) : Int) : Int) < ((b.length : Nat) : Int)))
      · refine sat_false (by kernel_rfl) ?_
        exact sat_ret (.bool true) (by kernel_rfl) fun w9 h9 => congrArg Value.bool (by unfold hasB; rw [hT2, Bool.true_and]; exact eqf_yes hm hlt hl)
      · refine sat_true (by kernel_rfl) ?_
        refine sat_idx (A := A_b) (c := c_b) (kk := .i64) (i) (by kernel_rfl) (by kernel_rfl) (lt_of hlt) F_b.addr fun g6 o6 e6 => ?_
        obtain ⟨x1, h_x1⟩ : ∃ x_, b[(i)]? = some x_ := ⟨_, List.getElem?_eq_getElem (lt_of hlt)⟩
        refine sat_el F_b e6 h_x1 rfl (by kernel_rfl) (by kernel_rfl) (by kernel_rfl) ?_
        rintro _ ⟨A_L2, n_L2, c_L2, B_L2, m_L2, k_L2, rfl, r_L2l, r_L2h⟩
        refine sat_idx (A := A_x) (c := c_x) (kk := .i64) (i) (by kernel_rfl) (by kernel_rfl) (by have := lt_of hlt; omega) F_x.addr fun g7 o7 e7 => ?_
        obtain ⟨x3, h_x3⟩ : ∃ x_, x[(i)]? = some x_ := ⟨_, List.getElem?_eq_getElem (by have := lt_of hlt; omega)⟩
        refine sat_el F_x e7 h_x3 rfl (by kernel_rfl) (by kernel_rfl) (by kernel_rfl) ?_
        rintro _ ⟨A_L4, n_L4, c_L4, rfl, r_L4⟩
        refine sat_call #[.agg #[.bool x1.lo.neg, .slice A_L2 n_L2 c_L2, .int .i64 x1.lo.e, .bool x1.hi.neg, .slice B_L2 m_L2 k_L2, .int .i64 x1.hi.e], .agg #[.bool x3.neg, .slice A_L4 n_L4 c_L4, .int .i64 x3.e]] (by kernel_rfl) fun w8 h8 => ?_
        refine (rhasI_any _ _ x1 (x3) _ (mkI (h8.rdD r_L2l) (h8.rdD r_L2h)) (h8.rdD r_L4)).mono ?_
        rintro e v8 ⟨rfl, hb8⟩
        refine ⟨hb8, [.bool (hasI x1 x3)], _, rfl, by kernel_rfl, by kernel_rfl, fun g8 => ?_⟩
        replace F_b := F_b.mv g8.mv; replace F_x := F_x.mv g8.mv; replace r_L2l := g8.rdD r_L2l; replace r_L2h := g8.rdD r_L2h; replace r_L4 := g8.rdD r_L4
        clear h8 hb8
        refine sat_prim (v := .bool (!(hasI x1 x3))) (by kernel_rfl) ?_
        cases hf : (hasI x1 x3)
        · refine sat_true (by kernel_rfl) ?_
          exact sat_ret (.bool false) (by kernel_rfl) fun w9 h9 => congrArg Value.bool (by unfold hasB; rw [hT2, Bool.true_and]; exact eqf_no hm h_x1 h_x3 hf)
        · refine sat_false (by kernel_rfl) ?_
          refine sat_prim (v := .int .i64 (((i + 1 : Nat)) : Int)) (Eq.trans (b := some (.int .i64 (IntKind.i64.wrap ((((i) : Nat) : Int) + 1)))) (by kernel_rfl) (by rw [Sx.wrap_succ (n := b.length) (lt_of hlt) M_b])) ?_
          exact sat_back [.int .i64 (((i + 1 : Nat)) : Int), .bool false] (by kernel_rfl) fun w9 h9 => ⟨_, by have := lt_of hlt; omega, i + 1, rfl, rfl, by have := lt_of hlt; omega, eqf_step hm h_x1 h_x3 hf⟩
    · refine sat_true (by kernel_rfl) ?_
      exact sat_ret (.bool false) (by kernel_rfl) fun w9 h9 => congrArg Value.bool (by unfold hasB; rw [hT2, Bool.true_and]; exact eqf_len hne)

theorem hull_mark {a b : List Iv} {i : Nat} {x y z : Iv} {m : Int} (hT : twoB a b = true) (hx : a[i]? = some x) (hy : b[i]? = some y) (e : Hid ((z, m) = hullI x y)) : ((m : Int) != 0) = false := by
  obtain ⟨_, h1, h2⟩ := two_parts hT
  have h3 := List.all_eq_true.1 h1 x (List.mem_of_getElem? hx)
  have h4 := List.all_eq_true.1 h2 y (List.mem_of_getElem? hy)
  have h5 := e.out
  unfold hullI at h5
  rw [h3, h4] at h5
  rw [(Prod.mk.inj h5).2]
  rfl

def tr_r11hull : Sx.Tree := .call 42 [.one (.lf 0), .one (.lf 1)] .one (.prim .not [.lf 2] (.ite (.lf 3) (.ret (.tup [(false, [.nil]), (false, [.num .i64 1])])) (.loop 0 [.num .i64 0, .nil] (.prim .len [.lf 0] (.prim (.bin .lss) [.lf 4, .lf 6] (.ite (.lf 7) (.prim (.idx 6) [.lf 0, .lf 4] (.load 49 (.lf 8) (.ag 6) (.prim (.idx 6) [.lf 1, .lf 4] (.load 49 (.lf 15) (.ag 6) (.call 43 [.ag [.lf 9, .lf 10, .lf 11, .lf 12, .lf 13, .lf 14], .ag [.lf 16, .lf 17, .lf 18, .lf 19, .lf 20, .lf 21]] (.tup [(true, 6), (false, 1)]) (.chk [.lf 22, .lf 23, .lf 24, .lf 25, .lf 26, .lf 27] (.row 49 [.lf 22, .lf 23, .lf 24, .lf 25, .lf 26, .lf 27] 1 [] (.app 49 6 80 (.lf 5) (.lf 29) (.prim (.bin .add) [.lf 4, .num .i64 1] (.back 0 [.lf 31, .lf 30])))))))))) (.ret (.tup [(false, [.lf 5]), (false, [.num .i64 0])]))))))))
theorem tr_r11hull_eq : Sx.treeAt Tryz.prog 8 [] [] [(false, 1), (false, 1)] = some tr_r11hull := by kernel_rfl

theorem rhullB_any (A_a : Option Addr) (c_a : Nat) (A_b : Option Addr) (c_b : Nat) (a : List Iv) (b : List Iv) (w : World) (h_a : Sx.Rows Sx.kI (fun _ => True) w A_a a.length c_a a) (h_b : Sx.Rows Sx.kI (fun _ => True) w A_b b.length c_b b) (hs : a.length ≤ 1000) :
    Calls Tryz.prog 8 #[.slice A_a a.length c_a, .slice A_b b.length c_b] w fun e w' => BxTup w w' e (eachB hullI a b) ∧ Below w.heap.size w w' := by
  have F_a := h_a.start
  have M_a := h_a.le
  clear h_a
  have F_b := h_b.start
  have M_b := h_b.le
  clear h_b
  refine (Sx.runA [] [] (ls := [.slice A_a a.length c_a, .slice A_b b.length c_b]) (shs := [(false, 1), (false, 1)]) (R := fun v w' => BxTup w w' (.returned v) (eachB hullI a b)) tr_r11hull_eq rfl (by decide) (fun q h => by cases h) ?_).mono (fun e w' ⟨v, he, hv, hb⟩ => ⟨by rw [he]; exact hv, hb⟩)
  unfold tr_r11hull
  refine sat_call #[.slice A_a a.length c_a, .slice A_b b.length c_b] (by kernel_rfl) fun w1 h1 => ?_
  refine (rtwoB_any _ _ _ _ a b _ ((F_a.mv h1.mv).any) ((F_b.mv h1.mv).any)).mono ?_
  rintro e v1 ⟨rfl, hb1⟩
  refine ⟨hb1, [.bool (twoB a b)], _, rfl, by kernel_rfl, by kernel_rfl, fun g1 => ?_⟩
  replace F_a := F_a.mv g1.mv; replace F_b := F_b.mv g1.mv
  clear h1 hb1
  refine sat_prim (v := .bool (!(twoB a b))) (by kernel_rfl) ?_
  cases hT2 : (twoB a b)
  · refine sat_true (by kernel_rfl) ?_
    exact sat_ret (.tuple #[.slice none 0 0, .int .i64 1]) (by kernel_rfl) fun w9 h9 => BxTup.nil (eachB_no hT2)
  · refine sat_false (by kernel_rfl) ?_
    have hl := twoB_len hT2
    refine sat_loop (fun Kn vs W => ∃ (i : Nat) (out : List Iv) (A_o : Option Addr) (c_o : Nat), vs = [.int .i64 ((i : Nat) : Int), .slice A_o out.length c_o] ∧ Kn = a.length - i ∧ i ≤ a.length ∧ (Sx.Gr Sx.kI w 49 W (.slice A_o out.length c_o) out) ∧ (eachB hullI a b = eachA hullI out (a.drop i) (b.drop i)) ∧ (out.length = i)) [.int .i64 0, .slice none 0 0] (by kernel_rfl) (fun w1 h1 => ⟨_, 0, [], none, 0, rfl, rfl, Nat.zero_le _, Sx.Gr.nil (by decide) _ _ _, (eachB_yes hT2).symm, rfl⟩) ?_
    rintro Kn vs w3 h3 ⟨i, out, A_o, c_o, rfl, rfl, h_i, G_o, hm, ho⟩
    replace F_a := F_a.mv h3.mv; replace F_b := F_b.mv h3.mv
    clear h3
    refine sat_prim (v := .int .i64 ((a.length : Nat) : Int)) (by kernel_rfl) ?_
    refine sat_prim (v := .bool (decide ((((i : Nat) : Int) : Int) < ((a.length : Nat) : Int)))) (by kernel_rfl) ?_
    cases hlt : (decide ((((i : Nat) : Int) : Int) < ((a.length : Nat) : Int)))
    · refine sat_false (by kernel_rfl) ?_
      exact sat_ret (.tuple #[.slice A_o out.length c_o, .int .i64 0]) (by kernel_rfl) fun w9 h9 => ⟨out, 0, _, _, rfl, hide (eachA_end hm hlt), (G_o.le h9).done fun h => h⟩
    · refine sat_true (by kernel_rfl) ?_
      refine sat_idx (A := A_a) (c := c_a) (kk := .i64) (i) (by kernel_rfl) (by kernel_rfl) (lt_of hlt) F_a.addr fun g5 o5 e5 => ?_
      obtain ⟨x1, h_x1⟩ : ∃ x_, a[(i)]? = some x_ := ⟨_, List.getElem?_eq_getElem (lt_of hlt)⟩
      refine sat_el F_a e5 h_x1 rfl (by kernel_rfl) (by kernel_rfl) (by kernel_rfl) ?_
      rintro _ ⟨A_L2, n_L2, c_L2, B_L2, m_L2, k_L2, rfl, r_L2l, r_L2h⟩
      refine sat_idx (A := A_b) (c := c_b) (kk := .i64) (i) (by kernel_rfl) (by kernel_rfl) (by have := lt_of hlt; omega) F_b.addr fun g6 o6 e6 => ?_
      obtain ⟨x3, h_x3⟩ : ∃ x_, b[(i)]? = some x_ := ⟨_, List.getElem?_eq_getElem (by have := lt_of hlt; omega)⟩
      refine sat_el F_b e6 h_x3 rfl (by kernel_rfl) (by kernel_rfl) (by kernel_rfl) ?_
      rintro _ ⟨A_L4, n_L4, c_L4, B_L4, m_L4, k_L4, rfl, r_L4l, r_L4h⟩
      refine sat_call #[.agg #[.bool x1.lo.neg, .slice A_L2 n_L2 c_L2, .int .i64 x1.lo.e, .bool x1.hi.neg, .slice B_L2 m_L2 k_L2, .int .i64 x1.hi.e], .agg #[.bool x3.lo.neg, .slice A_L4 n_L4 c_L4, .int .i64 x3.lo.e, .bool x3.hi.neg, .slice B_L4 m_L4 k_L4, .int .i64 x3.hi.e]] (by kernel_rfl) fun w7 h7 => ?_
      refine (rhullI_any _ _ x1 x3 _ (mkI (h7.rdD r_L2l) (h7.rdD r_L2h)) (mkI (h7.rdD r_L4l) (h7.rdD r_L4h))).mono ?_
      rintro e v7 ⟨⟨l_hr5, g_hr5, x_hr5, A_hr5, n_hr5, c_hr5, B_hr5, m_hr5, k_hr5, h_hr5, rfl, r_hr5l, r_hr5h⟩, hb7⟩
      refine ⟨hb7, [.bool l_hr5.neg, .slice A_hr5 n_hr5 c_hr5, .int .i64 l_hr5.e, .bool g_hr5.neg, .slice B_hr5 m_hr5 k_hr5, .int .i64 g_hr5.e, .int .i64 x_hr5], _, rfl, by kernel_rfl, by kernel_rfl, fun g7 => ?_⟩
      replace F_a := F_a.mv g7.mv; replace F_b := F_b.mv g7.mv; replace G_o := G_o.le g7; replace r_L2l := g7.rdD r_L2l; replace r_L2h := g7.rdD r_L2h; replace r_L4l := g7.rdD r_L4l; replace r_L4h := g7.rdD r_L4h
      clear h7 hb7
      refine sat_chkB (by kernel_rfl) ?_
      refine sat_rowN [.bool l_hr5.neg, .slice A_hr5 n_hr5 c_hr5, .int .i64 l_hr5.e, .bool g_hr5.neg, .slice B_hr5 m_hr5 k_hr5, .int .i64 g_hr5.e] (by kernel_rfl) (by intro x hx; cases hx) fun u1 h1 B1 NB1 => ?_
      replace F_a := F_a.mv h1.mv; replace F_b := F_b.mv h1.mv; replace G_o := G_o.le h1; replace r_L2l := h1.rdD r_L2l; replace r_L2h := h1.rdD r_L2h; replace r_L4l := h1.rdD r_L4l; replace r_L4h := h1.rdD r_L4h; replace r_hr5l := h1.rdD r_hr5l; replace r_hr5h := h1.rdD r_hr5h
      have F_R6 : Sx.Rows Sx.kI (Sx.NB _) _ (some ⟨u1.heap.size, 0, none⟩) 1 1 [(⟨l_hr5, g_hr5⟩ : Iv)] := rows_one (k := Sx.kI) B1 NB1 ⟨_, _, _, _, _, _, rfl, r_hr5l, r_hr5h⟩
      generalize u1.heap.size = N_R6 at *
      generalize (u1.alloc _) = w_R6 at *
      clear B1 h1 NB1
      refine sat_app (.slice A_o out.length c_o) (.slice (some ⟨N_R6, 0, none⟩) 1 1) (by kernel_rfl) (by kernel_rfl) fun w8 h8 => ?_
      refine (G_o.le h8).app (l' := [(⟨l_hr5, g_hr5⟩ : Iv)]) (F_R6.mv h8.mv) (by have := lt_of hlt; simp only [List.length_cons, List.length_nil, maxLen]; omega) (by have := lt_of hlt; simp only [List.length_cons, List.length_nil]; omega) fun A_G7 c_G7 v8 a8 G7 => ?_
      replace F_a := F_a.mv h8.mv; replace F_b := F_b.mv h8.mv; replace r_L2l := h8.rdD r_L2l; replace r_L2h := h8.rdD r_L2h; replace r_L4l := h8.rdD r_L4l; replace r_L4h := h8.rdD r_L4h; replace r_hr5l := h8.rdD r_hr5l; replace r_hr5h := h8.rdD r_hr5h; replace F_R6 := F_R6.mv h8.mv
      replace F_a := F_a.mv a8.toLf.mv; replace F_b := F_b.mv a8.toLf.mv; replace r_L2l := a8.toLf.rdD r_L2l; replace r_L2h := a8.toLf.rdD r_L2h; replace r_L4l := a8.toLf.rdD r_L4l; replace r_L4h := a8.toLf.rdD r_L4h; replace r_hr5l := a8.toLf.rdD r_hr5l; replace r_hr5h := a8.toLf.rdD r_hr5h; replace F_R6 := F_R6.mv a8.toLf.mv
      clear h8 a8 G_o
      refine sat_prim (v := .int .i64 (((i + 1 : Nat)) : Int)) (Eq.trans (b := some (.int .i64 (IntKind.i64.wrap ((((i) : Nat) : Int) + 1)))) (by kernel_rfl) (by rw [Sx.wrap_succ (n := a.length) (lt_of hlt) M_a])) ?_
      exact sat_back [.int .i64 (((i + 1 : Nat)) : Int), .slice A_G7 (out ++ [(⟨l_hr5, g_hr5⟩ : Iv)]).length c_G7] (by kernel_rfl) fun w9 h9 => ⟨_, by have := lt_of hlt; omega, i + 1, (out ++ [(⟨l_hr5, g_hr5⟩ : Iv)]), _, _, rfl, rfl, by have := lt_of hlt; omega, G7.le h9, hm.trans (eachA_good h_x1 h_x3 h_hr5 (hull_mark hT2 h_x1 h_x3 h_hr5)), by simp [ho]⟩

def tr_r11meet : Sx.Tree := .call 42 [.one (.lf 0), .one (.lf 1)] .one (.prim .not [.lf 2] (.ite (.lf 3) (.ret (.tup [(false, [.nil]), (false, [.num .i64 1])])) (.loop 0 [.num .i64 0, .nil, .num .i64 0, .nil] (.prim .len [.lf 0] (.prim (.bin .lss) [.lf 4, .lf 8] (.ite (.lf 9) (.prim (.idx 6) [.lf 0, .lf 4] (.load 49 (.lf 10) (.ag 6) (.prim (.idx 6) [.lf 1, .lf 4] (.load 49 (.lf 17) (.ag 6) (.call 45 [.ag [.lf 11, .lf 12, .lf 13, .lf 14, .lf 15, .lf 16], .ag [.lf 18, .lf 19, .lf 20, .lf 21, .lf 22, .lf 23]] (.tup [(true, 6), (false, 1)]) (.chk [.lf 24, .lf 25, .lf 26, .lf 27, .lf 28, .lf 29] (.prim (.bin .neq) [.lf 30, .num .i64 0] (.ite (.lf 31) (.ret (.tup [(false, [.nil]), (false, [.lf 30])])) (.row 49 [.lf 24, .lf 25, .lf 26, .lf 27, .lf 28, .lf 29] 1 [] (.app 49 6 80 (.lf 5) (.lf 32) (.prim (.bin .add) [.lf 4, .num .i64 1] (.back 0 [.lf 34, .lf 33, .lf 6, .lf 7])))))))))))) (.ret (.tup [(false, [.lf 5]), (false, [.num .i64 0])]))))))))
theorem tr_r11meet_eq : Sx.treeAt Tryz.prog 10 [] [] [(false, 1), (false, 1)] = some tr_r11meet := by kernel_rfl

theorem rmeetB_any (A_a : Option Addr) (c_a : Nat) (A_b : Option Addr) (c_b : Nat) (a : List Iv) (b : List Iv) (w : World) (h_a : Sx.Rows Sx.kI (fun _ => True) w A_a a.length c_a a) (h_b : Sx.Rows Sx.kI (fun _ => True) w A_b b.length c_b b) (hs : a.length ≤ 1000) :
    Calls Tryz.prog 10 #[.slice A_a a.length c_a, .slice A_b b.length c_b] w fun e w' => BxTup w w' e (eachB meetI a b) ∧ Below w.heap.size w w' := by
  have F_a := h_a.start
  have M_a := h_a.le
  clear h_a
  have F_b := h_b.start
  have M_b := h_b.le
  clear h_b
  refine (Sx.runA [] [] (ls := [.slice A_a a.length c_a, .slice A_b b.length c_b]) (shs := [(false, 1), (false, 1)]) (R := fun v w' => BxTup w w' (.returned v) (eachB meetI a b)) tr_r11meet_eq rfl (by decide) (fun q h => by cases h) ?_).mono (fun e w' ⟨v, he, hv, hb⟩ => ⟨by rw [he]; exact hv, hb⟩)
  unfold tr_r11meet
  refine sat_call #[.slice A_a a.length c_a, .slice A_b b.length c_b] (by kernel_rfl) fun w1 h1 => ?_
  refine (rtwoB_any _ _ _ _ a b _ ((F_a.mv h1.mv).any) ((F_b.mv h1.mv).any)).mono ?_
  rintro e v1 ⟨rfl, hb1⟩
  refine ⟨hb1, [.bool (twoB a b)], _, rfl, by kernel_rfl, by kernel_rfl, fun g1 => ?_⟩
  replace F_a := F_a.mv g1.mv; replace F_b := F_b.mv g1.mv
  clear h1 hb1
  refine sat_prim (v := .bool (!(twoB a b))) (by kernel_rfl) ?_
  cases hT2 : (twoB a b)
  · refine sat_true (by kernel_rfl) ?_
    exact sat_ret (.tuple #[.slice none 0 0, .int .i64 1]) (by kernel_rfl) fun w9 h9 => BxTup.nil (eachB_no hT2)
  · refine sat_false (by kernel_rfl) ?_
    have hl := twoB_len hT2
    refine sat_loop (fun Kn vs W => ∃ (i : Nat) (out : List Iv) (A_o : Option Addr) (c_o : Nat), vs = [.int .i64 ((i : Nat) : Int), .slice A_o out.length c_o, .int .i64 0, .slice none 0 0] ∧ Kn = a.length - i ∧ i ≤ a.length ∧ (Sx.Gr Sx.kI w 49 W (.slice A_o out.length c_o) out) ∧ (eachB meetI a b = eachA meetI out (a.drop i) (b.drop i)) ∧ (out.length = i)) [.int .i64 0, .slice none 0 0, .int .i64 0, .slice none 0 0] (by kernel_rfl) (fun w1 h1 => ⟨_, 0, [], none, 0, rfl, rfl, Nat.zero_le _, Sx.Gr.nil (by decide) _ _ _, (eachB_yes hT2).symm, rfl⟩) ?_
    rintro Kn vs w3 h3 ⟨i, out, A_o, c_o, rfl, rfl, h_i, G_o, hm, ho⟩
    replace F_a := F_a.mv h3.mv; replace F_b := F_b.mv h3.mv
    clear h3
    refine sat_prim (v := .int .i64 ((a.length : Nat) : Int)) (by kernel_rfl) ?_
    refine sat_prim (v := .bool (decide ((((i : Nat) : Int) : Int) < ((a.length : Nat) : Int)))) (by kernel_rfl) ?_
    cases hlt : (decide ((((i : Nat) : Int) : Int) < ((a.length : Nat) : Int)))
    · refine sat_false (by kernel_rfl) ?_
      exact sat_ret (.tuple #[.slice A_o out.length c_o, .int .i64 0]) (by kernel_rfl) fun w9 h9 => ⟨out, 0, _, _, rfl, hide (eachA_end hm hlt), (G_o.le h9).done fun h => h⟩
    · refine sat_true (by kernel_rfl) ?_
      refine sat_idx (A := A_a) (c := c_a) (kk := .i64) (i) (by kernel_rfl) (by kernel_rfl) (lt_of hlt) F_a.addr fun g5 o5 e5 => ?_
      obtain ⟨x1, h_x1⟩ : ∃ x_, a[(i)]? = some x_ := ⟨_, List.getElem?_eq_getElem (lt_of hlt)⟩
      refine sat_el F_a e5 h_x1 rfl (by kernel_rfl) (by kernel_rfl) (by kernel_rfl) ?_
      rintro _ ⟨A_L2, n_L2, c_L2, B_L2, m_L2, k_L2, rfl, r_L2l, r_L2h⟩
      refine sat_idx (A := A_b) (c := c_b) (kk := .i64) (i) (by kernel_rfl) (by kernel_rfl) (by have := lt_of hlt; omega) F_b.addr fun g6 o6 e6 => ?_
      obtain ⟨x3, h_x3⟩ : ∃ x_, b[(i)]? = some x_ := ⟨_, List.getElem?_eq_getElem (by have := lt_of hlt; omega)⟩
      refine sat_el F_b e6 h_x3 rfl (by kernel_rfl) (by kernel_rfl) (by kernel_rfl) ?_
      rintro _ ⟨A_L4, n_L4, c_L4, B_L4, m_L4, k_L4, rfl, r_L4l, r_L4h⟩
      refine sat_call #[.agg #[.bool x1.lo.neg, .slice A_L2 n_L2 c_L2, .int .i64 x1.lo.e, .bool x1.hi.neg, .slice B_L2 m_L2 k_L2, .int .i64 x1.hi.e], .agg #[.bool x3.lo.neg, .slice A_L4 n_L4 c_L4, .int .i64 x3.lo.e, .bool x3.hi.neg, .slice B_L4 m_L4 k_L4, .int .i64 x3.hi.e]] (by kernel_rfl) fun w7 h7 => ?_
      refine (rmeetI_any _ _ x1 x3 _ (mkI (h7.rdD r_L2l) (h7.rdD r_L2h)) (mkI (h7.rdD r_L4l) (h7.rdD r_L4h))).mono ?_
      rintro e v7 ⟨⟨l_mr5, g_mr5, x_mr5, A_mr5, n_mr5, c_mr5, B_mr5, m_mr5, k_mr5, h_mr5, rfl, r_mr5l, r_mr5h⟩, hb7⟩
      refine ⟨hb7, [.bool l_mr5.neg, .slice A_mr5 n_mr5 c_mr5, .int .i64 l_mr5.e, .bool g_mr5.neg, .slice B_mr5 m_mr5 k_mr5, .int .i64 g_mr5.e, .int .i64 x_mr5], _, rfl, by kernel_rfl, by kernel_rfl, fun g7 => ?_⟩
      replace F_a := F_a.mv g7.mv; replace F_b := F_b.mv g7.mv; replace G_o := G_o.le g7; replace r_L2l := g7.rdD r_L2l; replace r_L2h := g7.rdD r_L2h; replace r_L4l := g7.rdD r_L4l; replace r_L4h := g7.rdD r_L4h
      clear h7 hb7
      refine sat_chkB (by kernel_rfl) ?_
      refine sat_prim (v := .bool ((x_mr5 : Int) != 0)) (by kernel_rfl) ?_
      cases hz : ((x_mr5 : Int) != 0)
      · refine sat_false (by kernel_rfl) ?_
        refine sat_rowN [.bool l_mr5.neg, .slice A_mr5 n_mr5 c_mr5, .int .i64 l_mr5.e, .bool g_mr5.neg, .slice B_mr5 m_mr5 k_mr5, .int .i64 g_mr5.e] (by kernel_rfl) (by intro x hx; cases hx) fun u1 h1 B1 NB1 => ?_
        replace F_a := F_a.mv h1.mv; replace F_b := F_b.mv h1.mv; replace G_o := G_o.le h1; replace r_L2l := h1.rdD r_L2l; replace r_L2h := h1.rdD r_L2h; replace r_L4l := h1.rdD r_L4l; replace r_L4h := h1.rdD r_L4h; replace r_mr5l := h1.rdD r_mr5l; replace r_mr5h := h1.rdD r_mr5h
        have F_R6 : Sx.Rows Sx.kI (Sx.NB _) _ (some ⟨u1.heap.size, 0, none⟩) 1 1 [(⟨l_mr5, g_mr5⟩ : Iv)] := rows_one (k := Sx.kI) B1 NB1 ⟨_, _, _, _, _, _, rfl, r_mr5l, r_mr5h⟩
        generalize u1.heap.size = N_R6 at *
        generalize (u1.alloc _) = w_R6 at *
        clear B1 h1 NB1
        refine sat_app (.slice A_o out.length c_o) (.slice (some ⟨N_R6, 0, none⟩) 1 1) (by kernel_rfl) (by kernel_rfl) fun w9 h9 => ?_
        refine (G_o.le h9).app (l' := [(⟨l_mr5, g_mr5⟩ : Iv)]) (F_R6.mv h9.mv) (by have := lt_of hlt; simp only [List.length_cons, List.length_nil, maxLen]; omega) (by have := lt_of hlt; simp only [List.length_cons, List.length_nil]; omega) fun A_G7 c_G7 v9 a9 G7 => ?_
        replace F_a := F_a.mv h9.mv; replace F_b := F_b.mv h9.mv; replace r_L2l := h9.rdD r_L2l; replace r_L2h := h9.rdD r_L2h; replace r_L4l := h9.rdD r_L4l; replace r_L4h := h9.rdD r_L4h; replace r_mr5l := h9.rdD r_mr5l; replace r_mr5h := h9.rdD r_mr5h; replace F_R6 := F_R6.mv h9.mv
        replace F_a := F_a.mv a9.toLf.mv; replace F_b := F_b.mv a9.toLf.mv; replace r_L2l := a9.toLf.rdD r_L2l; replace r_L2h := a9.toLf.rdD r_L2h; replace r_L4l := a9.toLf.rdD r_L4l; replace r_L4h := a9.toLf.rdD r_L4h; replace r_mr5l := a9.toLf.rdD r_mr5l; replace r_mr5h := a9.toLf.rdD r_mr5h; replace F_R6 := F_R6.mv a9.toLf.mv
        clear h9 a9 G_o
        refine sat_prim (v := .int .i64 (((i + 1 : Nat)) : Int)) (Eq.trans (b := some (.int .i64 (IntKind.i64.wrap ((((i) : Nat) : Int) + 1)))) (by kernel_rfl) (by rw [Sx.wrap_succ (n := a.length) (lt_of hlt) M_a])) ?_
        exact sat_back [.int .i64 (((i + 1 : Nat)) : Int), .slice A_G7 (out ++ [(⟨l_mr5, g_mr5⟩ : Iv)]).length c_G7, .int .i64 0, .slice none 0 0] (by kernel_rfl) fun w9 h9 => ⟨_, by have := lt_of hlt; omega, i + 1, (out ++ [(⟨l_mr5, g_mr5⟩ : Iv)]), _, _, rfl, rfl, by have := lt_of hlt; omega, G7.le h9, hm.trans (eachA_good h_x1 h_x3 h_mr5 hz), by simp [ho]⟩
      · refine sat_true (by kernel_rfl) ?_
        exact sat_ret (.tuple #[.slice none 0 0, .int .i64 x_mr5]) (by kernel_rfl) fun w9 h9 => BxTup.nil (by rw [hm]; exact eachA_bad h_x1 h_x3 h_mr5 hz)

def tr_r5width : Sx.Tree := .chk [.lf 0, .lf 1, .lf 2, .lf 3, .lf 4, .lf 5] (.call 53 [.ag [.lf 0, .lf 1, .lf 2, .lf 3, .lf 4, .lf 5]] .one (.prim .not [.lf 6] (.ite (.lf 7) (.ret (.tup [(true, [.bit false, .nil, .num .i64 0]), (false, [.num .i64 1])])) (.call 86 [.ag [.lf 3, .lf 4, .lf 5], .ag [.lf 0, .lf 1, .lf 2]] (.tup [(true, 3), (false, 1)]) (.chk [.lf 8, .lf 9, .lf 10] (.ret (.tup [(true, [.lf 8, .lf 9, .lf 10]), (false, [.lf 11])])))))))
theorem tr_r5width_eq : Sx.treeAt Tryz.prog 48 [] [] [(true, 6)] = some tr_r5width := by kernel_rfl

theorem rwidthI_any (v_a : Value) (a : Iv) (w : World) (h_a : RdI w v_a a) :
    Calls Tryz.prog 48 #[v_a] w fun e w' => DyTup w' e (widthI a) ∧ Below w.heap.size w w' := by
  obtain ⟨A_a, n_a, c_a, B_a, m_a, k_a, rfl, r_al, r_ah⟩ := h_a
  refine (Sx.runA [] [] (ls := [.bool a.lo.neg, .slice A_a n_a c_a, .int .i64 a.lo.e, .bool a.hi.neg, .slice B_a m_a k_a, .int .i64 a.hi.e]) (shs := [(true, 6)]) (R := fun v w' => DyTup w' (.returned v) (widthI a)) tr_r5width_eq rfl (by decide) (fun q h => by cases h) ?_).mono (fun e w' ⟨v, he, hv, hb⟩ => ⟨by rw [he]; exact hv, hb⟩)
  unfold tr_r5width
  refine sat_chkB (by kernel_rfl) ?_
  refine sat_call #[.agg #[.bool a.lo.neg, .slice A_a n_a c_a, .int .i64 a.lo.e, .bool a.hi.neg, .slice B_a m_a k_a, .int .i64 a.hi.e]] (by kernel_rfl) fun w1 h1 => ?_
  refine (rmayI_any _ a _ (mkI (h1.rdD r_al) (h1.rdD r_ah))).mono ?_
  rintro e v1 ⟨rfl, hb1⟩
  refine ⟨hb1, [.bool (mayI a)], _, rfl, by kernel_rfl, by kernel_rfl, fun g1 => ?_⟩
  replace r_al := g1.rdD r_al; replace r_ah := g1.rdD r_ah
  clear h1 hb1
  refine sat_prim (v := .bool (!(mayI a))) (by kernel_rfl) ?_
  cases hE : (mayI a)
  · refine sat_true (by kernel_rfl) ?_
    exact sat_ret (.tuple #[.agg #[.bool false, .slice none 0 0, .int .i64 0], .int .i64 1]) (by kernel_rfl) fun w9 h9 => ⟨Dy.zero, 1, none, 0, 0, hide (by unfold widthI; rw [hE]; rfl), rfl, RdD.zero _⟩
  · refine sat_false (by kernel_rfl) ?_
    refine sat_call #[.agg #[.bool a.hi.neg, .slice B_a m_a k_a, .int .i64 a.hi.e], .agg #[.bool a.lo.neg, .slice A_a n_a c_a, .int .i64 a.lo.e]] (by kernel_rfl) fun w3 h3 => ?_
    refine (rsubD_any _ _ (a.hi) (a.lo) _ (h3.rdD r_ah) (h3.rdD r_al)).mono ?_
    rintro e v3 ⟨⟨d_s1, x_s1, A_s1, n_s1, c_s1, h_s1, rfl, r_s1⟩, hb3⟩
    refine ⟨hb3, [.bool d_s1.neg, .slice A_s1 n_s1 c_s1, .int .i64 d_s1.e, .int .i64 x_s1], _, rfl, by kernel_rfl, by kernel_rfl, fun g3 => ?_⟩
    replace r_al := g3.rdD r_al; replace r_ah := g3.rdD r_ah
    clear h3 hb3
    refine sat_chkB (by kernel_rfl) ?_
    exact sat_ret (.tuple #[.agg #[.bool d_s1.neg, .slice A_s1 n_s1 c_s1, .int .i64 d_s1.e], .int .i64 x_s1]) (by kernel_rfl) fun w9 h9 => ⟨d_s1, x_s1, A_s1, n_s1, c_s1, hide (by rw [h_s1.out]; unfold widthI; rw [hE]; rfl), rfl, h9.rdD r_s1⟩

def tr_r11width : Sx.Tree := .call 17 [.one (.lf 0)] .one (.prim .not [.lf 1] (.ite (.lf 2) (.ret (.tup [(true, [.bit false, .nil, .num .i64 0]), (false, [.num .i64 1])])) (.loop 0 [.num .i64 0, .num .i64 0, .bit false, .nil, .num .i64 0] (.prim .len [.lf 0] (.prim (.bin .lss) [.lf 3, .lf 8] (.ite (.lf 9) (.prim (.idx 6) [.lf 0, .lf 3] (.load 49 (.lf 10) (.ag 6) (.call 48 [.ag [.lf 11, .lf 12, .lf 13, .lf 14, .lf 15, .lf 16]] (.tup [(true, 3), (false, 1)]) (.chk [.lf 17, .lf 18, .lf 19] (.prim (.bin .neq) [.lf 20, .num .i64 0] (.ite (.lf 21) (.ret (.tup [(true, [.bit false, .nil, .num .i64 0]), (false, [.lf 20])])) (.call 49 [.ag [.lf 5, .lf 6, .lf 7], .ag [.lf 17, .lf 18, .lf 19]] .one (.ite (.lf 22) (.chk [.lf 17, .lf 18, .lf 19] (.prim (.bin .add) [.lf 3, .num .i64 1] (.back 0 [.lf 23, .lf 4, .lf 17, .lf 18, .lf 19]))) (.prim (.bin .add) [.lf 3, .num .i64 1] (.back 0 [.lf 23, .lf 4, .lf 5, .lf 6, .lf 7])))))))))) (.chk [.lf 5, .lf 6, .lf 7] (.ret (.tup [(true, [.lf 5, .lf 6, .lf 7]), (false, [.num .i64 0])])))))))))
theorem tr_r11width_eq : Sx.treeAt Tryz.prog 12 [] [1] [(false, 1)] = some tr_r11width := by kernel_rfl

theorem rwidthB_any (A_l : Option Addr) (c_l : Nat) (l : List Iv) (w : World) (h_l : Sx.Rows Sx.kI (fun _ => True) w A_l l.length c_l l) :
    Calls Tryz.prog 12 #[.slice A_l l.length c_l] w fun e w' => DyTup w' e (widthB l) ∧ Below w.heap.size w w' := by
  have F_l := h_l.start
  have M_l := h_l.le
  clear h_l
  refine (Sx.runA [] [1] (ls := [.slice A_l l.length c_l]) (shs := [(false, 1)]) (R := fun v w' => DyTup w' (.returned v) (widthB l)) tr_r11width_eq rfl (by decide) (fun q h => by cases h) ?_).mono (fun e w' ⟨v, he, hv, hb⟩ => ⟨by rw [he]; exact hv, hb⟩)
  unfold tr_r11width
  refine sat_call #[.slice A_l l.length c_l] (by kernel_rfl) fun w1 h1 => ?_
  refine (rmayB_any _ _ l _ ((F_l.mv h1.mv).any)).mono ?_
  rintro e v1 ⟨rfl, hb1⟩
  refine ⟨hb1, [.bool (mayB l)], _, rfl, by kernel_rfl, by kernel_rfl, fun g1 => ?_⟩
  replace F_l := F_l.mv g1.mv
  clear h1 hb1
  refine sat_prim (v := .bool (!(mayB l))) (by kernel_rfl) ?_
  cases hT2 : (mayB l)
  · refine sat_true (by kernel_rfl) ?_
    exact sat_ret (.tuple #[.agg #[.bool false, .slice none 0 0, .int .i64 0], .int .i64 1]) (by kernel_rfl) fun w9 h9 => ⟨Dy.zero, 1, none, 0, 0, hide (width_no hT2), rfl, RdD.zero _⟩
  · refine sat_false (by kernel_rfl) ?_
    refine sat_loop (fun Kn vs W => ∃ (i : Nat) (m : Dy) (A_m : Option Addr) (n_m : Nat) (c_m : Nat), vs = [.int .i64 ((i : Nat) : Int), .int .i64 0, .bool m.neg, .slice A_m n_m c_m, .int .i64 m.e] ∧ Kn = l.length - i ∧ i ≤ l.length ∧ (RdD W.toWorld (.agg #[.bool m.neg, .slice A_m n_m c_m, .int .i64 m.e]) m) ∧ (widthB l = widthA m (l.drop i))) [.int .i64 0, .int .i64 0, .bool false, .slice none 0 0, .int .i64 0] (by kernel_rfl) (fun w1 h1 => ⟨_, 0, Dy.zero, none, 0, 0, rfl, rfl, Nat.zero_le _, RdD.zero _, width_yes hT2⟩) ?_
    rintro Kn vs w3 h3 ⟨i, m, A_m, n_m, c_m, rfl, rfl, h_i, r_m, hm⟩
    replace F_l := F_l.mv h3.mv
    clear h3
    refine sat_prim (v := .int .i64 ((l.length : Nat) : Int)) (by kernel_rfl) ?_
    refine sat_prim (v := .bool (decide ((((i : Nat) : Int) : Int) < ((l.length : Nat) : Int)))) (by kernel_rfl) ?_
    cases hlt : (decide ((((i : Nat) : Int) : Int) < ((l.length : Nat) : Int)))
    · refine sat_false (by kernel_rfl) ?_
      refine sat_chkB (by kernel_rfl) ?_
      exact sat_ret (.tuple #[.agg #[.bool m.neg, .slice A_m n_m c_m, .int .i64 m.e], .int .i64 0]) (by kernel_rfl) fun w9 h9 => ⟨m, 0, A_m, n_m, c_m, hide (width_end hm hlt), rfl, h9.rdD r_m⟩
    · refine sat_true (by kernel_rfl) ?_
      refine sat_idx (A := A_l) (c := c_l) (kk := .i64) (i) (by kernel_rfl) (by kernel_rfl) (lt_of hlt) F_l.addr fun g5 o5 e5 => ?_
      obtain ⟨x1, h_x1⟩ : ∃ x_, l[(i)]? = some x_ := ⟨_, List.getElem?_eq_getElem (lt_of hlt)⟩
      refine sat_el F_l e5 h_x1 rfl (by kernel_rfl) (by kernel_rfl) (by kernel_rfl) ?_
      rintro _ ⟨A_L2, n_L2, c_L2, B_L2, m_L2, k_L2, rfl, r_L2l, r_L2h⟩
      refine sat_call #[.agg #[.bool x1.lo.neg, .slice A_L2 n_L2 c_L2, .int .i64 x1.lo.e, .bool x1.hi.neg, .slice B_L2 m_L2 k_L2, .int .i64 x1.hi.e]] (by kernel_rfl) fun w6 h6 => ?_
      refine (rwidthI_any _ x1 _ (mkI (h6.rdD r_L2l) (h6.rdD r_L2h))).mono ?_
      rintro e v6 ⟨⟨d_w3, x_w3, A_w3, n_w3, c_w3, h_w3, rfl, r_w3⟩, hb6⟩
      refine ⟨hb6, [.bool d_w3.neg, .slice A_w3 n_w3 c_w3, .int .i64 d_w3.e, .int .i64 x_w3], _, rfl, by kernel_rfl, by kernel_rfl, fun g6 => ?_⟩
      replace F_l := F_l.mv g6.mv; replace r_m := g6.rdD r_m; replace r_L2l := g6.rdD r_L2l; replace r_L2h := g6.rdD r_L2h
      clear h6 hb6
      refine sat_chkB (by kernel_rfl) ?_
      refine sat_prim (v := .bool ((x_w3 : Int) != 0)) (by kernel_rfl) ?_
      cases hz : ((x_w3 : Int) != 0)
      · refine sat_false (by kernel_rfl) ?_
        refine sat_call #[.agg #[.bool m.neg, .slice A_m n_m c_m, .int .i64 m.e], .agg #[.bool d_w3.neg, .slice A_w3 n_w3 c_w3, .int .i64 d_w3.e]] (by kernel_rfl) fun w8 h8 => ?_
        refine (less_any _ _ (m) (d_w3) _ (h8.rdD r_m) (h8.rdD r_w3)).mono ?_
        rw [lt_gt r_m.lim r_w3.lim]
        rintro e v8 ⟨rfl, hb8⟩
        refine ⟨hb8, [.bool (decide (0 < cmpD d_w3 m))], _, rfl, by kernel_rfl, by kernel_rfl, fun g8 => ?_⟩
        replace F_l := F_l.mv g8.mv; replace r_m := g8.rdD r_m; replace r_L2l := g8.rdD r_L2l; replace r_L2h := g8.rdD r_L2h; replace r_w3 := g8.rdD r_w3
        clear h8 hb8
        cases hc : (decide (0 < cmpD d_w3 m))
        · refine sat_false (by kernel_rfl) ?_
          refine sat_prim (v := .int .i64 (((i + 1 : Nat)) : Int)) (Eq.trans (b := some (.int .i64 (IntKind.i64.wrap ((((i) : Nat) : Int) + 1)))) (by kernel_rfl) (by rw [Sx.wrap_succ (n := l.length) (lt_of hlt) M_l])) ?_
          exact sat_back [.int .i64 (((i + 1 : Nat)) : Int), .int .i64 0, .bool m.neg, .slice A_m n_m c_m, .int .i64 m.e] (by kernel_rfl) fun w9 h9 => ⟨_, by have := lt_of hlt; omega, i + 1, m, _, _, _, rfl, rfl, by have := lt_of hlt; omega, h9.rdD r_m, width_step hm h_x1 h_w3 hz hc⟩
        · refine sat_true (by kernel_rfl) ?_
          refine sat_chkB (by kernel_rfl) ?_
          refine sat_prim (v := .int .i64 (((i + 1 : Nat)) : Int)) (Eq.trans (b := some (.int .i64 (IntKind.i64.wrap ((((i) : Nat) : Int) + 1)))) (by kernel_rfl) (by rw [Sx.wrap_succ (n := l.length) (lt_of hlt) M_l])) ?_
          exact sat_back [.int .i64 (((i + 1 : Nat)) : Int), .int .i64 0, .bool d_w3.neg, .slice A_w3 n_w3 c_w3, .int .i64 d_w3.e] (by kernel_rfl) fun w9 h9 => ⟨_, by have := lt_of hlt; omega, i + 1, d_w3, _, _, _, rfl, rfl, by have := lt_of hlt; omega, h9.rdD r_w3, width_step hm h_x1 h_w3 hz hc⟩
      · refine sat_true (by kernel_rfl) ?_
        exact sat_ret (.tuple #[.agg #[.bool false, .slice none 0 0, .int .i64 0], .int .i64 x_w3]) (by kernel_rfl) fun w9 h9 => ⟨Dy.zero, x_w3, none, 0, 0, hide (width_bad hm h_x1 h_w3 hz), rfl, RdD.zero _⟩

theorem corn_ref {k : Int} {l : List Iv} {out : List Dy} {i : Nat} (h1 : mayB l = true → cornB k l = cornA (hib k) i out (l.drop i)) (h2 : mayB l = false → out = []) (hlt : decide ((i : Int) < (l.length : Int)) = false) : out = cornB k l := by
  cases h : mayB l with
  | true => exact corn_end (h1 h) hlt
  | false => rw [h2 h]; exact corn_no h

def tr_r11corner : Sx.Tree := .loop 0 [.num .i64 0, .nil] (.prim .len [.lf 0] (.prim (.bin .lss) [.lf 2, .lf 4] (.ite (.lf 5) (.call 17 [.one (.lf 0)] .one (.ite (.lf 6) (.prim (.bin .lss) [.lf 2, .num .i64 62] (.ite (.lf 7) (.prim (.cvt .u64) [.lf 2] (.prim .shr [.lf 1, .lf 8] (.prim (.bin .and) [.lf 9, .num .i64 1] (.prim (.bin .eql) [.lf 10, .num .i64 1] (.ite (.lf 11) (.prim (.idx 6) [.lf 0, .lf 2] (.prim (.fld 3) [.lf 12] (.load 30 (.lf 13) (.ag 3) (.row 30 [.lf 14, .lf 15, .lf 16] 1 [] (.app 30 3 40 (.lf 3) (.lf 17) (.prim (.bin .add) [.lf 2, .num .i64 1] (.back 0 [.lf 19, .lf 18]))))))) (.prim (.idx 6) [.lf 0, .lf 2] (.prim (.fld 0) [.lf 12] (.load 30 (.lf 13) (.ag 3) (.row 30 [.lf 14, .lf 15, .lf 16] 1 [] (.app 30 3 40 (.lf 3) (.lf 17) (.prim (.bin .add) [.lf 2, .num .i64 1] (.back 0 [.lf 19, .lf 18])))))))))))) (.prim (.idx 6) [.lf 0, .lf 2] (.prim (.fld 0) [.lf 8] (.load 30 (.lf 9) (.ag 3) (.row 30 [.lf 10, .lf 11, .lf 12] 1 [] (.app 30 3 40 (.lf 3) (.lf 13) (.prim (.bin .add) [.lf 2, .num .i64 1] (.back 0 [.lf 15, .lf 14]))))))))) (.ret (.one (.lf 3))))) (.ret (.one (.lf 3))))))
theorem tr_r11corner_eq : Sx.treeAt Tryz.prog 14 [] [] [(false, 1), (false, 1)] = some tr_r11corner := by kernel_rfl

theorem rcornB_any (A_l : Option Addr) (c_l : Nat) (l : List Iv) (k : Int) (w : World) (h_l : Sx.Rows Sx.kI (fun _ => True) w A_l l.length c_l l) (hs : l.length ≤ 1000) :
    Calls Tryz.prog 14 #[.slice A_l l.length c_l, .int .i64 k] w fun e w' => CoRet w w' e (cornB k l) ∧ Below w.heap.size w w' := by
  have F_l := h_l.start
  have M_l := h_l.le
  clear h_l
  refine (Sx.runA [] [] (ls := [.slice A_l l.length c_l, .int .i64 k]) (shs := [(false, 1), (false, 1)]) (R := fun v w' => CoRet w w' (.returned v) (cornB k l)) tr_r11corner_eq rfl (by decide) (fun q h => by cases h) ?_).mono (fun e w' ⟨v, he, hv, hb⟩ => ⟨by rw [he]; exact hv, hb⟩)
  unfold tr_r11corner
  refine sat_loop (fun Kn vs W => ∃ (i : Nat) (out : List Dy) (A_o : Option Addr) (c_o : Nat), vs = [.int .i64 ((i : Nat) : Int), .slice A_o out.length c_o] ∧ Kn = l.length - i ∧ i ≤ l.length ∧ (Sx.Gr Sx.kD w 30 W (.slice A_o out.length c_o) out) ∧ (mayB l = true → cornB k l = cornA (hib k) i out (l.drop i)) ∧ (mayB l = false → out = []) ∧ (out.length = i)) [.int .i64 0, .slice none 0 0] (by kernel_rfl) (fun w1 h1 => ⟨_, 0, [], none, 0, rfl, rfl, Nat.zero_le _, Sx.Gr.nil (by decide) _ _ _, corn_yes, fun _ => rfl, rfl⟩) ?_
  rintro Kn vs w1 h1 ⟨i, out, A_o, c_o, rfl, rfl, h_i, G_o, hm, hn, ho⟩
  replace F_l := F_l.mv h1.mv
  clear h1
  refine sat_prim (v := .int .i64 ((l.length : Nat) : Int)) (by kernel_rfl) ?_
  refine sat_prim (v := .bool (decide ((((i : Nat) : Int) : Int) < ((l.length : Nat) : Int)))) (by kernel_rfl) ?_
  cases hlt : (decide ((((i : Nat) : Int) : Int) < ((l.length : Nat) : Int)))
  · refine sat_false (by kernel_rfl) ?_
    exact sat_ret (.slice A_o out.length c_o) (by kernel_rfl) fun w9 h9 => ⟨out, _, _, rfl, hide (corn_ref hm hn hlt), (G_o.le h9).done fun h => h⟩
  · refine sat_true (by kernel_rfl) ?_
    refine sat_call #[.slice A_l l.length c_l] (by kernel_rfl) fun w3 h3 => ?_
    refine (rmayB_any _ _ l _ ((F_l.mv h3.mv).any)).mono ?_
    rintro e v3 ⟨rfl, hb3⟩
    refine ⟨hb3, [.bool (mayB l)], _, rfl, by kernel_rfl, by kernel_rfl, fun g3 => ?_⟩
    replace F_l := F_l.mv g3.mv; replace G_o := G_o.le g3
    clear h3 hb3
    cases hT2 : (mayB l)
    · refine sat_false (by kernel_rfl) ?_
      exact sat_ret (.slice A_o out.length c_o) (by kernel_rfl) fun w9 h9 => ⟨out, _, _, rfl, hide (by rw [hn hT2]; exact corn_no hT2), (G_o.le h9).done fun h => h⟩
    · refine sat_true (by kernel_rfl) ?_
      refine sat_prim (v := .bool (decide ((((i : Nat) : Int) : Int) < 62))) (by kernel_rfl) ?_
      cases h62 : (decide ((((i : Nat) : Int) : Int) < 62))
      · refine sat_false (by kernel_rfl) ?_
        refine sat_idx (A := A_l) (c := c_l) (kk := .i64) (i) (by kernel_rfl) (by kernel_rfl) (lt_of hlt) F_l.addr fun g6 o6 e6 => ?_
        refine sat_prim (v := .pointer (some ⟨g6, o6 + (i) * 6 + 0, none⟩)) (by kernel_rfl) ?_
        obtain ⟨x1, h_x1⟩ : ∃ x_, l[(i)]? = some x_ := ⟨_, List.getElem?_eq_getElem (lt_of hlt)⟩
        refine sat_elf (d := 0) (m := 3) F_l e6 h_x1 rfl (by decide) (by kernel_rfl) (by kernel_rfl) (by kernel_rfl) ?_
        rintro _ ⟨A_L2, n_L2, c_L2, B_L2, m_L2, k_L2, rfl, r_L2l, r_L2h⟩
        clear r_L2h
        refine sat_rowN [.bool x1.lo.neg, .slice A_L2 n_L2 c_L2, .int .i64 x1.lo.e] (by kernel_rfl) (by intro x hx; cases hx) fun u1 h1 B1 NB1 => ?_
        replace F_l := F_l.mv h1.mv; replace G_o := G_o.le h1; replace r_L2l := h1.rdD r_L2l
        have F_R3 : Sx.Rows Sx.kD (Sx.NB _) _ (some ⟨u1.heap.size, 0, none⟩) 1 1 [x1.lo] := rows_one (k := Sx.kD) B1 NB1 ⟨_, _, _, rfl, r_L2l⟩
        generalize u1.heap.size = N_R3 at *
        generalize (u1.alloc _) = w_R3 at *
        clear B1 h1 NB1
        refine sat_app (.slice A_o out.length c_o) (.slice (some ⟨N_R3, 0, none⟩) 1 1) (by kernel_rfl) (by kernel_rfl) fun w7 h7 => ?_
        refine (G_o.le h7).app (l' := [x1.lo]) (F_R3.mv h7.mv) (by have := lt_of hlt; simp only [List.length_cons, List.length_nil, maxLen]; omega) (by have := lt_of hlt; simp only [List.length_cons, List.length_nil]; omega) fun A_G4 c_G4 v7 a7 G4 => ?_
        replace F_l := F_l.mv h7.mv; replace r_L2l := h7.rdD r_L2l; replace F_R3 := F_R3.mv h7.mv
        replace F_l := F_l.mv a7.toLf.mv; replace r_L2l := a7.toLf.rdD r_L2l; replace F_R3 := F_R3.mv a7.toLf.mv
        clear h7 a7 G_o
        refine sat_prim (v := .int .i64 (((i + 1 : Nat)) : Int)) (Eq.trans (b := some (.int .i64 (IntKind.i64.wrap ((((i) : Nat) : Int) + 1)))) (by kernel_rfl) (by rw [Sx.wrap_succ (n := l.length) (lt_of hlt) M_l])) ?_
        exact sat_back [.int .i64 (((i + 1 : Nat)) : Int), .slice A_G4 (out ++ [x1.lo]).length c_G4] (by kernel_rfl) fun w9 h9 => ⟨_, by have := lt_of hlt; omega, i + 1, (out ++ [x1.lo]), _, _, rfl, rfl, by have := lt_of hlt; omega, G4.le h9, fun _ => corn_step (hm hT2) h_x1 (hib_no h62), nofun, by simp [ho]⟩
      · refine sat_true (by kernel_rfl) ?_
        refine sat_prim (v := .int .u64 ((i : Nat) : Int)) (Eq.trans (by kernel_rfl) (pr_cvtn (n := i) (by have := lt_of hlt; omega))) ?_
        refine sat_prim (v := .int .i64 (k.fdiv (2 ^ i))) (Eq.trans (by kernel_rfl) (pr_shr (i := i) (by have := of_decide_eq_true h62; omega))) ?_
        refine sat_prim (v := .int .i64 (hibV k i)) (by kernel_rfl) ?_
        refine sat_prim (v := .bool (((hibV k i) : Int) == 1)) (by kernel_rfl) ?_
        cases hk : (((hibV k i) : Int) == 1)
        · refine sat_false (by kernel_rfl) ?_
          refine sat_idx (A := A_l) (c := c_l) (kk := .i64) (i) (by kernel_rfl) (by kernel_rfl) (lt_of hlt) F_l.addr fun g7 o7 e7 => ?_
          refine sat_prim (v := .pointer (some ⟨g7, o7 + (i) * 6 + 0, none⟩)) (by kernel_rfl) ?_
          obtain ⟨x1, h_x1⟩ : ∃ x_, l[(i)]? = some x_ := ⟨_, List.getElem?_eq_getElem (lt_of hlt)⟩
          refine sat_elf (d := 0) (m := 3) F_l e7 h_x1 rfl (by decide) (by kernel_rfl) (by kernel_rfl) (by kernel_rfl) ?_
          rintro _ ⟨A_L2, n_L2, c_L2, B_L2, m_L2, k_L2, rfl, r_L2l, r_L2h⟩
          clear r_L2h
          refine sat_rowN [.bool x1.lo.neg, .slice A_L2 n_L2 c_L2, .int .i64 x1.lo.e] (by kernel_rfl) (by intro x hx; cases hx) fun u1 h1 B1 NB1 => ?_
          replace F_l := F_l.mv h1.mv; replace G_o := G_o.le h1; replace r_L2l := h1.rdD r_L2l
          have F_R3 : Sx.Rows Sx.kD (Sx.NB _) _ (some ⟨u1.heap.size, 0, none⟩) 1 1 [x1.lo] := rows_one (k := Sx.kD) B1 NB1 ⟨_, _, _, rfl, r_L2l⟩
          generalize u1.heap.size = N_R3 at *
          generalize (u1.alloc _) = w_R3 at *
          clear B1 h1 NB1
          refine sat_app (.slice A_o out.length c_o) (.slice (some ⟨N_R3, 0, none⟩) 1 1) (by kernel_rfl) (by kernel_rfl) fun w8 h8 => ?_
          refine (G_o.le h8).app (l' := [x1.lo]) (F_R3.mv h8.mv) (by have := lt_of hlt; simp only [List.length_cons, List.length_nil, maxLen]; omega) (by have := lt_of hlt; simp only [List.length_cons, List.length_nil]; omega) fun A_G4 c_G4 v8 a8 G4 => ?_
          replace F_l := F_l.mv h8.mv; replace r_L2l := h8.rdD r_L2l; replace F_R3 := F_R3.mv h8.mv
          replace F_l := F_l.mv a8.toLf.mv; replace r_L2l := a8.toLf.rdD r_L2l; replace F_R3 := F_R3.mv a8.toLf.mv
          clear h8 a8 G_o
          refine sat_prim (v := .int .i64 (((i + 1 : Nat)) : Int)) (Eq.trans (b := some (.int .i64 (IntKind.i64.wrap ((((i) : Nat) : Int) + 1)))) (by kernel_rfl) (by rw [Sx.wrap_succ (n := l.length) (lt_of hlt) M_l])) ?_
          exact sat_back [.int .i64 (((i + 1 : Nat)) : Int), .slice A_G4 (out ++ [x1.lo]).length c_G4] (by kernel_rfl) fun w9 h9 => ⟨_, by have := lt_of hlt; omega, i + 1, (out ++ [x1.lo]), _, _, rfl, rfl, by have := lt_of hlt; omega, G4.le h9, fun _ => corn_step (hm hT2) h_x1 (hib_is h62 hk), nofun, by simp [ho]⟩
        · refine sat_true (by kernel_rfl) ?_
          refine sat_idx (A := A_l) (c := c_l) (kk := .i64) (i) (by kernel_rfl) (by kernel_rfl) (lt_of hlt) F_l.addr fun g7 o7 e7 => ?_
          refine sat_prim (v := .pointer (some ⟨g7, o7 + (i) * 6 + 3, none⟩)) (by kernel_rfl) ?_
          obtain ⟨x1, h_x1⟩ : ∃ x_, l[(i)]? = some x_ := ⟨_, List.getElem?_eq_getElem (lt_of hlt)⟩
          refine sat_elf (d := 3) (m := 3) F_l e7 h_x1 rfl (by decide) (by kernel_rfl) (by kernel_rfl) (by kernel_rfl) ?_
          rintro _ ⟨A_L2, n_L2, c_L2, B_L2, m_L2, k_L2, rfl, r_L2l, r_L2h⟩
          clear r_L2l
          refine sat_rowN [.bool x1.hi.neg, .slice B_L2 m_L2 k_L2, .int .i64 x1.hi.e] (by kernel_rfl) (by intro x hx; cases hx) fun u1 h1 B1 NB1 => ?_
          replace F_l := F_l.mv h1.mv; replace G_o := G_o.le h1; replace r_L2h := h1.rdD r_L2h
          have F_R3 : Sx.Rows Sx.kD (Sx.NB _) _ (some ⟨u1.heap.size, 0, none⟩) 1 1 [x1.hi] := rows_one (k := Sx.kD) B1 NB1 ⟨_, _, _, rfl, r_L2h⟩
          generalize u1.heap.size = N_R3 at *
          generalize (u1.alloc _) = w_R3 at *
          clear B1 h1 NB1
          refine sat_app (.slice A_o out.length c_o) (.slice (some ⟨N_R3, 0, none⟩) 1 1) (by kernel_rfl) (by kernel_rfl) fun w8 h8 => ?_
          refine (G_o.le h8).app (l' := [x1.hi]) (F_R3.mv h8.mv) (by have := lt_of hlt; simp only [List.length_cons, List.length_nil, maxLen]; omega) (by have := lt_of hlt; simp only [List.length_cons, List.length_nil]; omega) fun A_G4 c_G4 v8 a8 G4 => ?_
          replace F_l := F_l.mv h8.mv; replace r_L2h := h8.rdD r_L2h; replace F_R3 := F_R3.mv h8.mv
          replace F_l := F_l.mv a8.toLf.mv; replace r_L2h := a8.toLf.rdD r_L2h; replace F_R3 := F_R3.mv a8.toLf.mv
          clear h8 a8 G_o
          refine sat_prim (v := .int .i64 (((i + 1 : Nat)) : Int)) (Eq.trans (b := some (.int .i64 (IntKind.i64.wrap ((((i) : Nat) : Int) + 1)))) (by kernel_rfl) (by rw [Sx.wrap_succ (n := l.length) (lt_of hlt) M_l])) ?_
          exact sat_back [.int .i64 (((i + 1 : Nat)) : Int), .slice A_G4 (out ++ [x1.hi]).length c_G4] (by kernel_rfl) fun w9 h9 => ⟨_, by have := lt_of hlt; omega, i + 1, (out ++ [x1.hi]), _, _, rfl, rfl, by have := lt_of hlt; omega, G4.le h9, fun _ => corn_step (hm hT2) h_x1 (hib_is h62 hk), nofun, by simp [ho]⟩

theorem sameI_self' (a : Iv) : sameI a a = true := by unfold sameI; rw [sameD_self, sameD_self]; rfl
theorem sameB_self (l : List Iv) : sameB l l = true := by
  unfold sameB
  rw [all2_of (f := sameI) fun i x y hx hy => by rw [hx] at hy; cases hy; exact sameI_self' x]
  simp

def tr_boxAsks : Sx.Tree := .call 5 [.one (.lf 0)] .one (.prim .not [.lf 4] (.ite (.lf 5) (.call 6 [] .one (.ret (.one (.lf 6)))) (.call 5 [.one (.lf 1)] .one (.prim .not [.lf 6] (.ite (.lf 7) (.call 6 [] .one (.ret (.one (.lf 8)))) (.prim .len [.lf 2] (.prim (.bin .gtr) [.lf 8, .num .i64 10] (.ite (.lf 9) (.call 6 [] .one (.ret (.one (.lf 10)))) (.call 7 [.one (.lf 0), .one (.lf 1)] (.tup [(false, 1), (false, 1)]) (.call 8 [.one (.lf 0), .one (.lf 1)] (.tup [(false, 1), (false, 1)]) (.call 9 [.one (.lf 0), .one (.lf 1)] (.tup [(false, 1), (false, 1)]) (.call 10 [.one (.lf 0), .one (.lf 1)] (.tup [(false, 1), (false, 1)]) (.call 11 [.one (.lf 0)] (.tup [(true, 3), (false, 1)]) (.chk [.lf 18, .lf 19, .lf 20] (.call 12 [.one (.lf 0)] (.tup [(true, 3), (false, 1)]) (.chk [.lf 22, .lf 23, .lf 24] (.call 13 [.one (.lf 0), .one (.lf 3)] .one (.call 14 [.one (.lf 0), .one (.lf 3)] .one (.prim .len [.lf 26] (.prim .len [.lf 27] (.prim (.bin .neq) [.lf 28, .lf 29] (.ite (.lf 30) (.ret (.one (.bit false))) (.loop 0 [.num .i64 0, .bit false] (.prim .len [.lf 27] (.prim (.bin .lss) [.lf 31, .lf 33] (.ite (.lf 34) (.prim (.idx 3) [.lf 26, .lf 31] (.load 30 (.lf 35) (.ag 3) (.prim (.idx 3) [.lf 27, .lf 31] (.load 30 (.lf 39) (.ag 3) (.call 15 [.ag [.lf 36, .lf 37, .lf 38], .ag [.lf 40, .lf 41, .lf 42]] .one (.prim .not [.lf 43] (.ite (.lf 44) (.ret (.one (.bit false))) (.prim (.bin .add) [.lf 31, .num .i64 1] (.back 0 [.lf 45, .lf 32]))))))))) (.call 6 [] .one (.ite (.lf 35) (.call 16 [.one (.lf 0)] .one (.call 17 [.one (.lf 0)] .one (.prim (.bbin .eql) [.lf 36, .lf 37] (.ite (.lf 38) (.prim (.bin .eql) [.lf 11, .lf 13] (.ite (.lf 39) (.call 18 [.one (.lf 10), .one (.lf 12)] .one (.ite (.lf 40) (.prim (.bin .eql) [.lf 15, .lf 17] (.ite (.lf 41) (.call 18 [.one (.lf 14), .one (.lf 16)] .one (.ite (.lf 42) (.prim (.bin .eql) [.lf 21, .lf 25] (.ite (.lf 43) (.call 15 [.ag [.lf 18, .lf 19, .lf 20], .ag [.lf 22, .lf 23, .lf 24]] .one (.ite (.lf 44) (.call 19 [.one (.lf 0), .one (.lf 1)] .one (.call 20 [.one (.lf 0), .one (.lf 1)] .one (.prim (.bbin .eql) [.lf 45, .lf 46] (.ite (.lf 47) (.call 21 [.one (.lf 0), .one (.lf 1)] .one (.call 22 [.one (.lf 0), .one (.lf 1)] .one (.prim (.bbin .eql) [.lf 48, .lf 49] (.ite (.lf 50) (.call 23 [.one (.lf 0), .one (.lf 2)] .one (.call 24 [.one (.lf 0), .one (.lf 2)] .one (.prim (.bbin .eql) [.lf 51, .lf 52] (.ret (.one (.lf 53)))))) (.ret (.one (.bit false))))))) (.ret (.one (.bit false))))))) (.ret (.one (.bit false))))) (.ret (.one (.bit false))))) (.ret (.one (.bit false))))) (.ret (.one (.bit false))))) (.ret (.one (.bit false))))) (.ret (.one (.bit false))))) (.ret (.one (.bit false))))))) (.ret (.one (.bit false)))))))))))))))))))))))))))))))
theorem tr_boxAsks_eq : Sx.treeAt Tryz.prog 3 [] [] [(false, 1), (false, 1), (false, 1), (false, 1)] = some tr_boxAsks := by kernel_rfl

set_option maxRecDepth 100000 in
set_option maxHeartbeats 4000000 in
theorem boxAsks_any (A_a : Option Addr) (c_a : Nat) (A_b : Option Addr) (c_b : Nat) (A_x : Option Addr) (c_x : Nat) (a : List Iv) (b : List Iv) (x : List Dy) (k : Int) (w : World) (h_a : Sx.Rows Sx.kI (fun _ => True) w A_a a.length c_a a) (h_b : Sx.Rows Sx.kI (fun _ => True) w A_b b.length c_b b) (h_x : Sx.Rows Sx.kD (fun _ => True) w A_x x.length c_x x) (hT : TabAt w) :
    Calls Tryz.prog 3 #[.slice A_a a.length c_a, .slice A_b b.length c_b, .slice A_x x.length c_x, .int .i64 k] w fun e w' => e = .returned (.bool true) ∧ Below w.heap.size w w' := by
  have F_a := h_a.start
  have M_a := h_a.le
  clear h_a
  have F_b := h_b.start
  have M_b := h_b.le
  clear h_b
  have F_x := h_x.start
  have M_x := h_x.le
  clear h_x
  refine (Sx.runA [] [] (ls := [.slice A_a a.length c_a, .slice A_b b.length c_b, .slice A_x x.length c_x, .int .i64 k]) (shs := [(false, 1), (false, 1), (false, 1), (false, 1)]) (R := fun v w' => v = .bool true) tr_boxAsks_eq rfl (by decide) (fun q h => by cases h) ?_).mono (fun e w' ⟨v, he, hv, hb⟩ => ⟨by rw [he, hv], hb⟩)
  unfold tr_boxAsks
  refine sat_call #[.slice A_a a.length c_a] (by kernel_rfl) fun w1 h1 => ?_
  refine (row8_any _ _ a _ ((F_a.mv h1.mv).any)).mono ?_
  rintro e v1 ⟨rfl, hb1⟩
  refine ⟨hb1, [.bool (fewB a)], _, rfl, by kernel_rfl, by kernel_rfl, fun g1 => ?_⟩
  replace F_a := F_a.mv g1.mv; replace F_b := F_b.mv g1.mv; replace F_x := F_x.mv g1.mv
  clear h1 hb1
  refine sat_prim (v := .bool (!(fewB a))) (by kernel_rfl) ?_
  cases h_few_a : (fewB a)
  · refine sat_true (by kernel_rfl) ?_
    refine sat_call #[] (by kernel_rfl) fun w3 h3 => ?_
    refine (told11_any _ (h3.tab hT)).mono ?_
    rintro e v3 ⟨rfl, hb3⟩
    refine ⟨hb3, [.bool true], _, rfl, by kernel_rfl, by kernel_rfl, fun g3 => ?_⟩
    replace F_a := F_a.mv g3.mv; replace F_b := F_b.mv g3.mv; replace F_x := F_x.mv g3.mv
    clear h3 hb3
    exact sat_ret (.bool true) (by kernel_rfl) fun w9 h9 => rfl
  · refine sat_false (by kernel_rfl) ?_
    refine sat_call #[.slice A_b b.length c_b] (by kernel_rfl) fun w3 h3 => ?_
    refine (row8_any _ _ b _ ((F_b.mv h3.mv).any)).mono ?_
    rintro e v3 ⟨rfl, hb3⟩
    refine ⟨hb3, [.bool (fewB b)], _, rfl, by kernel_rfl, by kernel_rfl, fun g3 => ?_⟩
    replace F_a := F_a.mv g3.mv; replace F_b := F_b.mv g3.mv; replace F_x := F_x.mv g3.mv
    clear h3 hb3
    refine sat_prim (v := .bool (!(fewB b))) (by kernel_rfl) ?_
    cases h_few_b : (fewB b)
    · refine sat_true (by kernel_rfl) ?_
      refine sat_call #[] (by kernel_rfl) fun w5 h5 => ?_
      refine (told11_any _ (h5.tab hT)).mono ?_
      rintro e v5 ⟨rfl, hb5⟩
      refine ⟨hb5, [.bool true], _, rfl, by kernel_rfl, by kernel_rfl, fun g5 => ?_⟩
      replace F_a := F_a.mv g5.mv; replace F_b := F_b.mv g5.mv; replace F_x := F_x.mv g5.mv
      clear h5 hb5
      exact sat_ret (.bool true) (by kernel_rfl) fun w9 h9 => rfl
    · refine sat_false (by kernel_rfl) ?_
      refine sat_prim (v := .int .i64 ((x.length : Nat) : Int)) (by kernel_rfl) ?_
      refine sat_prim (v := .bool (decide ((10 : Int) < ((x.length : Nat) : Int)))) (by kernel_rfl) ?_
      cases h10 : (decide ((10 : Int) < ((x.length : Nat) : Int)))
      · refine sat_false (by kernel_rfl) ?_
        refine sat_call #[.slice A_a a.length c_a, .slice A_b b.length c_b] (by kernel_rfl) fun w6 h6 => ?_
        refine (hullB_any _ _ _ _ a b _ ((F_a.mv h6.mv).any) ((F_b.mv h6.mv).any) (by have := fewB_len h_few_a; omega)).mono ?_
        rintro e v6 ⟨⟨l_b1, x_b1, A_b1, c_b1, rfl, h_b1, F_b1⟩, hb6⟩
        refine ⟨hb6, [.slice A_b1 l_b1.length c_b1, .int .i64 x_b1], _, rfl, by kernel_rfl, by kernel_rfl, fun g6 => ?_⟩
        replace F_a := F_a.mv g6.mv; replace F_b := F_b.mv g6.mv; replace F_x := F_x.mv g6.mv
        replace F_b1 := F_b1.mv (Sx.Mv.fresh h6.wf)
        clear h6 hb6
        refine sat_call #[.slice A_a a.length c_a, .slice A_b b.length c_b] (by kernel_rfl) fun w7 h7 => ?_
        refine (rhullB_any _ _ _ _ a b _ ((F_a.mv h7.mv).any) ((F_b.mv h7.mv).any) (by have := fewB_len h_few_a; omega)).mono ?_
        rintro e v7 ⟨⟨l_b2, x_b2, A_b2, c_b2, rfl, h_b2, F_b2⟩, hb7⟩
        obtain ⟨rfl, rfl⟩ := Prod.mk.inj (h_b1.out.trans h_b2.out.symm)
        refine ⟨hb7, [.slice A_b2 l_b1.length c_b2, .int .i64 x_b1], _, rfl, by kernel_rfl, by kernel_rfl, fun g7 => ?_⟩
        replace F_a := F_a.mv g7.mv; replace F_b := F_b.mv g7.mv; replace F_x := F_x.mv g7.mv; replace F_b1 := F_b1.mv g7.mv
        replace F_b2 := F_b2.mv (Sx.Mv.fresh h7.wf)
        clear h7 hb7
        refine sat_call #[.slice A_a a.length c_a, .slice A_b b.length c_b] (by kernel_rfl) fun w8 h8 => ?_
        refine (meetB_any _ _ _ _ a b _ ((F_a.mv h8.mv).any) ((F_b.mv h8.mv).any) (by have := fewB_len h_few_a; omega)).mono ?_
        rintro e v8 ⟨⟨l_b3, x_b3, A_b3, c_b3, rfl, h_b3, F_b3⟩, hb8⟩
        refine ⟨hb8, [.slice A_b3 l_b3.length c_b3, .int .i64 x_b3], _, rfl, by kernel_rfl, by kernel_rfl, fun g8 => ?_⟩
        replace F_a := F_a.mv g8.mv; replace F_b := F_b.mv g8.mv; replace F_x := F_x.mv g8.mv; replace F_b1 := F_b1.mv g8.mv; replace F_b2 := F_b2.mv g8.mv
        replace F_b3 := F_b3.mv (Sx.Mv.fresh h8.wf)
        clear h8 hb8
        refine sat_call #[.slice A_a a.length c_a, .slice A_b b.length c_b] (by kernel_rfl) fun w9 h9 => ?_
        refine (rmeetB_any _ _ _ _ a b _ ((F_a.mv h9.mv).any) ((F_b.mv h9.mv).any) (by have := fewB_len h_few_a; omega)).mono ?_
        rintro e v9 ⟨⟨l_b4, x_b4, A_b4, c_b4, rfl, h_b4, F_b4⟩, hb9⟩
        obtain ⟨rfl, rfl⟩ := Prod.mk.inj (h_b3.out.trans h_b4.out.symm)
        refine ⟨hb9, [.slice A_b4 l_b3.length c_b4, .int .i64 x_b3], _, rfl, by kernel_rfl, by kernel_rfl, fun g9 => ?_⟩
        replace F_a := F_a.mv g9.mv; replace F_b := F_b.mv g9.mv; replace F_x := F_x.mv g9.mv; replace F_b1 := F_b1.mv g9.mv; replace F_b2 := F_b2.mv g9.mv; replace F_b3 := F_b3.mv g9.mv
        replace F_b4 := F_b4.mv (Sx.Mv.fresh h9.wf)
        clear h9 hb9
        refine sat_call #[.slice A_a a.length c_a] (by kernel_rfl) fun w10 h10 => ?_
        refine (widthB_any _ _ a _ ((F_a.mv h10.mv).any) (h10.tab hT)).mono ?_
        rintro e v10 ⟨⟨d_w5, x_w5, A_w5, n_w5, c_w5, h_w5, rfl, r_w5⟩, hb10⟩
        refine ⟨hb10, [.bool d_w5.neg, .slice A_w5 n_w5 c_w5, .int .i64 d_w5.e, .int .i64 x_w5], _, rfl, by kernel_rfl, by kernel_rfl, fun g10 => ?_⟩
        replace F_a := F_a.mv g10.mv; replace F_b := F_b.mv g10.mv; replace F_x := F_x.mv g10.mv; replace F_b1 := F_b1.mv g10.mv; replace F_b2 := F_b2.mv g10.mv; replace F_b3 := F_b3.mv g10.mv; replace F_b4 := F_b4.mv g10.mv
        clear h10 hb10
        refine sat_chkB (by kernel_rfl) ?_
        refine sat_call #[.slice A_a a.length c_a] (by kernel_rfl) fun w11 h11 => ?_
        refine (rwidthB_any _ _ a _ ((F_a.mv h11.mv).any)).mono ?_
        rintro e v11 ⟨⟨d_w6, x_w6, A_w6, n_w6, c_w6, h_w6, rfl, r_w6⟩, hb11⟩
        obtain ⟨rfl, rfl⟩ := Prod.mk.inj (h_w5.out.trans h_w6.out.symm)
        refine ⟨hb11, [.bool d_w5.neg, .slice A_w6 n_w6 c_w6, .int .i64 d_w5.e, .int .i64 x_w5], _, rfl, by kernel_rfl, by kernel_rfl, fun g11 => ?_⟩
        replace F_a := F_a.mv g11.mv; replace F_b := F_b.mv g11.mv; replace F_x := F_x.mv g11.mv; replace F_b1 := F_b1.mv g11.mv; replace F_b2 := F_b2.mv g11.mv; replace F_b3 := F_b3.mv g11.mv; replace F_b4 := F_b4.mv g11.mv; replace r_w5 := g11.rdD r_w5
        clear h11 hb11
        refine sat_chkB (by kernel_rfl) ?_
        refine sat_call #[.slice A_a a.length c_a, .int .i64 k] (by kernel_rfl) fun w12 h12 => ?_
        refine (cornB_any _ _ a k _ ((F_a.mv h12.mv).any) (by have := fewB_len h_few_a; omega)).mono ?_
        rintro e v12 ⟨⟨l_q7, A_q7, c_q7, rfl, h_q7, F_q7⟩, hb12⟩
        refine ⟨hb12, [.slice A_q7 l_q7.length c_q7], _, rfl, by kernel_rfl, by kernel_rfl, fun g12 => ?_⟩
        replace F_a := F_a.mv g12.mv; replace F_b := F_b.mv g12.mv; replace F_x := F_x.mv g12.mv; replace F_b1 := F_b1.mv g12.mv; replace F_b2 := F_b2.mv g12.mv; replace F_b3 := F_b3.mv g12.mv; replace F_b4 := F_b4.mv g12.mv; replace r_w5 := g12.rdD r_w5; replace r_w6 := g12.rdD r_w6
        replace F_q7 := F_q7.mv (Sx.Mv.fresh h12.wf)
        clear h12 hb12
        refine sat_call #[.slice A_a a.length c_a, .int .i64 k] (by kernel_rfl) fun w13 h13 => ?_
        refine (rcornB_any _ _ a k _ ((F_a.mv h13.mv).any) (by have := fewB_len h_few_a; omega)).mono ?_
        rintro e v13 ⟨⟨l_q8, A_q8, c_q8, rfl, h_q8, F_q8⟩, hb13⟩
        obtain rfl := h_q7.out.trans h_q8.out.symm
        refine ⟨hb13, [.slice A_q8 l_q7.length c_q8], _, rfl, by kernel_rfl, by kernel_rfl, fun g13 => ?_⟩
        replace F_a := F_a.mv g13.mv; replace F_b := F_b.mv g13.mv; replace F_x := F_x.mv g13.mv; replace F_b1 := F_b1.mv g13.mv; replace F_b2 := F_b2.mv g13.mv; replace F_b3 := F_b3.mv g13.mv; replace F_b4 := F_b4.mv g13.mv; replace r_w5 := g13.rdD r_w5; replace r_w6 := g13.rdD r_w6; replace F_q7 := F_q7.mv g13.mv
        replace F_q8 := F_q8.mv (Sx.Mv.fresh h13.wf)
        clear h13 hb13
        refine sat_prim (v := .int .i64 ((l_q7.length : Nat) : Int)) (by kernel_rfl) ?_
        refine sat_prim (v := .int .i64 ((l_q7.length : Nat) : Int)) (by kernel_rfl) ?_
        refine sat_prim (v := .bool ((((l_q7.length : Nat) : Int) : Int) != ((l_q7.length : Nat) : Int))) (by kernel_rfl) ?_
        refine sat_falseP (b := ((((l_q7.length : Nat) : Int) : Int) != ((l_q7.length : Nat) : Int))) (by kernel_rfl) (by simp) ?_
        refine sat_loop (fun Kn vs W => ∃ (i : Nat), vs = [.int .i64 ((i : Nat) : Int), .bool false] ∧ Kn = l_q7.length - i ∧ i ≤ l_q7.length) [.int .i64 0, .bool false] (by kernel_rfl) (fun w1 h1 => ⟨_, 0, rfl, rfl, Nat.zero_le _⟩) ?_
        rintro Kn vs w14 h14 ⟨i, rfl, rfl, h_i⟩
        replace F_a := F_a.mv h14.mv; replace F_b := F_b.mv h14.mv; replace F_x := F_x.mv h14.mv; replace F_b1 := F_b1.mv h14.mv; replace F_b2 := F_b2.mv h14.mv; replace F_b3 := F_b3.mv h14.mv; replace F_b4 := F_b4.mv h14.mv; replace r_w5 := h14.rdD r_w5; replace r_w6 := h14.rdD r_w6; replace F_q7 := F_q7.mv h14.mv; replace F_q8 := F_q8.mv h14.mv
        clear h14
        refine sat_prim (v := .int .i64 ((l_q7.length : Nat) : Int)) (by kernel_rfl) ?_
        refine sat_prim (v := .bool (decide ((((i : Nat) : Int) : Int) < ((l_q7.length : Nat) : Int)))) (by kernel_rfl) ?_
        cases hlt : (decide ((((i : Nat) : Int) : Int) < ((l_q7.length : Nat) : Int)))
        · refine sat_false (by kernel_rfl) ?_
          refine sat_call #[] (by kernel_rfl) fun w16 h16 => ?_
          refine (told11_any _ (h16.tab hT)).mono ?_
          rintro e v16 ⟨rfl, hb16⟩
          refine ⟨hb16, [.bool true], _, rfl, by kernel_rfl, by kernel_rfl, fun g16 => ?_⟩
          replace F_a := F_a.mv g16.mv; replace F_b := F_b.mv g16.mv; replace F_x := F_x.mv g16.mv; replace F_b1 := F_b1.mv g16.mv; replace F_b2 := F_b2.mv g16.mv; replace F_b3 := F_b3.mv g16.mv; replace F_b4 := F_b4.mv g16.mv; replace r_w5 := g16.rdD r_w5; replace r_w6 := g16.rdD r_w6; replace F_q7 := F_q7.mv g16.mv; replace F_q8 := F_q8.mv g16.mv
          clear h16 hb16
          refine sat_true (by kernel_rfl) ?_
          refine sat_call #[.slice A_a a.length c_a] (by kernel_rfl) fun w17 h17 => ?_
          refine (mayB_any _ _ a _ ((F_a.mv h17.mv).any)).mono ?_
          rintro e v17 ⟨rfl, hb17⟩
          refine ⟨hb17, [.bool (mayB a)], _, rfl, by kernel_rfl, by kernel_rfl, fun g17 => ?_⟩
          replace F_a := F_a.mv g17.mv; replace F_b := F_b.mv g17.mv; replace F_x := F_x.mv g17.mv; replace F_b1 := F_b1.mv g17.mv; replace F_b2 := F_b2.mv g17.mv; replace F_b3 := F_b3.mv g17.mv; replace F_b4 := F_b4.mv g17.mv; replace r_w5 := g17.rdD r_w5; replace r_w6 := g17.rdD r_w6; replace F_q7 := F_q7.mv g17.mv; replace F_q8 := F_q8.mv g17.mv
          clear h17 hb17
          refine sat_call #[.slice A_a a.length c_a] (by kernel_rfl) fun w18 h18 => ?_
          refine (rmayB_any _ _ a _ ((F_a.mv h18.mv).any)).mono ?_
          rintro e v18 ⟨rfl, hb18⟩
          refine ⟨hb18, [.bool (mayB a)], _, rfl, by kernel_rfl, by kernel_rfl, fun g18 => ?_⟩
          replace F_a := F_a.mv g18.mv; replace F_b := F_b.mv g18.mv; replace F_x := F_x.mv g18.mv; replace F_b1 := F_b1.mv g18.mv; replace F_b2 := F_b2.mv g18.mv; replace F_b3 := F_b3.mv g18.mv; replace F_b4 := F_b4.mv g18.mv; replace r_w5 := g18.rdD r_w5; replace r_w6 := g18.rdD r_w6; replace F_q7 := F_q7.mv g18.mv; replace F_q8 := F_q8.mv g18.mv
          clear h18 hb18
          refine sat_prim (v := .bool ((mayB a) == (mayB a))) (by kernel_rfl) ?_
          refine sat_trueP (b := ((mayB a) == (mayB a))) (by kernel_rfl) (by simp) ?_
          refine sat_prim (v := .bool ((x_b1 : Int) == x_b1)) (by kernel_rfl) ?_
          refine sat_trueP (b := ((x_b1 : Int) == x_b1)) (by kernel_rfl) (by simp) ?_
          refine sat_call #[.slice A_b1 l_b1.length c_b1, .slice A_b2 l_b1.length c_b2] (by kernel_rfl) fun w19 h19 => ?_
          refine (rsameB_any _ _ _ _ l_b1 l_b1 _ ((F_b1.mv h19.mv).any) ((F_b2.mv h19.mv).any)).mono ?_
          rintro e v19 ⟨rfl, hb19⟩
          refine ⟨hb19, [.bool (sameB l_b1 l_b1)], _, rfl, by kernel_rfl, by kernel_rfl, fun g19 => ?_⟩
          replace F_a := F_a.mv g19.mv; replace F_b := F_b.mv g19.mv; replace F_x := F_x.mv g19.mv; replace F_b1 := F_b1.mv g19.mv; replace F_b2 := F_b2.mv g19.mv; replace F_b3 := F_b3.mv g19.mv; replace F_b4 := F_b4.mv g19.mv; replace r_w5 := g19.rdD r_w5; replace r_w6 := g19.rdD r_w6; replace F_q7 := F_q7.mv g19.mv; replace F_q8 := F_q8.mv g19.mv
          clear h19 hb19
          refine sat_trueP (b := (sameB l_b1 l_b1)) (by kernel_rfl) (sameB_self _) ?_
          refine sat_prim (v := .bool ((x_b3 : Int) == x_b3)) (by kernel_rfl) ?_
          refine sat_trueP (b := ((x_b3 : Int) == x_b3)) (by kernel_rfl) (by simp) ?_
          refine sat_call #[.slice A_b3 l_b3.length c_b3, .slice A_b4 l_b3.length c_b4] (by kernel_rfl) fun w20 h20 => ?_
          refine (rsameB_any _ _ _ _ l_b3 l_b3 _ ((F_b3.mv h20.mv).any) ((F_b4.mv h20.mv).any)).mono ?_
          rintro e v20 ⟨rfl, hb20⟩
          refine ⟨hb20, [.bool (sameB l_b3 l_b3)], _, rfl, by kernel_rfl, by kernel_rfl, fun g20 => ?_⟩
          replace F_a := F_a.mv g20.mv; replace F_b := F_b.mv g20.mv; replace F_x := F_x.mv g20.mv; replace F_b1 := F_b1.mv g20.mv; replace F_b2 := F_b2.mv g20.mv; replace F_b3 := F_b3.mv g20.mv; replace F_b4 := F_b4.mv g20.mv; replace r_w5 := g20.rdD r_w5; replace r_w6 := g20.rdD r_w6; replace F_q7 := F_q7.mv g20.mv; replace F_q8 := F_q8.mv g20.mv
          clear h20 hb20
          refine sat_trueP (b := (sameB l_b3 l_b3)) (by kernel_rfl) (sameB_self _) ?_
          refine sat_prim (v := .bool ((x_w5 : Int) == x_w5)) (by kernel_rfl) ?_
          refine sat_trueP (b := ((x_w5 : Int) == x_w5)) (by kernel_rfl) (by simp) ?_
          refine sat_call #[.agg #[.bool d_w5.neg, .slice A_w5 n_w5 c_w5, .int .i64 d_w5.e], .agg #[.bool d_w5.neg, .slice A_w6 n_w6 c_w6, .int .i64 d_w5.e]] (by kernel_rfl) fun w21 h21 => ?_
          refine (rsame_any _ _ (d_w5) (d_w5) _ (h21.rdD r_w5) (h21.rdD r_w6)).mono ?_
          rintro e v21 ⟨rfl, hb21⟩
          refine ⟨hb21, [.bool (sameD d_w5 d_w5)], _, rfl, by kernel_rfl, by kernel_rfl, fun g21 => ?_⟩
          replace F_a := F_a.mv g21.mv; replace F_b := F_b.mv g21.mv; replace F_x := F_x.mv g21.mv; replace F_b1 := F_b1.mv g21.mv; replace F_b2 := F_b2.mv g21.mv; replace F_b3 := F_b3.mv g21.mv; replace F_b4 := F_b4.mv g21.mv; replace r_w5 := g21.rdD r_w5; replace r_w6 := g21.rdD r_w6; replace F_q7 := F_q7.mv g21.mv; replace F_q8 := F_q8.mv g21.mv
          clear h21 hb21
          refine sat_trueP (b := (sameD d_w5 d_w5)) (by kernel_rfl) (sameD_self _) ?_
          refine sat_call #[.slice A_a a.length c_a, .slice A_b b.length c_b] (by kernel_rfl) fun w22 h22 => ?_
          refine (withinB_any _ _ _ _ a b _ ((F_a.mv h22.mv).any) ((F_b.mv h22.mv).any)).mono ?_
          rintro e v22 ⟨rfl, hb22⟩
          refine ⟨hb22, [.bool (withinB a b)], _, rfl, by kernel_rfl, by kernel_rfl, fun g22 => ?_⟩
          replace F_a := F_a.mv g22.mv; replace F_b := F_b.mv g22.mv; replace F_x := F_x.mv g22.mv; replace F_b1 := F_b1.mv g22.mv; replace F_b2 := F_b2.mv g22.mv; replace F_b3 := F_b3.mv g22.mv; replace F_b4 := F_b4.mv g22.mv; replace r_w5 := g22.rdD r_w5; replace r_w6 := g22.rdD r_w6; replace F_q7 := F_q7.mv g22.mv; replace F_q8 := F_q8.mv g22.mv
          clear h22 hb22
          refine sat_call #[.slice A_a a.length c_a, .slice A_b b.length c_b] (by kernel_rfl) fun w23 h23 => ?_
          refine (rwithinB_any _ _ _ _ a b _ ((F_a.mv h23.mv).any) ((F_b.mv h23.mv).any)).mono ?_
          rintro e v23 ⟨rfl, hb23⟩
          refine ⟨hb23, [.bool (withinB a b)], _, rfl, by kernel_rfl, by kernel_rfl, fun g23 => ?_⟩
          replace F_a := F_a.mv g23.mv; replace F_b := F_b.mv g23.mv; replace F_x := F_x.mv g23.mv; replace F_b1 := F_b1.mv g23.mv; replace F_b2 := F_b2.mv g23.mv; replace F_b3 := F_b3.mv g23.mv; replace F_b4 := F_b4.mv g23.mv; replace r_w5 := g23.rdD r_w5; replace r_w6 := g23.rdD r_w6; replace F_q7 := F_q7.mv g23.mv; replace F_q8 := F_q8.mv g23.mv
          clear h23 hb23
          refine sat_prim (v := .bool ((withinB a b) == (withinB a b))) (by kernel_rfl) ?_
          refine sat_trueP (b := ((withinB a b) == (withinB a b))) (by kernel_rfl) (by simp) ?_
          refine sat_call #[.slice A_a a.length c_a, .slice A_b b.length c_b] (by kernel_rfl) fun w24 h24 => ?_
          refine (insideB_any _ _ _ _ a b _ ((F_a.mv h24.mv).any) ((F_b.mv h24.mv).any)).mono ?_
          rintro e v24 ⟨rfl, hb24⟩
          refine ⟨hb24, [.bool (insideB a b)], _, rfl, by kernel_rfl, by kernel_rfl, fun g24 => ?_⟩
          replace F_a := F_a.mv g24.mv; replace F_b := F_b.mv g24.mv; replace F_x := F_x.mv g24.mv; replace F_b1 := F_b1.mv g24.mv; replace F_b2 := F_b2.mv g24.mv; replace F_b3 := F_b3.mv g24.mv; replace F_b4 := F_b4.mv g24.mv; replace r_w5 := g24.rdD r_w5; replace r_w6 := g24.rdD r_w6; replace F_q7 := F_q7.mv g24.mv; replace F_q8 := F_q8.mv g24.mv
          clear h24 hb24
          refine sat_call #[.slice A_a a.length c_a, .slice A_b b.length c_b] (by kernel_rfl) fun w25 h25 => ?_
          refine (rinsideB_any _ _ _ _ a b _ ((F_a.mv h25.mv).any) ((F_b.mv h25.mv).any)).mono ?_
          rintro e v25 ⟨rfl, hb25⟩
          refine ⟨hb25, [.bool (insideB a b)], _, rfl, by kernel_rfl, by kernel_rfl, fun g25 => ?_⟩
          replace F_a := F_a.mv g25.mv; replace F_b := F_b.mv g25.mv; replace F_x := F_x.mv g25.mv; replace F_b1 := F_b1.mv g25.mv; replace F_b2 := F_b2.mv g25.mv; replace F_b3 := F_b3.mv g25.mv; replace F_b4 := F_b4.mv g25.mv; replace r_w5 := g25.rdD r_w5; replace r_w6 := g25.rdD r_w6; replace F_q7 := F_q7.mv g25.mv; replace F_q8 := F_q8.mv g25.mv
          clear h25 hb25
          refine sat_prim (v := .bool ((insideB a b) == (insideB a b))) (by kernel_rfl) ?_
          refine sat_trueP (b := ((insideB a b) == (insideB a b))) (by kernel_rfl) (by simp) ?_
          refine sat_call #[.slice A_a a.length c_a, .slice A_x x.length c_x] (by kernel_rfl) fun w26 h26 => ?_
          refine (hasB_any _ _ _ _ a x _ ((F_a.mv h26.mv).any) ((F_x.mv h26.mv).any)).mono ?_
          rintro e v26 ⟨rfl, hb26⟩
          refine ⟨hb26, [.bool (hasB a x)], _, rfl, by kernel_rfl, by kernel_rfl, fun g26 => ?_⟩
          replace F_a := F_a.mv g26.mv; replace F_b := F_b.mv g26.mv; replace F_x := F_x.mv g26.mv; replace F_b1 := F_b1.mv g26.mv; replace F_b2 := F_b2.mv g26.mv; replace F_b3 := F_b3.mv g26.mv; replace F_b4 := F_b4.mv g26.mv; replace r_w5 := g26.rdD r_w5; replace r_w6 := g26.rdD r_w6; replace F_q7 := F_q7.mv g26.mv; replace F_q8 := F_q8.mv g26.mv
          clear h26 hb26
          refine sat_call #[.slice A_a a.length c_a, .slice A_x x.length c_x] (by kernel_rfl) fun w27 h27 => ?_
          refine (rhasB_any _ _ _ _ a x _ ((F_a.mv h27.mv).any) ((F_x.mv h27.mv).any)).mono ?_
          rintro e v27 ⟨rfl, hb27⟩
          refine ⟨hb27, [.bool (hasB a x)], _, rfl, by kernel_rfl, by kernel_rfl, fun g27 => ?_⟩
          replace F_a := F_a.mv g27.mv; replace F_b := F_b.mv g27.mv; replace F_x := F_x.mv g27.mv; replace F_b1 := F_b1.mv g27.mv; replace F_b2 := F_b2.mv g27.mv; replace F_b3 := F_b3.mv g27.mv; replace F_b4 := F_b4.mv g27.mv; replace r_w5 := g27.rdD r_w5; replace r_w6 := g27.rdD r_w6; replace F_q7 := F_q7.mv g27.mv; replace F_q8 := F_q8.mv g27.mv
          clear h27 hb27
          refine sat_prim (v := .bool ((hasB a x) == (hasB a x))) (by kernel_rfl) ?_
          exact sat_ret (.bool ((hasB a x) == (hasB a x))) (by kernel_rfl) fun w9 h9 => congrArg Value.bool (by simp)
        · refine sat_true (by kernel_rfl) ?_
          refine sat_idx (A := A_q7) (c := c_q7) (kk := .i64) (i) (by kernel_rfl) (by kernel_rfl) (lt_of hlt) F_q7.addr fun g16 o16 e16 => ?_
          obtain ⟨x9, h_x9⟩ : ∃ x_, l_q7[(i)]? = some x_ := ⟨_, List.getElem?_eq_getElem (lt_of hlt)⟩
          refine sat_el F_q7 e16 h_x9 rfl (by kernel_rfl) (by kernel_rfl) (by kernel_rfl) ?_
          rintro _ ⟨A_L10, n_L10, c_L10, rfl, r_L10⟩
          refine sat_idx (A := A_q8) (c := c_q8) (kk := .i64) (i) (by kernel_rfl) (by kernel_rfl) (lt_of hlt) F_q8.addr fun g17 o17 e17 => ?_
          refine sat_el F_q8 e17 h_x9 rfl (by kernel_rfl) (by kernel_rfl) (by kernel_rfl) ?_
          rintro _ ⟨A_L11, n_L11, c_L11, rfl, r_L11⟩
          refine sat_call #[.agg #[.bool x9.neg, .slice A_L10 n_L10 c_L10, .int .i64 x9.e], .agg #[.bool x9.neg, .slice A_L11 n_L11 c_L11, .int .i64 x9.e]] (by kernel_rfl) fun w18 h18 => ?_
          refine (rsame_any _ _ (x9) (x9) _ (h18.rdD r_L10) (h18.rdD r_L11)).mono ?_
          rintro e v18 ⟨rfl, hb18⟩
          refine ⟨hb18, [.bool (sameD x9 x9)], _, rfl, by kernel_rfl, by kernel_rfl, fun g18 => ?_⟩
          replace F_a := F_a.mv g18.mv; replace F_b := F_b.mv g18.mv; replace F_x := F_x.mv g18.mv; replace F_b1 := F_b1.mv g18.mv; replace F_b2 := F_b2.mv g18.mv; replace F_b3 := F_b3.mv g18.mv; replace F_b4 := F_b4.mv g18.mv; replace r_w5 := g18.rdD r_w5; replace r_w6 := g18.rdD r_w6; replace F_q7 := F_q7.mv g18.mv; replace F_q8 := F_q8.mv g18.mv; replace r_L10 := g18.rdD r_L10; replace r_L11 := g18.rdD r_L11
          clear h18 hb18
          refine sat_prim (v := .bool (!(sameD x9 x9))) (by kernel_rfl) ?_
          refine sat_falseP (b := (!(sameD x9 x9))) (by kernel_rfl) (by rw [show (sameD x9 x9) = true from sameD_self _]; rfl) ?_
          refine sat_prim (v := .int .i64 (((i + 1 : Nat)) : Int)) (Eq.trans (b := some (.int .i64 (IntKind.i64.wrap ((((i) : Nat) : Int) + 1)))) (by kernel_rfl) (by rw [Sx.wrap_succ (n := l_q7.length) (lt_of hlt) F_q7.le])) ?_
          exact sat_back [.int .i64 (((i + 1 : Nat)) : Int), .bool false] (by kernel_rfl) fun w9 h9 => ⟨_, by have := lt_of hlt; omega, i + 1, rfl, rfl, by have := lt_of hlt; omega⟩
      · refine sat_true (by kernel_rfl) ?_
        refine sat_call #[] (by kernel_rfl) fun w6 h6 => ?_
        refine (told11_any _ (h6.tab hT)).mono ?_
        rintro e v6 ⟨rfl, hb6⟩
        refine ⟨hb6, [.bool true], _, rfl, by kernel_rfl, by kernel_rfl, fun g6 => ?_⟩
        replace F_a := F_a.mv g6.mv; replace F_b := F_b.mv g6.mv; replace F_x := F_x.mv g6.mv
        clear h6 hb6
        exact sat_ret (.bool true) (by kernel_rfl) fun w9 h9 => rfl

end Go.Proofs.YtbpfnooloemieaaGreatDoor
