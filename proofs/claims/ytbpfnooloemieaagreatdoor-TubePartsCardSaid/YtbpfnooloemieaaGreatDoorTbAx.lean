/- Package tube, by its trees. Printed by wip/mk_TbA.py. Package tube, by its trees: Over, At, Join, Same, beside. Printed by wip/mk_TbB.py. tube.Halve, Cut, by their trees. Printed by wip/mk_TbD.py. -/
import Derived.Test.YtbpfnooloemieaaGreatDoorBxBx
import Derived.Test.YtbpfnooloemieaaGreatDoorSeqIx
import Derived.Test.YtbpfnooloemieaaGreatDoorTbPx
namespace Go.Proofs.YtbpfnooloemieaaGreatDoor
open Go.RowKit Pl
open Sx (sat_call sat_chk sat_prim sat_ite sat_true sat_false sat_trueP sat_falseP sat_ret sat_row sat_callP sat_loop sat_back sat_idx sat_el sat_elf sat_elc sat_load sat_rowN sat_app sat_callB sat_alt rows_one rows_two all_nil all_cons okB okS okI)

/-- A tube and a mark come back; its rows are of the call's own making. -/
def TbTup (w0 w : World) (e : Ending) (r : Tb × Int) : Prop := ∃ (p : List Dy) (q : List Iv) (x : Int) (A : Option Addr) (c : Nat) (B : Option Addr) (d : Nat), e = .returned (.tuple #[.agg #[.slice A p.length c, .slice B q.length d], .int .i64 x]) ∧ Hid ((⟨p, q⟩, x) = r) ∧
  Sx.Rows Sx.kD (fun g => w0.heap.size ≤ g) w A p.length c p ∧ Sx.Rows Sx.kI (fun g => w0.heap.size ≤ g) w B q.length d q
theorem TbTup.nil {w0 w : World} {x : Int} {r : Tb × Int} (h : (nilT, x) = r) : TbTup w0 w (.returned (.tuple #[.agg #[.slice none 0 0, .slice none 0 0], .int .i64 x])) r := ⟨[], [], x, none, 0, none, 0, rfl, hide h, Sx.Rows.nil _ _ _, Sx.Rows.nil _ _ _⟩
theorem sml {a b : Int} (h : a = b) (hb : -1000000000 ≤ b ∧ b ≤ 9223372036854775807) : some (Value.int .i64 (IntKind.i64.wrap a)) = some (Value.int .i64 b) := by rw [h, IntWalk.i64_in _ (by omega)]
theorem all_step {l : List Dy} {i : Nat} {r b : Bool} (hm : r = (allT l i && b)) (hi : i < l.length) (h : stepT l i = true) : r = (allT l (i + 1) && b) := by rw [hm, allT_cons hi, h, Bool.true_and]
theorem all_no {l : List Dy} {i : Nat} {r b : Bool} (hm : r = (allT l i && b)) (hi : i < l.length) (h : stepT l i = false) : false = r := by rw [hm, allT_cons hi, h, Bool.false_and, Bool.false_and]

def tr_tmay1 : Sx.Tree := .chk [.lf 0, .lf 1, .lf 2, .lf 3, .lf 4, .lf 5] (.call 52 [.ag [.lf 0, .lf 1, .lf 2, .lf 3, .lf 4, .lf 5]] .one (.prim .not [.lf 6] (.ret (.one (.lf 7)))))
theorem tr_tmay1_eq : Sx.treeAt Tryz.prog 95 [] [] [(true, 6)] = some tr_tmay1 := by kernel_rfl

theorem tmay1_any (v_a : Value) (a : Iv) (w : World) (h_a : RdI w v_a a) :
    Calls Tryz.prog 95 #[v_a] w fun e w' => e = .returned (.bool (!(mayI a))) ∧ Below w.heap.size w w' := by
  obtain ⟨A_a, n_a, c_a, B_a, m_a, k_a, rfl, r_al, r_ah⟩ := h_a
  refine (Sx.runA [] [] (ls := [.bool a.lo.neg, .slice A_a n_a c_a, .int .i64 a.lo.e, .bool a.hi.neg, .slice B_a m_a k_a, .int .i64 a.hi.e]) (shs := [(true, 6)]) (R := fun v _ => v = .bool (!(mayI a))) tr_tmay1_eq rfl (by decide) (fun q h => by cases h) ?_).mono (fun e w' ⟨v, he, hv, hb⟩ => ⟨by rw [he, hv], hb⟩)
  unfold tr_tmay1
  refine sat_chkB (by kernel_rfl) ?_
  refine sat_call #[.agg #[.bool a.lo.neg, .slice A_a n_a c_a, .int .i64 a.lo.e, .bool a.hi.neg, .slice B_a m_a k_a, .int .i64 a.hi.e]] (by kernel_rfl) fun w1 h1 => ?_
  refine (mayI_any _ a _ (mkI (h1.rdD r_al) (h1.rdD r_ah))).mono ?_
  rintro e v1 ⟨rfl, hb1⟩
  refine ⟨hb1, [.bool (mayI a)], _, rfl, by kernel_rfl, by kernel_rfl, fun g1 => ?_⟩
  replace r_al := g1.rdD r_al; replace r_ah := g1.rdD r_ah
  clear h1 hb1
  refine sat_prim (v := .bool (!(mayI a))) (by kernel_rfl) ?_
  exact sat_ret (.bool (!(mayI a))) (by kernel_rfl) fun w9 h9 => rfl

def tr_tidx : Sx.Tree := .prim .len [.lf 0] (.loop 0 [.num .i64 0, .num .i64 0] (.prim (.bin .lss) [.lf 3, .lf 2] (.ite (.lf 5) (.prim (.idx 6) [.lf 0, .lf 3] (.load 49 (.lf 6) (.ag 6) (.call 95 [.ag [.lf 7, .lf 8, .lf 9, .lf 10, .lf 11, .lf 12]] .one (.ite (.lf 13) (.ret (.one (.lf 3))) (.prim (.bin .add) [.lf 3, .num .i64 1] (.back 0 [.lf 14, .lf 4])))))) (.ret (.one (.num .i64 ((-1))))))))
theorem tr_tidx_eq : Sx.treeAt Tryz.prog 88 [(1, 95)] [] [(false, 1), (false, 1)] = some tr_tidx := by kernel_rfl

theorem tindexB_any (A_l : Option Addr) (c_l : Nat) (l : List Iv) (w : World) (h_l : Sx.Rows Sx.kI (fun _ => True) w A_l l.length c_l l) :
    Calls Tryz.prog 88 #[.slice A_l l.length c_l, .func (.func 95) #[] #[]] w fun e w' => (∃ k : Int, e = .returned (.int .i64 k) ∧ IdxB l k) ∧ Below w.heap.size w w' := by
  have F_l := h_l.start
  have M_l := h_l.le
  clear h_l
  refine (Sx.runA [(1, 95)] [] (ls := [.slice A_l l.length c_l, .func (.func 95) #[] #[]]) (shs := [(false, 1), (false, 1)]) (R := fun v _ => ∃ k : Int, v = .int .i64 k ∧ IdxB l k) tr_tidx_eq rfl (by decide) (by simp [Sx.tupV]) ?_).mono (fun e w' ⟨v, he, ⟨k, hv, hk⟩, hb⟩ => ⟨⟨k, by rw [he, hv], hk⟩, hb⟩)
  unfold tr_tidx
  refine sat_prim (v := .int .i64 ((l.length : Nat) : Int)) (by kernel_rfl) ?_
  refine sat_loop (fun Kn vs W => ∃ (i : Nat), vs = [.int .i64 ((i : Nat) : Int), .int .i64 0] ∧ Kn = l.length - i ∧ i ≤ l.length ∧ (mayB l = mayB (l.drop i))) [.int .i64 0, .int .i64 0] (by kernel_rfl) (fun w1 h1 => ⟨_, 0, rfl, rfl, Nat.zero_le _, rfl⟩) ?_
  rintro Kn vs w1 h1 ⟨i, rfl, rfl, h_i, hm⟩
  replace F_l := F_l.mv h1.mv
  clear h1
  refine sat_prim (v := .bool (decide ((((i : Nat) : Int) : Int) < ((l.length : Nat) : Int)))) (by kernel_rfl) ?_
  cases hlt : (decide ((((i : Nat) : Int) : Int) < ((l.length : Nat) : Int)))
  · refine sat_false (by kernel_rfl) ?_
    exact sat_ret (.int .i64 (-1)) (by kernel_rfl) fun w9 h9 => ⟨_, rfl, idx_no hm hlt⟩
  · refine sat_true (by kernel_rfl) ?_
    refine sat_idx (A := A_l) (c := c_l) (kk := .i64) (i) (by kernel_rfl) (by kernel_rfl) (lt_of hlt) F_l.addr fun g3 o3 e3 => ?_
    obtain ⟨x1, h_x1⟩ : ∃ x_, l[(i)]? = some x_ := ⟨_, List.getElem?_eq_getElem (lt_of hlt)⟩
    refine sat_el F_l e3 h_x1 rfl (by kernel_rfl) (by kernel_rfl) (by kernel_rfl) ?_
    rintro _ ⟨A_L2, n_L2, c_L2, B_L2, m_L2, k_L2, rfl, r_L2l, r_L2h⟩
    refine sat_call #[.agg #[.bool x1.lo.neg, .slice A_L2 n_L2 c_L2, .int .i64 x1.lo.e, .bool x1.hi.neg, .slice B_L2 m_L2 k_L2, .int .i64 x1.hi.e]] (by kernel_rfl) fun w4 h4 => ?_
    refine (tmay1_any _ x1 _ (mkI (h4.rdD r_L2l) (h4.rdD r_L2h))).mono ?_
    rintro e v4 ⟨rfl, hb4⟩
    refine ⟨hb4, [.bool (!(mayI x1))], _, rfl, by kernel_rfl, by kernel_rfl, fun g4 => ?_⟩
    replace F_l := F_l.mv g4.mv; replace r_L2l := g4.rdD r_L2l; replace r_L2h := g4.rdD r_L2h
    clear h4 hb4
    cases hm2 : (mayI x1)
    · refine sat_true (by kernel_rfl) ?_
      exact sat_ret (.int .i64 ((i : Nat) : Int)) (by kernel_rfl) fun w9 h9 => ⟨_, rfl, idx_yes hm h_x1 hm2⟩
    · refine sat_false (by kernel_rfl) ?_
      refine sat_prim (v := .int .i64 (((i + 1 : Nat)) : Int)) (Eq.trans (b := some (.int .i64 (IntKind.i64.wrap ((((i) : Nat) : Int) + 1)))) (by kernel_rfl) (by rw [Sx.wrap_succ (n := l.length) (lt_of hlt) M_l])) ?_
      exact sat_back [.int .i64 (((i + 1 : Nat)) : Int), .int .i64 0] (by kernel_rfl) fun w9 h9 => ⟨_, by have := lt_of hlt; omega, i + 1, rfl, rfl, by have := lt_of hlt; omega, by rw [hm, mayB_cons h_x1, hm2, Bool.true_and]⟩

def tr_tcont : Sx.Tree := .call 88 [.one (.lf 0), .one (.fn 95)] .one (.prim (.bin .geq) [.lf 2, .num .i64 0] (.ret (.one (.lf 3))))
theorem tr_tcont_eq : Sx.treeAt Tryz.prog 50 [(1, 95)] [] [(false, 1), (false, 1)] = some tr_tcont := by kernel_rfl

theorem tcontB_any (A_l : Option Addr) (c_l : Nat) (l : List Iv) (w : World) (h_l : Sx.Rows Sx.kI (fun _ => True) w A_l l.length c_l l) :
    Calls Tryz.prog 50 #[.slice A_l l.length c_l, .func (.func 95) #[] #[]] w fun e w' => e = .returned (.bool (!(mayB l))) ∧ Below w.heap.size w w' := by
  have F_l := h_l.start
  have M_l := h_l.le
  clear h_l
  refine (Sx.runA [(1, 95)] [] (ls := [.slice A_l l.length c_l, .func (.func 95) #[] #[]]) (shs := [(false, 1), (false, 1)]) (R := fun v _ => v = .bool (!(mayB l))) tr_tcont_eq rfl (by decide) (by simp [Sx.tupV]) ?_).mono (fun e w' ⟨v, he, hv, hb⟩ => ⟨by rw [he, hv], hb⟩)
  unfold tr_tcont
  refine sat_call #[.slice A_l l.length c_l, .func (.func 95) #[] #[]] (by kernel_rfl) fun w1 h1 => ?_
  refine (tindexB_any _ _ l _ ((F_l.mv h1.mv).any)).mono ?_
  rintro e v1 ⟨⟨k1, rfl, h_k1⟩, hb1⟩
  refine ⟨hb1, [.int .i64 k1], _, rfl, by kernel_rfl, by kernel_rfl, fun g1 => ?_⟩
  replace F_l := F_l.mv g1.mv
  clear h1 hb1
  refine sat_prim (v := .bool (decide ((0 : Int) ≤ k1))) (by kernel_rfl) ?_
  exact sat_ret (.bool (decide ((0 : Int) ≤ k1))) (by kernel_rfl) fun w9 h9 => congrArg Value.bool h_k1

def tr_tmay : Sx.Tree := .chk [.lf 0, .lf 1] (.prim .len [.lf 1] (.prim (.bin .lss) [.lf 2, .num .i64 1] (.ite (.lf 3) (.ret (.one (.bit false))) (.prim (.bin .gtr) [.lf 2, .num .i64 256] (.ite (.lf 4) (.ret (.one (.bit false))) (.prim .len [.lf 0] (.prim (.bin .add) [.lf 2, .num .i64 1] (.prim (.bin .neq) [.lf 5, .lf 6] (.ite (.lf 7) (.ret (.one (.bit false))) (.prim .len [.lf 0] (.loop 0 [.num .i64 0, .bit false] (.prim (.bin .lss) [.lf 9, .lf 8] (.ite (.lf 11) (.prim (.idx 3) [.lf 0, .lf 9] (.load 30 (.lf 12) (.ag 3) (.chk [.lf 13, .lf 14, .lf 15] (.call 71 [.ag [.lf 13, .lf 14, .lf 15]] .one (.prim .not [.lf 16] (.ite (.lf 17) (.ret (.one (.bit false))) (.prim (.bin .gtr) [.lf 9, .num .i64 0] (.ite (.lf 18) (.prim (.bin .sub) [.lf 9, .num .i64 1] (.prim (.idx 3) [.lf 0, .lf 19] (.load 30 (.lf 20) (.ag 3) (.call 47 [.ag [.lf 21, .lf 22, .lf 23], .ag [.lf 13, .lf 14, .lf 15]] .one (.prim (.bin .geq) [.lf 24, .num .i64 0] (.ite (.lf 25) (.ret (.one (.bit false))) (.prim (.bin .add) [.lf 9, .num .i64 1] (.back 0 [.lf 26, .lf 10])))))))) (.prim (.bin .add) [.lf 9, .num .i64 1] (.back 0 [.lf 19, .lf 10])))))))))) (.call 50 [.one (.lf 1), .one (.fn 95)] .one (.prim .not [.lf 12] (.ret (.one (.lf 13))))))))))))))))))
theorem tr_tmay_eq : Sx.treeAt Tryz.prog 67 [] [] [(true, 2)] = some tr_tmay := by kernel_rfl

theorem mayT_any (A_t : Option Addr) (c_t : Nat) (B_t : Option Addr) (d_t : Nat) (t : Tb) (w : World) (h_t1 : Sx.Rows Sx.kD (fun _ => True) w A_t t.at_.length c_t t.at_) (h_t2 : Sx.Rows Sx.kI (fun _ => True) w B_t t.v.length d_t t.v) :
    Calls Tryz.prog 67 #[.agg #[.slice A_t t.at_.length c_t, .slice B_t t.v.length d_t]] w fun e w' => e = .returned (.bool (mayT t)) ∧ Below w.heap.size w w' := by
  have F_t1 := h_t1.start
  have M_t1 := h_t1.le
  clear h_t1
  have F_t2 := h_t2.start
  have M_t2 := h_t2.le
  clear h_t2
  refine (Sx.runA [] [] (ls := [.slice A_t t.at_.length c_t, .slice B_t t.v.length d_t]) (shs := [(true, 2)]) (R := fun v _ => v = .bool (mayT t)) tr_tmay_eq rfl (by decide) (fun q h => by cases h) ?_).mono (fun e w' ⟨v, he, hv, hb⟩ => ⟨by rw [he, hv], hb⟩)
  unfold tr_tmay
  refine sat_chkB (by kernel_rfl) ?_
  refine sat_prim (v := .int .i64 ((t.v.length : Nat) : Int)) (by kernel_rfl) ?_
  refine sat_prim (v := .bool (decide ((((t.v.length : Nat) : Int) : Int) < 1))) (by kernel_rfl) ?_
  cases h1 : (decide ((((t.v.length : Nat) : Int) : Int) < 1))
  · refine sat_false (by kernel_rfl) ?_
    refine sat_prim (v := .bool (decide ((256 : Int) < ((t.v.length : Nat) : Int)))) (by kernel_rfl) ?_
    cases h2 : (decide ((256 : Int) < ((t.v.length : Nat) : Int)))
    · refine sat_false (by kernel_rfl) ?_
      refine sat_prim (v := .int .i64 ((t.at_.length : Nat) : Int)) (by kernel_rfl) ?_
      refine sat_prim (v := .int .i64 ((t.v.length + 1 : Nat) : Int)) (Eq.trans (b := some (.int .i64 (IntKind.i64.wrap (((t.v.length : Nat) : Int) + 1)))) (by kernel_rfl) (sml (by have := of_decide_eq_false h2; omega) (by have := of_decide_eq_false h2; omega))) ?_
      refine sat_prim (v := .bool ((((t.at_.length : Nat) : Int) : Int) != ((t.v.length + 1 : Nat) : Int))) (by kernel_rfl) ?_
      cases h3 : ((((t.at_.length : Nat) : Int) : Int) != ((t.v.length + 1 : Nat) : Int))
      · refine sat_false (by kernel_rfl) ?_
        refine sat_prim (v := .int .i64 ((t.at_.length : Nat) : Int)) (by kernel_rfl) ?_
        have hm0 := may_ok h1 h2 h3
        refine sat_loop (fun Kn vs W => ∃ (i : Nat), vs = [.int .i64 ((i : Nat) : Int), .bool false] ∧ Kn = t.at_.length - i ∧ i ≤ t.at_.length ∧ (mayT t = (allT t.at_ i && mayB t.v))) [.int .i64 0, .bool false] (by kernel_rfl) (fun w1 h1 => ⟨_, 0, rfl, rfl, Nat.zero_le _, hm0⟩) ?_
        rintro Kn vs w4 h4 ⟨i, rfl, rfl, h_i, hm⟩
        replace F_t1 := F_t1.mv h4.mv; replace F_t2 := F_t2.mv h4.mv
        clear h4
        refine sat_prim (v := .bool (decide ((((i : Nat) : Int) : Int) < ((t.at_.length : Nat) : Int)))) (by kernel_rfl) ?_
        cases hlt : (decide ((((i : Nat) : Int) : Int) < ((t.at_.length : Nat) : Int)))
        · refine sat_false (by kernel_rfl) ?_
          refine sat_call #[.slice B_t t.v.length d_t, .func (.func 95) #[] #[]] (by kernel_rfl) fun w6 h6 => ?_
          refine (tcontB_any _ _ t.v _ ((F_t2.mv h6.mv).any)).mono ?_
          rintro e v6 ⟨rfl, hb6⟩
          refine ⟨hb6, [.bool (!(mayB t.v))], _, rfl, by kernel_rfl, by kernel_rfl, fun g6 => ?_⟩
          replace F_t1 := F_t1.mv g6.mv; replace F_t2 := F_t2.mv g6.mv
          clear h6 hb6
          refine sat_prim (v := .bool (!(!(mayB t.v)))) (by kernel_rfl) ?_
          exact sat_ret (.bool (!(!(mayB t.v)))) (by kernel_rfl) fun w9 h9 => congrArg Value.bool (by rw [hm, allT_end hlt]; simp)
        · refine sat_true (by kernel_rfl) ?_
          refine sat_idx (A := A_t) (c := c_t) (kk := .i64) (i) (by kernel_rfl) (by kernel_rfl) (by have := lt_of hlt; omega) F_t1.addr fun g6 o6 e6 => ?_
          obtain ⟨x1, h_x1⟩ : ∃ x_, t.at_[(i)]? = some x_ := ⟨_, List.getElem?_eq_getElem (by have := lt_of hlt; omega)⟩
          refine sat_el F_t1 e6 h_x1 rfl (by kernel_rfl) (by kernel_rfl) (by kernel_rfl) ?_
          rintro _ ⟨A_L2, n_L2, c_L2, rfl, r_L2⟩
          refine sat_chkB (by kernel_rfl) ?_
          refine sat_call #[.agg #[.bool x1.neg, .slice A_L2 n_L2 c_L2, .int .i64 x1.e]] (by kernel_rfl) fun w7 h7 => ?_
          refine (mayD_any _ (x1) _ (h7.rdD r_L2)).mono ?_
          rintro e v7 ⟨rfl, hb7⟩
          refine ⟨hb7, [.bool (mayD x1)], _, rfl, by kernel_rfl, by kernel_rfl, fun g7 => ?_⟩
          replace F_t1 := F_t1.mv g7.mv; replace F_t2 := F_t2.mv g7.mv; replace r_L2 := g7.rdD r_L2
          clear h7 hb7
          refine sat_prim (v := .bool (!(mayD x1))) (by kernel_rfl) ?_
          cases hd : (mayD x1)
          · refine sat_true (by kernel_rfl) ?_
            exact sat_ret (.bool false) (by kernel_rfl) fun w9 h9 => congrArg Value.bool (all_no hm (lt_of hlt) (step_no1 h_x1 hd))
          · refine sat_false (by kernel_rfl) ?_
            refine sat_prim (v := .bool (decide ((0 : Int) < ((i : Nat) : Int)))) (by kernel_rfl) ?_
            cases h0 : (decide ((0 : Int) < ((i : Nat) : Int)))
            · refine sat_false (by kernel_rfl) ?_
              refine sat_prim (v := .int .i64 (((i + 1 : Nat)) : Int)) (Eq.trans (b := some (.int .i64 (IntKind.i64.wrap ((((i) : Nat) : Int) + 1)))) (by kernel_rfl) (by rw [Sx.wrap_succ (n := t.at_.length) (lt_of hlt) M_t1])) ?_
              exact sat_back [.int .i64 (((i + 1 : Nat)) : Int), .bool false] (by kernel_rfl) fun w9 h9 => ⟨_, by have := lt_of hlt; omega, i + 1, rfl, rfl, by have := lt_of hlt; omega, all_step hm (lt_of hlt) (step_first h_x1 hd h0)⟩
            · refine sat_true (by kernel_rfl) ?_
              obtain ⟨j, hj⟩ : ∃ j, j + 1 = i := ⟨i - 1, by have := of_decide_eq_true h0; omega⟩
              refine sat_prim (v := .int .i64 ((j : Nat) : Int)) (Eq.trans (b := some (.int .i64 (IntKind.i64.wrap (((i : Nat) : Int) - 1)))) (by kernel_rfl) (sml (by omega) (by have := lt_of hlt; simp only [maxLen] at M_t1; omega))) ?_
              refine sat_idx (A := A_t) (c := c_t) (kk := .i64) (j) (by kernel_rfl) (by kernel_rfl) (by have := lt_of hlt; omega) F_t1.addr fun g10 o10 e10 => ?_
              obtain ⟨x3, h_x3⟩ : ∃ x_, t.at_[(j)]? = some x_ := ⟨_, List.getElem?_eq_getElem (by have := lt_of hlt; omega)⟩
              refine sat_el F_t1 e10 h_x3 rfl (by kernel_rfl) (by kernel_rfl) (by kernel_rfl) ?_
              rintro _ ⟨A_L4, n_L4, c_L4, rfl, r_L4⟩
              refine sat_call #[.agg #[.bool x3.neg, .slice A_L4 n_L4 c_L4, .int .i64 x3.e], .agg #[.bool x1.neg, .slice A_L2 n_L2 c_L2, .int .i64 x1.e]] (by kernel_rfl) fun w11 h11 => ?_
              refine (cmpD_any _ _ (x3) (x1) _ (h11.rdD r_L4) (h11.rdD r_L2)).mono ?_
              rintro e v11 ⟨rfl, hb11⟩
              refine ⟨hb11, [.int .i64 (cmpD x3 x1)], _, rfl, by kernel_rfl, by kernel_rfl, fun g11 => ?_⟩
              replace F_t1 := F_t1.mv g11.mv; replace F_t2 := F_t2.mv g11.mv; replace r_L2 := g11.rdD r_L2; replace r_L4 := g11.rdD r_L4
              clear h11 hb11
              refine sat_prim (v := .bool (decide ((0 : Int) ≤ (cmpD x3 x1)))) (by kernel_rfl) ?_
              cases hc : (decide ((0 : Int) ≤ (cmpD x3 x1)))
              · refine sat_false (by kernel_rfl) ?_
                refine sat_prim (v := .int .i64 (((i + 1 : Nat)) : Int)) (Eq.trans (b := some (.int .i64 (IntKind.i64.wrap ((((i) : Nat) : Int) + 1)))) (by kernel_rfl) (by rw [Sx.wrap_succ (n := t.at_.length) (lt_of hlt) M_t1])) ?_
                exact sat_back [.int .i64 (((i + 1 : Nat)) : Int), .bool false] (by kernel_rfl) fun w9 h9 => ⟨_, by have := lt_of hlt; omega, i + 1, rfl, rfl, by have := lt_of hlt; omega, all_step hm (lt_of hlt) (step_next h_x1 h_x3 hj hd hc)⟩
              · refine sat_true (by kernel_rfl) ?_
                exact sat_ret (.bool false) (by kernel_rfl) fun w9 h9 => congrArg Value.bool (all_no hm (lt_of hlt) (step_next h_x1 h_x3 hj hd hc))
      · refine sat_true (by kernel_rfl) ?_
        exact sat_ret (.bool false) (by kernel_rfl) fun w9 h9 => congrArg Value.bool (may_c3 h3)
    · refine sat_true (by kernel_rfl) ?_
      exact sat_ret (.bool false) (by kernel_rfl) fun w9 h9 => congrArg Value.bool (may_c2 h2)
  · refine sat_true (by kernel_rfl) ?_
    exact sat_ret (.bool false) (by kernel_rfl) fun w9 h9 => congrArg Value.bool (may_c1 h1)

def tr_tmake : Sx.Tree := .chk [.lf 0, .lf 1, .lf 2] (.chk [.lf 3, .lf 4, .lf 5] (.chk [.lf 6, .lf 7, .lf 8, .lf 9, .lf 10, .lf 11] (.row 30 [.lf 0, .lf 1, .lf 2, .lf 3, .lf 4, .lf 5] 2 [] (.row 49 [.lf 6, .lf 7, .lf 8, .lf 9, .lf 10, .lf 11] 1 [] (.chk [.lf 12, .lf 13] (.chk [.lf 12, .lf 13] (.call 67 [.ag [.lf 12, .lf 13]] .one (.prim .not [.lf 14] (.ite (.lf 15) (.ret (.tup [(true, [.nil, .nil]), (false, [.num .i64 1])])) (.chk [.lf 12, .lf 13] (.ret (.tup [(true, [.lf 12, .lf 13]), (false, [.num .i64 0])]))))))))))))
theorem tr_tmake_eq : Sx.treeAt Tryz.prog 64 [] [] [(true, 3), (true, 3), (true, 6)] = some tr_tmake := by kernel_rfl

theorem makeT_any (v_x : Value) (v_y : Value) (v_v : Value) (x : Dy) (y : Dy) (v : Iv) (w : World) (h_x : RdD w v_x x) (h_y : RdD w v_y y) (h_v : RdI w v_v v) :
    Calls Tryz.prog 64 #[v_x, v_y, v_v] w fun e w' => TbTup w w' e (makeT x y v) ∧ Below w.heap.size w w' := by
  have r_x := h_x
  obtain ⟨A_x, n_x, c_x, rfl, _⟩ := h_x
  have r_y := h_y
  obtain ⟨A_y, n_y, c_y, rfl, _⟩ := h_y
  obtain ⟨A_v, n_v, c_v, B_v, m_v, k_v, rfl, r_vl, r_vh⟩ := h_v
  refine (Sx.runA [] [] (ls := [.bool x.neg, .slice A_x n_x c_x, .int .i64 x.e, .bool y.neg, .slice A_y n_y c_y, .int .i64 y.e, .bool v.lo.neg, .slice A_v n_v c_v, .int .i64 v.lo.e, .bool v.hi.neg, .slice B_v m_v k_v, .int .i64 v.hi.e]) (shs := [(true, 3), (true, 3), (true, 6)]) (R := fun v' w' => TbTup w w' (.returned v') (makeT x y v)) tr_tmake_eq rfl (by decide) (fun q h => by cases h) ?_).mono (fun e w' ⟨v', he, hv, hb⟩ => ⟨by rw [he]; exact hv, hb⟩)
  unfold tr_tmake
  refine sat_chkB (by kernel_rfl) ?_
  refine sat_chkB (by kernel_rfl) ?_
  refine sat_chkB (by kernel_rfl) ?_
  refine Sx.sat_rowF [.bool x.neg, .slice A_x n_x c_x, .int .i64 x.e, .bool y.neg, .slice A_y n_y c_y, .int .i64 y.e] (by kernel_rfl) (by intro x hx; cases hx) fun u1 h1 B1 NB1 Z_R1 => ?_
  replace r_x := h1.rdD r_x; replace r_y := h1.rdD r_y; replace r_vl := h1.rdD r_vl; replace r_vh := h1.rdD r_vh
  have F_R1 : Sx.Rows Sx.kD (Sx.NB _) _ (some ⟨u1.heap.size, 0, none⟩) 2 2 [x, y] := rows_two (k := Sx.kD) (cs := [.bool x.neg, .slice A_x n_x c_x, .int .i64 x.e]) B1 NB1 ⟨_, _, _, rfl, r_x⟩ ⟨_, _, _, rfl, r_y⟩
  generalize u1.heap.size = N_R1 at *
  generalize (u1.alloc _) = w_R1 at *
  clear B1 h1 NB1
  refine Sx.sat_rowF [.bool v.lo.neg, .slice A_v n_v c_v, .int .i64 v.lo.e, .bool v.hi.neg, .slice B_v m_v k_v, .int .i64 v.hi.e] (by kernel_rfl) (by intro x hx; cases hx) fun u1 h1 B1 NB1 Z_R2 => ?_
  replace r_x := h1.rdD r_x; replace r_y := h1.rdD r_y; replace r_vl := h1.rdD r_vl; replace r_vh := h1.rdD r_vh; replace F_R1 := F_R1.mv h1.mv
  have F_R2 : Sx.Rows Sx.kI (Sx.NB _) _ (some ⟨u1.heap.size, 0, none⟩) 1 1 [v] := rows_one (k := Sx.kI) B1 NB1 ⟨_, _, _, _, _, _, rfl, r_vl, r_vh⟩
  generalize u1.heap.size = N_R2 at *
  generalize (u1.alloc _) = w_R2 at *
  clear B1 h1 NB1
  refine sat_chkB (by kernel_rfl) ?_
  refine sat_chkB (by kernel_rfl) ?_
  refine sat_call #[.agg #[.slice (some ⟨N_R1, 0, none⟩) 2 2, .slice (some ⟨N_R2, 0, none⟩) 1 1]] (by kernel_rfl) fun w1 h1 => ?_
  refine (mayT_any _ _ _ _ (⟨[x, y], [v]⟩ : Tb) _ ((F_R1.mv h1.mv).any) ((F_R2.mv h1.mv).any)).mono ?_
  rintro e v1 ⟨rfl, hb1⟩
  refine ⟨hb1, [.bool (mayT (⟨[x, y], [v]⟩ : Tb))], _, rfl, by kernel_rfl, by kernel_rfl, fun g1 => ?_⟩
  replace r_x := g1.rdD r_x; replace r_y := g1.rdD r_y; replace r_vl := g1.rdD r_vl; replace r_vh := g1.rdD r_vh; replace F_R1 := F_R1.mv g1.mv; replace F_R2 := F_R2.mv g1.mv
  clear h1 hb1
  refine sat_prim (v := .bool (!(mayT (⟨[x, y], [v]⟩ : Tb)))) (by kernel_rfl) ?_
  cases hE : (mayT (⟨[x, y], [v]⟩ : Tb))
  · refine sat_true (by kernel_rfl) ?_
    exact sat_ret (.tuple #[.agg #[.slice none 0 0, .slice none 0 0], .int .i64 1]) (by kernel_rfl) fun w9 h9 => TbTup.nil (by unfold makeT; rw [hE]; rfl)
  · refine sat_false (by kernel_rfl) ?_
    refine sat_chkB (by kernel_rfl) ?_
    exact sat_ret (.tuple #[.agg #[.slice (some ⟨N_R1, 0, none⟩) 2 2, .slice (some ⟨N_R2, 0, none⟩) 1 1], .int .i64 0]) (by kernel_rfl) fun w9 h9 => ⟨_, _, 0, _, _, _, _, rfl, hide (by unfold makeT; rw [hE]; rfl), (F_R1.mv h9.mv).fresh (fun h => h) (fun _ ad h => by cases h; exact Z_R1), (F_R2.mv h9.mv).fresh (fun h => h) (fun _ ad h => by cases h; exact Z_R2)⟩

theorem holds_1 {t : Tb} {d x : Dy} (hx : t.at_[0]? = some x) (h : decide (cmpD x d ≤ 0) = false) : false = holdsT t d := by unfold holdsT firstT; rw [atT_is hx, h]; rfl
theorem holds_2 {t : Tb} {d x y : Dy} (hx : t.at_[0]? = some x) (h : decide (cmpD x d ≤ 0) = true) (hy : t.at_[t.at_.length - 1]? = some y) : decide (cmpD d y ≤ 0) = holdsT t d := by unfold holdsT firstT lastT; rw [atT_is hx, atT_is hy, h]; rfl

def tr_tholds : Sx.Tree := .chk [.lf 0, .lf 1] (.chk [.lf 2, .lf 3, .lf 4] (.prim (.idx 3) [.lf 0, .num .i64 0] (.load 30 (.lf 5) (.ag 3) (.call 47 [.ag [.lf 6, .lf 7, .lf 8], .ag [.lf 2, .lf 3, .lf 4]] .one (.prim (.bin .leq) [.lf 9, .num .i64 0] (.ite (.lf 10) (.prim .len [.lf 0] (.prim (.bin .sub) [.lf 11, .num .i64 1] (.prim (.idx 3) [.lf 0, .lf 12] (.load 30 (.lf 13) (.ag 3) (.call 47 [.ag [.lf 2, .lf 3, .lf 4], .ag [.lf 14, .lf 15, .lf 16]] .one (.prim (.bin .leq) [.lf 17, .num .i64 0] (.ret (.one (.lf 18))))))))) (.ret (.one (.bit false)))))))))
theorem tr_tholds_eq : Sx.treeAt Tryz.prog 72 [] [] [(true, 2), (true, 3)] = some tr_tholds := by kernel_rfl

theorem holdsT_any (A_t : Option Addr) (c_t : Nat) (B_t : Option Addr) (d_t : Nat) (v_d : Value) (t : Tb) (d : Dy) (w : World) (h_t1 : Sx.Rows Sx.kD (fun _ => True) w A_t t.at_.length c_t t.at_) (h_t2 : Sx.Rows Sx.kI (fun _ => True) w B_t t.v.length d_t t.v) (h_d : RdD w v_d d) (hp : 0 < t.at_.length) :
    Calls Tryz.prog 72 #[.agg #[.slice A_t t.at_.length c_t, .slice B_t t.v.length d_t], v_d] w fun e w' => e = .returned (.bool (holdsT t d)) ∧ Below w.heap.size w w' := by
  have r_d := h_d
  obtain ⟨A_d, n_d, c_d, rfl, _⟩ := h_d
  have F_t1 := h_t1.start
  have M_t1 := h_t1.le
  clear h_t1
  have F_t2 := h_t2.start
  have M_t2 := h_t2.le
  clear h_t2
  refine (Sx.runA [] [] (ls := [.slice A_t t.at_.length c_t, .slice B_t t.v.length d_t, .bool d.neg, .slice A_d n_d c_d, .int .i64 d.e]) (shs := [(true, 2), (true, 3)]) (R := fun v _ => v = .bool (holdsT t d)) tr_tholds_eq rfl (by decide) (fun q h => by cases h) ?_).mono (fun e w' ⟨v, he, hv, hb⟩ => ⟨by rw [he, hv], hb⟩)
  unfold tr_tholds
  refine sat_chkB (by kernel_rfl) ?_
  refine sat_chkB (by kernel_rfl) ?_
  refine sat_idx (A := A_t) (c := c_t) (kk := .i64) 0 (by kernel_rfl) (by kernel_rfl) (by omega) F_t1.addr fun g1 o1 e1 => ?_
  obtain ⟨x1, h_x1⟩ : ∃ x_, t.at_[0]? = some x_ := ⟨_, List.getElem?_eq_getElem (by omega)⟩
  refine sat_el F_t1 e1 h_x1 rfl (by kernel_rfl) (by kernel_rfl) (by kernel_rfl) ?_
  rintro _ ⟨A_L2, n_L2, c_L2, rfl, r_L2⟩
  refine sat_call #[.agg #[.bool x1.neg, .slice A_L2 n_L2 c_L2, .int .i64 x1.e], .agg #[.bool d.neg, .slice A_d n_d c_d, .int .i64 d.e]] (by kernel_rfl) fun w2 h2 => ?_
  refine (cmpD_any _ _ (x1) (d) _ (h2.rdD r_L2) (h2.rdD r_d)).mono ?_
  rintro e v2 ⟨rfl, hb2⟩
  refine ⟨hb2, [.int .i64 (cmpD x1 d)], _, rfl, by kernel_rfl, by kernel_rfl, fun g2 => ?_⟩
  replace F_t1 := F_t1.mv g2.mv; replace F_t2 := F_t2.mv g2.mv; replace r_d := g2.rdD r_d; replace r_L2 := g2.rdD r_L2
  clear h2 hb2
  refine sat_prim (v := .bool (decide (((cmpD x1 d) : Int) ≤ 0))) (by kernel_rfl) ?_
  cases hE : (decide (((cmpD x1 d) : Int) ≤ 0))
  · refine sat_false (by kernel_rfl) ?_
    exact sat_ret (.bool false) (by kernel_rfl) fun w9 h9 => congrArg Value.bool (holds_1 h_x1 hE)
  · refine sat_true (by kernel_rfl) ?_
    refine sat_prim (v := .int .i64 ((t.at_.length : Nat) : Int)) (by kernel_rfl) ?_
    refine sat_prim (v := .int .i64 ((t.at_.length - 1 : Nat) : Int)) (Eq.trans (b := some (.int .i64 (IntKind.i64.wrap (((t.at_.length : Nat) : Int) - 1)))) (by kernel_rfl) (sml (by simp only [maxLen] at M_t1; omega) (by simp only [maxLen] at M_t1; omega))) ?_
    refine sat_idx (A := A_t) (c := c_t) (kk := .i64) (t.at_.length - 1) (by kernel_rfl) (by kernel_rfl) (by omega) F_t1.addr fun g4 o4 e4 => ?_
    obtain ⟨x3, h_x3⟩ : ∃ x_, t.at_[(t.at_.length - 1)]? = some x_ := ⟨_, List.getElem?_eq_getElem (by omega)⟩
    refine sat_el F_t1 e4 h_x3 rfl (by kernel_rfl) (by kernel_rfl) (by kernel_rfl) ?_
    rintro _ ⟨A_L4, n_L4, c_L4, rfl, r_L4⟩
    refine sat_call #[.agg #[.bool d.neg, .slice A_d n_d c_d, .int .i64 d.e], .agg #[.bool x3.neg, .slice A_L4 n_L4 c_L4, .int .i64 x3.e]] (by kernel_rfl) fun w5 h5 => ?_
    refine (cmpD_any _ _ (d) (x3) _ (h5.rdD r_d) (h5.rdD r_L4)).mono ?_
    rintro e v5 ⟨rfl, hb5⟩
    refine ⟨hb5, [.int .i64 (cmpD d x3)], _, rfl, by kernel_rfl, by kernel_rfl, fun g5 => ?_⟩
    replace F_t1 := F_t1.mv g5.mv; replace F_t2 := F_t2.mv g5.mv; replace r_d := g5.rdD r_d; replace r_L2 := g5.rdD r_L2; replace r_L4 := g5.rdD r_L4
    clear h5 hb5
    refine sat_prim (v := .bool (decide (((cmpD d x3) : Int) ≤ 0))) (by kernel_rfl) ?_
    exact sat_ret (.bool (decide (((cmpD d x3) : Int) ≤ 0))) (by kernel_rfl) fun w9 h9 => congrArg Value.bool (holds_2 h_x1 hE h_x3)

end Go.Proofs.YtbpfnooloemieaaGreatDoor
namespace Go.Proofs.YtbpfnooloemieaaGreatDoor
open Go.RowKit Pl
open Sx (sat_call sat_chk sat_prim sat_ite sat_true sat_false sat_trueP sat_falseP sat_ret sat_row sat_callP sat_loop sat_back sat_idx sat_el sat_elf sat_elc sat_load sat_rowN sat_app sat_callB sat_alt rows_one rows_two all_nil all_cons okB okS okI)

theorem cut1 {α : Type} {k : Sx.Kind α} {ok : Nat → Prop} {w : World} {A : Option Addr} {c : Nat} {l : List α} (h : Sx.Rows k ok w A l.length c l) (hl : 1 ≤ l.length) : ∃ B, Sx.cutV k.sz A c 1 (l.length : Int) = some (.slice B (l.drop 1).length (c - 1)) ∧ Sx.Rows k ok w B (l.drop 1).length (c - 1) (l.drop 1) := by
  obtain ⟨B, h1, h2⟩ := h.cut hl (Nat.le_refl _)
  rw [List.take_length] at h2
  rw [List.length_drop]
  exact ⟨B, h1, h2⟩
theorem cc1 {l : List Dy} {i : Nat} {a x y : Dy} (h : l[i + 1]? = some a) (hc : decide (cmpD a x < 0) = true) : (decide (cmpD (atT l (i + 1)) x < 0) || decide ((0 : Int) < cmpD (atT l i) y)) = true := by rw [atT_is h, hc]; rfl
theorem cc2 {l : List Dy} {i : Nat} {a b x y : Dy} {r : Bool} (h : l[i + 1]? = some a) (hc : decide (cmpD a x < 0) = false) (k : l[i]? = some b) (kc : decide ((0 : Int) < cmpD b y) = r) : (decide (cmpD (atT l (i + 1)) x < 0) || decide ((0 : Int) < cmpD (atT l i) y)) = r := by rw [atT_is h, atT_is k, hc, kc]; rfl
theorem over_done {t : Tb} {x y : Dy} {i : Nat} {s : Bool} {all : Iv} (h1 : mayT t = true) (h2 : mayD x = true) (h3 : mayD y = true) (h4 : decide ((0 : Int) < cmpD x y) = false) (h5 : holdsT t x = true) (h6 : holdsT t y = true) (hm : overL t.at_ x y 0 false Iv.zero t.v = overL t.at_ x y i s all (t.v.drop i)) (hlt : decide ((i : Int) < (t.v.length : Int)) = false) : (all, (0 : Int)) = overT t x y := by
  unfold overT
  rw [h1, h2, h3, h4, h5, h6, hm, drop_end hlt]
  rfl
section
variable {f : Iv → Iv → Bool} {a b : Tb} {m i k : Nat} {r : Bool} {x y : Iv} {p q : Dy}
theorem walk_step (hm : r = walkT f a b (m + 1) i k) (hx : a.v[i]? = some x) (hy : b.v[k]? = some y) : r = (f x y && (bif decide (cmpD (atT a.at_ (i + 1)) (atT b.at_ (k + 1)) < 0) then walkT f a b m (i + 1) k else bif cmpD (atT a.at_ (i + 1)) (atT b.at_ (k + 1)) == 0 then walkT f a b m (i + 1) (k + 1) else walkT f a b m i (k + 1))) := by
  rw [hm, show walkT f a b (m + 1) i k = (match a.v[i]?, b.v[k]? with
    | some x, some y => f x y && (bif decide (cmpD (atT a.at_ (i + 1)) (atT b.at_ (k + 1)) < 0) then walkT f a b m (i + 1) k else bif cmpD (atT a.at_ (i + 1)) (atT b.at_ (k + 1)) == 0 then walkT f a b m (i + 1) (k + 1) else walkT f a b m i (k + 1))
    | _, _ => true) from rfl, hx, hy]
theorem walk_no (hm : r = walkT f a b (m + 1) i k) (hx : a.v[i]? = some x) (hy : b.v[k]? = some y) (hf : f x y = false) : false = r := by rw [walk_step hm hx hy, hf]; rfl
theorem walk_lt (hm : r = walkT f a b (m + 1) i k) (hx : a.v[i]? = some x) (hy : b.v[k]? = some y) (hf : f x y = true) (hp : a.at_[i + 1]? = some p) (hq : b.at_[k + 1]? = some q) (hc : decide (cmpD p q < 0) = true) : r = walkT f a b m (i + 1) k := by rw [walk_step hm hx hy, hf, atT_is hp, atT_is hq, hc]; rfl
theorem walk_eq (hm : r = walkT f a b (m + 1) i k) (hx : a.v[i]? = some x) (hy : b.v[k]? = some y) (hf : f x y = true) (hp : a.at_[i + 1]? = some p) (hq : b.at_[k + 1]? = some q) (hc : decide (cmpD p q < 0) = false) (hz : (cmpD p q == 0) = true) : r = walkT f a b m (i + 1) (k + 1) := by rw [walk_step hm hx hy, hf, atT_is hp, atT_is hq, hc, hz]; rfl
theorem walk_gt (hm : r = walkT f a b (m + 1) i k) (hx : a.v[i]? = some x) (hy : b.v[k]? = some y) (hf : f x y = true) (hp : a.at_[i + 1]? = some p) (hq : b.at_[k + 1]? = some q) (hc : decide (cmpD p q < 0) = false) (hz : (cmpD p q == 0) = false) : r = walkT f a b m i (k + 1) := by rw [walk_step hm hx hy, hf, atT_is hp, atT_is hq, hc, hz]; rfl
theorem walk_end {n : Nat} (hm : r = walkT f a b n i k) (h : decide ((i : Int) < (a.v.length : Int)) = false ∨ decide ((k : Int) < (b.v.length : Int)) = false) : true = r := by
  rw [hm]
  cases n with
  | zero => rfl
  | succ n =>
    unfold walkT
    rcases h with h | h
    · have := of_decide_eq_false h
      rw [List.getElem?_eq_none (by omega)]
    · have := of_decide_eq_false h
      rw [List.getElem?_eq_none (l := b.v) (by omega)]
      cases a.v[i]? <;> rfl
end

def tr_tover : Sx.Tree := .chk [.lf 0, .lf 1] (.chk [.lf 2, .lf 3, .lf 4] (.chk [.lf 5, .lf 6, .lf 7] (.call 67 [.ag [.lf 0, .lf 1]] .one (.prim .not [.lf 8] (.ite (.lf 9) (.ret (.tup [(true, [.bit false, .nil, .num .i64 0, .bit false, .nil, .num .i64 0]), (false, [.num .i64 1])])) (.call 71 [.ag [.lf 2, .lf 3, .lf 4]] .one (.prim .not [.lf 10] (.ite (.lf 11) (.ret (.tup [(true, [.bit false, .nil, .num .i64 0, .bit false, .nil, .num .i64 0]), (false, [.num .i64 1])])) (.call 71 [.ag [.lf 5, .lf 6, .lf 7]] .one (.prim .not [.lf 12] (.ite (.lf 13) (.ret (.tup [(true, [.bit false, .nil, .num .i64 0, .bit false, .nil, .num .i64 0]), (false, [.num .i64 1])])) (.call 47 [.ag [.lf 2, .lf 3, .lf 4], .ag [.lf 5, .lf 6, .lf 7]] .one (.prim (.bin .gtr) [.lf 14, .num .i64 0] (.ite (.lf 15) (.ret (.tup [(true, [.bit false, .nil, .num .i64 0, .bit false, .nil, .num .i64 0]), (false, [.num .i64 1])])) (.call 72 [.ag [.lf 0, .lf 1], .ag [.lf 2, .lf 3, .lf 4]] .one (.prim .not [.lf 16] (.ite (.lf 17) (.ret (.tup [(true, [.bit false, .nil, .num .i64 0, .bit false, .nil, .num .i64 0]), (false, [.num .i64 5])])) (.call 72 [.ag [.lf 0, .lf 1], .ag [.lf 5, .lf 6, .lf 7]] .one (.prim .not [.lf 18] (.ite (.lf 19) (.ret (.tup [(true, [.bit false, .nil, .num .i64 0, .bit false, .nil, .num .i64 0]), (false, [.num .i64 5])])) (.prim .len [.lf 1] (.loop 0 [.num .i64 0, .bit false, .bit false, .nil, .num .i64 0, .bit false, .nil, .num .i64 0] (.prim (.bin .lss) [.lf 21, .lf 20] (.ite (.lf 29) (.prim (.idx 6) [.lf 1, .lf 21] (.load 49 (.lf 30) (.ag 6) (.chk [.lf 31, .lf 32, .lf 33, .lf 34, .lf 35, .lf 36] (.prim (.bin .add) [.lf 21, .num .i64 1] (.prim (.idx 3) [.lf 0, .lf 37] (.load 30 (.lf 38) (.ag 3) (.call 47 [.ag [.lf 39, .lf 40, .lf 41], .ag [.lf 2, .lf 3, .lf 4]] .one (.prim (.bin .lss) [.lf 42, .num .i64 0] (.ite (.lf 43) (.prim (.bin .add) [.lf 21, .num .i64 1] (.back 0 [.lf 44, .lf 22, .lf 23, .lf 24, .lf 25, .lf 26, .lf 27, .lf 28])) (.prim (.idx 3) [.lf 0, .lf 21] (.load 30 (.lf 44) (.ag 3) (.call 47 [.ag [.lf 45, .lf 46, .lf 47], .ag [.lf 5, .lf 6, .lf 7]] .one (.prim (.bin .gtr) [.lf 48, .num .i64 0] (.ite (.lf 49) (.prim (.bin .add) [.lf 21, .num .i64 1] (.back 0 [.lf 50, .lf 22, .lf 23, .lf 24, .lf 25, .lf 26, .lf 27, .lf 28])) (.ite (.lf 22) (.call 41 [.ag [.lf 23, .lf 24, .lf 25, .lf 26, .lf 27, .lf 28], .ag [.lf 31, .lf 32, .lf 33, .lf 34, .lf 35, .lf 36]] (.tup [(true, 6), (false, 1)]) (.chk [.lf 50, .lf 51, .lf 52, .lf 53, .lf 54, .lf 55] (.prim (.bin .add) [.lf 21, .num .i64 1] (.back 0 [.lf 57, .lf 22, .lf 50, .lf 51, .lf 52, .lf 53, .lf 54, .lf 55])))) (.chk [.lf 31, .lf 32, .lf 33, .lf 34, .lf 35, .lf 36] (.prim (.bin .add) [.lf 21, .num .i64 1] (.back 0 [.lf 50, .bit true, .lf 31, .lf 32, .lf 33, .lf 34, .lf 35, .lf 36])))))))))))))))))) (.chk [.lf 23, .lf 24, .lf 25, .lf 26, .lf 27, .lf 28] (.ret (.tup [(true, [.lf 23, .lf 24, .lf 25, .lf 26, .lf 27, .lf 28]), (false, [.num .i64 0])])))))))))))))))))))))))))))
theorem tr_tover_eq : Sx.treeAt Tryz.prog 94 [] [4] [(true, 2), (true, 3), (true, 3)] = some tr_tover := by kernel_rfl

theorem overT_any (A_t : Option Addr) (c_t : Nat) (B_t : Option Addr) (d_t : Nat) (v_x : Value) (v_y : Value) (t : Tb) (x : Dy) (y : Dy) (w : World) (h_t1 : Sx.Rows Sx.kD (fun _ => True) w A_t t.at_.length c_t t.at_) (h_t2 : Sx.Rows Sx.kI (fun _ => True) w B_t t.v.length d_t t.v) (h_x : RdD w v_x x) (h_y : RdD w v_y y) :
    Calls Tryz.prog 94 #[.agg #[.slice A_t t.at_.length c_t, .slice B_t t.v.length d_t], v_x, v_y] w fun e w' => IvTup w' e (overT t x y) ∧ Below w.heap.size w w' := by
  have r_x := h_x
  obtain ⟨A_x, n_x, c_x, rfl, _⟩ := h_x
  have r_y := h_y
  obtain ⟨A_y, n_y, c_y, rfl, _⟩ := h_y
  have F_t1 := h_t1.start
  have M_t1 := h_t1.le
  clear h_t1
  have F_t2 := h_t2.start
  have M_t2 := h_t2.le
  clear h_t2
  refine (Sx.runA [] [4] (ls := [.slice A_t t.at_.length c_t, .slice B_t t.v.length d_t, .bool x.neg, .slice A_x n_x c_x, .int .i64 x.e, .bool y.neg, .slice A_y n_y c_y, .int .i64 y.e]) (shs := [(true, 2), (true, 3), (true, 3)]) (R := fun v w' => IvTup w' (.returned v) (overT t x y)) tr_tover_eq rfl (by decide) (fun q h => by cases h) ?_).mono (fun e w' ⟨v, he, hv, hb⟩ => ⟨by rw [he]; exact hv, hb⟩)
  unfold tr_tover
  refine sat_chkB (by kernel_rfl) ?_
  refine sat_chkB (by kernel_rfl) ?_
  refine sat_chkB (by kernel_rfl) ?_
  refine sat_call #[.agg #[.slice A_t t.at_.length c_t, .slice B_t t.v.length d_t]] (by kernel_rfl) fun w1 h1 => ?_
  refine (mayT_any _ _ _ _ t _ ((F_t1.mv h1.mv).any) ((F_t2.mv h1.mv).any)).mono ?_
  rintro e v1 ⟨rfl, hb1⟩
  refine ⟨hb1, [.bool (mayT t)], _, rfl, by kernel_rfl, by kernel_rfl, fun g1 => ?_⟩
  replace F_t1 := F_t1.mv g1.mv; replace F_t2 := F_t2.mv g1.mv; replace r_x := g1.rdD r_x; replace r_y := g1.rdD r_y
  clear h1 hb1
  refine sat_prim (v := .bool (!(mayT t))) (by kernel_rfl) ?_
  cases hMT : (mayT t)
  · refine sat_true (by kernel_rfl) ?_
    exact sat_ret (.tuple #[.agg #[.bool false, .slice none 0 0, .int .i64 0, .bool false, .slice none 0 0, .int .i64 0], .int .i64 1]) (by kernel_rfl) fun w9 h9 => IvTup.zero (by unfold overT; rw [hMT]; rfl)
  · refine sat_false (by kernel_rfl) ?_
    refine sat_call #[.agg #[.bool x.neg, .slice A_x n_x c_x, .int .i64 x.e]] (by kernel_rfl) fun w3 h3 => ?_
    refine (mayD_any _ (x) _ (h3.rdD r_x)).mono ?_
    rintro e v3 ⟨rfl, hb3⟩
    refine ⟨hb3, [.bool (mayD x)], _, rfl, by kernel_rfl, by kernel_rfl, fun g3 => ?_⟩
    replace F_t1 := F_t1.mv g3.mv; replace F_t2 := F_t2.mv g3.mv; replace r_x := g3.rdD r_x; replace r_y := g3.rdD r_y
    clear h3 hb3
    refine sat_prim (v := .bool (!(mayD x))) (by kernel_rfl) ?_
    cases hx : (mayD x)
    · refine sat_true (by kernel_rfl) ?_
      exact sat_ret (.tuple #[.agg #[.bool false, .slice none 0 0, .int .i64 0, .bool false, .slice none 0 0, .int .i64 0], .int .i64 1]) (by kernel_rfl) fun w9 h9 => IvTup.zero (by unfold overT; rw [hMT, hx]; rfl)
    · refine sat_false (by kernel_rfl) ?_
      refine sat_call #[.agg #[.bool y.neg, .slice A_y n_y c_y, .int .i64 y.e]] (by kernel_rfl) fun w5 h5 => ?_
      refine (mayD_any _ (y) _ (h5.rdD r_y)).mono ?_
      rintro e v5 ⟨rfl, hb5⟩
      refine ⟨hb5, [.bool (mayD y)], _, rfl, by kernel_rfl, by kernel_rfl, fun g5 => ?_⟩
      replace F_t1 := F_t1.mv g5.mv; replace F_t2 := F_t2.mv g5.mv; replace r_x := g5.rdD r_x; replace r_y := g5.rdD r_y
      clear h5 hb5
      refine sat_prim (v := .bool (!(mayD y))) (by kernel_rfl) ?_
      cases hy : (mayD y)
      · refine sat_true (by kernel_rfl) ?_
        exact sat_ret (.tuple #[.agg #[.bool false, .slice none 0 0, .int .i64 0, .bool false, .slice none 0 0, .int .i64 0], .int .i64 1]) (by kernel_rfl) fun w9 h9 => IvTup.zero (by unfold overT; rw [hMT, hx, hy]; rfl)
      · refine sat_false (by kernel_rfl) ?_
        refine sat_call #[.agg #[.bool x.neg, .slice A_x n_x c_x, .int .i64 x.e], .agg #[.bool y.neg, .slice A_y n_y c_y, .int .i64 y.e]] (by kernel_rfl) fun w7 h7 => ?_
        refine (cmpD_any _ _ (x) (y) _ (h7.rdD r_x) (h7.rdD r_y)).mono ?_
        rintro e v7 ⟨rfl, hb7⟩
        refine ⟨hb7, [.int .i64 (cmpD x y)], _, rfl, by kernel_rfl, by kernel_rfl, fun g7 => ?_⟩
        replace F_t1 := F_t1.mv g7.mv; replace F_t2 := F_t2.mv g7.mv; replace r_x := g7.rdD r_x; replace r_y := g7.rdD r_y
        clear h7 hb7
        refine sat_prim (v := .bool (decide ((0 : Int) < (cmpD x y)))) (by kernel_rfl) ?_
        cases hxy : (decide ((0 : Int) < (cmpD x y)))
        · refine sat_false (by kernel_rfl) ?_
          refine sat_call #[.agg #[.slice A_t t.at_.length c_t, .slice B_t t.v.length d_t], .agg #[.bool x.neg, .slice A_x n_x c_x, .int .i64 x.e]] (by kernel_rfl) fun w9 h9 => ?_
          refine (holdsT_any _ _ _ _ _ t (x) _ ((F_t1.mv h9.mv).any) ((F_t2.mv h9.mv).any) (h9.rdD r_x) (by have := (MayT.of hMT).len; omega)).mono ?_
          rintro e v9 ⟨rfl, hb9⟩
          refine ⟨hb9, [.bool (holdsT t x)], _, rfl, by kernel_rfl, by kernel_rfl, fun g9 => ?_⟩
          replace F_t1 := F_t1.mv g9.mv; replace F_t2 := F_t2.mv g9.mv; replace r_x := g9.rdD r_x; replace r_y := g9.rdD r_y
          clear h9 hb9
          refine sat_prim (v := .bool (!(holdsT t x))) (by kernel_rfl) ?_
          cases hhx : (holdsT t x)
          · refine sat_true (by kernel_rfl) ?_
            exact sat_ret (.tuple #[.agg #[.bool false, .slice none 0 0, .int .i64 0, .bool false, .slice none 0 0, .int .i64 0], .int .i64 5]) (by kernel_rfl) fun w9 h9 => IvTup.zero (by unfold overT; rw [hMT, hx, hy, hxy, hhx]; rfl)
          · refine sat_false (by kernel_rfl) ?_
            refine sat_call #[.agg #[.slice A_t t.at_.length c_t, .slice B_t t.v.length d_t], .agg #[.bool y.neg, .slice A_y n_y c_y, .int .i64 y.e]] (by kernel_rfl) fun w11 h11 => ?_
            refine (holdsT_any _ _ _ _ _ t (y) _ ((F_t1.mv h11.mv).any) ((F_t2.mv h11.mv).any) (h11.rdD r_y) (by have := (MayT.of hMT).len; omega)).mono ?_
            rintro e v11 ⟨rfl, hb11⟩
            refine ⟨hb11, [.bool (holdsT t y)], _, rfl, by kernel_rfl, by kernel_rfl, fun g11 => ?_⟩
            replace F_t1 := F_t1.mv g11.mv; replace F_t2 := F_t2.mv g11.mv; replace r_x := g11.rdD r_x; replace r_y := g11.rdD r_y
            clear h11 hb11
            refine sat_prim (v := .bool (!(holdsT t y))) (by kernel_rfl) ?_
            cases hhy : (holdsT t y)
            · refine sat_true (by kernel_rfl) ?_
              exact sat_ret (.tuple #[.agg #[.bool false, .slice none 0 0, .int .i64 0, .bool false, .slice none 0 0, .int .i64 0], .int .i64 5]) (by kernel_rfl) fun w9 h9 => IvTup.zero (by unfold overT; rw [hMT, hx, hy, hxy, hhx, hhy]; rfl)
            · refine sat_false (by kernel_rfl) ?_
              refine sat_prim (v := .int .i64 ((t.v.length : Nat) : Int)) (by kernel_rfl) ?_
              refine sat_loop (fun Kn vs W => ∃ (i : Nat) (s : Bool) (all : Iv) (A_a : Option Addr) (n_a : Nat) (c_a : Nat) (B_a : Option Addr) (m_a : Nat) (k_a : Nat), vs = [.int .i64 ((i : Nat) : Int), .bool s, .bool all.lo.neg, .slice A_a n_a c_a, .int .i64 all.lo.e, .bool all.hi.neg, .slice B_a m_a k_a, .int .i64 all.hi.e] ∧ Kn = t.v.length - i ∧ i ≤ t.v.length ∧ (RdD W.toWorld (.agg #[.bool all.lo.neg, .slice A_a n_a c_a, .int .i64 all.lo.e]) all.lo) ∧ (RdD W.toWorld (.agg #[.bool all.hi.neg, .slice B_a m_a k_a, .int .i64 all.hi.e]) all.hi) ∧ (overL t.at_ x y 0 false Iv.zero t.v = overL t.at_ x y i s all (t.v.drop i))) [.int .i64 0, .bool false, .bool false, .slice none 0 0, .int .i64 0, .bool false, .slice none 0 0, .int .i64 0] (by kernel_rfl) (fun w1 h1 => ⟨_, 0, false, Iv.zero, none, 0, 0, none, 0, 0, rfl, rfl, Nat.zero_le _, RdD.zero _, RdD.zero _, rfl⟩) ?_
              rintro Kn vs w13 h13 ⟨i, s, all, A_a, n_a, c_a, B_a, m_a, k_a, rfl, rfl, h_i, r_al, r_ah, hm⟩
              replace F_t1 := F_t1.mv h13.mv; replace F_t2 := F_t2.mv h13.mv; replace r_x := h13.rdD r_x; replace r_y := h13.rdD r_y
              clear h13
              refine sat_prim (v := .bool (decide ((((i : Nat) : Int) : Int) < ((t.v.length : Nat) : Int)))) (by kernel_rfl) ?_
              cases hlt : (decide ((((i : Nat) : Int) : Int) < ((t.v.length : Nat) : Int)))
              · refine sat_false (by kernel_rfl) ?_
                refine sat_chkB (by kernel_rfl) ?_
                exact sat_ret (.tuple #[.agg #[.bool all.lo.neg, .slice A_a n_a c_a, .int .i64 all.lo.e, .bool all.hi.neg, .slice B_a m_a k_a, .int .i64 all.hi.e], .int .i64 0]) (by kernel_rfl) fun w9 h9 => ⟨all.lo, all.hi, 0, A_a, n_a, c_a, B_a, m_a, k_a, hide (over_done hMT hx hy hxy hhx hhy hm hlt), rfl, h9.rdD r_al, h9.rdD r_ah⟩
              · refine sat_true (by kernel_rfl) ?_
                refine sat_idx (A := B_t) (c := d_t) (kk := .i64) (i) (by kernel_rfl) (by kernel_rfl) (lt_of hlt) F_t2.addr fun g15 o15 e15 => ?_
                obtain ⟨x1, h_x1⟩ : ∃ x_, t.v[(i)]? = some x_ := ⟨_, List.getElem?_eq_getElem (lt_of hlt)⟩
                refine sat_el F_t2 e15 h_x1 rfl (by kernel_rfl) (by kernel_rfl) (by kernel_rfl) ?_
                rintro _ ⟨A_L2, n_L2, c_L2, B_L2, m_L2, k_L2, rfl, r_L2l, r_L2h⟩
                refine sat_chkB (by kernel_rfl) ?_
                refine sat_prim (v := .int .i64 (((i + 1 : Nat)) : Int)) (Eq.trans (b := some (.int .i64 (IntKind.i64.wrap ((((i) : Nat) : Int) + 1)))) (by kernel_rfl) (by rw [Sx.wrap_succ (n := t.v.length) (lt_of hlt) M_t2])) ?_
                refine sat_idx (A := A_t) (c := c_t) (kk := .i64) (((i + 1 : Nat))) (by kernel_rfl) (by kernel_rfl) (by have := lt_of hlt; have := (MayT.of hMT).len; omega) F_t1.addr fun g16 o16 e16 => ?_
                obtain ⟨x3, h_x3⟩ : ∃ x_, t.at_[(((i + 1 : Nat)))]? = some x_ := ⟨_, List.getElem?_eq_getElem (by have := lt_of hlt; have := (MayT.of hMT).len; omega)⟩
                refine sat_el F_t1 e16 h_x3 rfl (by kernel_rfl) (by kernel_rfl) (by kernel_rfl) ?_
                rintro _ ⟨A_L4, n_L4, c_L4, rfl, r_L4⟩
                refine sat_call #[.agg #[.bool x3.neg, .slice A_L4 n_L4 c_L4, .int .i64 x3.e], .agg #[.bool x.neg, .slice A_x n_x c_x, .int .i64 x.e]] (by kernel_rfl) fun w17 h17 => ?_
                refine (cmpD_any _ _ (x3) (x) _ (h17.rdD r_L4) (h17.rdD r_x)).mono ?_
                rintro e v17 ⟨rfl, hb17⟩
                refine ⟨hb17, [.int .i64 (cmpD x3 x)], _, rfl, by kernel_rfl, by kernel_rfl, fun g17 => ?_⟩
                replace F_t1 := F_t1.mv g17.mv; replace F_t2 := F_t2.mv g17.mv; replace r_x := g17.rdD r_x; replace r_y := g17.rdD r_y; replace r_al := g17.rdD r_al; replace r_ah := g17.rdD r_ah; replace r_L2l := g17.rdD r_L2l; replace r_L2h := g17.rdD r_L2h; replace r_L4 := g17.rdD r_L4
                clear h17 hb17
                refine sat_prim (v := .bool (decide (((cmpD x3 x) : Int) < 0))) (by kernel_rfl) ?_
                cases hc1 : (decide (((cmpD x3 x) : Int) < 0))
                · refine sat_false (by kernel_rfl) ?_
                  refine sat_idx (A := A_t) (c := c_t) (kk := .i64) (i) (by kernel_rfl) (by kernel_rfl) (by have := lt_of hlt; have := (MayT.of hMT).len; omega) F_t1.addr fun g19 o19 e19 => ?_
                  obtain ⟨x5, h_x5⟩ : ∃ x_, t.at_[(i)]? = some x_ := ⟨_, List.getElem?_eq_getElem (by have := lt_of hlt; have := (MayT.of hMT).len; omega)⟩
                  refine sat_el F_t1 e19 h_x5 rfl (by kernel_rfl) (by kernel_rfl) (by kernel_rfl) ?_
                  rintro _ ⟨A_L6, n_L6, c_L6, rfl, r_L6⟩
                  refine sat_call #[.agg #[.bool x5.neg, .slice A_L6 n_L6 c_L6, .int .i64 x5.e], .agg #[.bool y.neg, .slice A_y n_y c_y, .int .i64 y.e]] (by kernel_rfl) fun w20 h20 => ?_
                  refine (cmpD_any _ _ (x5) (y) _ (h20.rdD r_L6) (h20.rdD r_y)).mono ?_
                  rintro e v20 ⟨rfl, hb20⟩
                  refine ⟨hb20, [.int .i64 (cmpD x5 y)], _, rfl, by kernel_rfl, by kernel_rfl, fun g20 => ?_⟩
                  replace F_t1 := F_t1.mv g20.mv; replace F_t2 := F_t2.mv g20.mv; replace r_x := g20.rdD r_x; replace r_y := g20.rdD r_y; replace r_al := g20.rdD r_al; replace r_ah := g20.rdD r_ah; replace r_L2l := g20.rdD r_L2l; replace r_L2h := g20.rdD r_L2h; replace r_L4 := g20.rdD r_L4; replace r_L6 := g20.rdD r_L6
                  clear h20 hb20
                  refine sat_prim (v := .bool (decide ((0 : Int) < (cmpD x5 y)))) (by kernel_rfl) ?_
                  cases hc2 : (decide ((0 : Int) < (cmpD x5 y)))
                  · refine sat_false (by kernel_rfl) ?_
                    cases hs : (s)
                    · refine sat_false (by kernel_rfl) ?_
                      refine sat_chkB (by kernel_rfl) ?_
                      refine sat_prim (v := .int .i64 (((i + 1 : Nat)) : Int)) (Eq.trans (b := some (.int .i64 (IntKind.i64.wrap ((((i) : Nat) : Int) + 1)))) (by kernel_rfl) (by rw [Sx.wrap_succ (n := t.v.length) (lt_of hlt) M_t2])) ?_
                      exact sat_back [.int .i64 (((i + 1 : Nat)) : Int), .bool true, .bool x1.lo.neg, .slice A_L2 n_L2 c_L2, .int .i64 x1.lo.e, .bool x1.hi.neg, .slice B_L2 m_L2 k_L2, .int .i64 x1.hi.e] (by kernel_rfl) fun w9 h9 => ⟨_, by have := lt_of hlt; omega, i + 1, _, x1, _, _, _, _, _, _, rfl, rfl, by have := lt_of hlt; omega, h9.rdD r_L2l, h9.rdD r_L2h, over_new hm h_x1 (cc2 h_x3 hc1 h_x5 hc2) hs⟩
                    · refine sat_true (by kernel_rfl) ?_
                      refine sat_call #[.agg #[.bool all.lo.neg, .slice A_a n_a c_a, .int .i64 all.lo.e, .bool all.hi.neg, .slice B_a m_a k_a, .int .i64 all.hi.e], .agg #[.bool x1.lo.neg, .slice A_L2 n_L2 c_L2, .int .i64 x1.lo.e, .bool x1.hi.neg, .slice B_L2 m_L2 k_L2, .int .i64 x1.hi.e]] (by kernel_rfl) fun w23 h23 => ?_
                      refine (hullI_any _ _ all x1 _ (mkI (h23.rdD r_al) (h23.rdD r_ah)) (mkI (h23.rdD r_L2l) (h23.rdD r_L2h))).mono ?_
                      rintro e v23 ⟨⟨l_h7, g_h7, x_h7, A_h7, n_h7, c_h7, B_h7, m_h7, k_h7, h_h7, rfl, r_h7l, r_h7h⟩, hb23⟩
                      refine ⟨hb23, [.bool l_h7.neg, .slice A_h7 n_h7 c_h7, .int .i64 l_h7.e, .bool g_h7.neg, .slice B_h7 m_h7 k_h7, .int .i64 g_h7.e, .int .i64 x_h7], _, rfl, by kernel_rfl, by kernel_rfl, fun g23 => ?_⟩
                      replace F_t1 := F_t1.mv g23.mv; replace F_t2 := F_t2.mv g23.mv; replace r_x := g23.rdD r_x; replace r_y := g23.rdD r_y; replace r_al := g23.rdD r_al; replace r_ah := g23.rdD r_ah; replace r_L2l := g23.rdD r_L2l; replace r_L2h := g23.rdD r_L2h; replace r_L4 := g23.rdD r_L4; replace r_L6 := g23.rdD r_L6
                      clear h23 hb23
                      refine sat_chkB (by kernel_rfl) ?_
                      refine sat_prim (v := .int .i64 (((i + 1 : Nat)) : Int)) (Eq.trans (b := some (.int .i64 (IntKind.i64.wrap ((((i) : Nat) : Int) + 1)))) (by kernel_rfl) (by rw [Sx.wrap_succ (n := t.v.length) (lt_of hlt) M_t2])) ?_
                      exact sat_back [.int .i64 (((i + 1 : Nat)) : Int), .bool true, .bool l_h7.neg, .slice A_h7 n_h7 c_h7, .int .i64 l_h7.e, .bool g_h7.neg, .slice B_h7 m_h7 k_h7, .int .i64 g_h7.e] (by kernel_rfl) fun w9 h9 => ⟨_, by have := lt_of hlt; omega, i + 1, _, ⟨l_h7, g_h7⟩, _, _, _, _, _, _, rfl, rfl, by have := lt_of hlt; omega, h9.rdD r_h7l, h9.rdD r_h7h, over_hull hm h_x1 (cc2 h_x3 hc1 h_x5 hc2) hs h_h7⟩
                  · refine sat_true (by kernel_rfl) ?_
                    refine sat_prim (v := .int .i64 (((i + 1 : Nat)) : Int)) (Eq.trans (b := some (.int .i64 (IntKind.i64.wrap ((((i) : Nat) : Int) + 1)))) (by kernel_rfl) (by rw [Sx.wrap_succ (n := t.v.length) (lt_of hlt) M_t2])) ?_
                    exact sat_back [.int .i64 (((i + 1 : Nat)) : Int), .bool s, .bool all.lo.neg, .slice A_a n_a c_a, .int .i64 all.lo.e, .bool all.hi.neg, .slice B_a m_a k_a, .int .i64 all.hi.e] (by kernel_rfl) fun w9 h9 => ⟨_, by have := lt_of hlt; omega, i + 1, _, all, _, _, _, _, _, _, rfl, rfl, by have := lt_of hlt; omega, h9.rdD r_al, h9.rdD r_ah, over_skip hm h_x1 (cc2 h_x3 hc1 h_x5 hc2)⟩
                · refine sat_true (by kernel_rfl) ?_
                  refine sat_prim (v := .int .i64 (((i + 1 : Nat)) : Int)) (Eq.trans (b := some (.int .i64 (IntKind.i64.wrap ((((i) : Nat) : Int) + 1)))) (by kernel_rfl) (by rw [Sx.wrap_succ (n := t.v.length) (lt_of hlt) M_t2])) ?_
                  exact sat_back [.int .i64 (((i + 1 : Nat)) : Int), .bool s, .bool all.lo.neg, .slice A_a n_a c_a, .int .i64 all.lo.e, .bool all.hi.neg, .slice B_a m_a k_a, .int .i64 all.hi.e] (by kernel_rfl) fun w9 h9 => ⟨_, by have := lt_of hlt; omega, i + 1, _, all, _, _, _, _, _, _, rfl, rfl, by have := lt_of hlt; omega, h9.rdD r_al, h9.rdD r_ah, over_skip hm h_x1 (cc1 h_x3 hc1)⟩
        · refine sat_true (by kernel_rfl) ?_
          exact sat_ret (.tuple #[.agg #[.bool false, .slice none 0 0, .int .i64 0, .bool false, .slice none 0 0, .int .i64 0], .int .i64 1]) (by kernel_rfl) fun w9 h9 => IvTup.zero (by unfold overT; rw [hMT, hx, hy, hxy]; rfl)

def tr_tat : Sx.Tree := .chk [.lf 0, .lf 1] (.chk [.lf 2, .lf 3, .lf 4] (.call 94 [.ag [.lf 0, .lf 1], .ag [.lf 2, .lf 3, .lf 4], .ag [.lf 2, .lf 3, .lf 4]] (.tup [(true, 6), (false, 1)]) (.chk [.lf 5, .lf 6, .lf 7, .lf 8, .lf 9, .lf 10] (.ret (.tup [(true, [.lf 5, .lf 6, .lf 7, .lf 8, .lf 9, .lf 10]), (false, [.lf 11])])))))
theorem tr_tat_eq : Sx.treeAt Tryz.prog 66 [] [] [(true, 2), (true, 3)] = some tr_tat := by kernel_rfl

theorem atT_any (A_t : Option Addr) (c_t : Nat) (B_t : Option Addr) (d_t : Nat) (v_d : Value) (t : Tb) (d : Dy) (w : World) (h_t1 : Sx.Rows Sx.kD (fun _ => True) w A_t t.at_.length c_t t.at_) (h_t2 : Sx.Rows Sx.kI (fun _ => True) w B_t t.v.length d_t t.v) (h_d : RdD w v_d d) :
    Calls Tryz.prog 66 #[.agg #[.slice A_t t.at_.length c_t, .slice B_t t.v.length d_t], v_d] w fun e w' => IvTup w' e (overT t d d) ∧ Below w.heap.size w w' := by
  have r_d := h_d
  obtain ⟨A_d, n_d, c_d, rfl, _⟩ := h_d
  have F_t1 := h_t1.start
  have M_t1 := h_t1.le
  clear h_t1
  have F_t2 := h_t2.start
  have M_t2 := h_t2.le
  clear h_t2
  refine (Sx.runA [] [] (ls := [.slice A_t t.at_.length c_t, .slice B_t t.v.length d_t, .bool d.neg, .slice A_d n_d c_d, .int .i64 d.e]) (shs := [(true, 2), (true, 3)]) (R := fun v w' => IvTup w' (.returned v) (overT t d d)) tr_tat_eq rfl (by decide) (fun q h => by cases h) ?_).mono (fun e w' ⟨v, he, hv, hb⟩ => ⟨by rw [he]; exact hv, hb⟩)
  unfold tr_tat
  refine sat_chkB (by kernel_rfl) ?_
  refine sat_chkB (by kernel_rfl) ?_
  refine sat_call #[.agg #[.slice A_t t.at_.length c_t, .slice B_t t.v.length d_t], .agg #[.bool d.neg, .slice A_d n_d c_d, .int .i64 d.e], .agg #[.bool d.neg, .slice A_d n_d c_d, .int .i64 d.e]] (by kernel_rfl) fun w1 h1 => ?_
  refine (overT_any _ _ _ _ _ _ t (d) (d) _ ((F_t1.mv h1.mv).any) ((F_t2.mv h1.mv).any) (h1.rdD r_d) (h1.rdD r_d)).mono ?_
  rintro e v1 ⟨⟨l_o1, g_o1, x_o1, A_o1, n_o1, c_o1, B_o1, m_o1, k_o1, h_o1, rfl, r_o1l, r_o1h⟩, hb1⟩
  refine ⟨hb1, [.bool l_o1.neg, .slice A_o1 n_o1 c_o1, .int .i64 l_o1.e, .bool g_o1.neg, .slice B_o1 m_o1 k_o1, .int .i64 g_o1.e, .int .i64 x_o1], _, rfl, by kernel_rfl, by kernel_rfl, fun g1 => ?_⟩
  replace F_t1 := F_t1.mv g1.mv; replace F_t2 := F_t2.mv g1.mv; replace r_d := g1.rdD r_d
  clear h1 hb1
  refine sat_chkB (by kernel_rfl) ?_
  exact sat_ret (.tuple #[.agg #[.bool l_o1.neg, .slice A_o1 n_o1 c_o1, .int .i64 l_o1.e, .bool g_o1.neg, .slice B_o1 m_o1 k_o1, .int .i64 g_o1.e], .int .i64 x_o1]) (by kernel_rfl) fun w9 h9 => ⟨l_o1, g_o1, x_o1, A_o1, n_o1, c_o1, B_o1, m_o1, k_o1, h_o1, rfl, h9.rdD r_o1l, h9.rdD r_o1h⟩

def tr_tjoin : Sx.Tree := .chk [.lf 0, .lf 1] (.chk [.lf 2, .lf 3] (.call 67 [.ag [.lf 0, .lf 1]] .one (.prim .not [.lf 4] (.ite (.lf 5) (.ret (.tup [(true, [.nil, .nil]), (false, [.num .i64 1])])) (.call 67 [.ag [.lf 2, .lf 3]] .one (.prim .not [.lf 6] (.ite (.lf 7) (.ret (.tup [(true, [.nil, .nil]), (false, [.num .i64 1])])) (.prim .len [.lf 0] (.prim (.bin .sub) [.lf 8, .num .i64 1] (.prim (.idx 3) [.lf 0, .lf 9] (.load 30 (.lf 10) (.ag 3) (.prim (.idx 3) [.lf 2, .num .i64 0] (.load 30 (.lf 14) (.ag 3) (.call 47 [.ag [.lf 11, .lf 12, .lf 13], .ag [.lf 15, .lf 16, .lf 17]] .one (.prim (.bin .neq) [.lf 18, .num .i64 0] (.ite (.lf 19) (.ret (.tup [(true, [.nil, .nil]), (false, [.num .i64 1])])) (.prim .len [.lf 1] (.prim .len [.lf 3] (.prim (.bin .add) [.lf 20, .lf 21] (.prim (.bin .gtr) [.lf 22, .num .i64 256] (.ite (.lf 23) (.ret (.tup [(true, [.nil, .nil]), (false, [.num .i64 1])])) (.prim (.slc 3 true false) [.lf 2, .num .i64 1] (.alt (.row 23 [.lf 0, .lf 24] 2 [.lf 0, .lf 24] (.alt (.call 92 [.one (.lf 25)] .one (.row 22 [.lf 1, .lf 3] 2 [.lf 1, .lf 3] (.call 93 [.one (.lf 27)] .one (.chk [.lf 26, .lf 28] (.chk [.lf 26, .lf 28] (.ret (.tup [(true, [.lf 26, .lf 28]), (false, [.num .i64 0])]))))))) (.row 22 [.lf 1, .lf 3] 2 [.lf 1, .lf 3] (.call 92 [.one (.lf 25)] .one (.call 93 [.one (.lf 26)] .one (.chk [.lf 27, .lf 28] (.chk [.lf 27, .lf 28] (.ret (.tup [(true, [.lf 27, .lf 28]), (false, [.num .i64 0])]))))))))) (.row 22 [.lf 1, .lf 3] 2 [.lf 1, .lf 3] (.row 23 [.lf 0, .lf 24] 2 [.lf 0, .lf 24] (.call 92 [.one (.lf 26)] .one (.call 93 [.one (.lf 25)] .one (.chk [.lf 27, .lf 28] (.chk [.lf 27, .lf 28] (.ret (.tup [(true, [.lf 27, .lf 28]), (false, [.num .i64 0])])))))))))))))))))))))))))))))))
theorem tr_tjoin_eq : Sx.treeAt Tryz.prog 65 [] [] [(true, 2), (true, 2)] = some tr_tjoin := by kernel_rfl

theorem joinT_any (A_a : Option Addr) (c_a : Nat) (B_a : Option Addr) (d_a : Nat) (A_b : Option Addr) (c_b : Nat) (B_b : Option Addr) (d_b : Nat) (a : Tb) (b : Tb) (w : World) (h_a1 : Sx.Rows Sx.kD (fun _ => True) w A_a a.at_.length c_a a.at_) (h_a2 : Sx.Rows Sx.kI (fun _ => True) w B_a a.v.length d_a a.v) (h_b1 : Sx.Rows Sx.kD (fun _ => True) w A_b b.at_.length c_b b.at_) (h_b2 : Sx.Rows Sx.kI (fun _ => True) w B_b b.v.length d_b b.v) :
    Calls Tryz.prog 65 #[.agg #[.slice A_a a.at_.length c_a, .slice B_a a.v.length d_a], .agg #[.slice A_b b.at_.length c_b, .slice B_b b.v.length d_b]] w fun e w' => TbTup w w' e (joinT a b) ∧ Below w.heap.size w w' := by
  have F_a1 := h_a1.start
  have M_a1 := h_a1.le
  clear h_a1
  have F_a2 := h_a2.start
  have M_a2 := h_a2.le
  clear h_a2
  have F_b1 := h_b1.start
  have M_b1 := h_b1.le
  clear h_b1
  have F_b2 := h_b2.start
  have M_b2 := h_b2.le
  clear h_b2
  refine (Sx.runA [] [] (ls := [.slice A_a a.at_.length c_a, .slice B_a a.v.length d_a, .slice A_b b.at_.length c_b, .slice B_b b.v.length d_b]) (shs := [(true, 2), (true, 2)]) (R := fun v w' => TbTup w w' (.returned v) (joinT a b)) tr_tjoin_eq rfl (by decide) (fun q h => by cases h) ?_).mono (fun e w' ⟨v, he, hv, hb⟩ => ⟨by rw [he]; exact hv, hb⟩)
  unfold tr_tjoin
  refine sat_chkB (by kernel_rfl) ?_
  refine sat_chkB (by kernel_rfl) ?_
  refine sat_call #[.agg #[.slice A_a a.at_.length c_a, .slice B_a a.v.length d_a]] (by kernel_rfl) fun w1 h1 => ?_
  refine (mayT_any _ _ _ _ a _ ((F_a1.mv h1.mv).any) ((F_a2.mv h1.mv).any)).mono ?_
  rintro e v1 ⟨rfl, hb1⟩
  refine ⟨hb1, [.bool (mayT a)], _, rfl, by kernel_rfl, by kernel_rfl, fun g1 => ?_⟩
  replace F_a1 := F_a1.mv g1.mv; replace F_a2 := F_a2.mv g1.mv; replace F_b1 := F_b1.mv g1.mv; replace F_b2 := F_b2.mv g1.mv
  clear h1 hb1
  refine sat_prim (v := .bool (!(mayT a))) (by kernel_rfl) ?_
  cases hMa : (mayT a)
  · refine sat_true (by kernel_rfl) ?_
    exact sat_ret (.tuple #[.agg #[.slice none 0 0, .slice none 0 0], .int .i64 1]) (by kernel_rfl) fun w9 h9 => TbTup.nil (by unfold joinT; rw [hMa]; rfl)
  · refine sat_false (by kernel_rfl) ?_
    refine sat_call #[.agg #[.slice A_b b.at_.length c_b, .slice B_b b.v.length d_b]] (by kernel_rfl) fun w3 h3 => ?_
    refine (mayT_any _ _ _ _ b _ ((F_b1.mv h3.mv).any) ((F_b2.mv h3.mv).any)).mono ?_
    rintro e v3 ⟨rfl, hb3⟩
    refine ⟨hb3, [.bool (mayT b)], _, rfl, by kernel_rfl, by kernel_rfl, fun g3 => ?_⟩
    replace F_a1 := F_a1.mv g3.mv; replace F_a2 := F_a2.mv g3.mv; replace F_b1 := F_b1.mv g3.mv; replace F_b2 := F_b2.mv g3.mv
    clear h3 hb3
    refine sat_prim (v := .bool (!(mayT b))) (by kernel_rfl) ?_
    cases hMb : (mayT b)
    · refine sat_true (by kernel_rfl) ?_
      exact sat_ret (.tuple #[.agg #[.slice none 0 0, .slice none 0 0], .int .i64 1]) (by kernel_rfl) fun w9 h9 => TbTup.nil (by unfold joinT; rw [hMa, hMb]; rfl)
    · refine sat_false (by kernel_rfl) ?_
      refine sat_prim (v := .int .i64 ((a.at_.length : Nat) : Int)) (by kernel_rfl) ?_
      refine sat_prim (v := .int .i64 ((a.at_.length - 1 : Nat) : Int)) (Eq.trans (b := some (.int .i64 (IntKind.i64.wrap (((a.at_.length : Nat) : Int) - 1)))) (by kernel_rfl) (sml (by have := (MayT.of hMa).few; have := (MayT.of hMa).len; have := (MayT.of hMa).pos; have := (MayT.of hMb).few; have := (MayT.of hMb).len; have := (MayT.of hMb).pos; omega) (by have := (MayT.of hMa).few; have := (MayT.of hMa).len; have := (MayT.of hMa).pos; have := (MayT.of hMb).few; have := (MayT.of hMb).len; have := (MayT.of hMb).pos; omega))) ?_
      refine sat_idx (A := A_a) (c := c_a) (kk := .i64) (a.at_.length - 1) (by kernel_rfl) (by kernel_rfl) (by have := (MayT.of hMa).few; have := (MayT.of hMa).len; have := (MayT.of hMa).pos; have := (MayT.of hMb).few; have := (MayT.of hMb).len; have := (MayT.of hMb).pos; omega) F_a1.addr fun g5 o5 e5 => ?_
      obtain ⟨x1, h_x1⟩ : ∃ x_, a.at_[(a.at_.length - 1)]? = some x_ := ⟨_, List.getElem?_eq_getElem (by have := (MayT.of hMa).few; have := (MayT.of hMa).len; have := (MayT.of hMa).pos; have := (MayT.of hMb).few; have := (MayT.of hMb).len; have := (MayT.of hMb).pos; omega)⟩
      refine sat_el F_a1 e5 h_x1 rfl (by kernel_rfl) (by kernel_rfl) (by kernel_rfl) ?_
      rintro _ ⟨A_L2, n_L2, c_L2, rfl, r_L2⟩
      refine sat_idx (A := A_b) (c := c_b) (kk := .i64) 0 (by kernel_rfl) (by kernel_rfl) (by have := (MayT.of hMa).few; have := (MayT.of hMa).len; have := (MayT.of hMa).pos; have := (MayT.of hMb).few; have := (MayT.of hMb).len; have := (MayT.of hMb).pos; omega) F_b1.addr fun g6 o6 e6 => ?_
      obtain ⟨x3, h_x3⟩ : ∃ x_, b.at_[0]? = some x_ := ⟨_, List.getElem?_eq_getElem (by have := (MayT.of hMa).few; have := (MayT.of hMa).len; have := (MayT.of hMa).pos; have := (MayT.of hMb).few; have := (MayT.of hMb).len; have := (MayT.of hMb).pos; omega)⟩
      refine sat_el F_b1 e6 h_x3 rfl (by kernel_rfl) (by kernel_rfl) (by kernel_rfl) ?_
      rintro _ ⟨A_L4, n_L4, c_L4, rfl, r_L4⟩
      refine sat_call #[.agg #[.bool x1.neg, .slice A_L2 n_L2 c_L2, .int .i64 x1.e], .agg #[.bool x3.neg, .slice A_L4 n_L4 c_L4, .int .i64 x3.e]] (by kernel_rfl) fun w7 h7 => ?_
      refine (cmpD_any _ _ (x1) (x3) _ (h7.rdD r_L2) (h7.rdD r_L4)).mono ?_
      rintro e v7 ⟨rfl, hb7⟩
      refine ⟨hb7, [.int .i64 (cmpD x1 x3)], _, rfl, by kernel_rfl, by kernel_rfl, fun g7 => ?_⟩
      replace F_a1 := F_a1.mv g7.mv; replace F_a2 := F_a2.mv g7.mv; replace F_b1 := F_b1.mv g7.mv; replace F_b2 := F_b2.mv g7.mv; replace r_L2 := g7.rdD r_L2; replace r_L4 := g7.rdD r_L4
      clear h7 hb7
      refine sat_prim (v := .bool (((cmpD x1 x3) : Int) != 0)) (by kernel_rfl) ?_
      cases hC : (((cmpD x1 x3) : Int) != 0)
      · refine sat_false (by kernel_rfl) ?_
        refine sat_prim (v := .int .i64 ((a.v.length : Nat) : Int)) (by kernel_rfl) ?_
        refine sat_prim (v := .int .i64 ((b.v.length : Nat) : Int)) (by kernel_rfl) ?_
        refine sat_prim (v := .int .i64 ((a.v.length + b.v.length : Nat) : Int)) (Eq.trans (b := some (.int .i64 (IntKind.i64.wrap (((a.v.length : Nat) : Int) + ((b.v.length : Nat) : Int))))) (by kernel_rfl) (sml (by have := (MayT.of hMa).few; have := (MayT.of hMa).len; have := (MayT.of hMa).pos; have := (MayT.of hMb).few; have := (MayT.of hMb).len; have := (MayT.of hMb).pos; omega) (by have := (MayT.of hMa).few; have := (MayT.of hMa).len; have := (MayT.of hMa).pos; have := (MayT.of hMb).few; have := (MayT.of hMb).len; have := (MayT.of hMb).pos; omega))) ?_
        refine sat_prim (v := .bool (decide ((256 : Int) < ((a.v.length + b.v.length : Nat) : Int)))) (by kernel_rfl) ?_
        cases hS : (decide ((256 : Int) < ((a.v.length + b.v.length : Nat) : Int)))
        · refine sat_false (by kernel_rfl) ?_
          obtain ⟨C_D5, e_D5, F_D5⟩ := cut1 F_b1 (by have := (MayT.of hMa).few; have := (MayT.of hMa).len; have := (MayT.of hMa).pos; have := (MayT.of hMb).few; have := (MayT.of hMb).len; have := (MayT.of hMb).pos; omega)
          refine sat_prim (v := .slice C_D5 (b.at_.drop 1).length (c_b - 1)) (Eq.trans (by kernel_rfl) e_D5) ?_
          refine sat_alt ?_ ?_
          · refine sat_rowN [.slice A_a a.at_.length c_a, .slice C_D5 (b.at_.drop 1).length (c_b - 1)] (by kernel_rfl) (all_cons (by kernel_rfl) (all_cons (by kernel_rfl) all_nil)) fun u1 h1 B1 NB1 => ?_
            replace F_a1 := F_a1.mv h1.mv; replace F_a2 := F_a2.mv h1.mv; replace F_b1 := F_b1.mv h1.mv; replace F_b2 := F_b2.mv h1.mv; replace r_L2 := h1.rdD r_L2; replace r_L4 := h1.rdD r_L4; replace F_D5 := F_D5.mv h1.mv
            have F_R6 : Sx.Rows Sx.kR (Sx.NB _) _ (some ⟨u1.heap.size, 0, none⟩) 2 2 [(A_a, a.at_.length, c_a), (C_D5, (b.at_.drop 1).length, (c_b - 1))] := rows_two (k := Sx.kR) (cs := [.slice A_a a.at_.length c_a]) B1 NB1 rfl rfl
            generalize u1.heap.size = N_R6 at *
            generalize (u1.alloc _) = w_R6 at *
            clear B1 h1 NB1
            refine sat_alt ?_ ?_
            · refine sat_call #[.slice (some ⟨N_R6, 0, none⟩) 2 2] (by kernel_rfl) fun w10 h10 => ?_
              refine (concDyad_any _ _ _ _ _ _ a.at_ (b.at_.drop 1) _ (((F_R6.mv h10.mv).any)) (((F_a1.mv h10.mv).any)) (((F_D5.mv h10.mv).any)) (by have := (MayT.of hMa).few; have := (MayT.of hMa).len; have := (MayT.of hMa).pos; have := (MayT.of hMb).few; have := (MayT.of hMb).len; have := (MayT.of hMb).pos; omega) (by have := (MayT.of hMa).few; have := (MayT.of hMa).len; have := (MayT.of hMa).pos; have := (MayT.of hMb).few; have := (MayT.of hMb).len; have := (MayT.of hMb).pos; rw [List.length_drop]; omega) (by have := (MayT.of hMa).few; have := (MayT.of hMa).len; have := (MayT.of hMa).pos; have := (MayT.of hMb).few; have := (MayT.of hMb).len; have := (MayT.of hMb).pos; rw [List.length_drop]; omega)).mono ?_
              rintro e v10 ⟨⟨A_c7, c_c7, rfl, F_c7⟩, hb10⟩
              refine ⟨hb10, [.slice A_c7 (a.at_ ++ (b.at_.drop 1)).length c_c7], _, rfl, by kernel_rfl, by kernel_rfl, fun g10 => ?_⟩
              replace F_a1 := F_a1.mv g10.mv; replace F_a2 := F_a2.mv g10.mv; replace F_b1 := F_b1.mv g10.mv; replace F_b2 := F_b2.mv g10.mv; replace r_L2 := g10.rdD r_L2; replace r_L4 := g10.rdD r_L4; replace F_D5 := F_D5.mv g10.mv; replace F_R6 := F_R6.mv g10.mv
              have Z_c7 := F_c7.fr h10.b.size
              replace F_c7 := F_c7.mv (Sx.Mv.fresh h10.wf)
              clear h10 hb10
              refine sat_rowN [.slice B_a a.v.length d_a, .slice B_b b.v.length d_b] (by kernel_rfl) (all_cons (by kernel_rfl) (all_cons (by kernel_rfl) all_nil)) fun u1 h1 B1 NB1 => ?_
              replace F_a1 := F_a1.mv h1.mv; replace F_a2 := F_a2.mv h1.mv; replace F_b1 := F_b1.mv h1.mv; replace F_b2 := F_b2.mv h1.mv; replace r_L2 := h1.rdD r_L2; replace r_L4 := h1.rdD r_L4; replace F_D5 := F_D5.mv h1.mv; replace F_R6 := F_R6.mv h1.mv; replace F_c7 := F_c7.mv h1.mv
              have F_R8 : Sx.Rows Sx.kR (Sx.NB _) _ (some ⟨u1.heap.size, 0, none⟩) 2 2 [(B_a, a.v.length, d_a), (B_b, b.v.length, d_b)] := rows_two (k := Sx.kR) (cs := [.slice B_a a.v.length d_a]) B1 NB1 rfl rfl
              generalize u1.heap.size = N_R8 at *
              generalize (u1.alloc _) = w_R8 at *
              clear B1 h1 NB1
              refine sat_call #[.slice (some ⟨N_R8, 0, none⟩) 2 2] (by kernel_rfl) fun w11 h11 => ?_
              refine (concIval_any _ _ _ _ _ _ a.v b.v _ (((F_R8.mv h11.mv).any)) (((F_a2.mv h11.mv).any)) (((F_b2.mv h11.mv).any)) (by have := (MayT.of hMa).few; have := (MayT.of hMa).len; have := (MayT.of hMa).pos; have := (MayT.of hMb).few; have := (MayT.of hMb).len; have := (MayT.of hMb).pos; omega) (by have := (MayT.of hMa).few; have := (MayT.of hMa).len; have := (MayT.of hMa).pos; have := (MayT.of hMb).few; have := (MayT.of hMb).len; have := (MayT.of hMb).pos; omega) (by have := (MayT.of hMa).few; have := (MayT.of hMa).len; have := (MayT.of hMa).pos; have := (MayT.of hMb).few; have := (MayT.of hMb).len; have := (MayT.of hMb).pos; omega)).mono ?_
              rintro e v11 ⟨⟨A_c9, c_c9, rfl, F_c9⟩, hb11⟩
              refine ⟨hb11, [.slice A_c9 (a.v ++ b.v).length c_c9], _, rfl, by kernel_rfl, by kernel_rfl, fun g11 => ?_⟩
              replace F_a1 := F_a1.mv g11.mv; replace F_a2 := F_a2.mv g11.mv; replace F_b1 := F_b1.mv g11.mv; replace F_b2 := F_b2.mv g11.mv; replace r_L2 := g11.rdD r_L2; replace r_L4 := g11.rdD r_L4; replace F_D5 := F_D5.mv g11.mv; replace F_R6 := F_R6.mv g11.mv; replace F_c7 := F_c7.mv g11.mv; replace F_R8 := F_R8.mv g11.mv
              have Z_c9 := F_c9.fr h11.b.size
              replace F_c9 := F_c9.mv (Sx.Mv.fresh h11.wf)
              clear h11 hb11
              refine sat_chkB (by kernel_rfl) ?_
              refine sat_chkB (by kernel_rfl) ?_
              exact sat_ret (.tuple #[.agg #[.slice A_c7 (a.at_ ++ (b.at_.drop 1)).length c_c7, .slice A_c9 (a.v ++ b.v).length c_c9], .int .i64 0]) (by kernel_rfl) fun w9 h9 => ⟨_, _, 0, _, _, _, _, rfl, hide (by unfold joinT; rw [hMa, hMb, show lastT a = x1 from atT_is h_x1, show firstT b = x3 from atT_is h_x3, hC, hS]; rfl), (F_c7.mv h9.mv).fresh (fun h => h) Z_c7, (F_c9.mv h9.mv).fresh (fun h => h) Z_c9⟩
            · refine sat_rowN [.slice B_a a.v.length d_a, .slice B_b b.v.length d_b] (by kernel_rfl) (all_cons (by kernel_rfl) (all_cons (by kernel_rfl) all_nil)) fun u1 h1 B1 NB1 => ?_
              replace F_a1 := F_a1.mv h1.mv; replace F_a2 := F_a2.mv h1.mv; replace F_b1 := F_b1.mv h1.mv; replace F_b2 := F_b2.mv h1.mv; replace r_L2 := h1.rdD r_L2; replace r_L4 := h1.rdD r_L4; replace F_D5 := F_D5.mv h1.mv; replace F_R6 := F_R6.mv h1.mv
              have F_R7 : Sx.Rows Sx.kR (Sx.NB _) _ (some ⟨u1.heap.size, 0, none⟩) 2 2 [(B_a, a.v.length, d_a), (B_b, b.v.length, d_b)] := rows_two (k := Sx.kR) (cs := [.slice B_a a.v.length d_a]) B1 NB1 rfl rfl
              generalize u1.heap.size = N_R7 at *
              generalize (u1.alloc _) = w_R7 at *
              clear B1 h1 NB1
              refine sat_call #[.slice (some ⟨N_R6, 0, none⟩) 2 2] (by kernel_rfl) fun w10 h10 => ?_
              refine (concDyad_any _ _ _ _ _ _ a.at_ (b.at_.drop 1) _ (((F_R6.mv h10.mv).any)) (((F_a1.mv h10.mv).any)) (((F_D5.mv h10.mv).any)) (by have := (MayT.of hMa).few; have := (MayT.of hMa).len; have := (MayT.of hMa).pos; have := (MayT.of hMb).few; have := (MayT.of hMb).len; have := (MayT.of hMb).pos; omega) (by have := (MayT.of hMa).few; have := (MayT.of hMa).len; have := (MayT.of hMa).pos; have := (MayT.of hMb).few; have := (MayT.of hMb).len; have := (MayT.of hMb).pos; rw [List.length_drop]; omega) (by have := (MayT.of hMa).few; have := (MayT.of hMa).len; have := (MayT.of hMa).pos; have := (MayT.of hMb).few; have := (MayT.of hMb).len; have := (MayT.of hMb).pos; rw [List.length_drop]; omega)).mono ?_
              rintro e v10 ⟨⟨A_c8, c_c8, rfl, F_c8⟩, hb10⟩
              refine ⟨hb10, [.slice A_c8 (a.at_ ++ (b.at_.drop 1)).length c_c8], _, rfl, by kernel_rfl, by kernel_rfl, fun g10 => ?_⟩
              replace F_a1 := F_a1.mv g10.mv; replace F_a2 := F_a2.mv g10.mv; replace F_b1 := F_b1.mv g10.mv; replace F_b2 := F_b2.mv g10.mv; replace r_L2 := g10.rdD r_L2; replace r_L4 := g10.rdD r_L4; replace F_D5 := F_D5.mv g10.mv; replace F_R6 := F_R6.mv g10.mv; replace F_R7 := F_R7.mv g10.mv
              have Z_c8 := F_c8.fr h10.b.size
              replace F_c8 := F_c8.mv (Sx.Mv.fresh h10.wf)
              clear h10 hb10
              refine sat_call #[.slice (some ⟨N_R7, 0, none⟩) 2 2] (by kernel_rfl) fun w11 h11 => ?_
              refine (concIval_any _ _ _ _ _ _ a.v b.v _ (((F_R7.mv h11.mv).any)) (((F_a2.mv h11.mv).any)) (((F_b2.mv h11.mv).any)) (by have := (MayT.of hMa).few; have := (MayT.of hMa).len; have := (MayT.of hMa).pos; have := (MayT.of hMb).few; have := (MayT.of hMb).len; have := (MayT.of hMb).pos; omega) (by have := (MayT.of hMa).few; have := (MayT.of hMa).len; have := (MayT.of hMa).pos; have := (MayT.of hMb).few; have := (MayT.of hMb).len; have := (MayT.of hMb).pos; omega) (by have := (MayT.of hMa).few; have := (MayT.of hMa).len; have := (MayT.of hMa).pos; have := (MayT.of hMb).few; have := (MayT.of hMb).len; have := (MayT.of hMb).pos; omega)).mono ?_
              rintro e v11 ⟨⟨A_c9, c_c9, rfl, F_c9⟩, hb11⟩
              refine ⟨hb11, [.slice A_c9 (a.v ++ b.v).length c_c9], _, rfl, by kernel_rfl, by kernel_rfl, fun g11 => ?_⟩
              replace F_a1 := F_a1.mv g11.mv; replace F_a2 := F_a2.mv g11.mv; replace F_b1 := F_b1.mv g11.mv; replace F_b2 := F_b2.mv g11.mv; replace r_L2 := g11.rdD r_L2; replace r_L4 := g11.rdD r_L4; replace F_D5 := F_D5.mv g11.mv; replace F_R6 := F_R6.mv g11.mv; replace F_R7 := F_R7.mv g11.mv; replace F_c8 := F_c8.mv g11.mv
              have Z_c9 := F_c9.fr h11.b.size
              replace F_c9 := F_c9.mv (Sx.Mv.fresh h11.wf)
              clear h11 hb11
              refine sat_chkB (by kernel_rfl) ?_
              refine sat_chkB (by kernel_rfl) ?_
              exact sat_ret (.tuple #[.agg #[.slice A_c8 (a.at_ ++ (b.at_.drop 1)).length c_c8, .slice A_c9 (a.v ++ b.v).length c_c9], .int .i64 0]) (by kernel_rfl) fun w9 h9 => ⟨_, _, 0, _, _, _, _, rfl, hide (by unfold joinT; rw [hMa, hMb, show lastT a = x1 from atT_is h_x1, show firstT b = x3 from atT_is h_x3, hC, hS]; rfl), (F_c8.mv h9.mv).fresh (fun h => h) Z_c8, (F_c9.mv h9.mv).fresh (fun h => h) Z_c9⟩
          · refine sat_rowN [.slice B_a a.v.length d_a, .slice B_b b.v.length d_b] (by kernel_rfl) (all_cons (by kernel_rfl) (all_cons (by kernel_rfl) all_nil)) fun u1 h1 B1 NB1 => ?_
            replace F_a1 := F_a1.mv h1.mv; replace F_a2 := F_a2.mv h1.mv; replace F_b1 := F_b1.mv h1.mv; replace F_b2 := F_b2.mv h1.mv; replace r_L2 := h1.rdD r_L2; replace r_L4 := h1.rdD r_L4; replace F_D5 := F_D5.mv h1.mv
            have F_R6 : Sx.Rows Sx.kR (Sx.NB _) _ (some ⟨u1.heap.size, 0, none⟩) 2 2 [(B_a, a.v.length, d_a), (B_b, b.v.length, d_b)] := rows_two (k := Sx.kR) (cs := [.slice B_a a.v.length d_a]) B1 NB1 rfl rfl
            generalize u1.heap.size = N_R6 at *
            generalize (u1.alloc _) = w_R6 at *
            clear B1 h1 NB1
            refine sat_rowN [.slice A_a a.at_.length c_a, .slice C_D5 (b.at_.drop 1).length (c_b - 1)] (by kernel_rfl) (all_cons (by kernel_rfl) (all_cons (by kernel_rfl) all_nil)) fun u1 h1 B1 NB1 => ?_
            replace F_a1 := F_a1.mv h1.mv; replace F_a2 := F_a2.mv h1.mv; replace F_b1 := F_b1.mv h1.mv; replace F_b2 := F_b2.mv h1.mv; replace r_L2 := h1.rdD r_L2; replace r_L4 := h1.rdD r_L4; replace F_D5 := F_D5.mv h1.mv; replace F_R6 := F_R6.mv h1.mv
            have F_R7 : Sx.Rows Sx.kR (Sx.NB _) _ (some ⟨u1.heap.size, 0, none⟩) 2 2 [(A_a, a.at_.length, c_a), (C_D5, (b.at_.drop 1).length, (c_b - 1))] := rows_two (k := Sx.kR) (cs := [.slice A_a a.at_.length c_a]) B1 NB1 rfl rfl
            generalize u1.heap.size = N_R7 at *
            generalize (u1.alloc _) = w_R7 at *
            clear B1 h1 NB1
            refine sat_call #[.slice (some ⟨N_R7, 0, none⟩) 2 2] (by kernel_rfl) fun w10 h10 => ?_
            refine (concDyad_any _ _ _ _ _ _ a.at_ (b.at_.drop 1) _ (((F_R7.mv h10.mv).any)) (((F_a1.mv h10.mv).any)) (((F_D5.mv h10.mv).any)) (by have := (MayT.of hMa).few; have := (MayT.of hMa).len; have := (MayT.of hMa).pos; have := (MayT.of hMb).few; have := (MayT.of hMb).len; have := (MayT.of hMb).pos; omega) (by have := (MayT.of hMa).few; have := (MayT.of hMa).len; have := (MayT.of hMa).pos; have := (MayT.of hMb).few; have := (MayT.of hMb).len; have := (MayT.of hMb).pos; rw [List.length_drop]; omega) (by have := (MayT.of hMa).few; have := (MayT.of hMa).len; have := (MayT.of hMa).pos; have := (MayT.of hMb).few; have := (MayT.of hMb).len; have := (MayT.of hMb).pos; rw [List.length_drop]; omega)).mono ?_
            rintro e v10 ⟨⟨A_c8, c_c8, rfl, F_c8⟩, hb10⟩
            refine ⟨hb10, [.slice A_c8 (a.at_ ++ (b.at_.drop 1)).length c_c8], _, rfl, by kernel_rfl, by kernel_rfl, fun g10 => ?_⟩
            replace F_a1 := F_a1.mv g10.mv; replace F_a2 := F_a2.mv g10.mv; replace F_b1 := F_b1.mv g10.mv; replace F_b2 := F_b2.mv g10.mv; replace r_L2 := g10.rdD r_L2; replace r_L4 := g10.rdD r_L4; replace F_D5 := F_D5.mv g10.mv; replace F_R6 := F_R6.mv g10.mv; replace F_R7 := F_R7.mv g10.mv
            have Z_c8 := F_c8.fr h10.b.size
            replace F_c8 := F_c8.mv (Sx.Mv.fresh h10.wf)
            clear h10 hb10
            refine sat_call #[.slice (some ⟨N_R6, 0, none⟩) 2 2] (by kernel_rfl) fun w11 h11 => ?_
            refine (concIval_any _ _ _ _ _ _ a.v b.v _ (((F_R6.mv h11.mv).any)) (((F_a2.mv h11.mv).any)) (((F_b2.mv h11.mv).any)) (by have := (MayT.of hMa).few; have := (MayT.of hMa).len; have := (MayT.of hMa).pos; have := (MayT.of hMb).few; have := (MayT.of hMb).len; have := (MayT.of hMb).pos; omega) (by have := (MayT.of hMa).few; have := (MayT.of hMa).len; have := (MayT.of hMa).pos; have := (MayT.of hMb).few; have := (MayT.of hMb).len; have := (MayT.of hMb).pos; omega) (by have := (MayT.of hMa).few; have := (MayT.of hMa).len; have := (MayT.of hMa).pos; have := (MayT.of hMb).few; have := (MayT.of hMb).len; have := (MayT.of hMb).pos; omega)).mono ?_
            rintro e v11 ⟨⟨A_c9, c_c9, rfl, F_c9⟩, hb11⟩
            refine ⟨hb11, [.slice A_c9 (a.v ++ b.v).length c_c9], _, rfl, by kernel_rfl, by kernel_rfl, fun g11 => ?_⟩
            replace F_a1 := F_a1.mv g11.mv; replace F_a2 := F_a2.mv g11.mv; replace F_b1 := F_b1.mv g11.mv; replace F_b2 := F_b2.mv g11.mv; replace r_L2 := g11.rdD r_L2; replace r_L4 := g11.rdD r_L4; replace F_D5 := F_D5.mv g11.mv; replace F_R6 := F_R6.mv g11.mv; replace F_R7 := F_R7.mv g11.mv; replace F_c8 := F_c8.mv g11.mv
            have Z_c9 := F_c9.fr h11.b.size
            replace F_c9 := F_c9.mv (Sx.Mv.fresh h11.wf)
            clear h11 hb11
            refine sat_chkB (by kernel_rfl) ?_
            refine sat_chkB (by kernel_rfl) ?_
            exact sat_ret (.tuple #[.agg #[.slice A_c8 (a.at_ ++ (b.at_.drop 1)).length c_c8, .slice A_c9 (a.v ++ b.v).length c_c9], .int .i64 0]) (by kernel_rfl) fun w9 h9 => ⟨_, _, 0, _, _, _, _, rfl, hide (by unfold joinT; rw [hMa, hMb, show lastT a = x1 from atT_is h_x1, show firstT b = x3 from atT_is h_x3, hC, hS]; rfl), (F_c8.mv h9.mv).fresh (fun h => h) Z_c8, (F_c9.mv h9.mv).fresh (fun h => h) Z_c9⟩
        · refine sat_true (by kernel_rfl) ?_
          exact sat_ret (.tuple #[.agg #[.slice none 0 0, .slice none 0 0], .int .i64 1]) (by kernel_rfl) fun w9 h9 => TbTup.nil (by unfold joinT; rw [hMa, hMb, show lastT a = x1 from atT_is h_x1, show firstT b = x3 from atT_is h_x3, hC, hS]; rfl)
      · refine sat_true (by kernel_rfl) ?_
        exact sat_ret (.tuple #[.agg #[.slice none 0 0, .slice none 0 0], .int .i64 1]) (by kernel_rfl) fun w9 h9 => TbTup.nil (by unfold joinT; rw [hMa, hMb, show lastT a = x1 from atT_is h_x1, show firstT b = x3 from atT_is h_x3, hC]; rfl)

theorem last_is {t : Tb} {x : Dy} (hm : mayT t = true) (h : t.at_[t.v.length]? = some x) : lastT t = x := by
  unfold lastT
  rw [(MayT.of hm).len, Nat.add_sub_cancel]
  exact atT_is h

def tr_tbesideWithin : Sx.Tree := .chk [.lf 0, .lf 1] (.chk [.lf 2, .lf 3] (.call 67 [.ag [.lf 0, .lf 1]] .one (.prim .not [.lf 5] (.ite (.lf 6) (.ret (.one (.bit false))) (.call 67 [.ag [.lf 2, .lf 3]] .one (.prim .not [.lf 7] (.ite (.lf 8) (.ret (.one (.bit false))) (.prim (.idx 3) [.lf 0, .num .i64 0] (.load 30 (.lf 9) (.ag 3) (.prim (.idx 3) [.lf 2, .num .i64 0] (.load 30 (.lf 13) (.ag 3) (.call 47 [.ag [.lf 10, .lf 11, .lf 12], .ag [.lf 14, .lf 15, .lf 16]] .one (.prim (.bin .neq) [.lf 17, .num .i64 0] (.ite (.lf 18) (.ret (.one (.bit false))) (.prim .len [.lf 1] (.prim (.idx 3) [.lf 0, .lf 19] (.load 30 (.lf 20) (.ag 3) (.prim .len [.lf 3] (.prim (.idx 3) [.lf 2, .lf 24] (.load 30 (.lf 25) (.ag 3) (.call 47 [.ag [.lf 21, .lf 22, .lf 23], .ag [.lf 26, .lf 27, .lf 28]] .one (.prim (.bin .neq) [.lf 29, .num .i64 0] (.ite (.lf 30) (.ret (.one (.bit false))) (.loop 0 [.num .i64 0, .num .i64 0, .bit false] (.prim .len [.lf 1] (.prim (.bin .lss) [.lf 32, .lf 34] (.ite (.lf 35) (.prim .len [.lf 3] (.prim (.bin .lss) [.lf 31, .lf 36] (.ite (.lf 37) (.prim (.idx 6) [.lf 1, .lf 32] (.load 49 (.lf 38) (.ag 6) (.prim (.idx 6) [.lf 3, .lf 31] (.load 49 (.lf 45) (.ag 6) (.call 57 [.ag [.lf 39, .lf 40, .lf 41, .lf 42, .lf 43, .lf 44], .ag [.lf 46, .lf 47, .lf 48, .lf 49, .lf 50, .lf 51]] .one (.prim .not [.lf 52] (.ite (.lf 53) (.ret (.one (.bit false))) (.prim (.bin .add) [.lf 32, .num .i64 1] (.prim (.idx 3) [.lf 0, .lf 54] (.load 30 (.lf 55) (.ag 3) (.prim (.bin .add) [.lf 31, .num .i64 1] (.prim (.idx 3) [.lf 2, .lf 59] (.load 30 (.lf 60) (.ag 3) (.call 47 [.ag [.lf 56, .lf 57, .lf 58], .ag [.lf 61, .lf 62, .lf 63]] .one (.prim (.bin .lss) [.lf 64, .num .i64 0] (.ite (.lf 65) (.prim (.bin .add) [.lf 32, .num .i64 1] (.back 0 [.lf 31, .lf 66, .lf 33])) (.prim (.bin .eql) [.lf 64, .num .i64 0] (.ite (.lf 66) (.prim (.bin .add) [.lf 32, .num .i64 1] (.prim (.bin .add) [.lf 31, .num .i64 1] (.back 0 [.lf 68, .lf 67, .lf 33]))) (.prim (.bin .add) [.lf 31, .num .i64 1] (.back 0 [.lf 67, .lf 32, .lf 33])))))))))))))))))))) (.ret (.one (.bit true)))))) (.ret (.one (.bit true))))))))))))))))))))))))))))))
theorem tr_tbesideWithin_eq : Sx.treeAt Tryz.prog 75 [(2, 57)] [] [(true, 2), (true, 2), (false, 1)] = some tr_tbesideWithin := by kernel_rfl

theorem besideWithin_any (A_a : Option Addr) (c_a : Nat) (B_a : Option Addr) (d_a : Nat) (A_b : Option Addr) (c_b : Nat) (B_b : Option Addr) (d_b : Nat) (a : Tb) (b : Tb) (w : World) (h_a1 : Sx.Rows Sx.kD (fun _ => True) w A_a a.at_.length c_a a.at_) (h_a2 : Sx.Rows Sx.kI (fun _ => True) w B_a a.v.length d_a a.v) (h_b1 : Sx.Rows Sx.kD (fun _ => True) w A_b b.at_.length c_b b.at_) (h_b2 : Sx.Rows Sx.kI (fun _ => True) w B_b b.v.length d_b b.v) :
    Calls Tryz.prog 75 #[.agg #[.slice A_a a.at_.length c_a, .slice B_a a.v.length d_a], .agg #[.slice A_b b.at_.length c_b, .slice B_b b.v.length d_b], .func (.func 57) #[] #[]] w fun e w' => e = .returned (.bool (besideT withinI a b)) ∧ Below w.heap.size w w' := by
  have F_a1 := h_a1.start
  have M_a1 := h_a1.le
  clear h_a1
  have F_a2 := h_a2.start
  have M_a2 := h_a2.le
  clear h_a2
  have F_b1 := h_b1.start
  have M_b1 := h_b1.le
  clear h_b1
  have F_b2 := h_b2.start
  have M_b2 := h_b2.le
  clear h_b2
  refine (Sx.runA [(2, 57)] [] (ls := [.slice A_a a.at_.length c_a, .slice B_a a.v.length d_a, .slice A_b b.at_.length c_b, .slice B_b b.v.length d_b, .func (.func 57) #[] #[]]) (shs := [(true, 2), (true, 2), (false, 1)]) (R := fun v _ => v = .bool (besideT withinI a b)) tr_tbesideWithin_eq rfl (by decide) (by simp [Sx.tupV]) ?_).mono (fun e w' ⟨v, he, hv, hb⟩ => ⟨by rw [he, hv], hb⟩)
  unfold tr_tbesideWithin
  refine sat_chkB (by kernel_rfl) ?_
  refine sat_chkB (by kernel_rfl) ?_
  refine sat_call #[.agg #[.slice A_a a.at_.length c_a, .slice B_a a.v.length d_a]] (by kernel_rfl) fun w1 h1 => ?_
  refine (mayT_any _ _ _ _ a _ ((F_a1.mv h1.mv).any) ((F_a2.mv h1.mv).any)).mono ?_
  rintro e v1 ⟨rfl, hb1⟩
  refine ⟨hb1, [.bool (mayT a)], _, rfl, by kernel_rfl, by kernel_rfl, fun g1 => ?_⟩
  replace F_a1 := F_a1.mv g1.mv; replace F_a2 := F_a2.mv g1.mv; replace F_b1 := F_b1.mv g1.mv; replace F_b2 := F_b2.mv g1.mv
  clear h1 hb1
  refine sat_prim (v := .bool (!(mayT a))) (by kernel_rfl) ?_
  cases hMa : (mayT a)
  · refine sat_true (by kernel_rfl) ?_
    exact sat_ret (.bool false) (by kernel_rfl) fun w9 h9 => congrArg Value.bool (by unfold besideT; rw [hMa]; rfl)
  · refine sat_false (by kernel_rfl) ?_
    refine sat_call #[.agg #[.slice A_b b.at_.length c_b, .slice B_b b.v.length d_b]] (by kernel_rfl) fun w3 h3 => ?_
    refine (mayT_any _ _ _ _ b _ ((F_b1.mv h3.mv).any) ((F_b2.mv h3.mv).any)).mono ?_
    rintro e v3 ⟨rfl, hb3⟩
    refine ⟨hb3, [.bool (mayT b)], _, rfl, by kernel_rfl, by kernel_rfl, fun g3 => ?_⟩
    replace F_a1 := F_a1.mv g3.mv; replace F_a2 := F_a2.mv g3.mv; replace F_b1 := F_b1.mv g3.mv; replace F_b2 := F_b2.mv g3.mv
    clear h3 hb3
    refine sat_prim (v := .bool (!(mayT b))) (by kernel_rfl) ?_
    cases hMb : (mayT b)
    · refine sat_true (by kernel_rfl) ?_
      exact sat_ret (.bool false) (by kernel_rfl) fun w9 h9 => congrArg Value.bool (by unfold besideT; rw [hMa, hMb]; rfl)
    · refine sat_false (by kernel_rfl) ?_
      refine sat_idx (A := A_a) (c := c_a) (kk := .i64) 0 (by kernel_rfl) (by kernel_rfl) (by have := (MayT.of hMa).len; omega) F_a1.addr fun g5 o5 e5 => ?_
      obtain ⟨x1, h_x1⟩ : ∃ x_, a.at_[0]? = some x_ := ⟨_, List.getElem?_eq_getElem (by have := (MayT.of hMa).len; omega)⟩
      refine sat_el F_a1 e5 h_x1 rfl (by kernel_rfl) (by kernel_rfl) (by kernel_rfl) ?_
      rintro _ ⟨A_L2, n_L2, c_L2, rfl, r_L2⟩
      refine sat_idx (A := A_b) (c := c_b) (kk := .i64) 0 (by kernel_rfl) (by kernel_rfl) (by have := (MayT.of hMb).len; omega) F_b1.addr fun g6 o6 e6 => ?_
      obtain ⟨x3, h_x3⟩ : ∃ x_, b.at_[0]? = some x_ := ⟨_, List.getElem?_eq_getElem (by have := (MayT.of hMb).len; omega)⟩
      refine sat_el F_b1 e6 h_x3 rfl (by kernel_rfl) (by kernel_rfl) (by kernel_rfl) ?_
      rintro _ ⟨A_L4, n_L4, c_L4, rfl, r_L4⟩
      refine sat_call #[.agg #[.bool x1.neg, .slice A_L2 n_L2 c_L2, .int .i64 x1.e], .agg #[.bool x3.neg, .slice A_L4 n_L4 c_L4, .int .i64 x3.e]] (by kernel_rfl) fun w7 h7 => ?_
      refine (cmpD_any _ _ (x1) (x3) _ (h7.rdD r_L2) (h7.rdD r_L4)).mono ?_
      rintro e v7 ⟨rfl, hb7⟩
      refine ⟨hb7, [.int .i64 (cmpD x1 x3)], _, rfl, by kernel_rfl, by kernel_rfl, fun g7 => ?_⟩
      replace F_a1 := F_a1.mv g7.mv; replace F_a2 := F_a2.mv g7.mv; replace F_b1 := F_b1.mv g7.mv; replace F_b2 := F_b2.mv g7.mv; replace r_L2 := g7.rdD r_L2; replace r_L4 := g7.rdD r_L4
      clear h7 hb7
      refine sat_prim (v := .bool (((cmpD x1 x3) : Int) != 0)) (by kernel_rfl) ?_
      cases hF : (((cmpD x1 x3) : Int) != 0)
      · refine sat_false (by kernel_rfl) ?_
        refine sat_prim (v := .int .i64 ((a.v.length : Nat) : Int)) (by kernel_rfl) ?_
        refine sat_idx (A := A_a) (c := c_a) (kk := .i64) (a.v.length) (by kernel_rfl) (by kernel_rfl) (by have := (MayT.of hMa).len; omega) F_a1.addr fun g9 o9 e9 => ?_
        obtain ⟨x5, h_x5⟩ : ∃ x_, a.at_[(a.v.length)]? = some x_ := ⟨_, List.getElem?_eq_getElem (by have := (MayT.of hMa).len; omega)⟩
        refine sat_el F_a1 e9 h_x5 rfl (by kernel_rfl) (by kernel_rfl) (by kernel_rfl) ?_
        rintro _ ⟨A_L6, n_L6, c_L6, rfl, r_L6⟩
        refine sat_prim (v := .int .i64 ((b.v.length : Nat) : Int)) (by kernel_rfl) ?_
        refine sat_idx (A := A_b) (c := c_b) (kk := .i64) (b.v.length) (by kernel_rfl) (by kernel_rfl) (by have := (MayT.of hMb).len; omega) F_b1.addr fun g10 o10 e10 => ?_
        obtain ⟨x7, h_x7⟩ : ∃ x_, b.at_[(b.v.length)]? = some x_ := ⟨_, List.getElem?_eq_getElem (by have := (MayT.of hMb).len; omega)⟩
        refine sat_el F_b1 e10 h_x7 rfl (by kernel_rfl) (by kernel_rfl) (by kernel_rfl) ?_
        rintro _ ⟨A_L8, n_L8, c_L8, rfl, r_L8⟩
        refine sat_call #[.agg #[.bool x5.neg, .slice A_L6 n_L6 c_L6, .int .i64 x5.e], .agg #[.bool x7.neg, .slice A_L8 n_L8 c_L8, .int .i64 x7.e]] (by kernel_rfl) fun w11 h11 => ?_
        refine (cmpD_any _ _ (x5) (x7) _ (h11.rdD r_L6) (h11.rdD r_L8)).mono ?_
        rintro e v11 ⟨rfl, hb11⟩
        refine ⟨hb11, [.int .i64 (cmpD x5 x7)], _, rfl, by kernel_rfl, by kernel_rfl, fun g11 => ?_⟩
        replace F_a1 := F_a1.mv g11.mv; replace F_a2 := F_a2.mv g11.mv; replace F_b1 := F_b1.mv g11.mv; replace F_b2 := F_b2.mv g11.mv; replace r_L2 := g11.rdD r_L2; replace r_L4 := g11.rdD r_L4; replace r_L6 := g11.rdD r_L6; replace r_L8 := g11.rdD r_L8
        clear h11 hb11
        refine sat_prim (v := .bool (((cmpD x5 x7) : Int) != 0)) (by kernel_rfl) ?_
        cases hL : (((cmpD x5 x7) : Int) != 0)
        · refine sat_false (by kernel_rfl) ?_
          refine sat_loop (fun Kn vs W => ∃ i k : Nat, vs = [.int .i64 ((k : Nat) : Int), .int .i64 ((i : Nat) : Int), .bool false] ∧ (a.v.length + b.v.length + 1 ≤ Kn + i + k) ∧ walkT withinI a b (a.v.length + b.v.length + 1) 0 0 = walkT withinI a b Kn i k) [.int .i64 0, .int .i64 0, .bool false] (by kernel_rfl) (fun w1 h1 => ⟨_, 0, 0, rfl, Nat.le_refl _, rfl⟩) ?_
          rintro Kn vs w13 h13 ⟨i, k, rfl, hn, hm⟩
          replace F_a1 := F_a1.mv h13.mv; replace F_a2 := F_a2.mv h13.mv; replace F_b1 := F_b1.mv h13.mv; replace F_b2 := F_b2.mv h13.mv; replace r_L2 := h13.rdD r_L2; replace r_L4 := h13.rdD r_L4; replace r_L6 := h13.rdD r_L6; replace r_L8 := h13.rdD r_L8
          clear h13
          refine sat_prim (v := .int .i64 ((a.v.length : Nat) : Int)) (by kernel_rfl) ?_
          refine sat_prim (v := .bool (decide ((((i : Nat) : Int) : Int) < ((a.v.length : Nat) : Int)))) (by kernel_rfl) ?_
          cases hi : (decide ((((i : Nat) : Int) : Int) < ((a.v.length : Nat) : Int)))
          · refine sat_false (by kernel_rfl) ?_
            exact sat_ret (.bool true) (by kernel_rfl) fun w9 h9 => congrArg Value.bool (by unfold besideT; rw [hMa, hMb, show firstT a = x1 from atT_is h_x1, show firstT b = x3 from atT_is h_x3, hF, last_is hMa h_x5, last_is hMb h_x7, hL]; exact walk_end hm (.inl hi))
          · refine sat_true (by kernel_rfl) ?_
            refine sat_prim (v := .int .i64 ((b.v.length : Nat) : Int)) (by kernel_rfl) ?_
            refine sat_prim (v := .bool (decide ((((k : Nat) : Int) : Int) < ((b.v.length : Nat) : Int)))) (by kernel_rfl) ?_
            cases hk : (decide ((((k : Nat) : Int) : Int) < ((b.v.length : Nat) : Int)))
            · refine sat_false (by kernel_rfl) ?_
              exact sat_ret (.bool true) (by kernel_rfl) fun w9 h9 => congrArg Value.bool (by unfold besideT; rw [hMa, hMb, show firstT a = x1 from atT_is h_x1, show firstT b = x3 from atT_is h_x3, hF, last_is hMa h_x5, last_is hMb h_x7, hL]; exact walk_end hm (.inr hk))
            · refine sat_true (by kernel_rfl) ?_
              refine sat_idx (A := B_a) (c := d_a) (kk := .i64) (i) (by kernel_rfl) (by kernel_rfl) (lt_of hi) F_a2.addr fun g16 o16 e16 => ?_
              obtain ⟨x9, h_x9⟩ : ∃ x_, a.v[(i)]? = some x_ := ⟨_, List.getElem?_eq_getElem (lt_of hi)⟩
              refine sat_el F_a2 e16 h_x9 rfl (by kernel_rfl) (by kernel_rfl) (by kernel_rfl) ?_
              rintro _ ⟨A_L10, n_L10, c_L10, B_L10, m_L10, k_L10, rfl, r_L10l, r_L10h⟩
              refine sat_idx (A := B_b) (c := d_b) (kk := .i64) (k) (by kernel_rfl) (by kernel_rfl) (lt_of hk) F_b2.addr fun g17 o17 e17 => ?_
              obtain ⟨x11, h_x11⟩ : ∃ x_, b.v[(k)]? = some x_ := ⟨_, List.getElem?_eq_getElem (lt_of hk)⟩
              refine sat_el F_b2 e17 h_x11 rfl (by kernel_rfl) (by kernel_rfl) (by kernel_rfl) ?_
              rintro _ ⟨A_L12, n_L12, c_L12, B_L12, m_L12, k_L12, rfl, r_L12l, r_L12h⟩
              refine sat_call #[.agg #[.bool x9.lo.neg, .slice A_L10 n_L10 c_L10, .int .i64 x9.lo.e, .bool x9.hi.neg, .slice B_L10 m_L10 k_L10, .int .i64 x9.hi.e], .agg #[.bool x11.lo.neg, .slice A_L12 n_L12 c_L12, .int .i64 x11.lo.e, .bool x11.hi.neg, .slice B_L12 m_L12 k_L12, .int .i64 x11.hi.e]] (by kernel_rfl) fun w18 h18 => ?_
              refine (withinI_any _ _ x9 x11 _ (mkI (h18.rdD r_L10l) (h18.rdD r_L10h)) (mkI (h18.rdD r_L12l) (h18.rdD r_L12h))).mono ?_
              rintro e v18 ⟨rfl, hb18⟩
              refine ⟨hb18, [.bool (withinI x9 x11)], _, rfl, by kernel_rfl, by kernel_rfl, fun g18 => ?_⟩
              replace F_a1 := F_a1.mv g18.mv; replace F_a2 := F_a2.mv g18.mv; replace F_b1 := F_b1.mv g18.mv; replace F_b2 := F_b2.mv g18.mv; replace r_L2 := g18.rdD r_L2; replace r_L4 := g18.rdD r_L4; replace r_L6 := g18.rdD r_L6; replace r_L8 := g18.rdD r_L8; replace r_L10l := g18.rdD r_L10l; replace r_L10h := g18.rdD r_L10h; replace r_L12l := g18.rdD r_L12l; replace r_L12h := g18.rdD r_L12h
              clear h18 hb18
              refine sat_prim (v := .bool (!(withinI x9 x11))) (by kernel_rfl) ?_
              cases hf : (withinI x9 x11)
              · refine sat_true (by kernel_rfl) ?_
                obtain ⟨m, rfl⟩ : ∃ m, Kn = m + 1 := ⟨Kn - 1, by have := lt_of hi; have := lt_of hk; omega⟩
                exact sat_ret (.bool false) (by kernel_rfl) fun w9 h9 => congrArg Value.bool (by unfold besideT; rw [hMa, hMb, show firstT a = x1 from atT_is h_x1, show firstT b = x3 from atT_is h_x3, hF, last_is hMa h_x5, last_is hMb h_x7, hL]; exact walk_no hm h_x9 h_x11 hf)
              · refine sat_false (by kernel_rfl) ?_
                refine sat_prim (v := .int .i64 ((i + 1 : Nat) : Int)) (Eq.trans (b := some (.int .i64 (IntKind.i64.wrap (((i : Nat) : Int) + 1)))) (by kernel_rfl) (sml (by have := lt_of hi; have := lt_of hk; have := (MayT.of hMa).few; have := (MayT.of hMb).few; omega) (by have := lt_of hi; have := lt_of hk; have := (MayT.of hMa).few; have := (MayT.of hMb).few; omega))) ?_
                refine sat_idx (A := A_a) (c := c_a) (kk := .i64) (i + 1) (by kernel_rfl) (by kernel_rfl) (by have := lt_of hi; have := (MayT.of hMa).len; omega) F_a1.addr fun g20 o20 e20 => ?_
                obtain ⟨x13, h_x13⟩ : ∃ x_, a.at_[(i + 1)]? = some x_ := ⟨_, List.getElem?_eq_getElem (by have := lt_of hi; have := (MayT.of hMa).len; omega)⟩
                refine sat_el F_a1 e20 h_x13 rfl (by kernel_rfl) (by kernel_rfl) (by kernel_rfl) ?_
                rintro _ ⟨A_L14, n_L14, c_L14, rfl, r_L14⟩
                refine sat_prim (v := .int .i64 ((k + 1 : Nat) : Int)) (Eq.trans (b := some (.int .i64 (IntKind.i64.wrap (((k : Nat) : Int) + 1)))) (by kernel_rfl) (sml (by have := lt_of hi; have := lt_of hk; have := (MayT.of hMa).few; have := (MayT.of hMb).few; omega) (by have := lt_of hi; have := lt_of hk; have := (MayT.of hMa).few; have := (MayT.of hMb).few; omega))) ?_
                refine sat_idx (A := A_b) (c := c_b) (kk := .i64) (k + 1) (by kernel_rfl) (by kernel_rfl) (by have := lt_of hk; have := (MayT.of hMb).len; omega) F_b1.addr fun g21 o21 e21 => ?_
                obtain ⟨x15, h_x15⟩ : ∃ x_, b.at_[(k + 1)]? = some x_ := ⟨_, List.getElem?_eq_getElem (by have := lt_of hk; have := (MayT.of hMb).len; omega)⟩
                refine sat_el F_b1 e21 h_x15 rfl (by kernel_rfl) (by kernel_rfl) (by kernel_rfl) ?_
                rintro _ ⟨A_L16, n_L16, c_L16, rfl, r_L16⟩
                refine sat_call #[.agg #[.bool x13.neg, .slice A_L14 n_L14 c_L14, .int .i64 x13.e], .agg #[.bool x15.neg, .slice A_L16 n_L16 c_L16, .int .i64 x15.e]] (by kernel_rfl) fun w22 h22 => ?_
                refine (cmpD_any _ _ (x13) (x15) _ (h22.rdD r_L14) (h22.rdD r_L16)).mono ?_
                rintro e v22 ⟨rfl, hb22⟩
                refine ⟨hb22, [.int .i64 (cmpD x13 x15)], _, rfl, by kernel_rfl, by kernel_rfl, fun g22 => ?_⟩
                replace F_a1 := F_a1.mv g22.mv; replace F_a2 := F_a2.mv g22.mv; replace F_b1 := F_b1.mv g22.mv; replace F_b2 := F_b2.mv g22.mv; replace r_L2 := g22.rdD r_L2; replace r_L4 := g22.rdD r_L4; replace r_L6 := g22.rdD r_L6; replace r_L8 := g22.rdD r_L8; replace r_L10l := g22.rdD r_L10l; replace r_L10h := g22.rdD r_L10h; replace r_L12l := g22.rdD r_L12l; replace r_L12h := g22.rdD r_L12h; replace r_L14 := g22.rdD r_L14; replace r_L16 := g22.rdD r_L16
                clear h22 hb22
                refine sat_prim (v := .bool (decide (((cmpD x13 x15) : Int) < 0))) (by kernel_rfl) ?_
                cases hc : (decide (((cmpD x13 x15) : Int) < 0))
                · refine sat_false (by kernel_rfl) ?_
                  refine sat_prim (v := .bool (((cmpD x13 x15) : Int) == 0)) (by kernel_rfl) ?_
                  cases hz : (((cmpD x13 x15) : Int) == 0)
                  · refine sat_false (by kernel_rfl) ?_
                    refine sat_prim (v := .int .i64 ((k + 1 : Nat) : Int)) (Eq.trans (b := some (.int .i64 (IntKind.i64.wrap (((k : Nat) : Int) + 1)))) (by kernel_rfl) (sml (by have := lt_of hi; have := lt_of hk; have := (MayT.of hMa).few; have := (MayT.of hMb).few; omega) (by have := lt_of hi; have := lt_of hk; have := (MayT.of hMa).few; have := (MayT.of hMb).few; omega))) ?_
                    obtain ⟨m, rfl⟩ : ∃ m, Kn = m + 1 := ⟨Kn - 1, by have := lt_of hi; have := lt_of hk; omega⟩
                    exact sat_back [.int .i64 ((k + 1 : Nat) : Int), .int .i64 ((i : Nat) : Int), .bool false] (by kernel_rfl) fun w9 h9 => ⟨m, by omega, i, k + 1, rfl, by omega, walk_gt hm h_x9 h_x11 hf h_x13 h_x15 hc hz⟩
                  · refine sat_true (by kernel_rfl) ?_
                    refine sat_prim (v := .int .i64 ((i + 1 : Nat) : Int)) (Eq.trans (b := some (.int .i64 (IntKind.i64.wrap (((i : Nat) : Int) + 1)))) (by kernel_rfl) (sml (by have := lt_of hi; have := lt_of hk; have := (MayT.of hMa).few; have := (MayT.of hMb).few; omega) (by have := lt_of hi; have := lt_of hk; have := (MayT.of hMa).few; have := (MayT.of hMb).few; omega))) ?_
                    refine sat_prim (v := .int .i64 ((k + 1 : Nat) : Int)) (Eq.trans (b := some (.int .i64 (IntKind.i64.wrap (((k : Nat) : Int) + 1)))) (by kernel_rfl) (sml (by have := lt_of hi; have := lt_of hk; have := (MayT.of hMa).few; have := (MayT.of hMb).few; omega) (by have := lt_of hi; have := lt_of hk; have := (MayT.of hMa).few; have := (MayT.of hMb).few; omega))) ?_
                    obtain ⟨m, rfl⟩ : ∃ m, Kn = m + 1 := ⟨Kn - 1, by have := lt_of hi; have := lt_of hk; omega⟩
                    exact sat_back [.int .i64 ((k + 1 : Nat) : Int), .int .i64 ((i + 1 : Nat) : Int), .bool false] (by kernel_rfl) fun w9 h9 => ⟨m, by omega, i + 1, k + 1, rfl, by omega, walk_eq hm h_x9 h_x11 hf h_x13 h_x15 hc hz⟩
                · refine sat_true (by kernel_rfl) ?_
                  refine sat_prim (v := .int .i64 ((i + 1 : Nat) : Int)) (Eq.trans (b := some (.int .i64 (IntKind.i64.wrap (((i : Nat) : Int) + 1)))) (by kernel_rfl) (sml (by have := lt_of hi; have := lt_of hk; have := (MayT.of hMa).few; have := (MayT.of hMb).few; omega) (by have := lt_of hi; have := lt_of hk; have := (MayT.of hMa).few; have := (MayT.of hMb).few; omega))) ?_
                  obtain ⟨m, rfl⟩ : ∃ m, Kn = m + 1 := ⟨Kn - 1, by have := lt_of hi; have := lt_of hk; omega⟩
                  exact sat_back [.int .i64 ((k : Nat) : Int), .int .i64 ((i + 1 : Nat) : Int), .bool false] (by kernel_rfl) fun w9 h9 => ⟨m, by omega, i + 1, k, rfl, by omega, walk_lt hm h_x9 h_x11 hf h_x13 h_x15 hc⟩
        · refine sat_true (by kernel_rfl) ?_
          exact sat_ret (.bool false) (by kernel_rfl) fun w9 h9 => congrArg Value.bool (by unfold besideT; rw [hMa, hMb, show firstT a = x1 from atT_is h_x1, show firstT b = x3 from atT_is h_x3, hF, last_is hMa h_x5, last_is hMb h_x7, hL]; rfl)
      · refine sat_true (by kernel_rfl) ?_
        exact sat_ret (.bool false) (by kernel_rfl) fun w9 h9 => congrArg Value.bool (by unfold besideT; rw [hMa, hMb, show firstT a = x1 from atT_is h_x1, show firstT b = x3 from atT_is h_x3, hF]; rfl)

def tr_twithin : Sx.Tree := .chk [.lf 0, .lf 1] (.chk [.lf 2, .lf 3] (.call 75 [.ag [.lf 0, .lf 1], .ag [.lf 2, .lf 3], .one (.fn 57)] .one (.ret (.one (.lf 4)))))
theorem tr_twithin_eq : Sx.treeAt Tryz.prog 35 [] [] [(true, 2), (true, 2)] = some tr_twithin := by kernel_rfl

theorem withinT_any (A_a : Option Addr) (c_a : Nat) (B_a : Option Addr) (d_a : Nat) (A_b : Option Addr) (c_b : Nat) (B_b : Option Addr) (d_b : Nat) (a : Tb) (b : Tb) (w : World) (h_a1 : Sx.Rows Sx.kD (fun _ => True) w A_a a.at_.length c_a a.at_) (h_a2 : Sx.Rows Sx.kI (fun _ => True) w B_a a.v.length d_a a.v) (h_b1 : Sx.Rows Sx.kD (fun _ => True) w A_b b.at_.length c_b b.at_) (h_b2 : Sx.Rows Sx.kI (fun _ => True) w B_b b.v.length d_b b.v) :
    Calls Tryz.prog 35 #[.agg #[.slice A_a a.at_.length c_a, .slice B_a a.v.length d_a], .agg #[.slice A_b b.at_.length c_b, .slice B_b b.v.length d_b]] w fun e w' => e = .returned (.bool (besideT withinI a b)) ∧ Below w.heap.size w w' := by
  have F_a1 := h_a1.start
  have M_a1 := h_a1.le
  clear h_a1
  have F_a2 := h_a2.start
  have M_a2 := h_a2.le
  clear h_a2
  have F_b1 := h_b1.start
  have M_b1 := h_b1.le
  clear h_b1
  have F_b2 := h_b2.start
  have M_b2 := h_b2.le
  clear h_b2
  refine (Sx.runA [] [] (ls := [.slice A_a a.at_.length c_a, .slice B_a a.v.length d_a, .slice A_b b.at_.length c_b, .slice B_b b.v.length d_b]) (shs := [(true, 2), (true, 2)]) (R := fun v _ => v = .bool (besideT withinI a b)) tr_twithin_eq rfl (by decide) (fun q h => by cases h) ?_).mono (fun e w' ⟨v, he, hv, hb⟩ => ⟨by rw [he, hv], hb⟩)
  unfold tr_twithin
  refine sat_chkB (by kernel_rfl) ?_
  refine sat_chkB (by kernel_rfl) ?_
  refine sat_call #[.agg #[.slice A_a a.at_.length c_a, .slice B_a a.v.length d_a], .agg #[.slice A_b b.at_.length c_b, .slice B_b b.v.length d_b], .func (.func 57) #[] #[]] (by kernel_rfl) fun w1 h1 => ?_
  refine (besideWithin_any _ _ _ _ _ _ _ _ a b _ ((F_a1.mv h1.mv).any) ((F_a2.mv h1.mv).any) ((F_b1.mv h1.mv).any) ((F_b2.mv h1.mv).any)).mono ?_
  rintro e v1 ⟨rfl, hb1⟩
  refine ⟨hb1, [.bool (besideT withinI a b)], _, rfl, by kernel_rfl, by kernel_rfl, fun g1 => ?_⟩
  replace F_a1 := F_a1.mv g1.mv; replace F_a2 := F_a2.mv g1.mv; replace F_b1 := F_b1.mv g1.mv; replace F_b2 := F_b2.mv g1.mv
  clear h1 hb1
  exact sat_ret (.bool (besideT withinI a b)) (by kernel_rfl) fun w9 h9 => rfl

def tr_tbesideInside : Sx.Tree := .chk [.lf 0, .lf 1] (.chk [.lf 2, .lf 3] (.call 67 [.ag [.lf 0, .lf 1]] .one (.prim .not [.lf 5] (.ite (.lf 6) (.ret (.one (.bit false))) (.call 67 [.ag [.lf 2, .lf 3]] .one (.prim .not [.lf 7] (.ite (.lf 8) (.ret (.one (.bit false))) (.prim (.idx 3) [.lf 0, .num .i64 0] (.load 30 (.lf 9) (.ag 3) (.prim (.idx 3) [.lf 2, .num .i64 0] (.load 30 (.lf 13) (.ag 3) (.call 47 [.ag [.lf 10, .lf 11, .lf 12], .ag [.lf 14, .lf 15, .lf 16]] .one (.prim (.bin .neq) [.lf 17, .num .i64 0] (.ite (.lf 18) (.ret (.one (.bit false))) (.prim .len [.lf 1] (.prim (.idx 3) [.lf 0, .lf 19] (.load 30 (.lf 20) (.ag 3) (.prim .len [.lf 3] (.prim (.idx 3) [.lf 2, .lf 24] (.load 30 (.lf 25) (.ag 3) (.call 47 [.ag [.lf 21, .lf 22, .lf 23], .ag [.lf 26, .lf 27, .lf 28]] .one (.prim (.bin .neq) [.lf 29, .num .i64 0] (.ite (.lf 30) (.ret (.one (.bit false))) (.loop 0 [.num .i64 0, .num .i64 0, .bit false] (.prim .len [.lf 1] (.prim (.bin .lss) [.lf 32, .lf 34] (.ite (.lf 35) (.prim .len [.lf 3] (.prim (.bin .lss) [.lf 31, .lf 36] (.ite (.lf 37) (.prim (.idx 6) [.lf 1, .lf 32] (.load 49 (.lf 38) (.ag 6) (.prim (.idx 6) [.lf 3, .lf 31] (.load 49 (.lf 45) (.ag 6) (.call 59 [.ag [.lf 39, .lf 40, .lf 41, .lf 42, .lf 43, .lf 44], .ag [.lf 46, .lf 47, .lf 48, .lf 49, .lf 50, .lf 51]] .one (.prim .not [.lf 52] (.ite (.lf 53) (.ret (.one (.bit false))) (.prim (.bin .add) [.lf 32, .num .i64 1] (.prim (.idx 3) [.lf 0, .lf 54] (.load 30 (.lf 55) (.ag 3) (.prim (.bin .add) [.lf 31, .num .i64 1] (.prim (.idx 3) [.lf 2, .lf 59] (.load 30 (.lf 60) (.ag 3) (.call 47 [.ag [.lf 56, .lf 57, .lf 58], .ag [.lf 61, .lf 62, .lf 63]] .one (.prim (.bin .lss) [.lf 64, .num .i64 0] (.ite (.lf 65) (.prim (.bin .add) [.lf 32, .num .i64 1] (.back 0 [.lf 31, .lf 66, .lf 33])) (.prim (.bin .eql) [.lf 64, .num .i64 0] (.ite (.lf 66) (.prim (.bin .add) [.lf 32, .num .i64 1] (.prim (.bin .add) [.lf 31, .num .i64 1] (.back 0 [.lf 68, .lf 67, .lf 33]))) (.prim (.bin .add) [.lf 31, .num .i64 1] (.back 0 [.lf 67, .lf 32, .lf 33])))))))))))))))))))) (.ret (.one (.bit true)))))) (.ret (.one (.bit true))))))))))))))))))))))))))))))
theorem tr_tbesideInside_eq : Sx.treeAt Tryz.prog 75 [(2, 59)] [] [(true, 2), (true, 2), (false, 1)] = some tr_tbesideInside := by kernel_rfl

theorem besideInside_any (A_a : Option Addr) (c_a : Nat) (B_a : Option Addr) (d_a : Nat) (A_b : Option Addr) (c_b : Nat) (B_b : Option Addr) (d_b : Nat) (a : Tb) (b : Tb) (w : World) (h_a1 : Sx.Rows Sx.kD (fun _ => True) w A_a a.at_.length c_a a.at_) (h_a2 : Sx.Rows Sx.kI (fun _ => True) w B_a a.v.length d_a a.v) (h_b1 : Sx.Rows Sx.kD (fun _ => True) w A_b b.at_.length c_b b.at_) (h_b2 : Sx.Rows Sx.kI (fun _ => True) w B_b b.v.length d_b b.v) :
    Calls Tryz.prog 75 #[.agg #[.slice A_a a.at_.length c_a, .slice B_a a.v.length d_a], .agg #[.slice A_b b.at_.length c_b, .slice B_b b.v.length d_b], .func (.func 59) #[] #[]] w fun e w' => e = .returned (.bool (besideT insideI a b)) ∧ Below w.heap.size w w' := by
  have F_a1 := h_a1.start
  have M_a1 := h_a1.le
  clear h_a1
  have F_a2 := h_a2.start
  have M_a2 := h_a2.le
  clear h_a2
  have F_b1 := h_b1.start
  have M_b1 := h_b1.le
  clear h_b1
  have F_b2 := h_b2.start
  have M_b2 := h_b2.le
  clear h_b2
  refine (Sx.runA [(2, 59)] [] (ls := [.slice A_a a.at_.length c_a, .slice B_a a.v.length d_a, .slice A_b b.at_.length c_b, .slice B_b b.v.length d_b, .func (.func 59) #[] #[]]) (shs := [(true, 2), (true, 2), (false, 1)]) (R := fun v _ => v = .bool (besideT insideI a b)) tr_tbesideInside_eq rfl (by decide) (by simp [Sx.tupV]) ?_).mono (fun e w' ⟨v, he, hv, hb⟩ => ⟨by rw [he, hv], hb⟩)
  unfold tr_tbesideInside
  refine sat_chkB (by kernel_rfl) ?_
  refine sat_chkB (by kernel_rfl) ?_
  refine sat_call #[.agg #[.slice A_a a.at_.length c_a, .slice B_a a.v.length d_a]] (by kernel_rfl) fun w1 h1 => ?_
  refine (mayT_any _ _ _ _ a _ ((F_a1.mv h1.mv).any) ((F_a2.mv h1.mv).any)).mono ?_
  rintro e v1 ⟨rfl, hb1⟩
  refine ⟨hb1, [.bool (mayT a)], _, rfl, by kernel_rfl, by kernel_rfl, fun g1 => ?_⟩
  replace F_a1 := F_a1.mv g1.mv; replace F_a2 := F_a2.mv g1.mv; replace F_b1 := F_b1.mv g1.mv; replace F_b2 := F_b2.mv g1.mv
  clear h1 hb1
  refine sat_prim (v := .bool (!(mayT a))) (by kernel_rfl) ?_
  cases hMa : (mayT a)
  · refine sat_true (by kernel_rfl) ?_
    exact sat_ret (.bool false) (by kernel_rfl) fun w9 h9 => congrArg Value.bool (by unfold besideT; rw [hMa]; rfl)
  · refine sat_false (by kernel_rfl) ?_
    refine sat_call #[.agg #[.slice A_b b.at_.length c_b, .slice B_b b.v.length d_b]] (by kernel_rfl) fun w3 h3 => ?_
    refine (mayT_any _ _ _ _ b _ ((F_b1.mv h3.mv).any) ((F_b2.mv h3.mv).any)).mono ?_
    rintro e v3 ⟨rfl, hb3⟩
    refine ⟨hb3, [.bool (mayT b)], _, rfl, by kernel_rfl, by kernel_rfl, fun g3 => ?_⟩
    replace F_a1 := F_a1.mv g3.mv; replace F_a2 := F_a2.mv g3.mv; replace F_b1 := F_b1.mv g3.mv; replace F_b2 := F_b2.mv g3.mv
    clear h3 hb3
    refine sat_prim (v := .bool (!(mayT b))) (by kernel_rfl) ?_
    cases hMb : (mayT b)
    · refine sat_true (by kernel_rfl) ?_
      exact sat_ret (.bool false) (by kernel_rfl) fun w9 h9 => congrArg Value.bool (by unfold besideT; rw [hMa, hMb]; rfl)
    · refine sat_false (by kernel_rfl) ?_
      refine sat_idx (A := A_a) (c := c_a) (kk := .i64) 0 (by kernel_rfl) (by kernel_rfl) (by have := (MayT.of hMa).len; omega) F_a1.addr fun g5 o5 e5 => ?_
      obtain ⟨x1, h_x1⟩ : ∃ x_, a.at_[0]? = some x_ := ⟨_, List.getElem?_eq_getElem (by have := (MayT.of hMa).len; omega)⟩
      refine sat_el F_a1 e5 h_x1 rfl (by kernel_rfl) (by kernel_rfl) (by kernel_rfl) ?_
      rintro _ ⟨A_L2, n_L2, c_L2, rfl, r_L2⟩
      refine sat_idx (A := A_b) (c := c_b) (kk := .i64) 0 (by kernel_rfl) (by kernel_rfl) (by have := (MayT.of hMb).len; omega) F_b1.addr fun g6 o6 e6 => ?_
      obtain ⟨x3, h_x3⟩ : ∃ x_, b.at_[0]? = some x_ := ⟨_, List.getElem?_eq_getElem (by have := (MayT.of hMb).len; omega)⟩
      refine sat_el F_b1 e6 h_x3 rfl (by kernel_rfl) (by kernel_rfl) (by kernel_rfl) ?_
      rintro _ ⟨A_L4, n_L4, c_L4, rfl, r_L4⟩
      refine sat_call #[.agg #[.bool x1.neg, .slice A_L2 n_L2 c_L2, .int .i64 x1.e], .agg #[.bool x3.neg, .slice A_L4 n_L4 c_L4, .int .i64 x3.e]] (by kernel_rfl) fun w7 h7 => ?_
      refine (cmpD_any _ _ (x1) (x3) _ (h7.rdD r_L2) (h7.rdD r_L4)).mono ?_
      rintro e v7 ⟨rfl, hb7⟩
      refine ⟨hb7, [.int .i64 (cmpD x1 x3)], _, rfl, by kernel_rfl, by kernel_rfl, fun g7 => ?_⟩
      replace F_a1 := F_a1.mv g7.mv; replace F_a2 := F_a2.mv g7.mv; replace F_b1 := F_b1.mv g7.mv; replace F_b2 := F_b2.mv g7.mv; replace r_L2 := g7.rdD r_L2; replace r_L4 := g7.rdD r_L4
      clear h7 hb7
      refine sat_prim (v := .bool (((cmpD x1 x3) : Int) != 0)) (by kernel_rfl) ?_
      cases hF : (((cmpD x1 x3) : Int) != 0)
      · refine sat_false (by kernel_rfl) ?_
        refine sat_prim (v := .int .i64 ((a.v.length : Nat) : Int)) (by kernel_rfl) ?_
        refine sat_idx (A := A_a) (c := c_a) (kk := .i64) (a.v.length) (by kernel_rfl) (by kernel_rfl) (by have := (MayT.of hMa).len; omega) F_a1.addr fun g9 o9 e9 => ?_
        obtain ⟨x5, h_x5⟩ : ∃ x_, a.at_[(a.v.length)]? = some x_ := ⟨_, List.getElem?_eq_getElem (by have := (MayT.of hMa).len; omega)⟩
        refine sat_el F_a1 e9 h_x5 rfl (by kernel_rfl) (by kernel_rfl) (by kernel_rfl) ?_
        rintro _ ⟨A_L6, n_L6, c_L6, rfl, r_L6⟩
        refine sat_prim (v := .int .i64 ((b.v.length : Nat) : Int)) (by kernel_rfl) ?_
        refine sat_idx (A := A_b) (c := c_b) (kk := .i64) (b.v.length) (by kernel_rfl) (by kernel_rfl) (by have := (MayT.of hMb).len; omega) F_b1.addr fun g10 o10 e10 => ?_
        obtain ⟨x7, h_x7⟩ : ∃ x_, b.at_[(b.v.length)]? = some x_ := ⟨_, List.getElem?_eq_getElem (by have := (MayT.of hMb).len; omega)⟩
        refine sat_el F_b1 e10 h_x7 rfl (by kernel_rfl) (by kernel_rfl) (by kernel_rfl) ?_
        rintro _ ⟨A_L8, n_L8, c_L8, rfl, r_L8⟩
        refine sat_call #[.agg #[.bool x5.neg, .slice A_L6 n_L6 c_L6, .int .i64 x5.e], .agg #[.bool x7.neg, .slice A_L8 n_L8 c_L8, .int .i64 x7.e]] (by kernel_rfl) fun w11 h11 => ?_
        refine (cmpD_any _ _ (x5) (x7) _ (h11.rdD r_L6) (h11.rdD r_L8)).mono ?_
        rintro e v11 ⟨rfl, hb11⟩
        refine ⟨hb11, [.int .i64 (cmpD x5 x7)], _, rfl, by kernel_rfl, by kernel_rfl, fun g11 => ?_⟩
        replace F_a1 := F_a1.mv g11.mv; replace F_a2 := F_a2.mv g11.mv; replace F_b1 := F_b1.mv g11.mv; replace F_b2 := F_b2.mv g11.mv; replace r_L2 := g11.rdD r_L2; replace r_L4 := g11.rdD r_L4; replace r_L6 := g11.rdD r_L6; replace r_L8 := g11.rdD r_L8
        clear h11 hb11
        refine sat_prim (v := .bool (((cmpD x5 x7) : Int) != 0)) (by kernel_rfl) ?_
        cases hL : (((cmpD x5 x7) : Int) != 0)
        · refine sat_false (by kernel_rfl) ?_
          refine sat_loop (fun Kn vs W => ∃ i k : Nat, vs = [.int .i64 ((k : Nat) : Int), .int .i64 ((i : Nat) : Int), .bool false] ∧ (a.v.length + b.v.length + 1 ≤ Kn + i + k) ∧ walkT insideI a b (a.v.length + b.v.length + 1) 0 0 = walkT insideI a b Kn i k) [.int .i64 0, .int .i64 0, .bool false] (by kernel_rfl) (fun w1 h1 => ⟨_, 0, 0, rfl, Nat.le_refl _, rfl⟩) ?_
          rintro Kn vs w13 h13 ⟨i, k, rfl, hn, hm⟩
          replace F_a1 := F_a1.mv h13.mv; replace F_a2 := F_a2.mv h13.mv; replace F_b1 := F_b1.mv h13.mv; replace F_b2 := F_b2.mv h13.mv; replace r_L2 := h13.rdD r_L2; replace r_L4 := h13.rdD r_L4; replace r_L6 := h13.rdD r_L6; replace r_L8 := h13.rdD r_L8
          clear h13
          refine sat_prim (v := .int .i64 ((a.v.length : Nat) : Int)) (by kernel_rfl) ?_
          refine sat_prim (v := .bool (decide ((((i : Nat) : Int) : Int) < ((a.v.length : Nat) : Int)))) (by kernel_rfl) ?_
          cases hi : (decide ((((i : Nat) : Int) : Int) < ((a.v.length : Nat) : Int)))
          · refine sat_false (by kernel_rfl) ?_
            exact sat_ret (.bool true) (by kernel_rfl) fun w9 h9 => congrArg Value.bool (by unfold besideT; rw [hMa, hMb, show firstT a = x1 from atT_is h_x1, show firstT b = x3 from atT_is h_x3, hF, last_is hMa h_x5, last_is hMb h_x7, hL]; exact walk_end hm (.inl hi))
          · refine sat_true (by kernel_rfl) ?_
            refine sat_prim (v := .int .i64 ((b.v.length : Nat) : Int)) (by kernel_rfl) ?_
            refine sat_prim (v := .bool (decide ((((k : Nat) : Int) : Int) < ((b.v.length : Nat) : Int)))) (by kernel_rfl) ?_
            cases hk : (decide ((((k : Nat) : Int) : Int) < ((b.v.length : Nat) : Int)))
            · refine sat_false (by kernel_rfl) ?_
              exact sat_ret (.bool true) (by kernel_rfl) fun w9 h9 => congrArg Value.bool (by unfold besideT; rw [hMa, hMb, show firstT a = x1 from atT_is h_x1, show firstT b = x3 from atT_is h_x3, hF, last_is hMa h_x5, last_is hMb h_x7, hL]; exact walk_end hm (.inr hk))
            · refine sat_true (by kernel_rfl) ?_
              refine sat_idx (A := B_a) (c := d_a) (kk := .i64) (i) (by kernel_rfl) (by kernel_rfl) (lt_of hi) F_a2.addr fun g16 o16 e16 => ?_
              obtain ⟨x9, h_x9⟩ : ∃ x_, a.v[(i)]? = some x_ := ⟨_, List.getElem?_eq_getElem (lt_of hi)⟩
              refine sat_el F_a2 e16 h_x9 rfl (by kernel_rfl) (by kernel_rfl) (by kernel_rfl) ?_
              rintro _ ⟨A_L10, n_L10, c_L10, B_L10, m_L10, k_L10, rfl, r_L10l, r_L10h⟩
              refine sat_idx (A := B_b) (c := d_b) (kk := .i64) (k) (by kernel_rfl) (by kernel_rfl) (lt_of hk) F_b2.addr fun g17 o17 e17 => ?_
              obtain ⟨x11, h_x11⟩ : ∃ x_, b.v[(k)]? = some x_ := ⟨_, List.getElem?_eq_getElem (lt_of hk)⟩
              refine sat_el F_b2 e17 h_x11 rfl (by kernel_rfl) (by kernel_rfl) (by kernel_rfl) ?_
              rintro _ ⟨A_L12, n_L12, c_L12, B_L12, m_L12, k_L12, rfl, r_L12l, r_L12h⟩
              refine sat_call #[.agg #[.bool x9.lo.neg, .slice A_L10 n_L10 c_L10, .int .i64 x9.lo.e, .bool x9.hi.neg, .slice B_L10 m_L10 k_L10, .int .i64 x9.hi.e], .agg #[.bool x11.lo.neg, .slice A_L12 n_L12 c_L12, .int .i64 x11.lo.e, .bool x11.hi.neg, .slice B_L12 m_L12 k_L12, .int .i64 x11.hi.e]] (by kernel_rfl) fun w18 h18 => ?_
              refine (insideI_any _ _ x9 x11 _ (mkI (h18.rdD r_L10l) (h18.rdD r_L10h)) (mkI (h18.rdD r_L12l) (h18.rdD r_L12h))).mono ?_
              rintro e v18 ⟨rfl, hb18⟩
              refine ⟨hb18, [.bool (insideI x9 x11)], _, rfl, by kernel_rfl, by kernel_rfl, fun g18 => ?_⟩
              replace F_a1 := F_a1.mv g18.mv; replace F_a2 := F_a2.mv g18.mv; replace F_b1 := F_b1.mv g18.mv; replace F_b2 := F_b2.mv g18.mv; replace r_L2 := g18.rdD r_L2; replace r_L4 := g18.rdD r_L4; replace r_L6 := g18.rdD r_L6; replace r_L8 := g18.rdD r_L8; replace r_L10l := g18.rdD r_L10l; replace r_L10h := g18.rdD r_L10h; replace r_L12l := g18.rdD r_L12l; replace r_L12h := g18.rdD r_L12h
              clear h18 hb18
              refine sat_prim (v := .bool (!(insideI x9 x11))) (by kernel_rfl) ?_
              cases hf : (insideI x9 x11)
              · refine sat_true (by kernel_rfl) ?_
                obtain ⟨m, rfl⟩ : ∃ m, Kn = m + 1 := ⟨Kn - 1, by have := lt_of hi; have := lt_of hk; omega⟩
                exact sat_ret (.bool false) (by kernel_rfl) fun w9 h9 => congrArg Value.bool (by unfold besideT; rw [hMa, hMb, show firstT a = x1 from atT_is h_x1, show firstT b = x3 from atT_is h_x3, hF, last_is hMa h_x5, last_is hMb h_x7, hL]; exact walk_no hm h_x9 h_x11 hf)
              · refine sat_false (by kernel_rfl) ?_
                refine sat_prim (v := .int .i64 ((i + 1 : Nat) : Int)) (Eq.trans (b := some (.int .i64 (IntKind.i64.wrap (((i : Nat) : Int) + 1)))) (by kernel_rfl) (sml (by have := lt_of hi; have := lt_of hk; have := (MayT.of hMa).few; have := (MayT.of hMb).few; omega) (by have := lt_of hi; have := lt_of hk; have := (MayT.of hMa).few; have := (MayT.of hMb).few; omega))) ?_
                refine sat_idx (A := A_a) (c := c_a) (kk := .i64) (i + 1) (by kernel_rfl) (by kernel_rfl) (by have := lt_of hi; have := (MayT.of hMa).len; omega) F_a1.addr fun g20 o20 e20 => ?_
                obtain ⟨x13, h_x13⟩ : ∃ x_, a.at_[(i + 1)]? = some x_ := ⟨_, List.getElem?_eq_getElem (by have := lt_of hi; have := (MayT.of hMa).len; omega)⟩
                refine sat_el F_a1 e20 h_x13 rfl (by kernel_rfl) (by kernel_rfl) (by kernel_rfl) ?_
                rintro _ ⟨A_L14, n_L14, c_L14, rfl, r_L14⟩
                refine sat_prim (v := .int .i64 ((k + 1 : Nat) : Int)) (Eq.trans (b := some (.int .i64 (IntKind.i64.wrap (((k : Nat) : Int) + 1)))) (by kernel_rfl) (sml (by have := lt_of hi; have := lt_of hk; have := (MayT.of hMa).few; have := (MayT.of hMb).few; omega) (by have := lt_of hi; have := lt_of hk; have := (MayT.of hMa).few; have := (MayT.of hMb).few; omega))) ?_
                refine sat_idx (A := A_b) (c := c_b) (kk := .i64) (k + 1) (by kernel_rfl) (by kernel_rfl) (by have := lt_of hk; have := (MayT.of hMb).len; omega) F_b1.addr fun g21 o21 e21 => ?_
                obtain ⟨x15, h_x15⟩ : ∃ x_, b.at_[(k + 1)]? = some x_ := ⟨_, List.getElem?_eq_getElem (by have := lt_of hk; have := (MayT.of hMb).len; omega)⟩
                refine sat_el F_b1 e21 h_x15 rfl (by kernel_rfl) (by kernel_rfl) (by kernel_rfl) ?_
                rintro _ ⟨A_L16, n_L16, c_L16, rfl, r_L16⟩
                refine sat_call #[.agg #[.bool x13.neg, .slice A_L14 n_L14 c_L14, .int .i64 x13.e], .agg #[.bool x15.neg, .slice A_L16 n_L16 c_L16, .int .i64 x15.e]] (by kernel_rfl) fun w22 h22 => ?_
                refine (cmpD_any _ _ (x13) (x15) _ (h22.rdD r_L14) (h22.rdD r_L16)).mono ?_
                rintro e v22 ⟨rfl, hb22⟩
                refine ⟨hb22, [.int .i64 (cmpD x13 x15)], _, rfl, by kernel_rfl, by kernel_rfl, fun g22 => ?_⟩
                replace F_a1 := F_a1.mv g22.mv; replace F_a2 := F_a2.mv g22.mv; replace F_b1 := F_b1.mv g22.mv; replace F_b2 := F_b2.mv g22.mv; replace r_L2 := g22.rdD r_L2; replace r_L4 := g22.rdD r_L4; replace r_L6 := g22.rdD r_L6; replace r_L8 := g22.rdD r_L8; replace r_L10l := g22.rdD r_L10l; replace r_L10h := g22.rdD r_L10h; replace r_L12l := g22.rdD r_L12l; replace r_L12h := g22.rdD r_L12h; replace r_L14 := g22.rdD r_L14; replace r_L16 := g22.rdD r_L16
                clear h22 hb22
                refine sat_prim (v := .bool (decide (((cmpD x13 x15) : Int) < 0))) (by kernel_rfl) ?_
                cases hc : (decide (((cmpD x13 x15) : Int) < 0))
                · refine sat_false (by kernel_rfl) ?_
                  refine sat_prim (v := .bool (((cmpD x13 x15) : Int) == 0)) (by kernel_rfl) ?_
                  cases hz : (((cmpD x13 x15) : Int) == 0)
                  · refine sat_false (by kernel_rfl) ?_
                    refine sat_prim (v := .int .i64 ((k + 1 : Nat) : Int)) (Eq.trans (b := some (.int .i64 (IntKind.i64.wrap (((k : Nat) : Int) + 1)))) (by kernel_rfl) (sml (by have := lt_of hi; have := lt_of hk; have := (MayT.of hMa).few; have := (MayT.of hMb).few; omega) (by have := lt_of hi; have := lt_of hk; have := (MayT.of hMa).few; have := (MayT.of hMb).few; omega))) ?_
                    obtain ⟨m, rfl⟩ : ∃ m, Kn = m + 1 := ⟨Kn - 1, by have := lt_of hi; have := lt_of hk; omega⟩
                    exact sat_back [.int .i64 ((k + 1 : Nat) : Int), .int .i64 ((i : Nat) : Int), .bool false] (by kernel_rfl) fun w9 h9 => ⟨m, by omega, i, k + 1, rfl, by omega, walk_gt hm h_x9 h_x11 hf h_x13 h_x15 hc hz⟩
                  · refine sat_true (by kernel_rfl) ?_
                    refine sat_prim (v := .int .i64 ((i + 1 : Nat) : Int)) (Eq.trans (b := some (.int .i64 (IntKind.i64.wrap (((i : Nat) : Int) + 1)))) (by kernel_rfl) (sml (by have := lt_of hi; have := lt_of hk; have := (MayT.of hMa).few; have := (MayT.of hMb).few; omega) (by have := lt_of hi; have := lt_of hk; have := (MayT.of hMa).few; have := (MayT.of hMb).few; omega))) ?_
                    refine sat_prim (v := .int .i64 ((k + 1 : Nat) : Int)) (Eq.trans (b := some (.int .i64 (IntKind.i64.wrap (((k : Nat) : Int) + 1)))) (by kernel_rfl) (sml (by have := lt_of hi; have := lt_of hk; have := (MayT.of hMa).few; have := (MayT.of hMb).few; omega) (by have := lt_of hi; have := lt_of hk; have := (MayT.of hMa).few; have := (MayT.of hMb).few; omega))) ?_
                    obtain ⟨m, rfl⟩ : ∃ m, Kn = m + 1 := ⟨Kn - 1, by have := lt_of hi; have := lt_of hk; omega⟩
                    exact sat_back [.int .i64 ((k + 1 : Nat) : Int), .int .i64 ((i + 1 : Nat) : Int), .bool false] (by kernel_rfl) fun w9 h9 => ⟨m, by omega, i + 1, k + 1, rfl, by omega, walk_eq hm h_x9 h_x11 hf h_x13 h_x15 hc hz⟩
                · refine sat_true (by kernel_rfl) ?_
                  refine sat_prim (v := .int .i64 ((i + 1 : Nat) : Int)) (Eq.trans (b := some (.int .i64 (IntKind.i64.wrap (((i : Nat) : Int) + 1)))) (by kernel_rfl) (sml (by have := lt_of hi; have := lt_of hk; have := (MayT.of hMa).few; have := (MayT.of hMb).few; omega) (by have := lt_of hi; have := lt_of hk; have := (MayT.of hMa).few; have := (MayT.of hMb).few; omega))) ?_
                  obtain ⟨m, rfl⟩ : ∃ m, Kn = m + 1 := ⟨Kn - 1, by have := lt_of hi; have := lt_of hk; omega⟩
                  exact sat_back [.int .i64 ((k : Nat) : Int), .int .i64 ((i + 1 : Nat) : Int), .bool false] (by kernel_rfl) fun w9 h9 => ⟨m, by omega, i + 1, k, rfl, by omega, walk_lt hm h_x9 h_x11 hf h_x13 h_x15 hc⟩
        · refine sat_true (by kernel_rfl) ?_
          exact sat_ret (.bool false) (by kernel_rfl) fun w9 h9 => congrArg Value.bool (by unfold besideT; rw [hMa, hMb, show firstT a = x1 from atT_is h_x1, show firstT b = x3 from atT_is h_x3, hF, last_is hMa h_x5, last_is hMb h_x7, hL]; rfl)
      · refine sat_true (by kernel_rfl) ?_
        exact sat_ret (.bool false) (by kernel_rfl) fun w9 h9 => congrArg Value.bool (by unfold besideT; rw [hMa, hMb, show firstT a = x1 from atT_is h_x1, show firstT b = x3 from atT_is h_x3, hF]; rfl)

def tr_tinside : Sx.Tree := .chk [.lf 0, .lf 1] (.chk [.lf 2, .lf 3] (.call 75 [.ag [.lf 0, .lf 1], .ag [.lf 2, .lf 3], .one (.fn 59)] .one (.ret (.one (.lf 4)))))
theorem tr_tinside_eq : Sx.treeAt Tryz.prog 33 [] [] [(true, 2), (true, 2)] = some tr_tinside := by kernel_rfl

theorem insideT_any (A_a : Option Addr) (c_a : Nat) (B_a : Option Addr) (d_a : Nat) (A_b : Option Addr) (c_b : Nat) (B_b : Option Addr) (d_b : Nat) (a : Tb) (b : Tb) (w : World) (h_a1 : Sx.Rows Sx.kD (fun _ => True) w A_a a.at_.length c_a a.at_) (h_a2 : Sx.Rows Sx.kI (fun _ => True) w B_a a.v.length d_a a.v) (h_b1 : Sx.Rows Sx.kD (fun _ => True) w A_b b.at_.length c_b b.at_) (h_b2 : Sx.Rows Sx.kI (fun _ => True) w B_b b.v.length d_b b.v) :
    Calls Tryz.prog 33 #[.agg #[.slice A_a a.at_.length c_a, .slice B_a a.v.length d_a], .agg #[.slice A_b b.at_.length c_b, .slice B_b b.v.length d_b]] w fun e w' => e = .returned (.bool (besideT insideI a b)) ∧ Below w.heap.size w w' := by
  have F_a1 := h_a1.start
  have M_a1 := h_a1.le
  clear h_a1
  have F_a2 := h_a2.start
  have M_a2 := h_a2.le
  clear h_a2
  have F_b1 := h_b1.start
  have M_b1 := h_b1.le
  clear h_b1
  have F_b2 := h_b2.start
  have M_b2 := h_b2.le
  clear h_b2
  refine (Sx.runA [] [] (ls := [.slice A_a a.at_.length c_a, .slice B_a a.v.length d_a, .slice A_b b.at_.length c_b, .slice B_b b.v.length d_b]) (shs := [(true, 2), (true, 2)]) (R := fun v _ => v = .bool (besideT insideI a b)) tr_tinside_eq rfl (by decide) (fun q h => by cases h) ?_).mono (fun e w' ⟨v, he, hv, hb⟩ => ⟨by rw [he, hv], hb⟩)
  unfold tr_tinside
  refine sat_chkB (by kernel_rfl) ?_
  refine sat_chkB (by kernel_rfl) ?_
  refine sat_call #[.agg #[.slice A_a a.at_.length c_a, .slice B_a a.v.length d_a], .agg #[.slice A_b b.at_.length c_b, .slice B_b b.v.length d_b], .func (.func 59) #[] #[]] (by kernel_rfl) fun w1 h1 => ?_
  refine (besideInside_any _ _ _ _ _ _ _ _ a b _ ((F_a1.mv h1.mv).any) ((F_a2.mv h1.mv).any) ((F_b1.mv h1.mv).any) ((F_b2.mv h1.mv).any)).mono ?_
  rintro e v1 ⟨rfl, hb1⟩
  refine ⟨hb1, [.bool (besideT insideI a b)], _, rfl, by kernel_rfl, by kernel_rfl, fun g1 => ?_⟩
  replace F_a1 := F_a1.mv g1.mv; replace F_a2 := F_a2.mv g1.mv; replace F_b1 := F_b1.mv g1.mv; replace F_b2 := F_b2.mv g1.mv
  clear h1 hb1
  exact sat_ret (.bool (besideT insideI a b)) (by kernel_rfl) fun w9 h9 => rfl

end Go.Proofs.YtbpfnooloemieaaGreatDoor
namespace Go.Proofs.YtbpfnooloemieaaGreatDoor
open Go.RowKit Pl
open Sx (sat_call sat_chk sat_prim sat_ite sat_true sat_false sat_trueP sat_falseP sat_ret sat_row sat_callP sat_loop sat_back sat_idx sat_el sat_elf sat_elc sat_load sat_rowN sat_app sat_callB sat_alt rows_one rows_two all_nil all_cons okB okS okI)

section
variable {l : List Dy} {x y a b : Dy} {i : Nat} {p : List Dy} {q vs : List Iv} {v : Iv} {r : Tb} {c : Bool}
theorem ck1 (h : l[i + 1]? = some a) (hc : decide (cmpD a x ≤ 0) = true) : (decide (cmpD (atT l (i + 1)) x ≤ 0) || decide ((0 : Int) ≤ cmpD (atT l i) y)) = true := by rw [atT_is h, hc]; rfl
theorem ck2 (h : l[i + 1]? = some a) (hc : decide (cmpD a x ≤ 0) = false) (k : l[i]? = some b) (kc : decide ((0 : Int) ≤ cmpD b y) = c) : (decide (cmpD (atT l (i + 1)) x ≤ 0) || decide ((0 : Int) ≤ cmpD (atT l i) y)) = c := by rw [atT_is h, atT_is k, hc, kc]; rfl
theorem cut_skip (hm : r = cutL l x y i p q (vs.drop i)) (h : vs[i]? = some v) (hc : (decide (cmpD (atT l (i + 1)) x ≤ 0) || decide ((0 : Int) ≤ cmpD (atT l i) y)) = true) : r = cutL l x y (i + 1) p q (vs.drop (i + 1)) := by rw [hm, cutL_cons h, hc]; rfl
theorem cut_take (hm : r = cutL l x y i p q (vs.drop i)) (h : vs[i]? = some v) (hc : (decide (cmpD (atT l (i + 1)) x ≤ 0) || decide ((0 : Int) ≤ cmpD (atT l i) y)) = false) (ha : l[i + 1]? = some a) (k : decide ((0 : Int) < cmpD a y) = c) : r = cutL l x y (i + 1) (p ++ [bif c then y else a]) (q ++ [v]) (vs.drop (i + 1)) := by rw [hm, cutL_cons h, hc, atT_is ha, k]; rfl
end
theorem cut_done {t : Tb} {x y : Dy} {i : Nat} {p : List Dy} {q : List Iv} (h1 : mayT t = true) (h2 : mayD x = true) (h3 : mayD y = true) (h4 : decide ((0 : Int) ≤ cmpD x y) = false) (h5 : holdsT t x = true) (h6 : holdsT t y = true) (hm : cutL t.at_ x y 0 [x] [] t.v = cutL t.at_ x y i p q (t.v.drop i)) (hlt : decide ((i : Int) < (t.v.length : Int)) = false) : (⟨p, q⟩, (0 : Int)) = cutT t x y := by
  unfold cutT
  rw [h1, h2, h3, h4, h5, h6, hm, drop_end hlt]
  rfl

def tr_thalve : Sx.Tree := .chk [.lf 0, .lf 1] (.call 67 [.ag [.lf 0, .lf 1]] .one (.prim .not [.lf 2] (.ite (.lf 3) (.ret (.tup [(true, [.nil, .nil]), (false, [.num .i64 1])])) (.prim .len [.lf 1] (.prim (.bin .mul) [.num .i64 2, .lf 4] (.prim (.bin .gtr) [.lf 5, .num .i64 256] (.ite (.lf 6) (.ret (.tup [(true, [.nil, .nil]), (false, [.num .i64 1])])) (.prim (.idx 3) [.lf 0, .num .i64 0] (.load 30 (.lf 7) (.ag 3) (.row 30 [.lf 8, .lf 9, .lf 10] 1 [] (.chk [.lf 11] (.chk [.lf 11] (.prim .len [.lf 1] (.loop 0 [.num .i64 0, .num .i64 0, .lf 11, .nil] (.prim (.bin .lss) [.lf 13, .lf 12] (.ite (.lf 17) (.prim (.idx 6) [.lf 1, .lf 13] (.load 49 (.lf 18) (.ag 6) (.chk [.lf 19, .lf 20, .lf 21, .lf 22, .lf 23, .lf 24] (.prim (.idx 3) [.lf 0, .lf 13] (.load 30 (.lf 25) (.ag 3) (.prim (.bin .add) [.lf 13, .num .i64 1] (.prim (.idx 3) [.lf 0, .lf 29] (.load 30 (.lf 30) (.ag 3) (.chk [.lf 26, .lf 27, .lf 28, .lf 31, .lf 32, .lf 33] (.call 68 [.ag [.lf 26, .lf 27, .lf 28, .lf 31, .lf 32, .lf 33]] (.tup [(true, 3), (false, 1)]) (.chk [.lf 34, .lf 35, .lf 36] (.prim (.bin .neq) [.lf 37, .num .i64 0] (.ite (.lf 38) (.ret (.tup [(true, [.nil, .nil]), (false, [.lf 37])])) (.prim (.bin .add) [.lf 13, .num .i64 1] (.prim (.idx 3) [.lf 0, .lf 39] (.load 30 (.lf 40) (.ag 3) (.alt (.row 30 [.lf 34, .lf 35, .lf 36, .lf 41, .lf 42, .lf 43] 2 [] (.alt (.app 30 3 40 (.lf 15) (.lf 44) (.row 49 [.lf 19, .lf 20, .lf 21, .lf 22, .lf 23, .lf 24, .lf 19, .lf 20, .lf 21, .lf 22, .lf 23, .lf 24] 2 [] (.app 49 6 80 (.lf 16) (.lf 46) (.chk [.lf 45] (.chk [.lf 47] (.prim (.bin .add) [.lf 13, .num .i64 1] (.back 0 [.lf 48, .lf 14, .lf 45, .lf 47]))))))) (.row 49 [.lf 19, .lf 20, .lf 21, .lf 22, .lf 23, .lf 24, .lf 19, .lf 20, .lf 21, .lf 22, .lf 23, .lf 24] 2 [] (.app 30 3 40 (.lf 15) (.lf 44) (.app 49 6 80 (.lf 16) (.lf 45) (.chk [.lf 46] (.chk [.lf 47] (.prim (.bin .add) [.lf 13, .num .i64 1] (.back 0 [.lf 48, .lf 14, .lf 46, .lf 47]))))))))) (.row 49 [.lf 19, .lf 20, .lf 21, .lf 22, .lf 23, .lf 24, .lf 19, .lf 20, .lf 21, .lf 22, .lf 23, .lf 24] 2 [] (.row 30 [.lf 34, .lf 35, .lf 36, .lf 41, .lf 42, .lf 43] 2 [] (.app 30 3 40 (.lf 15) (.lf 45) (.app 49 6 80 (.lf 16) (.lf 44) (.chk [.lf 46] (.chk [.lf 47] (.prim (.bin .add) [.lf 13, .num .i64 1] (.back 0 [.lf 48, .lf 14, .lf 46, .lf 47]))))))))))))))))))))))))) (.chk [.lf 15, .lf 16] (.ret (.tup [(true, [.lf 15, .lf 16]), (false, [.num .i64 0])])))))))))))))))))))
theorem tr_thalve_eq : Sx.treeAt Tryz.prog 27 [] [2] [(true, 2)] = some tr_thalve := by kernel_rfl

set_option maxRecDepth 100000 in
set_option maxHeartbeats 4000000 in
theorem halveT_any (A_t : Option Addr) (c_t : Nat) (B_t : Option Addr) (d_t : Nat) (t : Tb) (w : World) (h_t1 : Sx.Rows Sx.kD (fun _ => True) w A_t t.at_.length c_t t.at_) (h_t2 : Sx.Rows Sx.kI (fun _ => True) w B_t t.v.length d_t t.v) (hT : TabAt w) :
    Calls Tryz.prog 27 #[.agg #[.slice A_t t.at_.length c_t, .slice B_t t.v.length d_t]] w fun e w' => TbTup w w' e (halveT t) ∧ Below w.heap.size w w' := by
  have F_t1 := h_t1.start
  have M_t1 := h_t1.le
  clear h_t1
  have F_t2 := h_t2.start
  have M_t2 := h_t2.le
  clear h_t2
  refine (Sx.runA [] [2] (ls := [.slice A_t t.at_.length c_t, .slice B_t t.v.length d_t]) (shs := [(true, 2)]) (R := fun v w' => TbTup w w' (.returned v) (halveT t)) tr_thalve_eq rfl (by decide) (fun q h => by cases h) ?_).mono (fun e w' ⟨v, he, hv, hb⟩ => ⟨by rw [he]; exact hv, hb⟩)
  unfold tr_thalve
  refine sat_chkB (by kernel_rfl) ?_
  refine sat_call #[.agg #[.slice A_t t.at_.length c_t, .slice B_t t.v.length d_t]] (by kernel_rfl) fun w1 h1 => ?_
  refine (mayT_any _ _ _ _ t _ ((F_t1.mv h1.mv).any) ((F_t2.mv h1.mv).any)).mono ?_
  rintro e v1 ⟨rfl, hb1⟩
  refine ⟨hb1, [.bool (mayT t)], _, rfl, by kernel_rfl, by kernel_rfl, fun g1 => ?_⟩
  replace F_t1 := F_t1.mv g1.mv; replace F_t2 := F_t2.mv g1.mv
  clear h1 hb1
  refine sat_prim (v := .bool (!(mayT t))) (by kernel_rfl) ?_
  cases hMT : (mayT t)
  · refine sat_true (by kernel_rfl) ?_
    exact sat_ret (.tuple #[.agg #[.slice none 0 0, .slice none 0 0], .int .i64 1]) (by kernel_rfl) fun w9 h9 => TbTup.nil (by unfold halveT; rw [hMT]; rfl)
  · refine sat_false (by kernel_rfl) ?_
    refine sat_prim (v := .int .i64 ((t.v.length : Nat) : Int)) (by kernel_rfl) ?_
    refine sat_prim (v := .int .i64 ((2 * t.v.length : Nat) : Int)) (Eq.trans (b := some (.int .i64 (IntKind.i64.wrap (2 * ((t.v.length : Nat) : Int))))) (by kernel_rfl) (sml (by have := (MayT.of hMT).few; omega) (by have := (MayT.of hMT).few; omega))) ?_
    refine sat_prim (v := .bool (decide ((256 : Int) < ((2 * t.v.length : Nat) : Int)))) (by kernel_rfl) ?_
    cases hS : (decide ((256 : Int) < ((2 * t.v.length : Nat) : Int)))
    · refine sat_false (by kernel_rfl) ?_
      refine sat_idx (A := A_t) (c := c_t) (kk := .i64) 0 (by kernel_rfl) (by kernel_rfl) (by have := (MayT.of hMT).len; omega) F_t1.addr fun g4 o4 e4 => ?_
      obtain ⟨x1, h_x1⟩ : ∃ x_, t.at_[0]? = some x_ := ⟨_, List.getElem?_eq_getElem (by have := (MayT.of hMT).len; omega)⟩
      refine sat_el F_t1 e4 h_x1 rfl (by kernel_rfl) (by kernel_rfl) (by kernel_rfl) ?_
      rintro _ ⟨A_L2, n_L2, c_L2, rfl, r_L2⟩
      refine Sx.sat_rowB [.bool x1.neg, .slice A_L2 n_L2 c_L2, .int .i64 x1.e] (by kernel_rfl) (by intro x hx; cases hx) fun u1 h1 B1 Z1 => ?_
      replace F_t1 := F_t1.mv h1.mv; replace F_t2 := F_t2.mv h1.mv; replace r_L2 := h1.rdD r_L2
      have G_P3 : Sx.Gr Sx.kD w 30 _ (.slice (some ⟨u1.heap.size, 0, none⟩) 1 1) [x1] := Sx.Gr.one (k := Sx.kD) (by decide) B1 (List.mem_cons_self ..) Z1 ⟨_, _, _, rfl, r_L2⟩
      generalize u1.heap.size = N_P3 at *
      generalize (u1.alloc _) = w_P3 at *
      clear B1 h1 Z1
      refine sat_chkB (by kernel_rfl) ?_
      refine sat_chkB (by kernel_rfl) ?_
      refine sat_prim (v := .int .i64 ((t.v.length : Nat) : Int)) (by kernel_rfl) ?_
      refine sat_loop (fun Kn vs W => ∃ (i : Nat) (p : List Dy) (A_p : Option Addr) (c_p : Nat) (q : List Iv) (A_q : Option Addr) (c_q : Nat), vs = [.int .i64 ((i : Nat) : Int), .int .i64 0, .slice A_p p.length c_p, .slice A_q q.length c_q] ∧ Kn = t.v.length - i ∧ i ≤ t.v.length ∧ (Sx.Gr Sx.kD w 30 W (.slice A_p p.length c_p) p) ∧ (Sx.Gr Sx.kI w 49 W (.slice A_q q.length c_q) q) ∧ (Sx.Apart (.slice A_p p.length c_p) (.slice A_q q.length c_q)) ∧ (halveT t = halvL t.at_ i p q (t.v.drop i)) ∧ (p.length = 2 * i + 1) ∧ (q.length = 2 * i)) [.int .i64 0, .int .i64 0, .slice (some ⟨N_P3, 0, none⟩) 1 1, .slice none 0 0] (by kernel_rfl) (fun w1 h1 => ⟨_, 0, [x1], _, _, [], none, 0, rfl, rfl, Nat.zero_le _, G_P3.le h1, Sx.Gr.nil (by decide) _ _ _, Sx.Apart.nil, halve_start hMT hS h_x1, rfl, rfl⟩) ?_
      rintro Kn vs w5 h5 ⟨i, p, A_p, c_p, q, A_q, c_q, rfl, rfl, h_i, G_p, G_q, D, hm, hp, hq⟩
      replace F_t1 := F_t1.mv h5.mv; replace F_t2 := F_t2.mv h5.mv; replace r_L2 := h5.rdD r_L2
      clear h5
      refine sat_prim (v := .bool (decide ((((i : Nat) : Int) : Int) < ((t.v.length : Nat) : Int)))) (by kernel_rfl) ?_
      cases hlt : (decide ((((i : Nat) : Int) : Int) < ((t.v.length : Nat) : Int)))
      · refine sat_false (by kernel_rfl) ?_
        refine sat_chkB (by kernel_rfl) ?_
        exact sat_ret (.tuple #[.agg #[.slice A_p p.length c_p, .slice A_q q.length c_q], .int .i64 0]) (by kernel_rfl) fun w9 h9 => ⟨p, q, 0, _, _, _, _, rfl, hide (halve_end hm hlt), (G_p.le h9).done fun h => h, (G_q.le h9).done fun h => h⟩
      · refine sat_true (by kernel_rfl) ?_
        refine sat_idx (A := B_t) (c := d_t) (kk := .i64) (i) (by kernel_rfl) (by kernel_rfl) (lt_of hlt) F_t2.addr fun g7 o7 e7 => ?_
        obtain ⟨x4, h_x4⟩ : ∃ x_, t.v[(i)]? = some x_ := ⟨_, List.getElem?_eq_getElem (lt_of hlt)⟩
        refine sat_el F_t2 e7 h_x4 rfl (by kernel_rfl) (by kernel_rfl) (by kernel_rfl) ?_
        rintro _ ⟨A_L5, n_L5, c_L5, B_L5, m_L5, k_L5, rfl, r_L5l, r_L5h⟩
        refine sat_chkB (by kernel_rfl) ?_
        refine sat_idx (A := A_t) (c := c_t) (kk := .i64) (i) (by kernel_rfl) (by kernel_rfl) (by have := lt_of hlt; have := (MayT.of hMT).len; omega) F_t1.addr fun g8 o8 e8 => ?_
        obtain ⟨x6, h_x6⟩ : ∃ x_, t.at_[(i)]? = some x_ := ⟨_, List.getElem?_eq_getElem (by have := lt_of hlt; have := (MayT.of hMT).len; omega)⟩
        refine sat_el F_t1 e8 h_x6 rfl (by kernel_rfl) (by kernel_rfl) (by kernel_rfl) ?_
        rintro _ ⟨A_L7, n_L7, c_L7, rfl, r_L7⟩
        refine sat_prim (v := .int .i64 (((i + 1 : Nat)) : Int)) (Eq.trans (b := some (.int .i64 (IntKind.i64.wrap ((((i) : Nat) : Int) + 1)))) (by kernel_rfl) (by rw [Sx.wrap_succ (n := t.v.length) (lt_of hlt) M_t2])) ?_
        refine sat_idx (A := A_t) (c := c_t) (kk := .i64) (((i + 1 : Nat))) (by kernel_rfl) (by kernel_rfl) (by have := lt_of hlt; have := (MayT.of hMT).len; omega) F_t1.addr fun g9 o9 e9 => ?_
        obtain ⟨x8, h_x8⟩ : ∃ x_, t.at_[(((i + 1 : Nat)))]? = some x_ := ⟨_, List.getElem?_eq_getElem (by have := lt_of hlt; have := (MayT.of hMT).len; omega)⟩
        refine sat_el F_t1 e9 h_x8 rfl (by kernel_rfl) (by kernel_rfl) (by kernel_rfl) ?_
        rintro _ ⟨A_L9, n_L9, c_L9, rfl, r_L9⟩
        refine sat_chkB (by kernel_rfl) ?_
        refine sat_call #[.agg #[.bool x6.neg, .slice A_L7 n_L7 c_L7, .int .i64 x6.e, .bool x8.neg, .slice A_L9 n_L9 c_L9, .int .i64 x8.e]] (by kernel_rfl) fun w10 h10 => ?_
        refine (midI_any _ ⟨x6, x8⟩ _ (mkI (h10.rdD r_L7) (h10.rdD r_L9)) (h10.tab hT)).mono ?_
        rintro e v10 ⟨⟨d_w10, x_w10, A_w10, n_w10, c_w10, h_w10, rfl, r_w10⟩, hb10⟩
        refine ⟨hb10, [.bool d_w10.neg, .slice A_w10 n_w10 c_w10, .int .i64 d_w10.e, .int .i64 x_w10], _, rfl, by kernel_rfl, by kernel_rfl, fun g10 => ?_⟩
        replace F_t1 := F_t1.mv g10.mv; replace F_t2 := F_t2.mv g10.mv; replace r_L2 := g10.rdD r_L2; replace G_p := G_p.le g10; replace G_q := G_q.le g10; replace r_L5l := g10.rdD r_L5l; replace r_L5h := g10.rdD r_L5h; replace r_L7 := g10.rdD r_L7; replace r_L9 := g10.rdD r_L9
        clear h10 hb10
        refine sat_chkB (by kernel_rfl) ?_
        refine sat_prim (v := .bool ((x_w10 : Int) != 0)) (by kernel_rfl) ?_
        cases hz : ((x_w10 : Int) != 0)
        · refine sat_false (by kernel_rfl) ?_
          refine sat_prim (v := .int .i64 (((i + 1 : Nat)) : Int)) (Eq.trans (b := some (.int .i64 (IntKind.i64.wrap ((((i) : Nat) : Int) + 1)))) (by kernel_rfl) (by rw [Sx.wrap_succ (n := t.v.length) (lt_of hlt) M_t2])) ?_
          refine sat_idx (A := A_t) (c := c_t) (kk := .i64) (((i + 1 : Nat))) (by kernel_rfl) (by kernel_rfl) (by have := lt_of hlt; have := (MayT.of hMT).len; omega) F_t1.addr fun g12 o12 e12 => ?_
          refine sat_el F_t1 e12 h_x8 rfl (by kernel_rfl) (by kernel_rfl) (by kernel_rfl) ?_
          rintro _ ⟨A_L11, n_L11, c_L11, rfl, r_L11⟩
          refine sat_alt ?_ ?_
          · refine sat_rowN [.bool d_w10.neg, .slice A_w10 n_w10 c_w10, .int .i64 d_w10.e, .bool x8.neg, .slice A_L11 n_L11 c_L11, .int .i64 x8.e] (by kernel_rfl) (by intro x hx; cases hx) fun u1 h1 B1 NB1 => ?_
            replace F_t1 := F_t1.mv h1.mv; replace F_t2 := F_t2.mv h1.mv; replace r_L2 := h1.rdD r_L2; replace G_p := G_p.le h1; replace G_q := G_q.le h1; replace r_L5l := h1.rdD r_L5l; replace r_L5h := h1.rdD r_L5h; replace r_L7 := h1.rdD r_L7; replace r_L9 := h1.rdD r_L9; replace r_w10 := h1.rdD r_w10; replace r_L11 := h1.rdD r_L11
            have F_R12 : Sx.Rows Sx.kD (Sx.NB _) _ (some ⟨u1.heap.size, 0, none⟩) 2 2 [d_w10, x8] := rows_two (k := Sx.kD) (cs := [.bool d_w10.neg, .slice A_w10 n_w10 c_w10, .int .i64 d_w10.e]) B1 NB1 ⟨_, _, _, rfl, r_w10⟩ ⟨_, _, _, rfl, r_L11⟩
            generalize u1.heap.size = N_R12 at *
            generalize (u1.alloc _) = w_R12 at *
            clear B1 h1 NB1
            refine sat_alt ?_ ?_
            · refine sat_app (.slice A_p p.length c_p) (.slice (some ⟨N_R12, 0, none⟩) 2 2) (by kernel_rfl) (by kernel_rfl) fun w13 h13 => ?_
              refine (G_p.le h13).app (l' := [d_w10, x8]) (F_R12.mv h13.mv) (by have := lt_of hlt; have := (MayT.of hMT).few; simp only [List.length_cons, List.length_nil, maxLen]; omega) (by have := lt_of hlt; have := (MayT.of hMT).few; simp only [List.length_cons, List.length_nil]; omega) fun A_G13 c_G13 v13 a13 G13 => ?_
              have Q13 := (G_q.le h13).other a13 D h13.wf
              replace G_q := Q13.1
              replace D := Q13.2
              replace F_t1 := F_t1.mv h13.mv; replace F_t2 := F_t2.mv h13.mv; replace r_L2 := h13.rdD r_L2; replace r_L5l := h13.rdD r_L5l; replace r_L5h := h13.rdD r_L5h; replace r_L7 := h13.rdD r_L7; replace r_L9 := h13.rdD r_L9; replace r_w10 := h13.rdD r_w10; replace r_L11 := h13.rdD r_L11; replace F_R12 := F_R12.mv h13.mv
              replace F_t1 := F_t1.mv a13.toLf.mv; replace F_t2 := F_t2.mv a13.toLf.mv; replace r_L2 := a13.toLf.rdD r_L2; replace r_L5l := a13.toLf.rdD r_L5l; replace r_L5h := a13.toLf.rdD r_L5h; replace r_L7 := a13.toLf.rdD r_L7; replace r_L9 := a13.toLf.rdD r_L9; replace r_w10 := a13.toLf.rdD r_w10; replace r_L11 := a13.toLf.rdD r_L11; replace F_R12 := F_R12.mv a13.toLf.mv
              clear h13 a13 G_p Q13
              refine sat_rowN [.bool x4.lo.neg, .slice A_L5 n_L5 c_L5, .int .i64 x4.lo.e, .bool x4.hi.neg, .slice B_L5 m_L5 k_L5, .int .i64 x4.hi.e, .bool x4.lo.neg, .slice A_L5 n_L5 c_L5, .int .i64 x4.lo.e, .bool x4.hi.neg, .slice B_L5 m_L5 k_L5, .int .i64 x4.hi.e] (by kernel_rfl) (by intro x hx; cases hx) fun u1 h1 B1 NB1 => ?_
              replace F_t1 := F_t1.mv h1.mv; replace F_t2 := F_t2.mv h1.mv; replace r_L2 := h1.rdD r_L2; replace r_L5l := h1.rdD r_L5l; replace r_L5h := h1.rdD r_L5h; replace r_L7 := h1.rdD r_L7; replace r_L9 := h1.rdD r_L9; replace r_w10 := h1.rdD r_w10; replace r_L11 := h1.rdD r_L11; replace F_R12 := F_R12.mv h1.mv; replace G_q := G_q.le h1; replace G13 := G13.le h1
              have F_R14 : Sx.Rows Sx.kI (Sx.NB _) _ (some ⟨u1.heap.size, 0, none⟩) 2 2 [x4, x4] := rows_two (k := Sx.kI) (cs := [.bool x4.lo.neg, .slice A_L5 n_L5 c_L5, .int .i64 x4.lo.e, .bool x4.hi.neg, .slice B_L5 m_L5 k_L5, .int .i64 x4.hi.e]) B1 NB1 ⟨_, _, _, _, _, _, rfl, r_L5l, r_L5h⟩ ⟨_, _, _, _, _, _, rfl, r_L5l, r_L5h⟩
              generalize u1.heap.size = N_R14 at *
              generalize (u1.alloc _) = w_R14 at *
              clear B1 h1 NB1
              refine sat_app (.slice A_q q.length c_q) (.slice (some ⟨N_R14, 0, none⟩) 2 2) (by kernel_rfl) (by kernel_rfl) fun w14 h14 => ?_
              refine (G_q.le h14).app (l' := [x4, x4]) (F_R14.mv h14.mv) (by have := lt_of hlt; have := (MayT.of hMT).few; simp only [List.length_cons, List.length_nil, maxLen]; omega) (by have := lt_of hlt; have := (MayT.of hMT).few; simp only [List.length_cons, List.length_nil]; omega) fun A_G15 c_G15 v14 a14 G15 => ?_
              have Q14 := (G13.le h14).other a14 D.symm h14.wf
              replace G13 := Q14.1
              replace D := Q14.2.symm
              replace F_t1 := F_t1.mv h14.mv; replace F_t2 := F_t2.mv h14.mv; replace r_L2 := h14.rdD r_L2; replace r_L5l := h14.rdD r_L5l; replace r_L5h := h14.rdD r_L5h; replace r_L7 := h14.rdD r_L7; replace r_L9 := h14.rdD r_L9; replace r_w10 := h14.rdD r_w10; replace r_L11 := h14.rdD r_L11; replace F_R12 := F_R12.mv h14.mv; replace F_R14 := F_R14.mv h14.mv
              replace F_t1 := F_t1.mv a14.toLf.mv; replace F_t2 := F_t2.mv a14.toLf.mv; replace r_L2 := a14.toLf.rdD r_L2; replace r_L5l := a14.toLf.rdD r_L5l; replace r_L5h := a14.toLf.rdD r_L5h; replace r_L7 := a14.toLf.rdD r_L7; replace r_L9 := a14.toLf.rdD r_L9; replace r_w10 := a14.toLf.rdD r_w10; replace r_L11 := a14.toLf.rdD r_L11; replace F_R12 := F_R12.mv a14.toLf.mv; replace F_R14 := F_R14.mv a14.toLf.mv
              clear h14 a14 G_q Q14
              refine sat_chkB (by kernel_rfl) ?_
              refine sat_chkB (by kernel_rfl) ?_
              refine sat_prim (v := .int .i64 (((i + 1 : Nat)) : Int)) (Eq.trans (b := some (.int .i64 (IntKind.i64.wrap ((((i) : Nat) : Int) + 1)))) (by kernel_rfl) (by rw [Sx.wrap_succ (n := t.v.length) (lt_of hlt) M_t2])) ?_
              exact sat_back [.int .i64 (((i + 1 : Nat)) : Int), .int .i64 0, .slice A_G13 (p ++ [d_w10, x8]).length c_G13, .slice A_G15 (q ++ [x4, x4]).length c_G15] (by kernel_rfl) fun w9 h9 => ⟨_, by have := lt_of hlt; omega, i + 1, (p ++ [d_w10, x8]), _, _, (q ++ [x4, x4]), _, _, rfl, rfl, by have := lt_of hlt; omega, G13.le h9, G15.le h9, D, halve_step hm h_x4 h_x6 h_x8 h_w10 hz, by rw [List.length_append, hp]; simp only [List.length_cons, List.length_nil]; omega, by rw [List.length_append, hq]; simp only [List.length_cons, List.length_nil]; omega⟩
            · refine sat_rowN [.bool x4.lo.neg, .slice A_L5 n_L5 c_L5, .int .i64 x4.lo.e, .bool x4.hi.neg, .slice B_L5 m_L5 k_L5, .int .i64 x4.hi.e, .bool x4.lo.neg, .slice A_L5 n_L5 c_L5, .int .i64 x4.lo.e, .bool x4.hi.neg, .slice B_L5 m_L5 k_L5, .int .i64 x4.hi.e] (by kernel_rfl) (by intro x hx; cases hx) fun u1 h1 B1 NB1 => ?_
              replace F_t1 := F_t1.mv h1.mv; replace F_t2 := F_t2.mv h1.mv; replace r_L2 := h1.rdD r_L2; replace G_p := G_p.le h1; replace G_q := G_q.le h1; replace r_L5l := h1.rdD r_L5l; replace r_L5h := h1.rdD r_L5h; replace r_L7 := h1.rdD r_L7; replace r_L9 := h1.rdD r_L9; replace r_w10 := h1.rdD r_w10; replace r_L11 := h1.rdD r_L11; replace F_R12 := F_R12.mv h1.mv
              have F_R13 : Sx.Rows Sx.kI (Sx.NB _) _ (some ⟨u1.heap.size, 0, none⟩) 2 2 [x4, x4] := rows_two (k := Sx.kI) (cs := [.bool x4.lo.neg, .slice A_L5 n_L5 c_L5, .int .i64 x4.lo.e, .bool x4.hi.neg, .slice B_L5 m_L5 k_L5, .int .i64 x4.hi.e]) B1 NB1 ⟨_, _, _, _, _, _, rfl, r_L5l, r_L5h⟩ ⟨_, _, _, _, _, _, rfl, r_L5l, r_L5h⟩
              generalize u1.heap.size = N_R13 at *
              generalize (u1.alloc _) = w_R13 at *
              clear B1 h1 NB1
              refine sat_app (.slice A_p p.length c_p) (.slice (some ⟨N_R12, 0, none⟩) 2 2) (by kernel_rfl) (by kernel_rfl) fun w13 h13 => ?_
              refine (G_p.le h13).app (l' := [d_w10, x8]) (F_R12.mv h13.mv) (by have := lt_of hlt; have := (MayT.of hMT).few; simp only [List.length_cons, List.length_nil, maxLen]; omega) (by have := lt_of hlt; have := (MayT.of hMT).few; simp only [List.length_cons, List.length_nil]; omega) fun A_G14 c_G14 v13 a13 G14 => ?_
              have Q13 := (G_q.le h13).other a13 D h13.wf
              replace G_q := Q13.1
              replace D := Q13.2
              replace F_t1 := F_t1.mv h13.mv; replace F_t2 := F_t2.mv h13.mv; replace r_L2 := h13.rdD r_L2; replace r_L5l := h13.rdD r_L5l; replace r_L5h := h13.rdD r_L5h; replace r_L7 := h13.rdD r_L7; replace r_L9 := h13.rdD r_L9; replace r_w10 := h13.rdD r_w10; replace r_L11 := h13.rdD r_L11; replace F_R12 := F_R12.mv h13.mv; replace F_R13 := F_R13.mv h13.mv
              replace F_t1 := F_t1.mv a13.toLf.mv; replace F_t2 := F_t2.mv a13.toLf.mv; replace r_L2 := a13.toLf.rdD r_L2; replace r_L5l := a13.toLf.rdD r_L5l; replace r_L5h := a13.toLf.rdD r_L5h; replace r_L7 := a13.toLf.rdD r_L7; replace r_L9 := a13.toLf.rdD r_L9; replace r_w10 := a13.toLf.rdD r_w10; replace r_L11 := a13.toLf.rdD r_L11; replace F_R12 := F_R12.mv a13.toLf.mv; replace F_R13 := F_R13.mv a13.toLf.mv
              clear h13 a13 G_p Q13
              refine sat_app (.slice A_q q.length c_q) (.slice (some ⟨N_R13, 0, none⟩) 2 2) (by kernel_rfl) (by kernel_rfl) fun w14 h14 => ?_
              refine (G_q.le h14).app (l' := [x4, x4]) (F_R13.mv h14.mv) (by have := lt_of hlt; have := (MayT.of hMT).few; simp only [List.length_cons, List.length_nil, maxLen]; omega) (by have := lt_of hlt; have := (MayT.of hMT).few; simp only [List.length_cons, List.length_nil]; omega) fun A_G15 c_G15 v14 a14 G15 => ?_
              have Q14 := (G14.le h14).other a14 D.symm h14.wf
              replace G14 := Q14.1
              replace D := Q14.2.symm
              replace F_t1 := F_t1.mv h14.mv; replace F_t2 := F_t2.mv h14.mv; replace r_L2 := h14.rdD r_L2; replace r_L5l := h14.rdD r_L5l; replace r_L5h := h14.rdD r_L5h; replace r_L7 := h14.rdD r_L7; replace r_L9 := h14.rdD r_L9; replace r_w10 := h14.rdD r_w10; replace r_L11 := h14.rdD r_L11; replace F_R12 := F_R12.mv h14.mv; replace F_R13 := F_R13.mv h14.mv
              replace F_t1 := F_t1.mv a14.toLf.mv; replace F_t2 := F_t2.mv a14.toLf.mv; replace r_L2 := a14.toLf.rdD r_L2; replace r_L5l := a14.toLf.rdD r_L5l; replace r_L5h := a14.toLf.rdD r_L5h; replace r_L7 := a14.toLf.rdD r_L7; replace r_L9 := a14.toLf.rdD r_L9; replace r_w10 := a14.toLf.rdD r_w10; replace r_L11 := a14.toLf.rdD r_L11; replace F_R12 := F_R12.mv a14.toLf.mv; replace F_R13 := F_R13.mv a14.toLf.mv
              clear h14 a14 G_q Q14
              refine sat_chkB (by kernel_rfl) ?_
              refine sat_chkB (by kernel_rfl) ?_
              refine sat_prim (v := .int .i64 (((i + 1 : Nat)) : Int)) (Eq.trans (b := some (.int .i64 (IntKind.i64.wrap ((((i) : Nat) : Int) + 1)))) (by kernel_rfl) (by rw [Sx.wrap_succ (n := t.v.length) (lt_of hlt) M_t2])) ?_
              exact sat_back [.int .i64 (((i + 1 : Nat)) : Int), .int .i64 0, .slice A_G14 (p ++ [d_w10, x8]).length c_G14, .slice A_G15 (q ++ [x4, x4]).length c_G15] (by kernel_rfl) fun w9 h9 => ⟨_, by have := lt_of hlt; omega, i + 1, (p ++ [d_w10, x8]), _, _, (q ++ [x4, x4]), _, _, rfl, rfl, by have := lt_of hlt; omega, G14.le h9, G15.le h9, D, halve_step hm h_x4 h_x6 h_x8 h_w10 hz, by rw [List.length_append, hp]; simp only [List.length_cons, List.length_nil]; omega, by rw [List.length_append, hq]; simp only [List.length_cons, List.length_nil]; omega⟩
          · refine sat_rowN [.bool x4.lo.neg, .slice A_L5 n_L5 c_L5, .int .i64 x4.lo.e, .bool x4.hi.neg, .slice B_L5 m_L5 k_L5, .int .i64 x4.hi.e, .bool x4.lo.neg, .slice A_L5 n_L5 c_L5, .int .i64 x4.lo.e, .bool x4.hi.neg, .slice B_L5 m_L5 k_L5, .int .i64 x4.hi.e] (by kernel_rfl) (by intro x hx; cases hx) fun u1 h1 B1 NB1 => ?_
            replace F_t1 := F_t1.mv h1.mv; replace F_t2 := F_t2.mv h1.mv; replace r_L2 := h1.rdD r_L2; replace G_p := G_p.le h1; replace G_q := G_q.le h1; replace r_L5l := h1.rdD r_L5l; replace r_L5h := h1.rdD r_L5h; replace r_L7 := h1.rdD r_L7; replace r_L9 := h1.rdD r_L9; replace r_w10 := h1.rdD r_w10; replace r_L11 := h1.rdD r_L11
            have F_R12 : Sx.Rows Sx.kI (Sx.NB _) _ (some ⟨u1.heap.size, 0, none⟩) 2 2 [x4, x4] := rows_two (k := Sx.kI) (cs := [.bool x4.lo.neg, .slice A_L5 n_L5 c_L5, .int .i64 x4.lo.e, .bool x4.hi.neg, .slice B_L5 m_L5 k_L5, .int .i64 x4.hi.e]) B1 NB1 ⟨_, _, _, _, _, _, rfl, r_L5l, r_L5h⟩ ⟨_, _, _, _, _, _, rfl, r_L5l, r_L5h⟩
            generalize u1.heap.size = N_R12 at *
            generalize (u1.alloc _) = w_R12 at *
            clear B1 h1 NB1
            refine sat_rowN [.bool d_w10.neg, .slice A_w10 n_w10 c_w10, .int .i64 d_w10.e, .bool x8.neg, .slice A_L11 n_L11 c_L11, .int .i64 x8.e] (by kernel_rfl) (by intro x hx; cases hx) fun u1 h1 B1 NB1 => ?_
            replace F_t1 := F_t1.mv h1.mv; replace F_t2 := F_t2.mv h1.mv; replace r_L2 := h1.rdD r_L2; replace G_p := G_p.le h1; replace G_q := G_q.le h1; replace r_L5l := h1.rdD r_L5l; replace r_L5h := h1.rdD r_L5h; replace r_L7 := h1.rdD r_L7; replace r_L9 := h1.rdD r_L9; replace r_w10 := h1.rdD r_w10; replace r_L11 := h1.rdD r_L11; replace F_R12 := F_R12.mv h1.mv
            have F_R13 : Sx.Rows Sx.kD (Sx.NB _) _ (some ⟨u1.heap.size, 0, none⟩) 2 2 [d_w10, x8] := rows_two (k := Sx.kD) (cs := [.bool d_w10.neg, .slice A_w10 n_w10 c_w10, .int .i64 d_w10.e]) B1 NB1 ⟨_, _, _, rfl, r_w10⟩ ⟨_, _, _, rfl, r_L11⟩
            generalize u1.heap.size = N_R13 at *
            generalize (u1.alloc _) = w_R13 at *
            clear B1 h1 NB1
            refine sat_app (.slice A_p p.length c_p) (.slice (some ⟨N_R13, 0, none⟩) 2 2) (by kernel_rfl) (by kernel_rfl) fun w13 h13 => ?_
            refine (G_p.le h13).app (l' := [d_w10, x8]) (F_R13.mv h13.mv) (by have := lt_of hlt; have := (MayT.of hMT).few; simp only [List.length_cons, List.length_nil, maxLen]; omega) (by have := lt_of hlt; have := (MayT.of hMT).few; simp only [List.length_cons, List.length_nil]; omega) fun A_G14 c_G14 v13 a13 G14 => ?_
            have Q13 := (G_q.le h13).other a13 D h13.wf
            replace G_q := Q13.1
            replace D := Q13.2
            replace F_t1 := F_t1.mv h13.mv; replace F_t2 := F_t2.mv h13.mv; replace r_L2 := h13.rdD r_L2; replace r_L5l := h13.rdD r_L5l; replace r_L5h := h13.rdD r_L5h; replace r_L7 := h13.rdD r_L7; replace r_L9 := h13.rdD r_L9; replace r_w10 := h13.rdD r_w10; replace r_L11 := h13.rdD r_L11; replace F_R12 := F_R12.mv h13.mv; replace F_R13 := F_R13.mv h13.mv
            replace F_t1 := F_t1.mv a13.toLf.mv; replace F_t2 := F_t2.mv a13.toLf.mv; replace r_L2 := a13.toLf.rdD r_L2; replace r_L5l := a13.toLf.rdD r_L5l; replace r_L5h := a13.toLf.rdD r_L5h; replace r_L7 := a13.toLf.rdD r_L7; replace r_L9 := a13.toLf.rdD r_L9; replace r_w10 := a13.toLf.rdD r_w10; replace r_L11 := a13.toLf.rdD r_L11; replace F_R12 := F_R12.mv a13.toLf.mv; replace F_R13 := F_R13.mv a13.toLf.mv
            clear h13 a13 G_p Q13
            refine sat_app (.slice A_q q.length c_q) (.slice (some ⟨N_R12, 0, none⟩) 2 2) (by kernel_rfl) (by kernel_rfl) fun w14 h14 => ?_
            refine (G_q.le h14).app (l' := [x4, x4]) (F_R12.mv h14.mv) (by have := lt_of hlt; have := (MayT.of hMT).few; simp only [List.length_cons, List.length_nil, maxLen]; omega) (by have := lt_of hlt; have := (MayT.of hMT).few; simp only [List.length_cons, List.length_nil]; omega) fun A_G15 c_G15 v14 a14 G15 => ?_
            have Q14 := (G14.le h14).other a14 D.symm h14.wf
            replace G14 := Q14.1
            replace D := Q14.2.symm
            replace F_t1 := F_t1.mv h14.mv; replace F_t2 := F_t2.mv h14.mv; replace r_L2 := h14.rdD r_L2; replace r_L5l := h14.rdD r_L5l; replace r_L5h := h14.rdD r_L5h; replace r_L7 := h14.rdD r_L7; replace r_L9 := h14.rdD r_L9; replace r_w10 := h14.rdD r_w10; replace r_L11 := h14.rdD r_L11; replace F_R12 := F_R12.mv h14.mv; replace F_R13 := F_R13.mv h14.mv
            replace F_t1 := F_t1.mv a14.toLf.mv; replace F_t2 := F_t2.mv a14.toLf.mv; replace r_L2 := a14.toLf.rdD r_L2; replace r_L5l := a14.toLf.rdD r_L5l; replace r_L5h := a14.toLf.rdD r_L5h; replace r_L7 := a14.toLf.rdD r_L7; replace r_L9 := a14.toLf.rdD r_L9; replace r_w10 := a14.toLf.rdD r_w10; replace r_L11 := a14.toLf.rdD r_L11; replace F_R12 := F_R12.mv a14.toLf.mv; replace F_R13 := F_R13.mv a14.toLf.mv
            clear h14 a14 G_q Q14
            refine sat_chkB (by kernel_rfl) ?_
            refine sat_chkB (by kernel_rfl) ?_
            refine sat_prim (v := .int .i64 (((i + 1 : Nat)) : Int)) (Eq.trans (b := some (.int .i64 (IntKind.i64.wrap ((((i) : Nat) : Int) + 1)))) (by kernel_rfl) (by rw [Sx.wrap_succ (n := t.v.length) (lt_of hlt) M_t2])) ?_
            exact sat_back [.int .i64 (((i + 1 : Nat)) : Int), .int .i64 0, .slice A_G14 (p ++ [d_w10, x8]).length c_G14, .slice A_G15 (q ++ [x4, x4]).length c_G15] (by kernel_rfl) fun w9 h9 => ⟨_, by have := lt_of hlt; omega, i + 1, (p ++ [d_w10, x8]), _, _, (q ++ [x4, x4]), _, _, rfl, rfl, by have := lt_of hlt; omega, G14.le h9, G15.le h9, D, halve_step hm h_x4 h_x6 h_x8 h_w10 hz, by rw [List.length_append, hp]; simp only [List.length_cons, List.length_nil]; omega, by rw [List.length_append, hq]; simp only [List.length_cons, List.length_nil]; omega⟩
        · refine sat_true (by kernel_rfl) ?_
          exact sat_ret (.tuple #[.agg #[.slice none 0 0, .slice none 0 0], .int .i64 x_w10]) (by kernel_rfl) fun w9 h9 => TbTup.nil (halve_bad hm h_x4 h_x6 h_x8 h_w10 hz)
    · refine sat_true (by kernel_rfl) ?_
      exact sat_ret (.tuple #[.agg #[.slice none 0 0, .slice none 0 0], .int .i64 1]) (by kernel_rfl) fun w9 h9 => TbTup.nil (by unfold halveT; rw [hMT, hS]; rfl)

def tr_tcut : Sx.Tree := .chk [.lf 0, .lf 1] (.chk [.lf 2, .lf 3, .lf 4] (.chk [.lf 5, .lf 6, .lf 7] (.call 67 [.ag [.lf 0, .lf 1]] .one (.prim .not [.lf 8] (.ite (.lf 9) (.ret (.tup [(true, [.nil, .nil]), (false, [.num .i64 1])])) (.call 71 [.ag [.lf 2, .lf 3, .lf 4]] .one (.prim .not [.lf 10] (.ite (.lf 11) (.ret (.tup [(true, [.nil, .nil]), (false, [.num .i64 1])])) (.call 71 [.ag [.lf 5, .lf 6, .lf 7]] .one (.prim .not [.lf 12] (.ite (.lf 13) (.ret (.tup [(true, [.nil, .nil]), (false, [.num .i64 1])])) (.call 47 [.ag [.lf 2, .lf 3, .lf 4], .ag [.lf 5, .lf 6, .lf 7]] .one (.prim (.bin .geq) [.lf 14, .num .i64 0] (.ite (.lf 15) (.ret (.tup [(true, [.nil, .nil]), (false, [.num .i64 1])])) (.call 72 [.ag [.lf 0, .lf 1], .ag [.lf 2, .lf 3, .lf 4]] .one (.prim .not [.lf 16] (.ite (.lf 17) (.ret (.tup [(true, [.nil, .nil]), (false, [.num .i64 5])])) (.call 72 [.ag [.lf 0, .lf 1], .ag [.lf 5, .lf 6, .lf 7]] .one (.prim .not [.lf 18] (.ite (.lf 19) (.ret (.tup [(true, [.nil, .nil]), (false, [.num .i64 5])])) (.row 30 [.lf 2, .lf 3, .lf 4] 1 [] (.chk [.lf 20] (.chk [.lf 20] (.prim .len [.lf 1] (.loop 0 [.num .i64 0, .lf 20, .nil] (.prim (.bin .lss) [.lf 22, .lf 21] (.ite (.lf 25) (.prim (.idx 6) [.lf 1, .lf 22] (.load 49 (.lf 26) (.ag 6) (.chk [.lf 27, .lf 28, .lf 29, .lf 30, .lf 31, .lf 32] (.prim (.bin .add) [.lf 22, .num .i64 1] (.prim (.idx 3) [.lf 0, .lf 33] (.load 30 (.lf 34) (.ag 3) (.chk [.lf 35, .lf 36, .lf 37] (.call 47 [.ag [.lf 35, .lf 36, .lf 37], .ag [.lf 2, .lf 3, .lf 4]] .one (.prim (.bin .leq) [.lf 38, .num .i64 0] (.ite (.lf 39) (.prim (.bin .add) [.lf 22, .num .i64 1] (.back 0 [.lf 40, .lf 23, .lf 24])) (.prim (.idx 3) [.lf 0, .lf 22] (.load 30 (.lf 40) (.ag 3) (.call 47 [.ag [.lf 41, .lf 42, .lf 43], .ag [.lf 5, .lf 6, .lf 7]] .one (.prim (.bin .geq) [.lf 44, .num .i64 0] (.ite (.lf 45) (.prim (.bin .add) [.lf 22, .num .i64 1] (.back 0 [.lf 46, .lf 23, .lf 24])) (.call 47 [.ag [.lf 35, .lf 36, .lf 37], .ag [.lf 5, .lf 6, .lf 7]] .one (.prim (.bin .gtr) [.lf 46, .num .i64 0] (.ite (.lf 47) (.chk [.lf 5, .lf 6, .lf 7] (.alt (.row 30 [.lf 5, .lf 6, .lf 7] 1 [] (.alt (.app 30 3 40 (.lf 23) (.lf 48) (.row 49 [.lf 27, .lf 28, .lf 29, .lf 30, .lf 31, .lf 32] 1 [] (.app 49 6 80 (.lf 24) (.lf 50) (.chk [.lf 49] (.chk [.lf 51] (.prim (.bin .add) [.lf 22, .num .i64 1] (.back 0 [.lf 52, .lf 49, .lf 51]))))))) (.row 49 [.lf 27, .lf 28, .lf 29, .lf 30, .lf 31, .lf 32] 1 [] (.app 30 3 40 (.lf 23) (.lf 48) (.app 49 6 80 (.lf 24) (.lf 49) (.chk [.lf 50] (.chk [.lf 51] (.prim (.bin .add) [.lf 22, .num .i64 1] (.back 0 [.lf 52, .lf 50, .lf 51]))))))))) (.row 49 [.lf 27, .lf 28, .lf 29, .lf 30, .lf 31, .lf 32] 1 [] (.row 30 [.lf 5, .lf 6, .lf 7] 1 [] (.app 30 3 40 (.lf 23) (.lf 49) (.app 49 6 80 (.lf 24) (.lf 48) (.chk [.lf 50] (.chk [.lf 51] (.prim (.bin .add) [.lf 22, .num .i64 1] (.back 0 [.lf 52, .lf 50, .lf 51])))))))))) (.alt (.row 30 [.lf 35, .lf 36, .lf 37] 1 [] (.alt (.app 30 3 40 (.lf 23) (.lf 48) (.row 49 [.lf 27, .lf 28, .lf 29, .lf 30, .lf 31, .lf 32] 1 [] (.app 49 6 80 (.lf 24) (.lf 50) (.chk [.lf 49] (.chk [.lf 51] (.prim (.bin .add) [.lf 22, .num .i64 1] (.back 0 [.lf 52, .lf 49, .lf 51]))))))) (.row 49 [.lf 27, .lf 28, .lf 29, .lf 30, .lf 31, .lf 32] 1 [] (.app 30 3 40 (.lf 23) (.lf 48) (.app 49 6 80 (.lf 24) (.lf 49) (.chk [.lf 50] (.chk [.lf 51] (.prim (.bin .add) [.lf 22, .num .i64 1] (.back 0 [.lf 52, .lf 50, .lf 51]))))))))) (.row 49 [.lf 27, .lf 28, .lf 29, .lf 30, .lf 31, .lf 32] 1 [] (.row 30 [.lf 35, .lf 36, .lf 37] 1 [] (.app 30 3 40 (.lf 23) (.lf 49) (.app 49 6 80 (.lf 24) (.lf 48) (.chk [.lf 50] (.chk [.lf 51] (.prim (.bin .add) [.lf 22, .num .i64 1] (.back 0 [.lf 52, .lf 50, .lf 51]))))))))))))))))))))))))))) (.chk [.lf 23, .lf 24] (.ret (.tup [(true, [.lf 23, .lf 24]), (false, [.num .i64 0])]))))))))))))))))))))))))))))))
theorem tr_tcut_eq : Sx.treeAt Tryz.prog 29 [] [4] [(true, 2), (true, 3), (true, 3)] = some tr_tcut := by kernel_rfl

set_option maxRecDepth 100000 in
set_option maxHeartbeats 4000000 in
theorem cutT_any (A_t : Option Addr) (c_t : Nat) (B_t : Option Addr) (d_t : Nat) (v_x : Value) (v_y : Value) (t : Tb) (x : Dy) (y : Dy) (w : World) (h_t1 : Sx.Rows Sx.kD (fun _ => True) w A_t t.at_.length c_t t.at_) (h_t2 : Sx.Rows Sx.kI (fun _ => True) w B_t t.v.length d_t t.v) (h_x : RdD w v_x x) (h_y : RdD w v_y y) :
    Calls Tryz.prog 29 #[.agg #[.slice A_t t.at_.length c_t, .slice B_t t.v.length d_t], v_x, v_y] w fun e w' => TbTup w w' e (cutT t x y) ∧ Below w.heap.size w w' := by
  have r_x := h_x
  obtain ⟨A_x, n_x, c_x, rfl, _⟩ := h_x
  have r_y := h_y
  obtain ⟨A_y, n_y, c_y, rfl, _⟩ := h_y
  have F_t1 := h_t1.start
  have M_t1 := h_t1.le
  clear h_t1
  have F_t2 := h_t2.start
  have M_t2 := h_t2.le
  clear h_t2
  refine (Sx.runA [] [4] (ls := [.slice A_t t.at_.length c_t, .slice B_t t.v.length d_t, .bool x.neg, .slice A_x n_x c_x, .int .i64 x.e, .bool y.neg, .slice A_y n_y c_y, .int .i64 y.e]) (shs := [(true, 2), (true, 3), (true, 3)]) (R := fun v w' => TbTup w w' (.returned v) (cutT t x y)) tr_tcut_eq rfl (by decide) (fun q h => by cases h) ?_).mono (fun e w' ⟨v, he, hv, hb⟩ => ⟨by rw [he]; exact hv, hb⟩)
  unfold tr_tcut
  refine sat_chkB (by kernel_rfl) ?_
  refine sat_chkB (by kernel_rfl) ?_
  refine sat_chkB (by kernel_rfl) ?_
  refine sat_call #[.agg #[.slice A_t t.at_.length c_t, .slice B_t t.v.length d_t]] (by kernel_rfl) fun w1 h1 => ?_
  refine (mayT_any _ _ _ _ t _ ((F_t1.mv h1.mv).any) ((F_t2.mv h1.mv).any)).mono ?_
  rintro e v1 ⟨rfl, hb1⟩
  refine ⟨hb1, [.bool (mayT t)], _, rfl, by kernel_rfl, by kernel_rfl, fun g1 => ?_⟩
  replace F_t1 := F_t1.mv g1.mv; replace F_t2 := F_t2.mv g1.mv; replace r_x := g1.rdD r_x; replace r_y := g1.rdD r_y
  clear h1 hb1
  refine sat_prim (v := .bool (!(mayT t))) (by kernel_rfl) ?_
  cases hMT : (mayT t)
  · refine sat_true (by kernel_rfl) ?_
    exact sat_ret (.tuple #[.agg #[.slice none 0 0, .slice none 0 0], .int .i64 1]) (by kernel_rfl) fun w9 h9 => TbTup.nil (by unfold cutT; rw [hMT]; rfl)
  · refine sat_false (by kernel_rfl) ?_
    refine sat_call #[.agg #[.bool x.neg, .slice A_x n_x c_x, .int .i64 x.e]] (by kernel_rfl) fun w3 h3 => ?_
    refine (mayD_any _ (x) _ (h3.rdD r_x)).mono ?_
    rintro e v3 ⟨rfl, hb3⟩
    refine ⟨hb3, [.bool (mayD x)], _, rfl, by kernel_rfl, by kernel_rfl, fun g3 => ?_⟩
    replace F_t1 := F_t1.mv g3.mv; replace F_t2 := F_t2.mv g3.mv; replace r_x := g3.rdD r_x; replace r_y := g3.rdD r_y
    clear h3 hb3
    refine sat_prim (v := .bool (!(mayD x))) (by kernel_rfl) ?_
    cases hx : (mayD x)
    · refine sat_true (by kernel_rfl) ?_
      exact sat_ret (.tuple #[.agg #[.slice none 0 0, .slice none 0 0], .int .i64 1]) (by kernel_rfl) fun w9 h9 => TbTup.nil (by unfold cutT; rw [hMT, hx]; rfl)
    · refine sat_false (by kernel_rfl) ?_
      refine sat_call #[.agg #[.bool y.neg, .slice A_y n_y c_y, .int .i64 y.e]] (by kernel_rfl) fun w5 h5 => ?_
      refine (mayD_any _ (y) _ (h5.rdD r_y)).mono ?_
      rintro e v5 ⟨rfl, hb5⟩
      refine ⟨hb5, [.bool (mayD y)], _, rfl, by kernel_rfl, by kernel_rfl, fun g5 => ?_⟩
      replace F_t1 := F_t1.mv g5.mv; replace F_t2 := F_t2.mv g5.mv; replace r_x := g5.rdD r_x; replace r_y := g5.rdD r_y
      clear h5 hb5
      refine sat_prim (v := .bool (!(mayD y))) (by kernel_rfl) ?_
      cases hy : (mayD y)
      · refine sat_true (by kernel_rfl) ?_
        exact sat_ret (.tuple #[.agg #[.slice none 0 0, .slice none 0 0], .int .i64 1]) (by kernel_rfl) fun w9 h9 => TbTup.nil (by unfold cutT; rw [hMT, hx, hy]; rfl)
      · refine sat_false (by kernel_rfl) ?_
        refine sat_call #[.agg #[.bool x.neg, .slice A_x n_x c_x, .int .i64 x.e], .agg #[.bool y.neg, .slice A_y n_y c_y, .int .i64 y.e]] (by kernel_rfl) fun w7 h7 => ?_
        refine (cmpD_any _ _ (x) (y) _ (h7.rdD r_x) (h7.rdD r_y)).mono ?_
        rintro e v7 ⟨rfl, hb7⟩
        refine ⟨hb7, [.int .i64 (cmpD x y)], _, rfl, by kernel_rfl, by kernel_rfl, fun g7 => ?_⟩
        replace F_t1 := F_t1.mv g7.mv; replace F_t2 := F_t2.mv g7.mv; replace r_x := g7.rdD r_x; replace r_y := g7.rdD r_y
        clear h7 hb7
        refine sat_prim (v := .bool (decide ((0 : Int) ≤ (cmpD x y)))) (by kernel_rfl) ?_
        cases hxy : (decide ((0 : Int) ≤ (cmpD x y)))
        · refine sat_false (by kernel_rfl) ?_
          refine sat_call #[.agg #[.slice A_t t.at_.length c_t, .slice B_t t.v.length d_t], .agg #[.bool x.neg, .slice A_x n_x c_x, .int .i64 x.e]] (by kernel_rfl) fun w9 h9 => ?_
          refine (holdsT_any _ _ _ _ _ t (x) _ ((F_t1.mv h9.mv).any) ((F_t2.mv h9.mv).any) (h9.rdD r_x) (by have := (MayT.of hMT).len; omega)).mono ?_
          rintro e v9 ⟨rfl, hb9⟩
          refine ⟨hb9, [.bool (holdsT t x)], _, rfl, by kernel_rfl, by kernel_rfl, fun g9 => ?_⟩
          replace F_t1 := F_t1.mv g9.mv; replace F_t2 := F_t2.mv g9.mv; replace r_x := g9.rdD r_x; replace r_y := g9.rdD r_y
          clear h9 hb9
          refine sat_prim (v := .bool (!(holdsT t x))) (by kernel_rfl) ?_
          cases hhx : (holdsT t x)
          · refine sat_true (by kernel_rfl) ?_
            exact sat_ret (.tuple #[.agg #[.slice none 0 0, .slice none 0 0], .int .i64 5]) (by kernel_rfl) fun w9 h9 => TbTup.nil (by unfold cutT; rw [hMT, hx, hy, hxy, hhx]; rfl)
          · refine sat_false (by kernel_rfl) ?_
            refine sat_call #[.agg #[.slice A_t t.at_.length c_t, .slice B_t t.v.length d_t], .agg #[.bool y.neg, .slice A_y n_y c_y, .int .i64 y.e]] (by kernel_rfl) fun w11 h11 => ?_
            refine (holdsT_any _ _ _ _ _ t (y) _ ((F_t1.mv h11.mv).any) ((F_t2.mv h11.mv).any) (h11.rdD r_y) (by have := (MayT.of hMT).len; omega)).mono ?_
            rintro e v11 ⟨rfl, hb11⟩
            refine ⟨hb11, [.bool (holdsT t y)], _, rfl, by kernel_rfl, by kernel_rfl, fun g11 => ?_⟩
            replace F_t1 := F_t1.mv g11.mv; replace F_t2 := F_t2.mv g11.mv; replace r_x := g11.rdD r_x; replace r_y := g11.rdD r_y
            clear h11 hb11
            refine sat_prim (v := .bool (!(holdsT t y))) (by kernel_rfl) ?_
            cases hhy : (holdsT t y)
            · refine sat_true (by kernel_rfl) ?_
              exact sat_ret (.tuple #[.agg #[.slice none 0 0, .slice none 0 0], .int .i64 5]) (by kernel_rfl) fun w9 h9 => TbTup.nil (by unfold cutT; rw [hMT, hx, hy, hxy, hhx, hhy]; rfl)
            · refine sat_false (by kernel_rfl) ?_
              refine Sx.sat_rowB [.bool x.neg, .slice A_x n_x c_x, .int .i64 x.e] (by kernel_rfl) (by intro x hx; cases hx) fun u1 h1 B1 Z1 => ?_
              replace F_t1 := F_t1.mv h1.mv; replace F_t2 := F_t2.mv h1.mv; replace r_x := h1.rdD r_x; replace r_y := h1.rdD r_y
              have G_P1 : Sx.Gr Sx.kD w 30 _ (.slice (some ⟨u1.heap.size, 0, none⟩) 1 1) [x] := Sx.Gr.one (k := Sx.kD) (by decide) B1 (List.mem_cons_self ..) Z1 ⟨_, _, _, rfl, r_x⟩
              generalize u1.heap.size = N_P1 at *
              generalize (u1.alloc _) = w_P1 at *
              clear B1 h1 Z1
              refine sat_chkB (by kernel_rfl) ?_
              refine sat_chkB (by kernel_rfl) ?_
              refine sat_prim (v := .int .i64 ((t.v.length : Nat) : Int)) (by kernel_rfl) ?_
              refine sat_loop (fun Kn vs W => ∃ (i : Nat) (p : List Dy) (A_p : Option Addr) (c_p : Nat) (q : List Iv) (A_q : Option Addr) (c_q : Nat), vs = [.int .i64 ((i : Nat) : Int), .slice A_p p.length c_p, .slice A_q q.length c_q] ∧ Kn = t.v.length - i ∧ i ≤ t.v.length ∧ (Sx.Gr Sx.kD w 30 W (.slice A_p p.length c_p) p) ∧ (Sx.Gr Sx.kI w 49 W (.slice A_q q.length c_q) q) ∧ (Sx.Apart (.slice A_p p.length c_p) (.slice A_q q.length c_q)) ∧ (cutL t.at_ x y 0 [x] [] t.v = cutL t.at_ x y i p q (t.v.drop i)) ∧ (p.length ≤ i + 1) ∧ (q.length ≤ i)) [.int .i64 0, .slice (some ⟨N_P1, 0, none⟩) 1 1, .slice none 0 0] (by kernel_rfl) (fun w1 h1 => ⟨_, 0, [x], _, _, [], none, 0, rfl, rfl, Nat.zero_le _, G_P1.le h1, Sx.Gr.nil (by decide) _ _ _, Sx.Apart.nil, rfl, Nat.le_refl _, Nat.le_refl _⟩) ?_
              rintro Kn vs w13 h13 ⟨i, p, A_p, c_p, q, A_q, c_q, rfl, rfl, h_i, G_p, G_q, D, hm, hp, hq⟩
              replace F_t1 := F_t1.mv h13.mv; replace F_t2 := F_t2.mv h13.mv; replace r_x := h13.rdD r_x; replace r_y := h13.rdD r_y
              clear h13
              refine sat_prim (v := .bool (decide ((((i : Nat) : Int) : Int) < ((t.v.length : Nat) : Int)))) (by kernel_rfl) ?_
              cases hlt : (decide ((((i : Nat) : Int) : Int) < ((t.v.length : Nat) : Int)))
              · refine sat_false (by kernel_rfl) ?_
                refine sat_chkB (by kernel_rfl) ?_
                exact sat_ret (.tuple #[.agg #[.slice A_p p.length c_p, .slice A_q q.length c_q], .int .i64 0]) (by kernel_rfl) fun w9 h9 => ⟨p, q, 0, _, _, _, _, rfl, hide (cut_done hMT hx hy hxy hhx hhy hm hlt), (G_p.le h9).done fun h => h, (G_q.le h9).done fun h => h⟩
              · refine sat_true (by kernel_rfl) ?_
                refine sat_idx (A := B_t) (c := d_t) (kk := .i64) (i) (by kernel_rfl) (by kernel_rfl) (lt_of hlt) F_t2.addr fun g15 o15 e15 => ?_
                obtain ⟨x2, h_x2⟩ : ∃ x_, t.v[(i)]? = some x_ := ⟨_, List.getElem?_eq_getElem (lt_of hlt)⟩
                refine sat_el F_t2 e15 h_x2 rfl (by kernel_rfl) (by kernel_rfl) (by kernel_rfl) ?_
                rintro _ ⟨A_L3, n_L3, c_L3, B_L3, m_L3, k_L3, rfl, r_L3l, r_L3h⟩
                refine sat_chkB (by kernel_rfl) ?_
                refine sat_prim (v := .int .i64 (((i + 1 : Nat)) : Int)) (Eq.trans (b := some (.int .i64 (IntKind.i64.wrap ((((i) : Nat) : Int) + 1)))) (by kernel_rfl) (by rw [Sx.wrap_succ (n := t.v.length) (lt_of hlt) M_t2])) ?_
                refine sat_idx (A := A_t) (c := c_t) (kk := .i64) (((i + 1 : Nat))) (by kernel_rfl) (by kernel_rfl) (by have := lt_of hlt; have := (MayT.of hMT).len; omega) F_t1.addr fun g16 o16 e16 => ?_
                obtain ⟨x4, h_x4⟩ : ∃ x_, t.at_[(((i + 1 : Nat)))]? = some x_ := ⟨_, List.getElem?_eq_getElem (by have := lt_of hlt; have := (MayT.of hMT).len; omega)⟩
                refine sat_el F_t1 e16 h_x4 rfl (by kernel_rfl) (by kernel_rfl) (by kernel_rfl) ?_
                rintro _ ⟨A_L5, n_L5, c_L5, rfl, r_L5⟩
                refine sat_chkB (by kernel_rfl) ?_
                refine sat_call #[.agg #[.bool x4.neg, .slice A_L5 n_L5 c_L5, .int .i64 x4.e], .agg #[.bool x.neg, .slice A_x n_x c_x, .int .i64 x.e]] (by kernel_rfl) fun w17 h17 => ?_
                refine (cmpD_any _ _ (x4) (x) _ (h17.rdD r_L5) (h17.rdD r_x)).mono ?_
                rintro e v17 ⟨rfl, hb17⟩
                refine ⟨hb17, [.int .i64 (cmpD x4 x)], _, rfl, by kernel_rfl, by kernel_rfl, fun g17 => ?_⟩
                replace F_t1 := F_t1.mv g17.mv; replace F_t2 := F_t2.mv g17.mv; replace r_x := g17.rdD r_x; replace r_y := g17.rdD r_y; replace G_p := G_p.le g17; replace G_q := G_q.le g17; replace r_L3l := g17.rdD r_L3l; replace r_L3h := g17.rdD r_L3h; replace r_L5 := g17.rdD r_L5
                clear h17 hb17
                refine sat_prim (v := .bool (decide (((cmpD x4 x) : Int) ≤ 0))) (by kernel_rfl) ?_
                cases hc1 : (decide (((cmpD x4 x) : Int) ≤ 0))
                · refine sat_false (by kernel_rfl) ?_
                  refine sat_idx (A := A_t) (c := c_t) (kk := .i64) (i) (by kernel_rfl) (by kernel_rfl) (by have := lt_of hlt; have := (MayT.of hMT).len; omega) F_t1.addr fun g19 o19 e19 => ?_
                  obtain ⟨x6, h_x6⟩ : ∃ x_, t.at_[(i)]? = some x_ := ⟨_, List.getElem?_eq_getElem (by have := lt_of hlt; have := (MayT.of hMT).len; omega)⟩
                  refine sat_el F_t1 e19 h_x6 rfl (by kernel_rfl) (by kernel_rfl) (by kernel_rfl) ?_
                  rintro _ ⟨A_L7, n_L7, c_L7, rfl, r_L7⟩
                  refine sat_call #[.agg #[.bool x6.neg, .slice A_L7 n_L7 c_L7, .int .i64 x6.e], .agg #[.bool y.neg, .slice A_y n_y c_y, .int .i64 y.e]] (by kernel_rfl) fun w20 h20 => ?_
                  refine (cmpD_any _ _ (x6) (y) _ (h20.rdD r_L7) (h20.rdD r_y)).mono ?_
                  rintro e v20 ⟨rfl, hb20⟩
                  refine ⟨hb20, [.int .i64 (cmpD x6 y)], _, rfl, by kernel_rfl, by kernel_rfl, fun g20 => ?_⟩
                  replace F_t1 := F_t1.mv g20.mv; replace F_t2 := F_t2.mv g20.mv; replace r_x := g20.rdD r_x; replace r_y := g20.rdD r_y; replace G_p := G_p.le g20; replace G_q := G_q.le g20; replace r_L3l := g20.rdD r_L3l; replace r_L3h := g20.rdD r_L3h; replace r_L5 := g20.rdD r_L5; replace r_L7 := g20.rdD r_L7
                  clear h20 hb20
                  refine sat_prim (v := .bool (decide ((0 : Int) ≤ (cmpD x6 y)))) (by kernel_rfl) ?_
                  cases hc2 : (decide ((0 : Int) ≤ (cmpD x6 y)))
                  · refine sat_false (by kernel_rfl) ?_
                    refine sat_call #[.agg #[.bool x4.neg, .slice A_L5 n_L5 c_L5, .int .i64 x4.e], .agg #[.bool y.neg, .slice A_y n_y c_y, .int .i64 y.e]] (by kernel_rfl) fun w22 h22 => ?_
                    refine (cmpD_any _ _ (x4) (y) _ (h22.rdD r_L5) (h22.rdD r_y)).mono ?_
                    rintro e v22 ⟨rfl, hb22⟩
                    refine ⟨hb22, [.int .i64 (cmpD x4 y)], _, rfl, by kernel_rfl, by kernel_rfl, fun g22 => ?_⟩
                    replace F_t1 := F_t1.mv g22.mv; replace F_t2 := F_t2.mv g22.mv; replace r_x := g22.rdD r_x; replace r_y := g22.rdD r_y; replace G_p := G_p.le g22; replace G_q := G_q.le g22; replace r_L3l := g22.rdD r_L3l; replace r_L3h := g22.rdD r_L3h; replace r_L5 := g22.rdD r_L5; replace r_L7 := g22.rdD r_L7
                    clear h22 hb22
                    refine sat_prim (v := .bool (decide ((0 : Int) < (cmpD x4 y)))) (by kernel_rfl) ?_
                    cases hc3 : (decide ((0 : Int) < (cmpD x4 y)))
                    · refine sat_false (by kernel_rfl) ?_
                      refine sat_alt ?_ ?_
                      · refine sat_rowN [.bool x4.neg, .slice A_L5 n_L5 c_L5, .int .i64 x4.e] (by kernel_rfl) (by intro x hx; cases hx) fun u1 h1 B1 NB1 => ?_
                        replace F_t1 := F_t1.mv h1.mv; replace F_t2 := F_t2.mv h1.mv; replace r_x := h1.rdD r_x; replace r_y := h1.rdD r_y; replace G_p := G_p.le h1; replace G_q := G_q.le h1; replace r_L3l := h1.rdD r_L3l; replace r_L3h := h1.rdD r_L3h; replace r_L5 := h1.rdD r_L5; replace r_L7 := h1.rdD r_L7
                        have F_R8 : Sx.Rows Sx.kD (Sx.NB _) _ (some ⟨u1.heap.size, 0, none⟩) 1 1 [x4] := rows_one (k := Sx.kD) B1 NB1 ⟨_, _, _, rfl, r_L5⟩
                        generalize u1.heap.size = N_R8 at *
                        generalize (u1.alloc _) = w_R8 at *
                        clear B1 h1 NB1
                        refine sat_alt ?_ ?_
                        · refine sat_app (.slice A_p p.length c_p) (.slice (some ⟨N_R8, 0, none⟩) 1 1) (by kernel_rfl) (by kernel_rfl) fun w24 h24 => ?_
                          refine (G_p.le h24).app (l' := [x4]) (F_R8.mv h24.mv) (by have := lt_of hlt; have := (MayT.of hMT).few; simp only [List.length_cons, List.length_nil, maxLen]; omega) (by have := lt_of hlt; have := (MayT.of hMT).few; simp only [List.length_cons, List.length_nil]; omega) fun A_G9 c_G9 v24 a24 G9 => ?_
                          have Q24 := (G_q.le h24).other a24 D h24.wf
                          replace G_q := Q24.1
                          replace D := Q24.2
                          replace F_t1 := F_t1.mv h24.mv; replace F_t2 := F_t2.mv h24.mv; replace r_x := h24.rdD r_x; replace r_y := h24.rdD r_y; replace r_L3l := h24.rdD r_L3l; replace r_L3h := h24.rdD r_L3h; replace r_L5 := h24.rdD r_L5; replace r_L7 := h24.rdD r_L7; replace F_R8 := F_R8.mv h24.mv
                          replace F_t1 := F_t1.mv a24.toLf.mv; replace F_t2 := F_t2.mv a24.toLf.mv; replace r_x := a24.toLf.rdD r_x; replace r_y := a24.toLf.rdD r_y; replace r_L3l := a24.toLf.rdD r_L3l; replace r_L3h := a24.toLf.rdD r_L3h; replace r_L5 := a24.toLf.rdD r_L5; replace r_L7 := a24.toLf.rdD r_L7; replace F_R8 := F_R8.mv a24.toLf.mv
                          clear h24 a24 G_p Q24
                          refine sat_rowN [.bool x2.lo.neg, .slice A_L3 n_L3 c_L3, .int .i64 x2.lo.e, .bool x2.hi.neg, .slice B_L3 m_L3 k_L3, .int .i64 x2.hi.e] (by kernel_rfl) (by intro x hx; cases hx) fun u1 h1 B1 NB1 => ?_
                          replace F_t1 := F_t1.mv h1.mv; replace F_t2 := F_t2.mv h1.mv; replace r_x := h1.rdD r_x; replace r_y := h1.rdD r_y; replace r_L3l := h1.rdD r_L3l; replace r_L3h := h1.rdD r_L3h; replace r_L5 := h1.rdD r_L5; replace r_L7 := h1.rdD r_L7; replace F_R8 := F_R8.mv h1.mv; replace G_q := G_q.le h1; replace G9 := G9.le h1
                          have F_R10 : Sx.Rows Sx.kI (Sx.NB _) _ (some ⟨u1.heap.size, 0, none⟩) 1 1 [x2] := rows_one (k := Sx.kI) B1 NB1 ⟨_, _, _, _, _, _, rfl, r_L3l, r_L3h⟩
                          generalize u1.heap.size = N_R10 at *
                          generalize (u1.alloc _) = w_R10 at *
                          clear B1 h1 NB1
                          refine sat_app (.slice A_q q.length c_q) (.slice (some ⟨N_R10, 0, none⟩) 1 1) (by kernel_rfl) (by kernel_rfl) fun w25 h25 => ?_
                          refine (G_q.le h25).app (l' := [x2]) (F_R10.mv h25.mv) (by have := lt_of hlt; have := (MayT.of hMT).few; simp only [List.length_cons, List.length_nil, maxLen]; omega) (by have := lt_of hlt; have := (MayT.of hMT).few; simp only [List.length_cons, List.length_nil]; omega) fun A_G11 c_G11 v25 a25 G11 => ?_
                          have Q25 := (G9.le h25).other a25 D.symm h25.wf
                          replace G9 := Q25.1
                          replace D := Q25.2.symm
                          replace F_t1 := F_t1.mv h25.mv; replace F_t2 := F_t2.mv h25.mv; replace r_x := h25.rdD r_x; replace r_y := h25.rdD r_y; replace r_L3l := h25.rdD r_L3l; replace r_L3h := h25.rdD r_L3h; replace r_L5 := h25.rdD r_L5; replace r_L7 := h25.rdD r_L7; replace F_R8 := F_R8.mv h25.mv; replace F_R10 := F_R10.mv h25.mv
                          replace F_t1 := F_t1.mv a25.toLf.mv; replace F_t2 := F_t2.mv a25.toLf.mv; replace r_x := a25.toLf.rdD r_x; replace r_y := a25.toLf.rdD r_y; replace r_L3l := a25.toLf.rdD r_L3l; replace r_L3h := a25.toLf.rdD r_L3h; replace r_L5 := a25.toLf.rdD r_L5; replace r_L7 := a25.toLf.rdD r_L7; replace F_R8 := F_R8.mv a25.toLf.mv; replace F_R10 := F_R10.mv a25.toLf.mv
                          clear h25 a25 G_q Q25
                          refine sat_chkB (by kernel_rfl) ?_
                          refine sat_chkB (by kernel_rfl) ?_
                          refine sat_prim (v := .int .i64 (((i + 1 : Nat)) : Int)) (Eq.trans (b := some (.int .i64 (IntKind.i64.wrap ((((i) : Nat) : Int) + 1)))) (by kernel_rfl) (by rw [Sx.wrap_succ (n := t.v.length) (lt_of hlt) M_t2])) ?_
                          exact sat_back [.int .i64 (((i + 1 : Nat)) : Int), .slice A_G9 (p ++ [x4]).length c_G9, .slice A_G11 (q ++ [x2]).length c_G11] (by kernel_rfl) fun w9 h9 => ⟨_, by have := lt_of hlt; omega, i + 1, (p ++ [x4]), _, _, (q ++ [x2]), _, _, rfl, rfl, by have := lt_of hlt; omega, G9.le h9, G11.le h9, D, cut_take hm h_x2 (ck2 h_x4 hc1 h_x6 hc2) h_x4 hc3, by rw [List.length_append]; simp only [List.length_cons, List.length_nil]; omega, by rw [List.length_append]; simp only [List.length_cons, List.length_nil]; omega⟩
                        · refine sat_rowN [.bool x2.lo.neg, .slice A_L3 n_L3 c_L3, .int .i64 x2.lo.e, .bool x2.hi.neg, .slice B_L3 m_L3 k_L3, .int .i64 x2.hi.e] (by kernel_rfl) (by intro x hx; cases hx) fun u1 h1 B1 NB1 => ?_
                          replace F_t1 := F_t1.mv h1.mv; replace F_t2 := F_t2.mv h1.mv; replace r_x := h1.rdD r_x; replace r_y := h1.rdD r_y; replace G_p := G_p.le h1; replace G_q := G_q.le h1; replace r_L3l := h1.rdD r_L3l; replace r_L3h := h1.rdD r_L3h; replace r_L5 := h1.rdD r_L5; replace r_L7 := h1.rdD r_L7; replace F_R8 := F_R8.mv h1.mv
                          have F_R9 : Sx.Rows Sx.kI (Sx.NB _) _ (some ⟨u1.heap.size, 0, none⟩) 1 1 [x2] := rows_one (k := Sx.kI) B1 NB1 ⟨_, _, _, _, _, _, rfl, r_L3l, r_L3h⟩
                          generalize u1.heap.size = N_R9 at *
                          generalize (u1.alloc _) = w_R9 at *
                          clear B1 h1 NB1
                          refine sat_app (.slice A_p p.length c_p) (.slice (some ⟨N_R8, 0, none⟩) 1 1) (by kernel_rfl) (by kernel_rfl) fun w24 h24 => ?_
                          refine (G_p.le h24).app (l' := [x4]) (F_R8.mv h24.mv) (by have := lt_of hlt; have := (MayT.of hMT).few; simp only [List.length_cons, List.length_nil, maxLen]; omega) (by have := lt_of hlt; have := (MayT.of hMT).few; simp only [List.length_cons, List.length_nil]; omega) fun A_G10 c_G10 v24 a24 G10 => ?_
                          have Q24 := (G_q.le h24).other a24 D h24.wf
                          replace G_q := Q24.1
                          replace D := Q24.2
                          replace F_t1 := F_t1.mv h24.mv; replace F_t2 := F_t2.mv h24.mv; replace r_x := h24.rdD r_x; replace r_y := h24.rdD r_y; replace r_L3l := h24.rdD r_L3l; replace r_L3h := h24.rdD r_L3h; replace r_L5 := h24.rdD r_L5; replace r_L7 := h24.rdD r_L7; replace F_R8 := F_R8.mv h24.mv; replace F_R9 := F_R9.mv h24.mv
                          replace F_t1 := F_t1.mv a24.toLf.mv; replace F_t2 := F_t2.mv a24.toLf.mv; replace r_x := a24.toLf.rdD r_x; replace r_y := a24.toLf.rdD r_y; replace r_L3l := a24.toLf.rdD r_L3l; replace r_L3h := a24.toLf.rdD r_L3h; replace r_L5 := a24.toLf.rdD r_L5; replace r_L7 := a24.toLf.rdD r_L7; replace F_R8 := F_R8.mv a24.toLf.mv; replace F_R9 := F_R9.mv a24.toLf.mv
                          clear h24 a24 G_p Q24
                          refine sat_app (.slice A_q q.length c_q) (.slice (some ⟨N_R9, 0, none⟩) 1 1) (by kernel_rfl) (by kernel_rfl) fun w25 h25 => ?_
                          refine (G_q.le h25).app (l' := [x2]) (F_R9.mv h25.mv) (by have := lt_of hlt; have := (MayT.of hMT).few; simp only [List.length_cons, List.length_nil, maxLen]; omega) (by have := lt_of hlt; have := (MayT.of hMT).few; simp only [List.length_cons, List.length_nil]; omega) fun A_G11 c_G11 v25 a25 G11 => ?_
                          have Q25 := (G10.le h25).other a25 D.symm h25.wf
                          replace G10 := Q25.1
                          replace D := Q25.2.symm
                          replace F_t1 := F_t1.mv h25.mv; replace F_t2 := F_t2.mv h25.mv; replace r_x := h25.rdD r_x; replace r_y := h25.rdD r_y; replace r_L3l := h25.rdD r_L3l; replace r_L3h := h25.rdD r_L3h; replace r_L5 := h25.rdD r_L5; replace r_L7 := h25.rdD r_L7; replace F_R8 := F_R8.mv h25.mv; replace F_R9 := F_R9.mv h25.mv
                          replace F_t1 := F_t1.mv a25.toLf.mv; replace F_t2 := F_t2.mv a25.toLf.mv; replace r_x := a25.toLf.rdD r_x; replace r_y := a25.toLf.rdD r_y; replace r_L3l := a25.toLf.rdD r_L3l; replace r_L3h := a25.toLf.rdD r_L3h; replace r_L5 := a25.toLf.rdD r_L5; replace r_L7 := a25.toLf.rdD r_L7; replace F_R8 := F_R8.mv a25.toLf.mv; replace F_R9 := F_R9.mv a25.toLf.mv
                          clear h25 a25 G_q Q25
                          refine sat_chkB (by kernel_rfl) ?_
                          refine sat_chkB (by kernel_rfl) ?_
                          refine sat_prim (v := .int .i64 (((i + 1 : Nat)) : Int)) (Eq.trans (b := some (.int .i64 (IntKind.i64.wrap ((((i) : Nat) : Int) + 1)))) (by kernel_rfl) (by rw [Sx.wrap_succ (n := t.v.length) (lt_of hlt) M_t2])) ?_
                          exact sat_back [.int .i64 (((i + 1 : Nat)) : Int), .slice A_G10 (p ++ [x4]).length c_G10, .slice A_G11 (q ++ [x2]).length c_G11] (by kernel_rfl) fun w9 h9 => ⟨_, by have := lt_of hlt; omega, i + 1, (p ++ [x4]), _, _, (q ++ [x2]), _, _, rfl, rfl, by have := lt_of hlt; omega, G10.le h9, G11.le h9, D, cut_take hm h_x2 (ck2 h_x4 hc1 h_x6 hc2) h_x4 hc3, by rw [List.length_append]; simp only [List.length_cons, List.length_nil]; omega, by rw [List.length_append]; simp only [List.length_cons, List.length_nil]; omega⟩
                      · refine sat_rowN [.bool x2.lo.neg, .slice A_L3 n_L3 c_L3, .int .i64 x2.lo.e, .bool x2.hi.neg, .slice B_L3 m_L3 k_L3, .int .i64 x2.hi.e] (by kernel_rfl) (by intro x hx; cases hx) fun u1 h1 B1 NB1 => ?_
                        replace F_t1 := F_t1.mv h1.mv; replace F_t2 := F_t2.mv h1.mv; replace r_x := h1.rdD r_x; replace r_y := h1.rdD r_y; replace G_p := G_p.le h1; replace G_q := G_q.le h1; replace r_L3l := h1.rdD r_L3l; replace r_L3h := h1.rdD r_L3h; replace r_L5 := h1.rdD r_L5; replace r_L7 := h1.rdD r_L7
                        have F_R8 : Sx.Rows Sx.kI (Sx.NB _) _ (some ⟨u1.heap.size, 0, none⟩) 1 1 [x2] := rows_one (k := Sx.kI) B1 NB1 ⟨_, _, _, _, _, _, rfl, r_L3l, r_L3h⟩
                        generalize u1.heap.size = N_R8 at *
                        generalize (u1.alloc _) = w_R8 at *
                        clear B1 h1 NB1
                        refine sat_rowN [.bool x4.neg, .slice A_L5 n_L5 c_L5, .int .i64 x4.e] (by kernel_rfl) (by intro x hx; cases hx) fun u1 h1 B1 NB1 => ?_
                        replace F_t1 := F_t1.mv h1.mv; replace F_t2 := F_t2.mv h1.mv; replace r_x := h1.rdD r_x; replace r_y := h1.rdD r_y; replace G_p := G_p.le h1; replace G_q := G_q.le h1; replace r_L3l := h1.rdD r_L3l; replace r_L3h := h1.rdD r_L3h; replace r_L5 := h1.rdD r_L5; replace r_L7 := h1.rdD r_L7; replace F_R8 := F_R8.mv h1.mv
                        have F_R9 : Sx.Rows Sx.kD (Sx.NB _) _ (some ⟨u1.heap.size, 0, none⟩) 1 1 [x4] := rows_one (k := Sx.kD) B1 NB1 ⟨_, _, _, rfl, r_L5⟩
                        generalize u1.heap.size = N_R9 at *
                        generalize (u1.alloc _) = w_R9 at *
                        clear B1 h1 NB1
                        refine sat_app (.slice A_p p.length c_p) (.slice (some ⟨N_R9, 0, none⟩) 1 1) (by kernel_rfl) (by kernel_rfl) fun w24 h24 => ?_
                        refine (G_p.le h24).app (l' := [x4]) (F_R9.mv h24.mv) (by have := lt_of hlt; have := (MayT.of hMT).few; simp only [List.length_cons, List.length_nil, maxLen]; omega) (by have := lt_of hlt; have := (MayT.of hMT).few; simp only [List.length_cons, List.length_nil]; omega) fun A_G10 c_G10 v24 a24 G10 => ?_
                        have Q24 := (G_q.le h24).other a24 D h24.wf
                        replace G_q := Q24.1
                        replace D := Q24.2
                        replace F_t1 := F_t1.mv h24.mv; replace F_t2 := F_t2.mv h24.mv; replace r_x := h24.rdD r_x; replace r_y := h24.rdD r_y; replace r_L3l := h24.rdD r_L3l; replace r_L3h := h24.rdD r_L3h; replace r_L5 := h24.rdD r_L5; replace r_L7 := h24.rdD r_L7; replace F_R8 := F_R8.mv h24.mv; replace F_R9 := F_R9.mv h24.mv
                        replace F_t1 := F_t1.mv a24.toLf.mv; replace F_t2 := F_t2.mv a24.toLf.mv; replace r_x := a24.toLf.rdD r_x; replace r_y := a24.toLf.rdD r_y; replace r_L3l := a24.toLf.rdD r_L3l; replace r_L3h := a24.toLf.rdD r_L3h; replace r_L5 := a24.toLf.rdD r_L5; replace r_L7 := a24.toLf.rdD r_L7; replace F_R8 := F_R8.mv a24.toLf.mv; replace F_R9 := F_R9.mv a24.toLf.mv
                        clear h24 a24 G_p Q24
                        refine sat_app (.slice A_q q.length c_q) (.slice (some ⟨N_R8, 0, none⟩) 1 1) (by kernel_rfl) (by kernel_rfl) fun w25 h25 => ?_
                        refine (G_q.le h25).app (l' := [x2]) (F_R8.mv h25.mv) (by have := lt_of hlt; have := (MayT.of hMT).few; simp only [List.length_cons, List.length_nil, maxLen]; omega) (by have := lt_of hlt; have := (MayT.of hMT).few; simp only [List.length_cons, List.length_nil]; omega) fun A_G11 c_G11 v25 a25 G11 => ?_
                        have Q25 := (G10.le h25).other a25 D.symm h25.wf
                        replace G10 := Q25.1
                        replace D := Q25.2.symm
                        replace F_t1 := F_t1.mv h25.mv; replace F_t2 := F_t2.mv h25.mv; replace r_x := h25.rdD r_x; replace r_y := h25.rdD r_y; replace r_L3l := h25.rdD r_L3l; replace r_L3h := h25.rdD r_L3h; replace r_L5 := h25.rdD r_L5; replace r_L7 := h25.rdD r_L7; replace F_R8 := F_R8.mv h25.mv; replace F_R9 := F_R9.mv h25.mv
                        replace F_t1 := F_t1.mv a25.toLf.mv; replace F_t2 := F_t2.mv a25.toLf.mv; replace r_x := a25.toLf.rdD r_x; replace r_y := a25.toLf.rdD r_y; replace r_L3l := a25.toLf.rdD r_L3l; replace r_L3h := a25.toLf.rdD r_L3h; replace r_L5 := a25.toLf.rdD r_L5; replace r_L7 := a25.toLf.rdD r_L7; replace F_R8 := F_R8.mv a25.toLf.mv; replace F_R9 := F_R9.mv a25.toLf.mv
                        clear h25 a25 G_q Q25
                        refine sat_chkB (by kernel_rfl) ?_
                        refine sat_chkB (by kernel_rfl) ?_
                        refine sat_prim (v := .int .i64 (((i + 1 : Nat)) : Int)) (Eq.trans (b := some (.int .i64 (IntKind.i64.wrap ((((i) : Nat) : Int) + 1)))) (by kernel_rfl) (by rw [Sx.wrap_succ (n := t.v.length) (lt_of hlt) M_t2])) ?_
                        exact sat_back [.int .i64 (((i + 1 : Nat)) : Int), .slice A_G10 (p ++ [x4]).length c_G10, .slice A_G11 (q ++ [x2]).length c_G11] (by kernel_rfl) fun w9 h9 => ⟨_, by have := lt_of hlt; omega, i + 1, (p ++ [x4]), _, _, (q ++ [x2]), _, _, rfl, rfl, by have := lt_of hlt; omega, G10.le h9, G11.le h9, D, cut_take hm h_x2 (ck2 h_x4 hc1 h_x6 hc2) h_x4 hc3, by rw [List.length_append]; simp only [List.length_cons, List.length_nil]; omega, by rw [List.length_append]; simp only [List.length_cons, List.length_nil]; omega⟩
                    · refine sat_true (by kernel_rfl) ?_
                      refine sat_chkB (by kernel_rfl) ?_
                      refine sat_alt ?_ ?_
                      · refine sat_rowN [.bool y.neg, .slice A_y n_y c_y, .int .i64 y.e] (by kernel_rfl) (by intro x hx; cases hx) fun u1 h1 B1 NB1 => ?_
                        replace F_t1 := F_t1.mv h1.mv; replace F_t2 := F_t2.mv h1.mv; replace r_x := h1.rdD r_x; replace r_y := h1.rdD r_y; replace G_p := G_p.le h1; replace G_q := G_q.le h1; replace r_L3l := h1.rdD r_L3l; replace r_L3h := h1.rdD r_L3h; replace r_L5 := h1.rdD r_L5; replace r_L7 := h1.rdD r_L7
                        have F_R8 : Sx.Rows Sx.kD (Sx.NB _) _ (some ⟨u1.heap.size, 0, none⟩) 1 1 [y] := rows_one (k := Sx.kD) B1 NB1 ⟨_, _, _, rfl, r_y⟩
                        generalize u1.heap.size = N_R8 at *
                        generalize (u1.alloc _) = w_R8 at *
                        clear B1 h1 NB1
                        refine sat_alt ?_ ?_
                        · refine sat_app (.slice A_p p.length c_p) (.slice (some ⟨N_R8, 0, none⟩) 1 1) (by kernel_rfl) (by kernel_rfl) fun w24 h24 => ?_
                          refine (G_p.le h24).app (l' := [y]) (F_R8.mv h24.mv) (by have := lt_of hlt; have := (MayT.of hMT).few; simp only [List.length_cons, List.length_nil, maxLen]; omega) (by have := lt_of hlt; have := (MayT.of hMT).few; simp only [List.length_cons, List.length_nil]; omega) fun A_G9 c_G9 v24 a24 G9 => ?_
                          have Q24 := (G_q.le h24).other a24 D h24.wf
                          replace G_q := Q24.1
                          replace D := Q24.2
                          replace F_t1 := F_t1.mv h24.mv; replace F_t2 := F_t2.mv h24.mv; replace r_x := h24.rdD r_x; replace r_y := h24.rdD r_y; replace r_L3l := h24.rdD r_L3l; replace r_L3h := h24.rdD r_L3h; replace r_L5 := h24.rdD r_L5; replace r_L7 := h24.rdD r_L7; replace F_R8 := F_R8.mv h24.mv
                          replace F_t1 := F_t1.mv a24.toLf.mv; replace F_t2 := F_t2.mv a24.toLf.mv; replace r_x := a24.toLf.rdD r_x; replace r_y := a24.toLf.rdD r_y; replace r_L3l := a24.toLf.rdD r_L3l; replace r_L3h := a24.toLf.rdD r_L3h; replace r_L5 := a24.toLf.rdD r_L5; replace r_L7 := a24.toLf.rdD r_L7; replace F_R8 := F_R8.mv a24.toLf.mv
                          clear h24 a24 G_p Q24
                          refine sat_rowN [.bool x2.lo.neg, .slice A_L3 n_L3 c_L3, .int .i64 x2.lo.e, .bool x2.hi.neg, .slice B_L3 m_L3 k_L3, .int .i64 x2.hi.e] (by kernel_rfl) (by intro x hx; cases hx) fun u1 h1 B1 NB1 => ?_
                          replace F_t1 := F_t1.mv h1.mv; replace F_t2 := F_t2.mv h1.mv; replace r_x := h1.rdD r_x; replace r_y := h1.rdD r_y; replace r_L3l := h1.rdD r_L3l; replace r_L3h := h1.rdD r_L3h; replace r_L5 := h1.rdD r_L5; replace r_L7 := h1.rdD r_L7; replace F_R8 := F_R8.mv h1.mv; replace G_q := G_q.le h1; replace G9 := G9.le h1
                          have F_R10 : Sx.Rows Sx.kI (Sx.NB _) _ (some ⟨u1.heap.size, 0, none⟩) 1 1 [x2] := rows_one (k := Sx.kI) B1 NB1 ⟨_, _, _, _, _, _, rfl, r_L3l, r_L3h⟩
                          generalize u1.heap.size = N_R10 at *
                          generalize (u1.alloc _) = w_R10 at *
                          clear B1 h1 NB1
                          refine sat_app (.slice A_q q.length c_q) (.slice (some ⟨N_R10, 0, none⟩) 1 1) (by kernel_rfl) (by kernel_rfl) fun w25 h25 => ?_
                          refine (G_q.le h25).app (l' := [x2]) (F_R10.mv h25.mv) (by have := lt_of hlt; have := (MayT.of hMT).few; simp only [List.length_cons, List.length_nil, maxLen]; omega) (by have := lt_of hlt; have := (MayT.of hMT).few; simp only [List.length_cons, List.length_nil]; omega) fun A_G11 c_G11 v25 a25 G11 => ?_
                          have Q25 := (G9.le h25).other a25 D.symm h25.wf
                          replace G9 := Q25.1
                          replace D := Q25.2.symm
                          replace F_t1 := F_t1.mv h25.mv; replace F_t2 := F_t2.mv h25.mv; replace r_x := h25.rdD r_x; replace r_y := h25.rdD r_y; replace r_L3l := h25.rdD r_L3l; replace r_L3h := h25.rdD r_L3h; replace r_L5 := h25.rdD r_L5; replace r_L7 := h25.rdD r_L7; replace F_R8 := F_R8.mv h25.mv; replace F_R10 := F_R10.mv h25.mv
                          replace F_t1 := F_t1.mv a25.toLf.mv; replace F_t2 := F_t2.mv a25.toLf.mv; replace r_x := a25.toLf.rdD r_x; replace r_y := a25.toLf.rdD r_y; replace r_L3l := a25.toLf.rdD r_L3l; replace r_L3h := a25.toLf.rdD r_L3h; replace r_L5 := a25.toLf.rdD r_L5; replace r_L7 := a25.toLf.rdD r_L7; replace F_R8 := F_R8.mv a25.toLf.mv; replace F_R10 := F_R10.mv a25.toLf.mv
                          clear h25 a25 G_q Q25
                          refine sat_chkB (by kernel_rfl) ?_
                          refine sat_chkB (by kernel_rfl) ?_
                          refine sat_prim (v := .int .i64 (((i + 1 : Nat)) : Int)) (Eq.trans (b := some (.int .i64 (IntKind.i64.wrap ((((i) : Nat) : Int) + 1)))) (by kernel_rfl) (by rw [Sx.wrap_succ (n := t.v.length) (lt_of hlt) M_t2])) ?_
                          exact sat_back [.int .i64 (((i + 1 : Nat)) : Int), .slice A_G9 (p ++ [y]).length c_G9, .slice A_G11 (q ++ [x2]).length c_G11] (by kernel_rfl) fun w9 h9 => ⟨_, by have := lt_of hlt; omega, i + 1, (p ++ [y]), _, _, (q ++ [x2]), _, _, rfl, rfl, by have := lt_of hlt; omega, G9.le h9, G11.le h9, D, cut_take hm h_x2 (ck2 h_x4 hc1 h_x6 hc2) h_x4 hc3, by rw [List.length_append]; simp only [List.length_cons, List.length_nil]; omega, by rw [List.length_append]; simp only [List.length_cons, List.length_nil]; omega⟩
                        · refine sat_rowN [.bool x2.lo.neg, .slice A_L3 n_L3 c_L3, .int .i64 x2.lo.e, .bool x2.hi.neg, .slice B_L3 m_L3 k_L3, .int .i64 x2.hi.e] (by kernel_rfl) (by intro x hx; cases hx) fun u1 h1 B1 NB1 => ?_
                          replace F_t1 := F_t1.mv h1.mv; replace F_t2 := F_t2.mv h1.mv; replace r_x := h1.rdD r_x; replace r_y := h1.rdD r_y; replace G_p := G_p.le h1; replace G_q := G_q.le h1; replace r_L3l := h1.rdD r_L3l; replace r_L3h := h1.rdD r_L3h; replace r_L5 := h1.rdD r_L5; replace r_L7 := h1.rdD r_L7; replace F_R8 := F_R8.mv h1.mv
                          have F_R9 : Sx.Rows Sx.kI (Sx.NB _) _ (some ⟨u1.heap.size, 0, none⟩) 1 1 [x2] := rows_one (k := Sx.kI) B1 NB1 ⟨_, _, _, _, _, _, rfl, r_L3l, r_L3h⟩
                          generalize u1.heap.size = N_R9 at *
                          generalize (u1.alloc _) = w_R9 at *
                          clear B1 h1 NB1
                          refine sat_app (.slice A_p p.length c_p) (.slice (some ⟨N_R8, 0, none⟩) 1 1) (by kernel_rfl) (by kernel_rfl) fun w24 h24 => ?_
                          refine (G_p.le h24).app (l' := [y]) (F_R8.mv h24.mv) (by have := lt_of hlt; have := (MayT.of hMT).few; simp only [List.length_cons, List.length_nil, maxLen]; omega) (by have := lt_of hlt; have := (MayT.of hMT).few; simp only [List.length_cons, List.length_nil]; omega) fun A_G10 c_G10 v24 a24 G10 => ?_
                          have Q24 := (G_q.le h24).other a24 D h24.wf
                          replace G_q := Q24.1
                          replace D := Q24.2
                          replace F_t1 := F_t1.mv h24.mv; replace F_t2 := F_t2.mv h24.mv; replace r_x := h24.rdD r_x; replace r_y := h24.rdD r_y; replace r_L3l := h24.rdD r_L3l; replace r_L3h := h24.rdD r_L3h; replace r_L5 := h24.rdD r_L5; replace r_L7 := h24.rdD r_L7; replace F_R8 := F_R8.mv h24.mv; replace F_R9 := F_R9.mv h24.mv
                          replace F_t1 := F_t1.mv a24.toLf.mv; replace F_t2 := F_t2.mv a24.toLf.mv; replace r_x := a24.toLf.rdD r_x; replace r_y := a24.toLf.rdD r_y; replace r_L3l := a24.toLf.rdD r_L3l; replace r_L3h := a24.toLf.rdD r_L3h; replace r_L5 := a24.toLf.rdD r_L5; replace r_L7 := a24.toLf.rdD r_L7; replace F_R8 := F_R8.mv a24.toLf.mv; replace F_R9 := F_R9.mv a24.toLf.mv
                          clear h24 a24 G_p Q24
                          refine sat_app (.slice A_q q.length c_q) (.slice (some ⟨N_R9, 0, none⟩) 1 1) (by kernel_rfl) (by kernel_rfl) fun w25 h25 => ?_
                          refine (G_q.le h25).app (l' := [x2]) (F_R9.mv h25.mv) (by have := lt_of hlt; have := (MayT.of hMT).few; simp only [List.length_cons, List.length_nil, maxLen]; omega) (by have := lt_of hlt; have := (MayT.of hMT).few; simp only [List.length_cons, List.length_nil]; omega) fun A_G11 c_G11 v25 a25 G11 => ?_
                          have Q25 := (G10.le h25).other a25 D.symm h25.wf
                          replace G10 := Q25.1
                          replace D := Q25.2.symm
                          replace F_t1 := F_t1.mv h25.mv; replace F_t2 := F_t2.mv h25.mv; replace r_x := h25.rdD r_x; replace r_y := h25.rdD r_y; replace r_L3l := h25.rdD r_L3l; replace r_L3h := h25.rdD r_L3h; replace r_L5 := h25.rdD r_L5; replace r_L7 := h25.rdD r_L7; replace F_R8 := F_R8.mv h25.mv; replace F_R9 := F_R9.mv h25.mv
                          replace F_t1 := F_t1.mv a25.toLf.mv; replace F_t2 := F_t2.mv a25.toLf.mv; replace r_x := a25.toLf.rdD r_x; replace r_y := a25.toLf.rdD r_y; replace r_L3l := a25.toLf.rdD r_L3l; replace r_L3h := a25.toLf.rdD r_L3h; replace r_L5 := a25.toLf.rdD r_L5; replace r_L7 := a25.toLf.rdD r_L7; replace F_R8 := F_R8.mv a25.toLf.mv; replace F_R9 := F_R9.mv a25.toLf.mv
                          clear h25 a25 G_q Q25
                          refine sat_chkB (by kernel_rfl) ?_
                          refine sat_chkB (by kernel_rfl) ?_
                          refine sat_prim (v := .int .i64 (((i + 1 : Nat)) : Int)) (Eq.trans (b := some (.int .i64 (IntKind.i64.wrap ((((i) : Nat) : Int) + 1)))) (by kernel_rfl) (by rw [Sx.wrap_succ (n := t.v.length) (lt_of hlt) M_t2])) ?_
                          exact sat_back [.int .i64 (((i + 1 : Nat)) : Int), .slice A_G10 (p ++ [y]).length c_G10, .slice A_G11 (q ++ [x2]).length c_G11] (by kernel_rfl) fun w9 h9 => ⟨_, by have := lt_of hlt; omega, i + 1, (p ++ [y]), _, _, (q ++ [x2]), _, _, rfl, rfl, by have := lt_of hlt; omega, G10.le h9, G11.le h9, D, cut_take hm h_x2 (ck2 h_x4 hc1 h_x6 hc2) h_x4 hc3, by rw [List.length_append]; simp only [List.length_cons, List.length_nil]; omega, by rw [List.length_append]; simp only [List.length_cons, List.length_nil]; omega⟩
                      · refine sat_rowN [.bool x2.lo.neg, .slice A_L3 n_L3 c_L3, .int .i64 x2.lo.e, .bool x2.hi.neg, .slice B_L3 m_L3 k_L3, .int .i64 x2.hi.e] (by kernel_rfl) (by intro x hx; cases hx) fun u1 h1 B1 NB1 => ?_
                        replace F_t1 := F_t1.mv h1.mv; replace F_t2 := F_t2.mv h1.mv; replace r_x := h1.rdD r_x; replace r_y := h1.rdD r_y; replace G_p := G_p.le h1; replace G_q := G_q.le h1; replace r_L3l := h1.rdD r_L3l; replace r_L3h := h1.rdD r_L3h; replace r_L5 := h1.rdD r_L5; replace r_L7 := h1.rdD r_L7
                        have F_R8 : Sx.Rows Sx.kI (Sx.NB _) _ (some ⟨u1.heap.size, 0, none⟩) 1 1 [x2] := rows_one (k := Sx.kI) B1 NB1 ⟨_, _, _, _, _, _, rfl, r_L3l, r_L3h⟩
                        generalize u1.heap.size = N_R8 at *
                        generalize (u1.alloc _) = w_R8 at *
                        clear B1 h1 NB1
                        refine sat_rowN [.bool y.neg, .slice A_y n_y c_y, .int .i64 y.e] (by kernel_rfl) (by intro x hx; cases hx) fun u1 h1 B1 NB1 => ?_
                        replace F_t1 := F_t1.mv h1.mv; replace F_t2 := F_t2.mv h1.mv; replace r_x := h1.rdD r_x; replace r_y := h1.rdD r_y; replace G_p := G_p.le h1; replace G_q := G_q.le h1; replace r_L3l := h1.rdD r_L3l; replace r_L3h := h1.rdD r_L3h; replace r_L5 := h1.rdD r_L5; replace r_L7 := h1.rdD r_L7; replace F_R8 := F_R8.mv h1.mv
                        have F_R9 : Sx.Rows Sx.kD (Sx.NB _) _ (some ⟨u1.heap.size, 0, none⟩) 1 1 [y] := rows_one (k := Sx.kD) B1 NB1 ⟨_, _, _, rfl, r_y⟩
                        generalize u1.heap.size = N_R9 at *
                        generalize (u1.alloc _) = w_R9 at *
                        clear B1 h1 NB1
                        refine sat_app (.slice A_p p.length c_p) (.slice (some ⟨N_R9, 0, none⟩) 1 1) (by kernel_rfl) (by kernel_rfl) fun w24 h24 => ?_
                        refine (G_p.le h24).app (l' := [y]) (F_R9.mv h24.mv) (by have := lt_of hlt; have := (MayT.of hMT).few; simp only [List.length_cons, List.length_nil, maxLen]; omega) (by have := lt_of hlt; have := (MayT.of hMT).few; simp only [List.length_cons, List.length_nil]; omega) fun A_G10 c_G10 v24 a24 G10 => ?_
                        have Q24 := (G_q.le h24).other a24 D h24.wf
                        replace G_q := Q24.1
                        replace D := Q24.2
                        replace F_t1 := F_t1.mv h24.mv; replace F_t2 := F_t2.mv h24.mv; replace r_x := h24.rdD r_x; replace r_y := h24.rdD r_y; replace r_L3l := h24.rdD r_L3l; replace r_L3h := h24.rdD r_L3h; replace r_L5 := h24.rdD r_L5; replace r_L7 := h24.rdD r_L7; replace F_R8 := F_R8.mv h24.mv; replace F_R9 := F_R9.mv h24.mv
                        replace F_t1 := F_t1.mv a24.toLf.mv; replace F_t2 := F_t2.mv a24.toLf.mv; replace r_x := a24.toLf.rdD r_x; replace r_y := a24.toLf.rdD r_y; replace r_L3l := a24.toLf.rdD r_L3l; replace r_L3h := a24.toLf.rdD r_L3h; replace r_L5 := a24.toLf.rdD r_L5; replace r_L7 := a24.toLf.rdD r_L7; replace F_R8 := F_R8.mv a24.toLf.mv; replace F_R9 := F_R9.mv a24.toLf.mv
                        clear h24 a24 G_p Q24
                        refine sat_app (.slice A_q q.length c_q) (.slice (some ⟨N_R8, 0, none⟩) 1 1) (by kernel_rfl) (by kernel_rfl) fun w25 h25 => ?_
                        refine (G_q.le h25).app (l' := [x2]) (F_R8.mv h25.mv) (by have := lt_of hlt; have := (MayT.of hMT).few; simp only [List.length_cons, List.length_nil, maxLen]; omega) (by have := lt_of hlt; have := (MayT.of hMT).few; simp only [List.length_cons, List.length_nil]; omega) fun A_G11 c_G11 v25 a25 G11 => ?_
                        have Q25 := (G10.le h25).other a25 D.symm h25.wf
                        replace G10 := Q25.1
                        replace D := Q25.2.symm
                        replace F_t1 := F_t1.mv h25.mv; replace F_t2 := F_t2.mv h25.mv; replace r_x := h25.rdD r_x; replace r_y := h25.rdD r_y; replace r_L3l := h25.rdD r_L3l; replace r_L3h := h25.rdD r_L3h; replace r_L5 := h25.rdD r_L5; replace r_L7 := h25.rdD r_L7; replace F_R8 := F_R8.mv h25.mv; replace F_R9 := F_R9.mv h25.mv
                        replace F_t1 := F_t1.mv a25.toLf.mv; replace F_t2 := F_t2.mv a25.toLf.mv; replace r_x := a25.toLf.rdD r_x; replace r_y := a25.toLf.rdD r_y; replace r_L3l := a25.toLf.rdD r_L3l; replace r_L3h := a25.toLf.rdD r_L3h; replace r_L5 := a25.toLf.rdD r_L5; replace r_L7 := a25.toLf.rdD r_L7; replace F_R8 := F_R8.mv a25.toLf.mv; replace F_R9 := F_R9.mv a25.toLf.mv
                        clear h25 a25 G_q Q25
                        refine sat_chkB (by kernel_rfl) ?_
                        refine sat_chkB (by kernel_rfl) ?_
                        refine sat_prim (v := .int .i64 (((i + 1 : Nat)) : Int)) (Eq.trans (b := some (.int .i64 (IntKind.i64.wrap ((((i) : Nat) : Int) + 1)))) (by kernel_rfl) (by rw [Sx.wrap_succ (n := t.v.length) (lt_of hlt) M_t2])) ?_
                        exact sat_back [.int .i64 (((i + 1 : Nat)) : Int), .slice A_G10 (p ++ [y]).length c_G10, .slice A_G11 (q ++ [x2]).length c_G11] (by kernel_rfl) fun w9 h9 => ⟨_, by have := lt_of hlt; omega, i + 1, (p ++ [y]), _, _, (q ++ [x2]), _, _, rfl, rfl, by have := lt_of hlt; omega, G10.le h9, G11.le h9, D, cut_take hm h_x2 (ck2 h_x4 hc1 h_x6 hc2) h_x4 hc3, by rw [List.length_append]; simp only [List.length_cons, List.length_nil]; omega, by rw [List.length_append]; simp only [List.length_cons, List.length_nil]; omega⟩
                  · refine sat_true (by kernel_rfl) ?_
                    refine sat_prim (v := .int .i64 (((i + 1 : Nat)) : Int)) (Eq.trans (b := some (.int .i64 (IntKind.i64.wrap ((((i) : Nat) : Int) + 1)))) (by kernel_rfl) (by rw [Sx.wrap_succ (n := t.v.length) (lt_of hlt) M_t2])) ?_
                    exact sat_back [.int .i64 (((i + 1 : Nat)) : Int), .slice A_p p.length c_p, .slice A_q q.length c_q] (by kernel_rfl) fun w9 h9 => ⟨_, by have := lt_of hlt; omega, i + 1, p, _, _, q, _, _, rfl, rfl, by have := lt_of hlt; omega, G_p.le h9, G_q.le h9, D, cut_skip hm h_x2 (ck2 h_x4 hc1 h_x6 hc2), by omega, by omega⟩
                · refine sat_true (by kernel_rfl) ?_
                  refine sat_prim (v := .int .i64 (((i + 1 : Nat)) : Int)) (Eq.trans (b := some (.int .i64 (IntKind.i64.wrap ((((i) : Nat) : Int) + 1)))) (by kernel_rfl) (by rw [Sx.wrap_succ (n := t.v.length) (lt_of hlt) M_t2])) ?_
                  exact sat_back [.int .i64 (((i + 1 : Nat)) : Int), .slice A_p p.length c_p, .slice A_q q.length c_q] (by kernel_rfl) fun w9 h9 => ⟨_, by have := lt_of hlt; omega, i + 1, p, _, _, q, _, _, rfl, rfl, by have := lt_of hlt; omega, G_p.le h9, G_q.le h9, D, cut_skip hm h_x2 (ck1 h_x4 hc1), by omega, by omega⟩
        · refine sat_true (by kernel_rfl) ?_
          exact sat_ret (.tuple #[.agg #[.slice none 0 0, .slice none 0 0], .int .i64 1]) (by kernel_rfl) fun w9 h9 => TbTup.nil (by unfold cutT; rw [hMT, hx, hy, hxy]; rfl)

end Go.Proofs.YtbpfnooloemieaaGreatDoor
