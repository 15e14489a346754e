/- Package tube, by its trees. Printed by wip/mk_TbA.py. Package tube, by its trees: Over, At, Join, Same, beside. Printed by wip/mk_TbB.py. sluicewaylaw13.Few, told, by their trees. Printed by wip/mk_TbE.py. -/
import Derived.Test.YtpkfjfpknbhekaaBxBx
import Derived.Test.YtpkfjfpknbhekaaSeqIx
import Derived.Test.YtpkfjfpknbhekaaBxPx
namespace Go.Proofs.Ytpkfjfpknbhekaa
open Go.RowKit Pl
open Sx (sat_call sat_chk sat_prim sat_ite sat_true sat_false sat_trueP sat_falseP sat_ret sat_row sat_callP sat_loop sat_back sat_idx sat_el sat_elf sat_elc sat_load sat_rowN sat_app sat_callB sat_alt rows_one rows_two all_nil all_cons okB okS okI)

/-- A tube and a mark come back; its rows are of the call's own making. -/
def TbTup (w0 w : World) (e : Ending) (r : Tb × Int) : Prop := ∃ (p : List Dy) (q : List Iv) (x : Int) (A : Option Addr) (c : Nat) (B : Option Addr) (d : Nat), e = .returned (.tuple #[.agg #[.slice A p.length c, .slice B q.length d], .int .i64 x]) ∧ Hid ((⟨p, q⟩, x) = r) ∧
  Sx.Rows Sx.kD (fun g => w0.heap.size ≤ g) w A p.length c p ∧ Sx.Rows Sx.kI (fun g => w0.heap.size ≤ g) w B q.length d q
theorem TbTup.nil {w0 w : World} {x : Int} {r : Tb × Int} (h : (nilT, x) = r) : TbTup w0 w (.returned (.tuple #[.agg #[.slice none 0 0, .slice none 0 0], .int .i64 x])) r := ⟨[], [], x, none, 0, none, 0, rfl, hide h, Sx.Rows.nil _ _ _, Sx.Rows.nil _ _ _⟩
theorem sml {a b : Int} (h : a = b) (hb : -1000000000 ≤ b ∧ b ≤ 9223372036854775807) : some (Value.int .i64 (IntKind.i64.wrap a)) = some (Value.int .i64 b) := by rw [h, IntWalk.i64_in _ (by omega)]
theorem all_step {l : List Dy} {i : Nat} {r b : Bool} (hm : r = (allT l i && b)) (hi : i < l.length) (h : stepT l i = true) : r = (allT l (i + 1) && b) := by rw [hm, allT_cons hi, h, Bool.true_and]
theorem all_no {l : List Dy} {i : Nat} {r b : Bool} (hm : r = (allT l i && b)) (hi : i < l.length) (h : stepT l i = false) : false = r := by rw [hm, allT_cons hi, h, Bool.false_and, Bool.false_and]

def tr_tmay1 : Sx.Tree := .chk [.lf 0, .lf 1, .lf 2, .lf 3, .lf 4, .lf 5] (.call 35 [.ag [.lf 0, .lf 1, .lf 2, .lf 3, .lf 4, .lf 5]] .one (.prim .not [.lf 6] (.ret (.one (.lf 7)))))
theorem tr_tmay1_eq : Sx.treeAt Try.prog 81 [] [] [(true, 6)] = some tr_tmay1 := by kernel_rfl

theorem tmay1_any (v_a : Value) (a : Iv) (w : World) (h_a : RdI w v_a a) :
    Calls Try.prog 81 #[v_a] w fun e w' => e = .returned (.bool (!(mayI a))) ∧ Below w.heap.size w w' := by
  obtain ⟨A_a, n_a, c_a, B_a, m_a, k_a, rfl, r_al, r_ah⟩ := h_a
  refine (Sx.runA [] [] (ls := [.bool a.lo.neg, .slice A_a n_a c_a, .int .i64 a.lo.e, .bool a.hi.neg, .slice B_a m_a k_a, .int .i64 a.hi.e]) (shs := [(true, 6)]) (R := fun v _ => v = .bool (!(mayI a))) tr_tmay1_eq rfl (by decide) (fun q h => by cases h) ?_).mono (fun e w' ⟨v, he, hv, hb⟩ => ⟨by rw [he, hv], hb⟩)
  unfold tr_tmay1
  refine sat_chkB (by kernel_rfl) ?_
  refine sat_call #[.agg #[.bool a.lo.neg, .slice A_a n_a c_a, .int .i64 a.lo.e, .bool a.hi.neg, .slice B_a m_a k_a, .int .i64 a.hi.e]] (by kernel_rfl) fun w1 h1 => ?_
  refine (mayI_any _ a _ (mkI (h1.rdD r_al) (h1.rdD r_ah))).mono ?_
  rintro e v1 ⟨rfl, hb1⟩
  refine ⟨hb1, [.bool (mayI a)], _, rfl, by kernel_rfl, by kernel_rfl, fun g1 => ?_⟩
  replace r_al := g1.rdD r_al; replace r_ah := g1.rdD r_ah
  clear h1 hb1
  refine sat_prim (v := .bool (!(mayI a))) (by kernel_rfl) ?_
  exact sat_ret (.bool (!(mayI a))) (by kernel_rfl) fun w9 h9 => rfl

def tr_tidx : Sx.Tree := .prim .len [.lf 0] (.loop 0 [.num .i64 0, .num .i64 0] (.prim (.bin .lss) [.lf 3, .lf 2] (.ite (.lf 5) (.prim (.idx 6) [.lf 0, .lf 3] (.load 61 (.lf 6) (.ag 6) (.call 81 [.ag [.lf 7, .lf 8, .lf 9, .lf 10, .lf 11, .lf 12]] .one (.ite (.lf 13) (.ret (.one (.lf 3))) (.prim (.bin .add) [.lf 3, .num .i64 1] (.back 0 [.lf 14, .lf 4])))))) (.ret (.one (.num .i64 ((-1))))))))
theorem tr_tidx_eq : Sx.treeAt Try.prog 77 [(1, 81)] [] [(false, 1), (false, 1)] = some tr_tidx := by kernel_rfl

theorem tindexB_any (A_l : Option Addr) (c_l : Nat) (l : List Iv) (w : World) (h_l : Sx.Rows Sx.kI (fun _ => True) w A_l l.length c_l l) :
    Calls Try.prog 77 #[.slice A_l l.length c_l, .func (.func 81) #[] #[]] w fun e w' => (∃ k : Int, e = .returned (.int .i64 k) ∧ IdxB l k) ∧ Below w.heap.size w w' := by
  have F_l := h_l.start
  have M_l := h_l.le
  clear h_l
  refine (Sx.runA [(1, 81)] [] (ls := [.slice A_l l.length c_l, .func (.func 81) #[] #[]]) (shs := [(false, 1), (false, 1)]) (R := fun v _ => ∃ k : Int, v = .int .i64 k ∧ IdxB l k) tr_tidx_eq rfl (by decide) (by simp [Sx.tupV]) ?_).mono (fun e w' ⟨v, he, ⟨k, hv, hk⟩, hb⟩ => ⟨⟨k, by rw [he, hv], hk⟩, hb⟩)
  unfold tr_tidx
  refine sat_prim (v := .int .i64 ((l.length : Nat) : Int)) (by kernel_rfl) ?_
  refine sat_loop (fun Kn vs W => ∃ (i : Nat), vs = [.int .i64 ((i : Nat) : Int), .int .i64 0] ∧ Kn = l.length - i ∧ i ≤ l.length ∧ (mayB l = mayB (l.drop i))) [.int .i64 0, .int .i64 0] (by kernel_rfl) (fun w1 h1 => ⟨_, 0, rfl, rfl, Nat.zero_le _, rfl⟩) ?_
  rintro Kn vs w1 h1 ⟨i, rfl, rfl, h_i, hm⟩
  replace F_l := F_l.mv h1.mv
  clear h1
  refine sat_prim (v := .bool (decide ((((i : Nat) : Int) : Int) < ((l.length : Nat) : Int)))) (by kernel_rfl) ?_
  cases hlt : (decide ((((i : Nat) : Int) : Int) < ((l.length : Nat) : Int)))
  · refine sat_false (by kernel_rfl) ?_
    exact sat_ret (.int .i64 (-1)) (by kernel_rfl) fun w9 h9 => ⟨_, rfl, idx_no hm hlt⟩
  · refine sat_true (by kernel_rfl) ?_
    refine sat_idx (A := A_l) (c := c_l) (kk := .i64) (i) (by kernel_rfl) (by kernel_rfl) (lt_of hlt) F_l.addr fun g3 o3 e3 => ?_
    obtain ⟨x1, h_x1⟩ : ∃ x_, l[(i)]? = some x_ := ⟨_, List.getElem?_eq_getElem (lt_of hlt)⟩
    refine sat_el F_l e3 h_x1 rfl (by kernel_rfl) (by kernel_rfl) (by kernel_rfl) ?_
    rintro _ ⟨A_L2, n_L2, c_L2, B_L2, m_L2, k_L2, rfl, r_L2l, r_L2h⟩
    refine sat_call #[.agg #[.bool x1.lo.neg, .slice A_L2 n_L2 c_L2, .int .i64 x1.lo.e, .bool x1.hi.neg, .slice B_L2 m_L2 k_L2, .int .i64 x1.hi.e]] (by kernel_rfl) fun w4 h4 => ?_
    refine (tmay1_any _ x1 _ (mkI (h4.rdD r_L2l) (h4.rdD r_L2h))).mono ?_
    rintro e v4 ⟨rfl, hb4⟩
    refine ⟨hb4, [.bool (!(mayI x1))], _, rfl, by kernel_rfl, by kernel_rfl, fun g4 => ?_⟩
    replace F_l := F_l.mv g4.mv; replace r_L2l := g4.rdD r_L2l; replace r_L2h := g4.rdD r_L2h
    clear h4 hb4
    cases hm2 : (mayI x1)
    · refine sat_true (by kernel_rfl) ?_
      exact sat_ret (.int .i64 ((i : Nat) : Int)) (by kernel_rfl) fun w9 h9 => ⟨_, rfl, idx_yes hm h_x1 hm2⟩
    · refine sat_false (by kernel_rfl) ?_
      refine sat_prim (v := .int .i64 (((i + 1 : Nat)) : Int)) (Eq.trans (b := some (.int .i64 (IntKind.i64.wrap ((((i) : Nat) : Int) + 1)))) (by kernel_rfl) (by rw [Sx.wrap_succ (n := l.length) (lt_of hlt) M_l])) ?_
      exact sat_back [.int .i64 (((i + 1 : Nat)) : Int), .int .i64 0] (by kernel_rfl) fun w9 h9 => ⟨_, by have := lt_of hlt; omega, i + 1, rfl, rfl, by have := lt_of hlt; omega, by rw [hm, mayB_cons h_x1, hm2, Bool.true_and]⟩

def tr_tcont : Sx.Tree := .call 77 [.one (.lf 0), .one (.fn 81)] .one (.prim (.bin .geq) [.lf 2, .num .i64 0] (.ret (.one (.lf 3))))
theorem tr_tcont_eq : Sx.treeAt Try.prog 33 [(1, 81)] [] [(false, 1), (false, 1)] = some tr_tcont := by kernel_rfl

theorem tcontB_any (A_l : Option Addr) (c_l : Nat) (l : List Iv) (w : World) (h_l : Sx.Rows Sx.kI (fun _ => True) w A_l l.length c_l l) :
    Calls Try.prog 33 #[.slice A_l l.length c_l, .func (.func 81) #[] #[]] w fun e w' => e = .returned (.bool (!(mayB l))) ∧ Below w.heap.size w w' := by
  have F_l := h_l.start
  have M_l := h_l.le
  clear h_l
  refine (Sx.runA [(1, 81)] [] (ls := [.slice A_l l.length c_l, .func (.func 81) #[] #[]]) (shs := [(false, 1), (false, 1)]) (R := fun v _ => v = .bool (!(mayB l))) tr_tcont_eq rfl (by decide) (by simp [Sx.tupV]) ?_).mono (fun e w' ⟨v, he, hv, hb⟩ => ⟨by rw [he, hv], hb⟩)
  unfold tr_tcont
  refine sat_call #[.slice A_l l.length c_l, .func (.func 81) #[] #[]] (by kernel_rfl) fun w1 h1 => ?_
  refine (tindexB_any _ _ l _ ((F_l.mv h1.mv).any)).mono ?_
  rintro e v1 ⟨⟨k1, rfl, h_k1⟩, hb1⟩
  refine ⟨hb1, [.int .i64 k1], _, rfl, by kernel_rfl, by kernel_rfl, fun g1 => ?_⟩
  replace F_l := F_l.mv g1.mv
  clear h1 hb1
  refine sat_prim (v := .bool (decide ((0 : Int) ≤ k1))) (by kernel_rfl) ?_
  exact sat_ret (.bool (decide ((0 : Int) ≤ k1))) (by kernel_rfl) fun w9 h9 => congrArg Value.bool h_k1

def tr_tmay : Sx.Tree := .chk [.lf 0, .lf 1] (.prim .len [.lf 1] (.prim (.bin .lss) [.lf 2, .num .i64 1] (.ite (.lf 3) (.ret (.one (.bit false))) (.prim (.bin .gtr) [.lf 2, .num .i64 256] (.ite (.lf 4) (.ret (.one (.bit false))) (.prim .len [.lf 0] (.prim (.bin .add) [.lf 2, .num .i64 1] (.prim (.bin .neq) [.lf 5, .lf 6] (.ite (.lf 7) (.ret (.one (.bit false))) (.prim .len [.lf 0] (.loop 0 [.num .i64 0, .bit false] (.prim (.bin .lss) [.lf 9, .lf 8] (.ite (.lf 11) (.prim (.idx 3) [.lf 0, .lf 9] (.load 24 (.lf 12) (.ag 3) (.chk [.lf 13, .lf 14, .lf 15] (.call 32 [.ag [.lf 13, .lf 14, .lf 15]] .one (.prim .not [.lf 16] (.ite (.lf 17) (.ret (.one (.bit false))) (.prim (.bin .gtr) [.lf 9, .num .i64 0] (.ite (.lf 18) (.prim (.bin .sub) [.lf 9, .num .i64 1] (.prim (.idx 3) [.lf 0, .lf 19] (.load 24 (.lf 20) (.ag 3) (.call 78 [.ag [.lf 21, .lf 22, .lf 23], .ag [.lf 13, .lf 14, .lf 15]] .one (.prim (.bin .geq) [.lf 24, .num .i64 0] (.ite (.lf 25) (.ret (.one (.bit false))) (.prim (.bin .add) [.lf 9, .num .i64 1] (.back 0 [.lf 26, .lf 10])))))))) (.prim (.bin .add) [.lf 9, .num .i64 1] (.back 0 [.lf 19, .lf 10])))))))))) (.call 33 [.one (.lf 1), .one (.fn 81)] .one (.prim .not [.lf 12] (.ret (.one (.lf 13))))))))))))))))))
theorem tr_tmay_eq : Sx.treeAt Try.prog 40 [] [] [(true, 2)] = some tr_tmay := by kernel_rfl

theorem mayT_any (A_t : Option Addr) (c_t : Nat) (B_t : Option Addr) (d_t : Nat) (t : Tb) (w : World) (h_t1 : Sx.Rows Sx.kD (fun _ => True) w A_t t.at_.length c_t t.at_) (h_t2 : Sx.Rows Sx.kI (fun _ => True) w B_t t.v.length d_t t.v) :
    Calls Try.prog 40 #[.agg #[.slice A_t t.at_.length c_t, .slice B_t t.v.length d_t]] w fun e w' => e = .returned (.bool (mayT t)) ∧ Below w.heap.size w w' := by
  have F_t1 := h_t1.start
  have M_t1 := h_t1.le
  clear h_t1
  have F_t2 := h_t2.start
  have M_t2 := h_t2.le
  clear h_t2
  refine (Sx.runA [] [] (ls := [.slice A_t t.at_.length c_t, .slice B_t t.v.length d_t]) (shs := [(true, 2)]) (R := fun v _ => v = .bool (mayT t)) tr_tmay_eq rfl (by decide) (fun q h => by cases h) ?_).mono (fun e w' ⟨v, he, hv, hb⟩ => ⟨by rw [he, hv], hb⟩)
  unfold tr_tmay
  refine sat_chkB (by kernel_rfl) ?_
  refine sat_prim (v := .int .i64 ((t.v.length : Nat) : Int)) (by kernel_rfl) ?_
  refine sat_prim (v := .bool (decide ((((t.v.length : Nat) : Int) : Int) < 1))) (by kernel_rfl) ?_
  cases h1 : (decide ((((t.v.length : Nat) : Int) : Int) < 1))
  · refine sat_false (by kernel_rfl) ?_
    refine sat_prim (v := .bool (decide ((256 : Int) < ((t.v.length : Nat) : Int)))) (by kernel_rfl) ?_
    cases h2 : (decide ((256 : Int) < ((t.v.length : Nat) : Int)))
    · refine sat_false (by kernel_rfl) ?_
      refine sat_prim (v := .int .i64 ((t.at_.length : Nat) : Int)) (by kernel_rfl) ?_
      refine sat_prim (v := .int .i64 ((t.v.length + 1 : Nat) : Int)) (Eq.trans (b := some (.int .i64 (IntKind.i64.wrap (((t.v.length : Nat) : Int) + 1)))) (by kernel_rfl) (sml (by have := of_decide_eq_false h2; omega) (by have := of_decide_eq_false h2; omega))) ?_
      refine sat_prim (v := .bool ((((t.at_.length : Nat) : Int) : Int) != ((t.v.length + 1 : Nat) : Int))) (by kernel_rfl) ?_
      cases h3 : ((((t.at_.length : Nat) : Int) : Int) != ((t.v.length + 1 : Nat) : Int))
      · refine sat_false (by kernel_rfl) ?_
        refine sat_prim (v := .int .i64 ((t.at_.length : Nat) : Int)) (by kernel_rfl) ?_
        have hm0 := may_ok h1 h2 h3
        refine sat_loop (fun Kn vs W => ∃ (i : Nat), vs = [.int .i64 ((i : Nat) : Int), .bool false] ∧ Kn = t.at_.length - i ∧ i ≤ t.at_.length ∧ (mayT t = (allT t.at_ i && mayB t.v))) [.int .i64 0, .bool false] (by kernel_rfl) (fun w1 h1 => ⟨_, 0, rfl, rfl, Nat.zero_le _, hm0⟩) ?_
        rintro Kn vs w4 h4 ⟨i, rfl, rfl, h_i, hm⟩
        replace F_t1 := F_t1.mv h4.mv; replace F_t2 := F_t2.mv h4.mv
        clear h4
        refine sat_prim (v := .bool (decide ((((i : Nat) : Int) : Int) < ((t.at_.length : Nat) : Int)))) (by kernel_rfl) ?_
        cases hlt : (decide ((((i : Nat) : Int) : Int) < ((t.at_.length : Nat) : Int)))
        · refine sat_false (by kernel_rfl) ?_
          refine sat_call #[.slice B_t t.v.length d_t, .func (.func 81) #[] #[]] (by kernel_rfl) fun w6 h6 => ?_
          refine (tcontB_any _ _ t.v _ ((F_t2.mv h6.mv).any)).mono ?_
          rintro e v6 ⟨rfl, hb6⟩
          refine ⟨hb6, [.bool (!(mayB t.v))], _, rfl, by kernel_rfl, by kernel_rfl, fun g6 => ?_⟩
          replace F_t1 := F_t1.mv g6.mv; replace F_t2 := F_t2.mv g6.mv
          clear h6 hb6
          refine sat_prim (v := .bool (!(!(mayB t.v)))) (by kernel_rfl) ?_
          exact sat_ret (.bool (!(!(mayB t.v)))) (by kernel_rfl) fun w9 h9 => congrArg Value.bool (by rw [hm, allT_end hlt]; simp)
        · refine sat_true (by kernel_rfl) ?_
          refine sat_idx (A := A_t) (c := c_t) (kk := .i64) (i) (by kernel_rfl) (by kernel_rfl) (by have := lt_of hlt; omega) F_t1.addr fun g6 o6 e6 => ?_
          obtain ⟨x1, h_x1⟩ : ∃ x_, t.at_[(i)]? = some x_ := ⟨_, List.getElem?_eq_getElem (by have := lt_of hlt; omega)⟩
          refine sat_el F_t1 e6 h_x1 rfl (by kernel_rfl) (by kernel_rfl) (by kernel_rfl) ?_
          rintro _ ⟨A_L2, n_L2, c_L2, rfl, r_L2⟩
          refine sat_chkB (by kernel_rfl) ?_
          refine sat_call #[.agg #[.bool x1.neg, .slice A_L2 n_L2 c_L2, .int .i64 x1.e]] (by kernel_rfl) fun w7 h7 => ?_
          refine (mayD_any _ (x1) _ (h7.rdD r_L2)).mono ?_
          rintro e v7 ⟨rfl, hb7⟩
          refine ⟨hb7, [.bool (mayD x1)], _, rfl, by kernel_rfl, by kernel_rfl, fun g7 => ?_⟩
          replace F_t1 := F_t1.mv g7.mv; replace F_t2 := F_t2.mv g7.mv; replace r_L2 := g7.rdD r_L2
          clear h7 hb7
          refine sat_prim (v := .bool (!(mayD x1))) (by kernel_rfl) ?_
          cases hd : (mayD x1)
          · refine sat_true (by kernel_rfl) ?_
            exact sat_ret (.bool false) (by kernel_rfl) fun w9 h9 => congrArg Value.bool (all_no hm (lt_of hlt) (step_no1 h_x1 hd))
          · refine sat_false (by kernel_rfl) ?_
            refine sat_prim (v := .bool (decide ((0 : Int) < ((i : Nat) : Int)))) (by kernel_rfl) ?_
            cases h0 : (decide ((0 : Int) < ((i : Nat) : Int)))
            · refine sat_false (by kernel_rfl) ?_
              refine sat_prim (v := .int .i64 (((i + 1 : Nat)) : Int)) (Eq.trans (b := some (.int .i64 (IntKind.i64.wrap ((((i) : Nat) : Int) + 1)))) (by kernel_rfl) (by rw [Sx.wrap_succ (n := t.at_.length) (lt_of hlt) M_t1])) ?_
              exact sat_back [.int .i64 (((i + 1 : Nat)) : Int), .bool false] (by kernel_rfl) fun w9 h9 => ⟨_, by have := lt_of hlt; omega, i + 1, rfl, rfl, by have := lt_of hlt; omega, all_step hm (lt_of hlt) (step_first h_x1 hd h0)⟩
            · refine sat_true (by kernel_rfl) ?_
              obtain ⟨j, hj⟩ : ∃ j, j + 1 = i := ⟨i - 1, by have := of_decide_eq_true h0; omega⟩
              refine sat_prim (v := .int .i64 ((j : Nat) : Int)) (Eq.trans (b := some (.int .i64 (IntKind.i64.wrap (((i : Nat) : Int) - 1)))) (by kernel_rfl) (sml (by omega) (by have := lt_of hlt; simp only [maxLen] at M_t1; omega))) ?_
              refine sat_idx (A := A_t) (c := c_t) (kk := .i64) (j) (by kernel_rfl) (by kernel_rfl) (by have := lt_of hlt; omega) F_t1.addr fun g10 o10 e10 => ?_
              obtain ⟨x3, h_x3⟩ : ∃ x_, t.at_[(j)]? = some x_ := ⟨_, List.getElem?_eq_getElem (by have := lt_of hlt; omega)⟩
              refine sat_el F_t1 e10 h_x3 rfl (by kernel_rfl) (by kernel_rfl) (by kernel_rfl) ?_
              rintro _ ⟨A_L4, n_L4, c_L4, rfl, r_L4⟩
              refine sat_call #[.agg #[.bool x3.neg, .slice A_L4 n_L4 c_L4, .int .i64 x3.e], .agg #[.bool x1.neg, .slice A_L2 n_L2 c_L2, .int .i64 x1.e]] (by kernel_rfl) fun w11 h11 => ?_
              refine (cmpD_any _ _ (x3) (x1) _ (h11.rdD r_L4) (h11.rdD r_L2)).mono ?_
              rintro e v11 ⟨rfl, hb11⟩
              refine ⟨hb11, [.int .i64 (cmpD x3 x1)], _, rfl, by kernel_rfl, by kernel_rfl, fun g11 => ?_⟩
              replace F_t1 := F_t1.mv g11.mv; replace F_t2 := F_t2.mv g11.mv; replace r_L2 := g11.rdD r_L2; replace r_L4 := g11.rdD r_L4
              clear h11 hb11
              refine sat_prim (v := .bool (decide ((0 : Int) ≤ (cmpD x3 x1)))) (by kernel_rfl) ?_
              cases hc : (decide ((0 : Int) ≤ (cmpD x3 x1)))
              · refine sat_false (by kernel_rfl) ?_
                refine sat_prim (v := .int .i64 (((i + 1 : Nat)) : Int)) (Eq.trans (b := some (.int .i64 (IntKind.i64.wrap ((((i) : Nat) : Int) + 1)))) (by kernel_rfl) (by rw [Sx.wrap_succ (n := t.at_.length) (lt_of hlt) M_t1])) ?_
                exact sat_back [.int .i64 (((i + 1 : Nat)) : Int), .bool false] (by kernel_rfl) fun w9 h9 => ⟨_, by have := lt_of hlt; omega, i + 1, rfl, rfl, by have := lt_of hlt; omega, all_step hm (lt_of hlt) (step_next h_x1 h_x3 hj hd hc)⟩
              · refine sat_true (by kernel_rfl) ?_
                exact sat_ret (.bool false) (by kernel_rfl) fun w9 h9 => congrArg Value.bool (all_no hm (lt_of hlt) (step_next h_x1 h_x3 hj hd hc))
      · refine sat_true (by kernel_rfl) ?_
        exact sat_ret (.bool false) (by kernel_rfl) fun w9 h9 => congrArg Value.bool (may_c3 h3)
    · refine sat_true (by kernel_rfl) ?_
      exact sat_ret (.bool false) (by kernel_rfl) fun w9 h9 => congrArg Value.bool (may_c2 h2)
  · refine sat_true (by kernel_rfl) ?_
    exact sat_ret (.bool false) (by kernel_rfl) fun w9 h9 => congrArg Value.bool (may_c1 h1)

end Go.Proofs.Ytpkfjfpknbhekaa
namespace Go.Proofs.Ytpkfjfpknbhekaa
open Go.RowKit Pl
open Sx (sat_call sat_chk sat_prim sat_ite sat_true sat_false sat_trueP sat_falseP sat_ret sat_row sat_callP sat_loop sat_back sat_idx sat_el sat_elf sat_elc sat_load sat_rowN sat_app sat_callB sat_alt rows_one rows_two all_nil all_cons okB okS okI)

section
variable {f : Iv → Iv → Bool} {a b : Tb} {m i k : Nat} {r : Bool} {x y : Iv} {p q : Dy}
end

def tr_tsame : Sx.Tree := .chk [.lf 0, .lf 1] (.chk [.lf 2, .lf 3] (.call 85 [.one (.lf 0), .one (.lf 2), .one (.fn 71)] .one (.ite (.lf 4) (.call 65 [.one (.lf 1), .one (.lf 3), .one (.fn 66)] .one (.ret (.one (.lf 5)))) (.ret (.one (.bit false))))))
theorem tr_tsame_eq : Sx.treeAt Try.prog 70 [] [] [(true, 2), (true, 2)] = some tr_tsame := by kernel_rfl

theorem sameT_any (A_a : Option Addr) (c_a : Nat) (B_a : Option Addr) (d_a : Nat) (A_b : Option Addr) (c_b : Nat) (B_b : Option Addr) (d_b : Nat) (a : Tb) (b : Tb) (w : World) (h_a1 : Sx.Rows Sx.kD (fun _ => True) w A_a a.at_.length c_a a.at_) (h_a2 : Sx.Rows Sx.kI (fun _ => True) w B_a a.v.length d_a a.v) (h_b1 : Sx.Rows Sx.kD (fun _ => True) w A_b b.at_.length c_b b.at_) (h_b2 : Sx.Rows Sx.kI (fun _ => True) w B_b b.v.length d_b b.v) :
    Calls Try.prog 70 #[.agg #[.slice A_a a.at_.length c_a, .slice B_a a.v.length d_a], .agg #[.slice A_b b.at_.length c_b, .slice B_b b.v.length d_b]] w fun e w' => e = .returned (.bool (sameT a b)) ∧ Below w.heap.size w w' := by
  have F_a1 := h_a1.start
  have M_a1 := h_a1.le
  clear h_a1
  have F_a2 := h_a2.start
  have M_a2 := h_a2.le
  clear h_a2
  have F_b1 := h_b1.start
  have M_b1 := h_b1.le
  clear h_b1
  have F_b2 := h_b2.start
  have M_b2 := h_b2.le
  clear h_b2
  refine (Sx.runA [] [] (ls := [.slice A_a a.at_.length c_a, .slice B_a a.v.length d_a, .slice A_b b.at_.length c_b, .slice B_b b.v.length d_b]) (shs := [(true, 2), (true, 2)]) (R := fun v _ => v = .bool (sameT a b)) tr_tsame_eq rfl (by decide) (fun q h => by cases h) ?_).mono (fun e w' ⟨v, he, hv, hb⟩ => ⟨by rw [he, hv], hb⟩)
  unfold tr_tsame
  refine sat_chkB (by kernel_rfl) ?_
  refine sat_chkB (by kernel_rfl) ?_
  refine sat_call #[.slice A_a a.at_.length c_a, .slice A_b b.at_.length c_b, .func (.func 71) #[] #[]] (by kernel_rfl) fun w1 h1 => ?_
  refine (eqf_sameD _ _ _ _ a.at_ b.at_ _ ((F_a1.mv h1.mv).any) ((F_b1.mv h1.mv).any)).mono ?_
  rintro e v1 ⟨rfl, hb1⟩
  refine ⟨hb1, [.bool ((((a.at_.length : Nat) : Int)) == (((b.at_.length : Nat) : Int)) && all2 sameD a.at_ b.at_)], _, rfl, by kernel_rfl, by kernel_rfl, fun g1 => ?_⟩
  replace F_a1 := F_a1.mv g1.mv; replace F_a2 := F_a2.mv g1.mv; replace F_b1 := F_b1.mv g1.mv; replace F_b2 := F_b2.mv g1.mv
  clear h1 hb1
  cases hE : ((((a.at_.length : Nat) : Int)) == (((b.at_.length : Nat) : Int)) && all2 sameD a.at_ b.at_)
  · refine sat_false (by kernel_rfl) ?_
    exact sat_ret (.bool false) (by kernel_rfl) fun w9 h9 => congrArg Value.bool (by unfold sameT sameB; rw [hE]; rfl)
  · refine sat_true (by kernel_rfl) ?_
    refine sat_call #[.slice B_a a.v.length d_a, .slice B_b b.v.length d_b, .func (.func 66) #[] #[]] (by kernel_rfl) fun w3 h3 => ?_
    refine (eqf_sameI _ _ _ _ a.v b.v _ ((F_a2.mv h3.mv).any) ((F_b2.mv h3.mv).any)).mono ?_
    rintro e v3 ⟨rfl, hb3⟩
    refine ⟨hb3, [.bool ((((a.v.length : Nat) : Int)) == (((b.v.length : Nat) : Int)) && all2 sameI a.v b.v)], _, rfl, by kernel_rfl, by kernel_rfl, fun g3 => ?_⟩
    replace F_a1 := F_a1.mv g3.mv; replace F_a2 := F_a2.mv g3.mv; replace F_b1 := F_b1.mv g3.mv; replace F_b2 := F_b2.mv g3.mv
    clear h3 hb3
    exact sat_ret (.bool ((((a.v.length : Nat) : Int)) == (((b.v.length : Nat) : Int)) && all2 sameI a.v b.v)) (by kernel_rfl) fun w9 h9 => congrArg Value.bool (by unfold sameT sameB; rw [hE]; rfl)

end Go.Proofs.Ytpkfjfpknbhekaa
namespace Go.Proofs.Ytpkfjfpknbhekaa
open Go.RowKit Pl
open Sx (sat_call sat_chk sat_prim sat_ite sat_true sat_false sat_trueP sat_falseP sat_ret sat_row sat_callP sat_loop sat_back sat_idx sat_el sat_elf sat_elc sat_load sat_rowN sat_app sat_callB sat_alt rows_one rows_two all_nil all_cons okB okS okI)

theorem cut_one {α : Type} {k : Sx.Kind α} {ok : Nat → Prop} {w : World} {A : Option Addr} {c i : Nat} {l : List α} {x : α} (h : Sx.Rows k ok w A l.length c l) (hx : l[i]? = some x) : ∃ B, Sx.cutV k.sz A c (i : Int) ((i + 1 : Nat) : Int) = some (.slice B 1 (c - i)) ∧ Sx.Rows k ok w B 1 (c - i) [x] := by
  obtain ⟨hi, he⟩ := List.getElem?_eq_some_iff.1 hx
  obtain ⟨B, h1, h2⟩ := h.cut (Nat.le_succ i) hi
  rw [show i + 1 - i = 1 by omega] at h1 h2
  have h3 : (l.take (i + 1)).drop i = [x] := by
    rw [List.take_succ_eq_append_getElem hi, he, List.drop_append_of_le_length (by rw [List.length_take]; omega), List.drop_of_length_le (by rw [List.length_take]; omega)]
    rfl
  rw [h3] at h2
  exact ⟨B, h1, h2⟩
theorem fewB_one (x : Iv) : fewB [x] = few6 x := by unfold fewB; simp
theorem fewT_1 {t : Tb} (h : decide ((12 : Int) < ((t.v.length : Nat) : Int)) = true) : false = fewT t := by unfold fewT; rw [h]; rfl
theorem fewT_2 {t : Tb} (h : decide ((14 : Int) < ((t.at_.length : Nat) : Int)) = true) : false = fewT t := by unfold fewT; rw [h]; simp
theorem fewT_is {t : Tb} (h : decide ((12 : Int) < ((t.v.length : Nat) : Int)) = false) (k : decide ((14 : Int) < ((t.at_.length : Nat) : Int)) = false) : fewT t = (t.at_.all fewD6 && t.v.all few6) := by unfold fewT; rw [h, k]; rfl
theorem fewD_cons {l : List Dy} {i : Nat} {x : Dy} (h : l[i]? = some x) : (l.drop i).all fewD6 = (fewD6 x && (l.drop (i + 1)).all fewD6) := by rw [drop_cons h]; rfl
theorem fewT_at {t : Tb} {i : Nat} {x : Dy} {r b c : Bool} (hm : r = ((t.at_.drop i).all fewD6 && b)) (hx : t.at_[i]? = some x) (h : decide ((6 : Int) < ((x.m.length : Nat) : Int)) = c) : r = (!c && ((t.at_.drop (i + 1)).all fewD6 && b)) := by
  rw [hm, fewD_cons hx, ← h, Bool.and_assoc]
  unfold fewD6
  by_cases h6 : x.m.length ≤ 6
  · rw [decide_eq_true h6, decide_eq_false (by omega)]; rfl
  · rw [decide_eq_false h6, decide_eq_true (by omega)]; rfl
structure FewT (t : Tb) : Prop where
  v : t.v.length ≤ 12
  at_ : t.at_.length ≤ 14
theorem FewT.of {t : Tb} (h : fewT t = true) : FewT t := by
  unfold fewT at h
  simp only [Bool.and_eq_true] at h
  have h1 : decide ((12 : Int) < ((t.v.length : Nat) : Int)) = false := by simpa using h.1
  have h2 : decide ((14 : Int) < ((t.at_.length : Nat) : Int)) = false := by simpa using h.2.1
  have h1 := of_decide_eq_false h1
  have h2 := of_decide_eq_false h2
  exact ⟨by omega, by omega⟩

def tr_few13 : Sx.Tree := .chk [.lf 0, .lf 1] (.prim .len [.lf 1] (.prim (.bin .gtr) [.lf 2, .num .i64 12] (.ite (.lf 3) (.ret (.one (.bit false))) (.prim .len [.lf 0] (.prim (.bin .gtr) [.lf 4, .num .i64 14] (.ite (.lf 5) (.ret (.one (.bit false))) (.loop 0 [.num .i64 0, .bit false] (.prim .len [.lf 0] (.prim (.bin .lss) [.lf 6, .lf 8] (.ite (.lf 9) (.prim (.idx 3) [.lf 0, .lf 6] (.prim (.fld 1) [.lf 10] (.load 22 (.lf 11) .one (.prim .len [.lf 12] (.prim (.bin .gtr) [.lf 13, .num .i64 6] (.ite (.lf 14) (.ret (.one (.bit false))) (.prim (.bin .add) [.lf 6, .num .i64 1] (.back 0 [.lf 15, .lf 7])))))))) (.loop 0 [.num .i64 0, .lf 7] (.prim .len [.lf 1] (.prim (.bin .lss) [.lf 10, .lf 12] (.ite (.lf 13) (.prim (.bin .add) [.lf 10, .num .i64 1] (.prim (.slc 6 true true) [.lf 1, .lf 10, .lf 14] (.call 17 [.one (.lf 15)] .one (.prim .not [.lf 16] (.ite (.lf 17) (.ret (.one (.bit false))) (.prim (.bin .add) [.lf 10, .num .i64 1] (.back 0 [.lf 18, .lf 11]))))))) (.ret (.one (.bit true)))))))))))))))))
theorem tr_few13_eq : Sx.treeAt Try.prog 18 [] [] [(true, 2)] = some tr_few13 := by kernel_rfl

theorem fewT_any (A_t : Option Addr) (c_t : Nat) (B_t : Option Addr) (d_t : Nat) (t : Tb) (w : World) (h_t1 : Sx.Rows Sx.kD (fun _ => True) w A_t t.at_.length c_t t.at_) (h_t2 : Sx.Rows Sx.kI (fun _ => True) w B_t t.v.length d_t t.v) :
    Calls Try.prog 18 #[.agg #[.slice A_t t.at_.length c_t, .slice B_t t.v.length d_t]] w fun e w' => e = .returned (.bool (fewT t)) ∧ Below w.heap.size w w' := by
  have F_t1 := h_t1.start
  have M_t1 := h_t1.le
  clear h_t1
  have F_t2 := h_t2.start
  have M_t2 := h_t2.le
  clear h_t2
  refine (Sx.runA [] [] (ls := [.slice A_t t.at_.length c_t, .slice B_t t.v.length d_t]) (shs := [(true, 2)]) (R := fun v _ => v = .bool (fewT t)) tr_few13_eq rfl (by decide) (fun q h => by cases h) ?_).mono (fun e w' ⟨v, he, hv, hb⟩ => ⟨by rw [he, hv], hb⟩)
  unfold tr_few13
  refine sat_chkB (by kernel_rfl) ?_
  refine sat_prim (v := .int .i64 ((t.v.length : Nat) : Int)) (by kernel_rfl) ?_
  refine sat_prim (v := .bool (decide ((12 : Int) < ((t.v.length : Nat) : Int)))) (by kernel_rfl) ?_
  cases h12 : (decide ((12 : Int) < ((t.v.length : Nat) : Int)))
  · refine sat_false (by kernel_rfl) ?_
    refine sat_prim (v := .int .i64 ((t.at_.length : Nat) : Int)) (by kernel_rfl) ?_
    refine sat_prim (v := .bool (decide ((14 : Int) < ((t.at_.length : Nat) : Int)))) (by kernel_rfl) ?_
    cases h14 : (decide ((14 : Int) < ((t.at_.length : Nat) : Int)))
    · refine sat_false (by kernel_rfl) ?_
      refine sat_loop (fun Kn vs W => ∃ (i : Nat), vs = [.int .i64 ((i : Nat) : Int), .bool false] ∧ Kn = t.at_.length - i ∧ i ≤ t.at_.length ∧ (fewT t = ((t.at_.drop i).all fewD6 && t.v.all few6))) [.int .i64 0, .bool false] (by kernel_rfl) (fun w1 h1 => ⟨_, 0, rfl, rfl, Nat.zero_le _, fewT_is h12 h14⟩) ?_
      rintro Kn vs w3 h3 ⟨i, rfl, rfl, h_i, hm⟩
      replace F_t1 := F_t1.mv h3.mv; replace F_t2 := F_t2.mv h3.mv
      clear h3
      refine sat_prim (v := .int .i64 ((t.at_.length : Nat) : Int)) (by kernel_rfl) ?_
      refine sat_prim (v := .bool (decide ((((i : Nat) : Int) : Int) < ((t.at_.length : Nat) : Int)))) (by kernel_rfl) ?_
      cases hlt : (decide ((((i : Nat) : Int) : Int) < ((t.at_.length : Nat) : Int)))
      · refine sat_false (by kernel_rfl) ?_
        have hm2 : fewT t = t.v.all few6 := by rw [hm, drop_end hlt]; rfl
        refine sat_loop (fun Kn vs W => ∃ (j : Nat), vs = [.int .i64 ((j : Nat) : Int), .bool false] ∧ Kn = t.v.length - j ∧ j ≤ t.v.length ∧ (fewT t = (t.v.drop j).all few6)) [.int .i64 0, .bool false] (by kernel_rfl) (fun w1 h1 => ⟨_, 0, rfl, rfl, Nat.zero_le _, hm2⟩) ?_
        rintro Kn vs w5 h5 ⟨j, rfl, rfl, h_j, hn⟩
        replace F_t1 := F_t1.mv h5.mv; replace F_t2 := F_t2.mv h5.mv
        clear h5
        refine sat_prim (v := .int .i64 ((t.v.length : Nat) : Int)) (by kernel_rfl) ?_
        refine sat_prim (v := .bool (decide ((((j : Nat) : Int) : Int) < ((t.v.length : Nat) : Int)))) (by kernel_rfl) ?_
        cases hlt2 : (decide ((((j : Nat) : Int) : Int) < ((t.v.length : Nat) : Int)))
        · refine sat_false (by kernel_rfl) ?_
          exact sat_ret (.bool true) (by kernel_rfl) fun w9 h9 => congrArg Value.bool (by rw [hn, drop_end hlt2]; rfl)
        · refine sat_true (by kernel_rfl) ?_
          refine sat_prim (v := .int .i64 (((j + 1 : Nat)) : Int)) (Eq.trans (b := some (.int .i64 (IntKind.i64.wrap ((((j) : Nat) : Int) + 1)))) (by kernel_rfl) (by rw [Sx.wrap_succ (n := t.v.length) (lt_of hlt2) M_t2])) ?_
          obtain ⟨x2, h_x2⟩ : ∃ x_, t.v[(j)]? = some x_ := ⟨_, List.getElem?_eq_getElem (lt_of hlt2)⟩
          obtain ⟨C_D1, e_D1, F_D1⟩ := cut_one F_t2 h_x2
          refine sat_prim (v := .slice C_D1 1 (d_t - j)) (Eq.trans (by kernel_rfl) e_D1) ?_
          refine sat_call #[.slice C_D1 1 (d_t - j)] (by kernel_rfl) fun w7 h7 => ?_
          refine (row8_any _ _ [x2] _ ((F_D1.mv h7.mv).any)).mono ?_
          rintro e v7 ⟨rfl, hb7⟩
          refine ⟨hb7, [.bool (fewB [x2])], _, rfl, by kernel_rfl, by kernel_rfl, fun g7 => ?_⟩
          replace F_t1 := F_t1.mv g7.mv; replace F_t2 := F_t2.mv g7.mv; replace F_D1 := F_D1.mv g7.mv
          clear h7 hb7
          refine sat_prim (v := .bool (!(fewB [x2]))) (by kernel_rfl) ?_
          cases hB : (fewB [x2])
          · refine sat_true (by kernel_rfl) ?_
            exact sat_ret (.bool false) (by kernel_rfl) fun w9 h9 => congrArg Value.bool (by rw [hn, few6_cons h_x2, ← fewB_one, hB]; rfl)
          · refine sat_false (by kernel_rfl) ?_
            refine sat_prim (v := .int .i64 (((j + 1 : Nat)) : Int)) (Eq.trans (b := some (.int .i64 (IntKind.i64.wrap ((((j) : Nat) : Int) + 1)))) (by kernel_rfl) (by rw [Sx.wrap_succ (n := t.v.length) (lt_of hlt2) M_t2])) ?_
            exact sat_back [.int .i64 (((j + 1 : Nat)) : Int), .bool false] (by kernel_rfl) fun w9 h9 => ⟨_, by have := lt_of hlt2; omega, j + 1, rfl, rfl, by have := lt_of hlt2; omega, by rw [hn, few6_cons h_x2, ← fewB_one, hB]; rfl⟩
      · refine sat_true (by kernel_rfl) ?_
        refine sat_idx (A := A_t) (c := c_t) (kk := .i64) (i) (by kernel_rfl) (by kernel_rfl) (lt_of hlt) F_t1.addr fun g5 o5 e5 => ?_
        refine sat_prim (v := .pointer (some ⟨g5, o5 + (i) * 3 + 1, none⟩)) (by kernel_rfl) ?_
        obtain ⟨x1, h_x1⟩ : ∃ x_, t.at_[(i)]? = some x_ := ⟨_, List.getElem?_eq_getElem (lt_of hlt)⟩
        refine sat_elc (d := 1) F_t1 e5 h_x1 rfl (by kernel_rfl) (by kernel_rfl) ?_
        rintro _ ⟨A_L2, n_L2, c_L2, rfl, r_L2l⟩
        obtain rfl := r_L2l.few
        refine ⟨_, rfl, ?_⟩
        clear r_L2l
        refine sat_prim (v := .int .i64 ((x1.m.length : Nat) : Int)) (by kernel_rfl) ?_
        refine sat_prim (v := .bool (decide ((6 : Int) < ((x1.m.length : Nat) : Int)))) (by kernel_rfl) ?_
        cases h6 : (decide ((6 : Int) < ((x1.m.length : Nat) : Int)))
        · refine sat_false (by kernel_rfl) ?_
          refine sat_prim (v := .int .i64 (((i + 1 : Nat)) : Int)) (Eq.trans (b := some (.int .i64 (IntKind.i64.wrap ((((i) : Nat) : Int) + 1)))) (by kernel_rfl) (by rw [Sx.wrap_succ (n := t.at_.length) (lt_of hlt) M_t1])) ?_
          exact sat_back [.int .i64 (((i + 1 : Nat)) : Int), .bool false] (by kernel_rfl) fun w9 h9 => ⟨_, by have := lt_of hlt; omega, i + 1, rfl, rfl, by have := lt_of hlt; omega, fewT_at hm h_x1 h6⟩
        · refine sat_true (by kernel_rfl) ?_
          exact sat_ret (.bool false) (by kernel_rfl) fun w9 h9 => congrArg Value.bool (fewT_at hm h_x1 h6).symm
    · refine sat_true (by kernel_rfl) ?_
      exact sat_ret (.bool false) (by kernel_rfl) fun w9 h9 => congrArg Value.bool (fewT_2 h14)
  · refine sat_true (by kernel_rfl) ?_
    exact sat_ret (.bool false) (by kernel_rfl) fun w9 h9 => congrArg Value.bool (fewT_1 h12)

end Go.Proofs.Ytpkfjfpknbhekaa
