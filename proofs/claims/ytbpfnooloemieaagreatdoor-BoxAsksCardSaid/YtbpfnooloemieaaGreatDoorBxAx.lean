/- Package box, by its trees. Printed by wip/mk_BxA.py. -/
import Derived.Test.YtbpfnooloemieaaGreatDoorBxPx
import Derived.Test.YtbpfnooloemieaaGreatDoorSeqIx
import Derived.Test.YtbpfnooloemieaaGreatDoorRnDx
import Derived.Test.YtbpfnooloemieaaGreatDoorCntx
namespace Go.Proofs.YtbpfnooloemieaaGreatDoor
open Go.RowKit Pl
open Sx (sat_call sat_chk sat_prim sat_ite sat_true sat_false sat_trueP sat_falseP sat_ret sat_row sat_callP sat_loop sat_back sat_idx sat_el sat_elf sat_elc sat_load sat_rowN sat_app rows_one rows_two all_nil all_cons okB okS okI)

/-- Where the first stands that may not be. -/
def IdxB (l : List Iv) (k : Int) : Prop := decide ((0 : Int) ≤ k) = !(mayB l)
theorem idx_yes {l : List Iv} {i : Nat} {x : Iv} (hm : mayB l = mayB (l.drop i)) (hx : l[i]? = some x) (h : mayI x = false) : IdxB l ((i : Nat) : Int) := by
  unfold IdxB
  rw [hm, mayB_cons hx, h, decide_eq_true (by omega)]
  rfl
theorem idx_no {l : List Iv} {i : Nat} (hm : mayB l = mayB (l.drop i)) (hlt : decide ((i : Int) < (l.length : Int)) = false) : IdxB l (-1) := by
  unfold IdxB
  rw [hm, drop_end hlt]
  rfl
theorem eqf_len {a b : Int} {r : Bool} (h : (a != b) = true) : false = (a == b && r) := by
  have : (a == b) = false := by simpa using h
  rw [this]; rfl
theorem eqf_len' {a b : Nat} (h : (((a : Nat) : Int) != ((b : Nat) : Int)) = false) : a = b := by
  have : ((a : Nat) : Int) = b := by simpa using h
  omega
theorem eqf_no {α β : Type} {f : α → β → Bool} {a : List α} {b : List β} {i : Nat} {x : α} {y : β} {r : Bool} (hm : all2 f a b = all2 f (a.drop i) (b.drop i)) (hx : a[i]? = some x) (hy : b[i]? = some y) (h : f x y = false) : false = (r && all2 f a b) := by
  rw [hm, all2_cons hx hy, h, Bool.false_and, Bool.and_false]
theorem eqf_step {α β : Type} {f : α → β → Bool} {a : List α} {b : List β} {i : Nat} {x : α} {y : β} (hm : all2 f a b = all2 f (a.drop i) (b.drop i)) (hx : a[i]? = some x) (hy : b[i]? = some y) (h : f x y = true) : all2 f a b = all2 f (a.drop (i + 1)) (b.drop (i + 1)) := by
  rw [hm, all2_cons hx hy, h, Bool.true_and]
theorem eqf_yes {α β : Type} {f : α → β → Bool} {a : List α} {b : List β} {i : Nat} (hm : all2 f a b = all2 f (a.drop i) (b.drop i)) (hlt : decide ((i : Int) < (a.length : Int)) = false) (hl : a.length = b.length) : true = (((a.length : Nat) : Int) == ((b.length : Nat) : Int) && all2 f a b) := by
  rw [hm, drop_end hlt, all2_nil, hl]
  simp

def tr_bmay1 : Sx.Tree := .chk [.lf 0, .lf 1, .lf 2, .lf 3, .lf 4, .lf 5] (.call 52 [.ag [.lf 0, .lf 1, .lf 2, .lf 3, .lf 4, .lf 5]] .one (.prim .not [.lf 6] (.ret (.one (.lf 7)))))
theorem tr_bmay1_eq : Sx.treeAt Tryz.prog 51 [] [] [(true, 6)] = some tr_bmay1 := by kernel_rfl

theorem may1_any (v_a : Value) (a : Iv) (w : World) (h_a : RdI w v_a a) :
    Calls Tryz.prog 51 #[v_a] w fun e w' => e = .returned (.bool (!(mayI a))) ∧ Below w.heap.size w w' := by
  obtain ⟨A_a, n_a, c_a, B_a, m_a, k_a, rfl, r_al, r_ah⟩ := h_a
  refine (Sx.runA [] [] (ls := [.bool a.lo.neg, .slice A_a n_a c_a, .int .i64 a.lo.e, .bool a.hi.neg, .slice B_a m_a k_a, .int .i64 a.hi.e]) (shs := [(true, 6)]) (R := fun v _ => v = .bool (!(mayI a))) tr_bmay1_eq rfl (by decide) (fun q h => by cases h) ?_).mono (fun e w' ⟨v, he, hv, hb⟩ => ⟨by rw [he, hv], hb⟩)
  unfold tr_bmay1
  refine sat_chkB (by kernel_rfl) ?_
  refine sat_call #[.agg #[.bool a.lo.neg, .slice A_a n_a c_a, .int .i64 a.lo.e, .bool a.hi.neg, .slice B_a m_a k_a, .int .i64 a.hi.e]] (by kernel_rfl) fun w1 h1 => ?_
  refine (mayI_any _ a _ (mkI (h1.rdD r_al) (h1.rdD r_ah))).mono ?_
  rintro e v1 ⟨rfl, hb1⟩
  refine ⟨hb1, [.bool (mayI a)], _, rfl, by kernel_rfl, by kernel_rfl, fun g1 => ?_⟩
  replace r_al := g1.rdD r_al; replace r_ah := g1.rdD r_ah
  clear h1 hb1
  refine sat_prim (v := .bool (!(mayI a))) (by kernel_rfl) ?_
  exact sat_ret (.bool (!(mayI a))) (by kernel_rfl) fun w9 h9 => rfl

def tr_bidx : Sx.Tree := .prim .len [.lf 0] (.loop 0 [.num .i64 0, .num .i64 0] (.prim (.bin .lss) [.lf 3, .lf 2] (.ite (.lf 5) (.prim (.idx 6) [.lf 0, .lf 3] (.load 49 (.lf 6) (.ag 6) (.call 51 [.ag [.lf 7, .lf 8, .lf 9, .lf 10, .lf 11, .lf 12]] .one (.ite (.lf 13) (.ret (.one (.lf 3))) (.prim (.bin .add) [.lf 3, .num .i64 1] (.back 0 [.lf 14, .lf 4])))))) (.ret (.one (.num .i64 ((-1))))))))
theorem tr_bidx_eq : Sx.treeAt Tryz.prog 88 [(1, 51)] [] [(false, 1), (false, 1)] = some tr_bidx := by kernel_rfl

theorem indexB_any (A_l : Option Addr) (c_l : Nat) (l : List Iv) (w : World) (h_l : Sx.Rows Sx.kI (fun _ => True) w A_l l.length c_l l) :
    Calls Tryz.prog 88 #[.slice A_l l.length c_l, .func (.func 51) #[] #[]] w fun e w' => (∃ k : Int, e = .returned (.int .i64 k) ∧ IdxB l k) ∧ Below w.heap.size w w' := by
  have F_l := h_l.start
  have M_l := h_l.le
  clear h_l
  refine (Sx.runA [(1, 51)] [] (ls := [.slice A_l l.length c_l, .func (.func 51) #[] #[]]) (shs := [(false, 1), (false, 1)]) (R := fun v _ => ∃ k : Int, v = .int .i64 k ∧ IdxB l k) tr_bidx_eq rfl (by decide) (by simp [Sx.tupV]) ?_).mono (fun e w' ⟨v, he, ⟨k, hv, hk⟩, hb⟩ => ⟨⟨k, by rw [he, hv], hk⟩, hb⟩)
  unfold tr_bidx
  refine sat_prim (v := .int .i64 ((l.length : Nat) : Int)) (by kernel_rfl) ?_
  refine sat_loop (fun Kn vs W => ∃ (i : Nat), vs = [.int .i64 ((i : Nat) : Int), .int .i64 0] ∧ Kn = l.length - i ∧ i ≤ l.length ∧ (mayB l = mayB (l.drop i))) [.int .i64 0, .int .i64 0] (by kernel_rfl) (fun w1 h1 => ⟨_, 0, rfl, rfl, Nat.zero_le _, rfl⟩) ?_
  rintro Kn vs w1 h1 ⟨i, rfl, rfl, h_i, hm⟩
  replace F_l := F_l.mv h1.mv
  clear h1
  refine sat_prim (v := .bool (decide ((((i : Nat) : Int) : Int) < ((l.length : Nat) : Int)))) (by kernel_rfl) ?_
  cases hlt : (decide ((((i : Nat) : Int) : Int) < ((l.length : Nat) : Int)))
  · refine sat_false (by kernel_rfl) ?_
    exact sat_ret (.int .i64 (-1)) (by kernel_rfl) fun w9 h9 => ⟨_, rfl, idx_no hm hlt⟩
  · refine sat_true (by kernel_rfl) ?_
    refine sat_idx (A := A_l) (c := c_l) (kk := .i64) (i) (by kernel_rfl) (by kernel_rfl) (lt_of hlt) F_l.addr fun g3 o3 e3 => ?_
    obtain ⟨x1, h_x1⟩ : ∃ x_, l[(i)]? = some x_ := ⟨_, List.getElem?_eq_getElem (lt_of hlt)⟩
    refine sat_el F_l e3 h_x1 rfl (by kernel_rfl) (by kernel_rfl) (by kernel_rfl) ?_
    rintro _ ⟨A_L2, n_L2, c_L2, B_L2, m_L2, k_L2, rfl, r_L2l, r_L2h⟩
    refine sat_call #[.agg #[.bool x1.lo.neg, .slice A_L2 n_L2 c_L2, .int .i64 x1.lo.e, .bool x1.hi.neg, .slice B_L2 m_L2 k_L2, .int .i64 x1.hi.e]] (by kernel_rfl) fun w4 h4 => ?_
    refine (may1_any _ x1 _ (mkI (h4.rdD r_L2l) (h4.rdD r_L2h))).mono ?_
    rintro e v4 ⟨rfl, hb4⟩
    refine ⟨hb4, [.bool (!(mayI x1))], _, rfl, by kernel_rfl, by kernel_rfl, fun g4 => ?_⟩
    replace F_l := F_l.mv g4.mv; replace r_L2l := g4.rdD r_L2l; replace r_L2h := g4.rdD r_L2h
    clear h4 hb4
    cases hm2 : (mayI x1)
    · refine sat_true (by kernel_rfl) ?_
      exact sat_ret (.int .i64 ((i : Nat) : Int)) (by kernel_rfl) fun w9 h9 => ⟨_, rfl, idx_yes hm h_x1 hm2⟩
    · refine sat_false (by kernel_rfl) ?_
      refine sat_prim (v := .int .i64 (((i + 1 : Nat)) : Int)) (Eq.trans (b := some (.int .i64 (IntKind.i64.wrap ((((i) : Nat) : Int) + 1)))) (by kernel_rfl) (by rw [Sx.wrap_succ (n := l.length) (lt_of hlt) M_l])) ?_
      exact sat_back [.int .i64 (((i + 1 : Nat)) : Int), .int .i64 0] (by kernel_rfl) fun w9 h9 => ⟨_, by have := lt_of hlt; omega, i + 1, rfl, rfl, by have := lt_of hlt; omega, by rw [hm, mayB_cons h_x1, hm2, Bool.true_and]⟩

def tr_bcont : Sx.Tree := .call 88 [.one (.lf 0), .one (.fn 51)] .one (.prim (.bin .geq) [.lf 2, .num .i64 0] (.ret (.one (.lf 3))))
theorem tr_bcont_eq : Sx.treeAt Tryz.prog 50 [(1, 51)] [] [(false, 1), (false, 1)] = some tr_bcont := by kernel_rfl

theorem contB_any (A_l : Option Addr) (c_l : Nat) (l : List Iv) (w : World) (h_l : Sx.Rows Sx.kI (fun _ => True) w A_l l.length c_l l) :
    Calls Tryz.prog 50 #[.slice A_l l.length c_l, .func (.func 51) #[] #[]] w fun e w' => e = .returned (.bool (!(mayB l))) ∧ Below w.heap.size w w' := by
  have F_l := h_l.start
  have M_l := h_l.le
  clear h_l
  refine (Sx.runA [(1, 51)] [] (ls := [.slice A_l l.length c_l, .func (.func 51) #[] #[]]) (shs := [(false, 1), (false, 1)]) (R := fun v _ => v = .bool (!(mayB l))) tr_bcont_eq rfl (by decide) (by simp [Sx.tupV]) ?_).mono (fun e w' ⟨v, he, hv, hb⟩ => ⟨by rw [he, hv], hb⟩)
  unfold tr_bcont
  refine sat_call #[.slice A_l l.length c_l, .func (.func 51) #[] #[]] (by kernel_rfl) fun w1 h1 => ?_
  refine (indexB_any _ _ l _ ((F_l.mv h1.mv).any)).mono ?_
  rintro e v1 ⟨⟨k1, rfl, h_k1⟩, hb1⟩
  refine ⟨hb1, [.int .i64 k1], _, rfl, by kernel_rfl, by kernel_rfl, fun g1 => ?_⟩
  replace F_l := F_l.mv g1.mv
  clear h1 hb1
  refine sat_prim (v := .bool (decide ((0 : Int) ≤ k1))) (by kernel_rfl) ?_
  exact sat_ret (.bool (decide ((0 : Int) ≤ k1))) (by kernel_rfl) fun w9 h9 => congrArg Value.bool h_k1

def tr_bmay : Sx.Tree := .call 50 [.one (.lf 0), .one (.fn 51)] .one (.prim .not [.lf 1] (.ret (.one (.lf 2))))
theorem tr_bmay_eq : Sx.treeAt Tryz.prog 16 [] [] [(false, 1)] = some tr_bmay := by kernel_rfl

theorem mayB_any (A_l : Option Addr) (c_l : Nat) (l : List Iv) (w : World) (h_l : Sx.Rows Sx.kI (fun _ => True) w A_l l.length c_l l) :
    Calls Tryz.prog 16 #[.slice A_l l.length c_l] w fun e w' => e = .returned (.bool (mayB l)) ∧ Below w.heap.size w w' := by
  have F_l := h_l.start
  have M_l := h_l.le
  clear h_l
  refine (Sx.runA [] [] (ls := [.slice A_l l.length c_l]) (shs := [(false, 1)]) (R := fun v _ => v = .bool (mayB l)) tr_bmay_eq rfl (by decide) (fun q h => by cases h) ?_).mono (fun e w' ⟨v, he, hv, hb⟩ => ⟨by rw [he, hv], hb⟩)
  unfold tr_bmay
  refine sat_call #[.slice A_l l.length c_l, .func (.func 51) #[] #[]] (by kernel_rfl) fun w1 h1 => ?_
  refine (contB_any _ _ l _ ((F_l.mv h1.mv).any)).mono ?_
  rintro e v1 ⟨rfl, hb1⟩
  refine ⟨hb1, [.bool (!(mayB l))], _, rfl, by kernel_rfl, by kernel_rfl, fun g1 => ?_⟩
  replace F_l := F_l.mv g1.mv
  clear h1 hb1
  refine sat_prim (v := .bool (!(!(mayB l)))) (by kernel_rfl) ?_
  exact sat_ret (.bool (!(!(mayB l)))) (by kernel_rfl) fun w9 h9 => congrArg Value.bool (Bool.not_not _)

def tr_btwo : Sx.Tree := .prim .len [.lf 0] (.prim .len [.lf 1] (.prim (.bin .eql) [.lf 2, .lf 3] (.ite (.lf 4) (.call 16 [.one (.lf 0)] .one (.ite (.lf 5) (.call 16 [.one (.lf 1)] .one (.ret (.one (.lf 6)))) (.ret (.one (.bit false))))) (.ret (.one (.bit false))))))
theorem tr_btwo_eq : Sx.treeAt Tryz.prog 55 [] [] [(false, 1), (false, 1)] = some tr_btwo := by kernel_rfl

theorem twoB_any (A_a : Option Addr) (c_a : Nat) (A_b : Option Addr) (c_b : Nat) (a : List Iv) (b : List Iv) (w : World) (h_a : Sx.Rows Sx.kI (fun _ => True) w A_a a.length c_a a) (h_b : Sx.Rows Sx.kI (fun _ => True) w A_b b.length c_b b) :
    Calls Tryz.prog 55 #[.slice A_a a.length c_a, .slice A_b b.length c_b] w fun e w' => e = .returned (.bool (twoB a b)) ∧ Below w.heap.size w w' := by
  have F_a := h_a.start
  have M_a := h_a.le
  clear h_a
  have F_b := h_b.start
  have M_b := h_b.le
  clear h_b
  refine (Sx.runA [] [] (ls := [.slice A_a a.length c_a, .slice A_b b.length c_b]) (shs := [(false, 1), (false, 1)]) (R := fun v _ => v = .bool (twoB a b)) tr_btwo_eq rfl (by decide) (fun q h => by cases h) ?_).mono (fun e w' ⟨v, he, hv, hb⟩ => ⟨by rw [he, hv], hb⟩)
  unfold tr_btwo
  refine sat_prim (v := .int .i64 ((a.length : Nat) : Int)) (by kernel_rfl) ?_
  refine sat_prim (v := .int .i64 ((b.length : Nat) : Int)) (by kernel_rfl) ?_
  refine sat_prim (v := .bool ((((a.length : Nat) : Int) : Int) == ((b.length : Nat) : Int))) (by kernel_rfl) ?_
  cases hE1 : ((((a.length : Nat) : Int) : Int) == ((b.length : Nat) : Int))
  · refine sat_false (by kernel_rfl) ?_
    exact sat_ret (.bool false) (by kernel_rfl) fun w9 h9 => congrArg Value.bool (by unfold twoB; rw [hE1]; rfl)
  · refine sat_true (by kernel_rfl) ?_
    refine sat_call #[.slice A_a a.length c_a] (by kernel_rfl) fun w2 h2 => ?_
    refine (mayB_any _ _ a _ ((F_a.mv h2.mv).any)).mono ?_
    rintro e v2 ⟨rfl, hb2⟩
    refine ⟨hb2, [.bool (mayB a)], _, rfl, by kernel_rfl, by kernel_rfl, fun g2 => ?_⟩
    replace F_a := F_a.mv g2.mv; replace F_b := F_b.mv g2.mv
    clear h2 hb2
    cases hE3 : (mayB a)
    · refine sat_false (by kernel_rfl) ?_
      exact sat_ret (.bool false) (by kernel_rfl) fun w9 h9 => congrArg Value.bool (by unfold twoB; rw [hE1, hE3]; rfl)
    · refine sat_true (by kernel_rfl) ?_
      refine sat_call #[.slice A_b b.length c_b] (by kernel_rfl) fun w4 h4 => ?_
      refine (mayB_any _ _ b _ ((F_b.mv h4.mv).any)).mono ?_
      rintro e v4 ⟨rfl, hb4⟩
      refine ⟨hb4, [.bool (mayB b)], _, rfl, by kernel_rfl, by kernel_rfl, fun g4 => ?_⟩
      replace F_a := F_a.mv g4.mv; replace F_b := F_b.mv g4.mv
      clear h4 hb4
      exact sat_ret (.bool (mayB b)) (by kernel_rfl) fun w9 h9 => congrArg Value.bool (by unfold twoB; rw [hE1, hE3]; rfl)

def tr_ewithin : Sx.Tree := .prim .len [.lf 0] (.prim .len [.lf 1] (.prim (.bin .neq) [.lf 3, .lf 4] (.ite (.lf 5) (.ret (.one (.bit false))) (.prim .len [.lf 0] (.loop 0 [.num .i64 0, .bit false] (.prim (.bin .lss) [.lf 7, .lf 6] (.ite (.lf 9) (.prim (.idx 6) [.lf 0, .lf 7] (.load 49 (.lf 10) (.ag 6) (.chk [.lf 11, .lf 12, .lf 13, .lf 14, .lf 15, .lf 16] (.prim (.idx 6) [.lf 1, .lf 7] (.load 49 (.lf 17) (.ag 6) (.chk [.lf 18, .lf 19, .lf 20, .lf 21, .lf 22, .lf 23] (.call 57 [.ag [.lf 11, .lf 12, .lf 13, .lf 14, .lf 15, .lf 16], .ag [.lf 18, .lf 19, .lf 20, .lf 21, .lf 22, .lf 23]] .one (.prim .not [.lf 24] (.ite (.lf 25) (.ret (.one (.bit false))) (.prim (.bin .add) [.lf 7, .num .i64 1] (.back 0 [.lf 26, .lf 8]))))))))))) (.ret (.one (.bit true))))))))))
theorem tr_ewithin_eq : Sx.treeAt Tryz.prog 56 [(2, 57)] [] [(false, 1), (false, 1), (false, 1)] = some tr_ewithin := by kernel_rfl

theorem eqf_within (A_a : Option Addr) (c_a : Nat) (A_b : Option Addr) (c_b : Nat) (a : List Iv) (b : List Iv) (w : World) (h_a : Sx.Rows Sx.kI (fun _ => True) w A_a a.length c_a a) (h_b : Sx.Rows Sx.kI (fun _ => True) w A_b b.length c_b b) :
    Calls Tryz.prog 56 #[.slice A_a a.length c_a, .slice A_b b.length c_b, .func (.func 57) #[] #[]] w fun e w' => e = .returned (.bool ((((a.length : Nat) : Int) == ((b.length : Nat) : Int)) && all2 withinI a b)) ∧ Below w.heap.size w w' := by
  have F_a := h_a.start
  have M_a := h_a.le
  clear h_a
  have F_b := h_b.start
  have M_b := h_b.le
  clear h_b
  refine (Sx.runA [(2, 57)] [] (ls := [.slice A_a a.length c_a, .slice A_b b.length c_b, .func (.func 57) #[] #[]]) (shs := [(false, 1), (false, 1), (false, 1)]) (R := fun v _ => v = .bool ((((a.length : Nat) : Int) == ((b.length : Nat) : Int)) && all2 withinI a b)) tr_ewithin_eq rfl (by decide) (by simp [Sx.tupV]) ?_).mono (fun e w' ⟨v, he, hv, hb⟩ => ⟨by rw [he, hv], hb⟩)
  unfold tr_ewithin
  refine sat_prim (v := .int .i64 ((a.length : Nat) : Int)) (by kernel_rfl) ?_
  refine sat_prim (v := .int .i64 ((b.length : Nat) : Int)) (by kernel_rfl) ?_
  refine sat_prim (v := .bool ((((a.length : Nat) : Int) : Int) != ((b.length : Nat) : Int))) (by kernel_rfl) ?_
  cases hne : ((((a.length : Nat) : Int) : Int) != ((b.length : Nat) : Int))
  · refine sat_false (by kernel_rfl) ?_
    refine sat_prim (v := .int .i64 ((a.length : Nat) : Int)) (by kernel_rfl) ?_
    have hl := eqf_len' hne
    refine sat_loop (fun Kn vs W => ∃ (i : Nat), vs = [.int .i64 ((i : Nat) : Int), .bool false] ∧ Kn = a.length - i ∧ i ≤ a.length ∧ (all2 withinI a b = all2 withinI (a.drop i) (b.drop i))) [.int .i64 0, .bool false] (by kernel_rfl) (fun w1 h1 => ⟨_, 0, rfl, rfl, Nat.zero_le _, rfl⟩) ?_
    rintro Kn vs w2 h2 ⟨i, rfl, rfl, h_i, hm⟩
    replace F_a := F_a.mv h2.mv; replace F_b := F_b.mv h2.mv
    clear h2
    refine sat_prim (v := .bool (decide ((((i : Nat) : Int) : Int) < ((a.length : Nat) : Int)))) (by kernel_rfl) ?_
    cases hlt : (decide ((((i : Nat) : Int) : Int) < ((a.length : Nat) : Int)))
    · refine sat_false (by kernel_rfl) ?_
      exact sat_ret (.bool true) (by kernel_rfl) fun w9 h9 => congrArg Value.bool (eqf_yes hm hlt hl)
    · refine sat_true (by kernel_rfl) ?_
      refine sat_idx (A := A_a) (c := c_a) (kk := .i64) (i) (by kernel_rfl) (by kernel_rfl) (lt_of hlt) F_a.addr fun g4 o4 e4 => ?_
      obtain ⟨x1, h_x1⟩ : ∃ x_, a[(i)]? = some x_ := ⟨_, List.getElem?_eq_getElem (lt_of hlt)⟩
      refine sat_el F_a e4 h_x1 rfl (by kernel_rfl) (by kernel_rfl) (by kernel_rfl) ?_
      rintro _ ⟨A_L2, n_L2, c_L2, B_L2, m_L2, k_L2, rfl, r_L2l, r_L2h⟩
      refine sat_chkB (by kernel_rfl) ?_
      refine sat_idx (A := A_b) (c := c_b) (kk := .i64) (i) (by kernel_rfl) (by kernel_rfl) (by have := lt_of hlt; omega) F_b.addr fun g5 o5 e5 => ?_
      obtain ⟨x3, h_x3⟩ : ∃ x_, b[(i)]? = some x_ := ⟨_, List.getElem?_eq_getElem (by have := lt_of hlt; omega)⟩
      refine sat_el F_b e5 h_x3 rfl (by kernel_rfl) (by kernel_rfl) (by kernel_rfl) ?_
      rintro _ ⟨A_L4, n_L4, c_L4, B_L4, m_L4, k_L4, rfl, r_L4l, r_L4h⟩
      refine sat_chkB (by kernel_rfl) ?_
      refine sat_call #[.agg #[.bool x1.lo.neg, .slice A_L2 n_L2 c_L2, .int .i64 x1.lo.e, .bool x1.hi.neg, .slice B_L2 m_L2 k_L2, .int .i64 x1.hi.e], .agg #[.bool x3.lo.neg, .slice A_L4 n_L4 c_L4, .int .i64 x3.lo.e, .bool x3.hi.neg, .slice B_L4 m_L4 k_L4, .int .i64 x3.hi.e]] (by kernel_rfl) fun w6 h6 => ?_
      refine (withinI_any _ _ x1 x3 _ (mkI (h6.rdD r_L2l) (h6.rdD r_L2h)) (mkI (h6.rdD r_L4l) (h6.rdD r_L4h))).mono ?_
      rintro e v6 ⟨rfl, hb6⟩
      refine ⟨hb6, [.bool (withinI x1 x3)], _, rfl, by kernel_rfl, by kernel_rfl, fun g6 => ?_⟩
      replace F_a := F_a.mv g6.mv; replace F_b := F_b.mv g6.mv; replace r_L2l := g6.rdD r_L2l; replace r_L2h := g6.rdD r_L2h; replace r_L4l := g6.rdD r_L4l; replace r_L4h := g6.rdD r_L4h
      clear h6 hb6
      refine sat_prim (v := .bool (!(withinI x1 x3))) (by kernel_rfl) ?_
      cases hf : (withinI x1 x3)
      · refine sat_true (by kernel_rfl) ?_
        exact sat_ret (.bool false) (by kernel_rfl) fun w9 h9 => congrArg Value.bool (eqf_no hm h_x1 h_x3 hf)
      · refine sat_false (by kernel_rfl) ?_
        refine sat_prim (v := .int .i64 (((i + 1 : Nat)) : Int)) (Eq.trans (b := some (.int .i64 (IntKind.i64.wrap ((((i) : Nat) : Int) + 1)))) (by kernel_rfl) (by rw [Sx.wrap_succ (n := a.length) (lt_of hlt) M_a])) ?_
        exact sat_back [.int .i64 (((i + 1 : Nat)) : Int), .bool false] (by kernel_rfl) fun w9 h9 => ⟨_, by have := lt_of hlt; omega, i + 1, rfl, rfl, by have := lt_of hlt; omega, eqf_step hm h_x1 h_x3 hf⟩
  · refine sat_true (by kernel_rfl) ?_
    exact sat_ret (.bool false) (by kernel_rfl) fun w9 h9 => congrArg Value.bool (eqf_len hne)

def tr_einside : Sx.Tree := .prim .len [.lf 0] (.prim .len [.lf 1] (.prim (.bin .neq) [.lf 3, .lf 4] (.ite (.lf 5) (.ret (.one (.bit false))) (.prim .len [.lf 0] (.loop 0 [.num .i64 0, .bit false] (.prim (.bin .lss) [.lf 7, .lf 6] (.ite (.lf 9) (.prim (.idx 6) [.lf 0, .lf 7] (.load 49 (.lf 10) (.ag 6) (.chk [.lf 11, .lf 12, .lf 13, .lf 14, .lf 15, .lf 16] (.prim (.idx 6) [.lf 1, .lf 7] (.load 49 (.lf 17) (.ag 6) (.chk [.lf 18, .lf 19, .lf 20, .lf 21, .lf 22, .lf 23] (.call 59 [.ag [.lf 11, .lf 12, .lf 13, .lf 14, .lf 15, .lf 16], .ag [.lf 18, .lf 19, .lf 20, .lf 21, .lf 22, .lf 23]] .one (.prim .not [.lf 24] (.ite (.lf 25) (.ret (.one (.bit false))) (.prim (.bin .add) [.lf 7, .num .i64 1] (.back 0 [.lf 26, .lf 8]))))))))))) (.ret (.one (.bit true))))))))))
theorem tr_einside_eq : Sx.treeAt Tryz.prog 56 [(2, 59)] [] [(false, 1), (false, 1), (false, 1)] = some tr_einside := by kernel_rfl

theorem eqf_inside (A_a : Option Addr) (c_a : Nat) (A_b : Option Addr) (c_b : Nat) (a : List Iv) (b : List Iv) (w : World) (h_a : Sx.Rows Sx.kI (fun _ => True) w A_a a.length c_a a) (h_b : Sx.Rows Sx.kI (fun _ => True) w A_b b.length c_b b) :
    Calls Tryz.prog 56 #[.slice A_a a.length c_a, .slice A_b b.length c_b, .func (.func 59) #[] #[]] w fun e w' => e = .returned (.bool ((((a.length : Nat) : Int) == ((b.length : Nat) : Int)) && all2 insideI a b)) ∧ Below w.heap.size w w' := by
  have F_a := h_a.start
  have M_a := h_a.le
  clear h_a
  have F_b := h_b.start
  have M_b := h_b.le
  clear h_b
  refine (Sx.runA [(2, 59)] [] (ls := [.slice A_a a.length c_a, .slice A_b b.length c_b, .func (.func 59) #[] #[]]) (shs := [(false, 1), (false, 1), (false, 1)]) (R := fun v _ => v = .bool ((((a.length : Nat) : Int) == ((b.length : Nat) : Int)) && all2 insideI a b)) tr_einside_eq rfl (by decide) (by simp [Sx.tupV]) ?_).mono (fun e w' ⟨v, he, hv, hb⟩ => ⟨by rw [he, hv], hb⟩)
  unfold tr_einside
  refine sat_prim (v := .int .i64 ((a.length : Nat) : Int)) (by kernel_rfl) ?_
  refine sat_prim (v := .int .i64 ((b.length : Nat) : Int)) (by kernel_rfl) ?_
  refine sat_prim (v := .bool ((((a.length : Nat) : Int) : Int) != ((b.length : Nat) : Int))) (by kernel_rfl) ?_
  cases hne : ((((a.length : Nat) : Int) : Int) != ((b.length : Nat) : Int))
  · refine sat_false (by kernel_rfl) ?_
    refine sat_prim (v := .int .i64 ((a.length : Nat) : Int)) (by kernel_rfl) ?_
    have hl := eqf_len' hne
    refine sat_loop (fun Kn vs W => ∃ (i : Nat), vs = [.int .i64 ((i : Nat) : Int), .bool false] ∧ Kn = a.length - i ∧ i ≤ a.length ∧ (all2 insideI a b = all2 insideI (a.drop i) (b.drop i))) [.int .i64 0, .bool false] (by kernel_rfl) (fun w1 h1 => ⟨_, 0, rfl, rfl, Nat.zero_le _, rfl⟩) ?_
    rintro Kn vs w2 h2 ⟨i, rfl, rfl, h_i, hm⟩
    replace F_a := F_a.mv h2.mv; replace F_b := F_b.mv h2.mv
    clear h2
    refine sat_prim (v := .bool (decide ((((i : Nat) : Int) : Int) < ((a.length : Nat) : Int)))) (by kernel_rfl) ?_
    cases hlt : (decide ((((i : Nat) : Int) : Int) < ((a.length : Nat) : Int)))
    · refine sat_false (by kernel_rfl) ?_
      exact sat_ret (.bool true) (by kernel_rfl) fun w9 h9 => congrArg Value.bool (eqf_yes hm hlt hl)
    · refine sat_true (by kernel_rfl) ?_
      refine sat_idx (A := A_a) (c := c_a) (kk := .i64) (i) (by kernel_rfl) (by kernel_rfl) (lt_of hlt) F_a.addr fun g4 o4 e4 => ?_
      obtain ⟨x1, h_x1⟩ : ∃ x_, a[(i)]? = some x_ := ⟨_, List.getElem?_eq_getElem (lt_of hlt)⟩
      refine sat_el F_a e4 h_x1 rfl (by kernel_rfl) (by kernel_rfl) (by kernel_rfl) ?_
      rintro _ ⟨A_L2, n_L2, c_L2, B_L2, m_L2, k_L2, rfl, r_L2l, r_L2h⟩
      refine sat_chkB (by kernel_rfl) ?_
      refine sat_idx (A := A_b) (c := c_b) (kk := .i64) (i) (by kernel_rfl) (by kernel_rfl) (by have := lt_of hlt; omega) F_b.addr fun g5 o5 e5 => ?_
      obtain ⟨x3, h_x3⟩ : ∃ x_, b[(i)]? = some x_ := ⟨_, List.getElem?_eq_getElem (by have := lt_of hlt; omega)⟩
      refine sat_el F_b e5 h_x3 rfl (by kernel_rfl) (by kernel_rfl) (by kernel_rfl) ?_
      rintro _ ⟨A_L4, n_L4, c_L4, B_L4, m_L4, k_L4, rfl, r_L4l, r_L4h⟩
      refine sat_chkB (by kernel_rfl) ?_
      refine sat_call #[.agg #[.bool x1.lo.neg, .slice A_L2 n_L2 c_L2, .int .i64 x1.lo.e, .bool x1.hi.neg, .slice B_L2 m_L2 k_L2, .int .i64 x1.hi.e], .agg #[.bool x3.lo.neg, .slice A_L4 n_L4 c_L4, .int .i64 x3.lo.e, .bool x3.hi.neg, .slice B_L4 m_L4 k_L4, .int .i64 x3.hi.e]] (by kernel_rfl) fun w6 h6 => ?_
      refine (insideI_any _ _ x1 x3 _ (mkI (h6.rdD r_L2l) (h6.rdD r_L2h)) (mkI (h6.rdD r_L4l) (h6.rdD r_L4h))).mono ?_
      rintro e v6 ⟨rfl, hb6⟩
      refine ⟨hb6, [.bool (insideI x1 x3)], _, rfl, by kernel_rfl, by kernel_rfl, fun g6 => ?_⟩
      replace F_a := F_a.mv g6.mv; replace F_b := F_b.mv g6.mv; replace r_L2l := g6.rdD r_L2l; replace r_L2h := g6.rdD r_L2h; replace r_L4l := g6.rdD r_L4l; replace r_L4h := g6.rdD r_L4h
      clear h6 hb6
      refine sat_prim (v := .bool (!(insideI x1 x3))) (by kernel_rfl) ?_
      cases hf : (insideI x1 x3)
      · refine sat_true (by kernel_rfl) ?_
        exact sat_ret (.bool false) (by kernel_rfl) fun w9 h9 => congrArg Value.bool (eqf_no hm h_x1 h_x3 hf)
      · refine sat_false (by kernel_rfl) ?_
        refine sat_prim (v := .int .i64 (((i + 1 : Nat)) : Int)) (Eq.trans (b := some (.int .i64 (IntKind.i64.wrap ((((i) : Nat) : Int) + 1)))) (by kernel_rfl) (by rw [Sx.wrap_succ (n := a.length) (lt_of hlt) M_a])) ?_
        exact sat_back [.int .i64 (((i + 1 : Nat)) : Int), .bool false] (by kernel_rfl) fun w9 h9 => ⟨_, by have := lt_of hlt; omega, i + 1, rfl, rfl, by have := lt_of hlt; omega, eqf_step hm h_x1 h_x3 hf⟩
  · refine sat_true (by kernel_rfl) ?_
    exact sat_ret (.bool false) (by kernel_rfl) fun w9 h9 => congrArg Value.bool (eqf_len hne)

def tr_ehas : Sx.Tree := .prim .len [.lf 0] (.prim .len [.lf 1] (.prim (.bin .neq) [.lf 3, .lf 4] (.ite (.lf 5) (.ret (.one (.bit false))) (.prim .len [.lf 0] (.loop 0 [.num .i64 0, .bit false] (.prim (.bin .lss) [.lf 7, .lf 6] (.ite (.lf 9) (.prim (.idx 6) [.lf 0, .lf 7] (.load 49 (.lf 10) (.ag 6) (.chk [.lf 11, .lf 12, .lf 13, .lf 14, .lf 15, .lf 16] (.prim (.idx 3) [.lf 1, .lf 7] (.load 30 (.lf 17) (.ag 3) (.chk [.lf 18, .lf 19, .lf 20] (.call 62 [.ag [.lf 11, .lf 12, .lf 13, .lf 14, .lf 15, .lf 16], .ag [.lf 18, .lf 19, .lf 20]] .one (.prim .not [.lf 21] (.ite (.lf 22) (.ret (.one (.bit false))) (.prim (.bin .add) [.lf 7, .num .i64 1] (.back 0 [.lf 23, .lf 8]))))))))))) (.ret (.one (.bit true))))))))))
theorem tr_ehas_eq : Sx.treeAt Tryz.prog 61 [(2, 62)] [] [(false, 1), (false, 1), (false, 1)] = some tr_ehas := by kernel_rfl

theorem eqf_has (A_a : Option Addr) (c_a : Nat) (A_b : Option Addr) (c_b : Nat) (a : List Iv) (b : List Dy) (w : World) (h_a : Sx.Rows Sx.kI (fun _ => True) w A_a a.length c_a a) (h_b : Sx.Rows Sx.kD (fun _ => True) w A_b b.length c_b b) :
    Calls Tryz.prog 61 #[.slice A_a a.length c_a, .slice A_b b.length c_b, .func (.func 62) #[] #[]] w fun e w' => e = .returned (.bool ((((a.length : Nat) : Int) == ((b.length : Nat) : Int)) && all2 hasI a b)) ∧ Below w.heap.size w w' := by
  have F_a := h_a.start
  have M_a := h_a.le
  clear h_a
  have F_b := h_b.start
  have M_b := h_b.le
  clear h_b
  refine (Sx.runA [(2, 62)] [] (ls := [.slice A_a a.length c_a, .slice A_b b.length c_b, .func (.func 62) #[] #[]]) (shs := [(false, 1), (false, 1), (false, 1)]) (R := fun v _ => v = .bool ((((a.length : Nat) : Int) == ((b.length : Nat) : Int)) && all2 hasI a b)) tr_ehas_eq rfl (by decide) (by simp [Sx.tupV]) ?_).mono (fun e w' ⟨v, he, hv, hb⟩ => ⟨by rw [he, hv], hb⟩)
  unfold tr_ehas
  refine sat_prim (v := .int .i64 ((a.length : Nat) : Int)) (by kernel_rfl) ?_
  refine sat_prim (v := .int .i64 ((b.length : Nat) : Int)) (by kernel_rfl) ?_
  refine sat_prim (v := .bool ((((a.length : Nat) : Int) : Int) != ((b.length : Nat) : Int))) (by kernel_rfl) ?_
  cases hne : ((((a.length : Nat) : Int) : Int) != ((b.length : Nat) : Int))
  · refine sat_false (by kernel_rfl) ?_
    refine sat_prim (v := .int .i64 ((a.length : Nat) : Int)) (by kernel_rfl) ?_
    have hl := eqf_len' hne
    refine sat_loop (fun Kn vs W => ∃ (i : Nat), vs = [.int .i64 ((i : Nat) : Int), .bool false] ∧ Kn = a.length - i ∧ i ≤ a.length ∧ (all2 hasI a b = all2 hasI (a.drop i) (b.drop i))) [.int .i64 0, .bool false] (by kernel_rfl) (fun w1 h1 => ⟨_, 0, rfl, rfl, Nat.zero_le _, rfl⟩) ?_
    rintro Kn vs w2 h2 ⟨i, rfl, rfl, h_i, hm⟩
    replace F_a := F_a.mv h2.mv; replace F_b := F_b.mv h2.mv
    clear h2
    refine sat_prim (v := .bool (decide ((((i : Nat) : Int) : Int) < ((a.length : Nat) : Int)))) (by kernel_rfl) ?_
    cases hlt : (decide ((((i : Nat) : Int) : Int) < ((a.length : Nat) : Int)))
    · refine sat_false (by kernel_rfl) ?_
      exact sat_ret (.bool true) (by kernel_rfl) fun w9 h9 => congrArg Value.bool (eqf_yes hm hlt hl)
    · refine sat_true (by kernel_rfl) ?_
      refine sat_idx (A := A_a) (c := c_a) (kk := .i64) (i) (by kernel_rfl) (by kernel_rfl) (lt_of hlt) F_a.addr fun g4 o4 e4 => ?_
      obtain ⟨x1, h_x1⟩ : ∃ x_, a[(i)]? = some x_ := ⟨_, List.getElem?_eq_getElem (lt_of hlt)⟩
      refine sat_el F_a e4 h_x1 rfl (by kernel_rfl) (by kernel_rfl) (by kernel_rfl) ?_
      rintro _ ⟨A_L2, n_L2, c_L2, B_L2, m_L2, k_L2, rfl, r_L2l, r_L2h⟩
      refine sat_chkB (by kernel_rfl) ?_
      refine sat_idx (A := A_b) (c := c_b) (kk := .i64) (i) (by kernel_rfl) (by kernel_rfl) (by have := lt_of hlt; omega) F_b.addr fun g5 o5 e5 => ?_
      obtain ⟨x3, h_x3⟩ : ∃ x_, b[(i)]? = some x_ := ⟨_, List.getElem?_eq_getElem (by have := lt_of hlt; omega)⟩
      refine sat_el F_b e5 h_x3 rfl (by kernel_rfl) (by kernel_rfl) (by kernel_rfl) ?_
      rintro _ ⟨A_L4, n_L4, c_L4, rfl, r_L4⟩
      refine sat_chkB (by kernel_rfl) ?_
      refine sat_call #[.agg #[.bool x1.lo.neg, .slice A_L2 n_L2 c_L2, .int .i64 x1.lo.e, .bool x1.hi.neg, .slice B_L2 m_L2 k_L2, .int .i64 x1.hi.e], .agg #[.bool x3.neg, .slice A_L4 n_L4 c_L4, .int .i64 x3.e]] (by kernel_rfl) fun w6 h6 => ?_
      refine (hasI_any _ _ x1 (x3) _ (mkI (h6.rdD r_L2l) (h6.rdD r_L2h)) (h6.rdD r_L4)).mono ?_
      rintro e v6 ⟨rfl, hb6⟩
      refine ⟨hb6, [.bool (hasI x1 x3)], _, rfl, by kernel_rfl, by kernel_rfl, fun g6 => ?_⟩
      replace F_a := F_a.mv g6.mv; replace F_b := F_b.mv g6.mv; replace r_L2l := g6.rdD r_L2l; replace r_L2h := g6.rdD r_L2h; replace r_L4 := g6.rdD r_L4
      clear h6 hb6
      refine sat_prim (v := .bool (!(hasI x1 x3))) (by kernel_rfl) ?_
      cases hf : (hasI x1 x3)
      · refine sat_true (by kernel_rfl) ?_
        exact sat_ret (.bool false) (by kernel_rfl) fun w9 h9 => congrArg Value.bool (eqf_no hm h_x1 h_x3 hf)
      · refine sat_false (by kernel_rfl) ?_
        refine sat_prim (v := .int .i64 (((i + 1 : Nat)) : Int)) (Eq.trans (b := some (.int .i64 (IntKind.i64.wrap ((((i) : Nat) : Int) + 1)))) (by kernel_rfl) (by rw [Sx.wrap_succ (n := a.length) (lt_of hlt) M_a])) ?_
        exact sat_back [.int .i64 (((i + 1 : Nat)) : Int), .bool false] (by kernel_rfl) fun w9 h9 => ⟨_, by have := lt_of hlt; omega, i + 1, rfl, rfl, by have := lt_of hlt; omega, eqf_step hm h_x1 h_x3 hf⟩
  · refine sat_true (by kernel_rfl) ?_
    exact sat_ret (.bool false) (by kernel_rfl) fun w9 h9 => congrArg Value.bool (eqf_len hne)

def tr_rbox : Sx.Tree := .prim .len [.lf 0] (.prim .len [.lf 1] (.prim (.bin .neq) [.lf 2, .lf 3] (.ite (.lf 4) (.ret (.one (.bit false))) (.loop 0 [.num .i64 0, .bit false] (.prim .len [.lf 0] (.prim (.bin .lss) [.lf 5, .lf 7] (.ite (.lf 8) (.prim (.idx 6) [.lf 0, .lf 5] (.load 49 (.lf 9) (.ag 6) (.prim (.idx 6) [.lf 1, .lf 5] (.load 49 (.lf 16) (.ag 6) (.call 54 [.ag [.lf 10, .lf 11, .lf 12, .lf 13, .lf 14, .lf 15], .ag [.lf 17, .lf 18, .lf 19, .lf 20, .lf 21, .lf 22]] .one (.prim .not [.lf 23] (.ite (.lf 24) (.ret (.one (.bit false))) (.prim (.bin .add) [.lf 5, .num .i64 1] (.back 0 [.lf 25, .lf 6]))))))))) (.ret (.one (.bit true))))))))))
theorem tr_rbox_eq : Sx.treeAt Tryz.prog 18 [] [] [(false, 1), (false, 1)] = some tr_rbox := by kernel_rfl

theorem rsameB_any (A_a : Option Addr) (c_a : Nat) (A_b : Option Addr) (c_b : Nat) (a : List Iv) (b : List Iv) (w : World) (h_a : Sx.Rows Sx.kI (fun _ => True) w A_a a.length c_a a) (h_b : Sx.Rows Sx.kI (fun _ => True) w A_b b.length c_b b) :
    Calls Tryz.prog 18 #[.slice A_a a.length c_a, .slice A_b b.length c_b] w fun e w' => e = .returned (.bool (sameB a b)) ∧ Below w.heap.size w w' := by
  have F_a := h_a.start
  have M_a := h_a.le
  clear h_a
  have F_b := h_b.start
  have M_b := h_b.le
  clear h_b
  refine (Sx.runA [] [] (ls := [.slice A_a a.length c_a, .slice A_b b.length c_b]) (shs := [(false, 1), (false, 1)]) (R := fun v _ => v = .bool (sameB a b)) tr_rbox_eq rfl (by decide) (fun q h => by cases h) ?_).mono (fun e w' ⟨v, he, hv, hb⟩ => ⟨by rw [he, hv], hb⟩)
  unfold tr_rbox
  refine sat_prim (v := .int .i64 ((a.length : Nat) : Int)) (by kernel_rfl) ?_
  refine sat_prim (v := .int .i64 ((b.length : Nat) : Int)) (by kernel_rfl) ?_
  refine sat_prim (v := .bool ((((a.length : Nat) : Int) : Int) != ((b.length : Nat) : Int))) (by kernel_rfl) ?_
  cases hne : ((((a.length : Nat) : Int) : Int) != ((b.length : Nat) : Int))
  · refine sat_false (by kernel_rfl) ?_
    have hl := eqf_len' hne
    refine sat_loop (fun Kn vs W => ∃ (i : Nat), vs = [.int .i64 ((i : Nat) : Int), .bool false] ∧ Kn = a.length - i ∧ i ≤ a.length ∧ (all2 sameI a b = all2 sameI (a.drop i) (b.drop i))) [.int .i64 0, .bool false] (by kernel_rfl) (fun w1 h1 => ⟨_, 0, rfl, rfl, Nat.zero_le _, rfl⟩) ?_
    rintro Kn vs w2 h2 ⟨i, rfl, rfl, h_i, hm⟩
    replace F_a := F_a.mv h2.mv; replace F_b := F_b.mv h2.mv
    clear h2
    refine sat_prim (v := .int .i64 ((a.length : Nat) : Int)) (by kernel_rfl) ?_
    refine sat_prim (v := .bool (decide ((((i : Nat) : Int) : Int) < ((a.length : Nat) : Int)))) (by kernel_rfl) ?_
    cases hlt : (decide ((((i : Nat) : Int) : Int) < ((a.length : Nat) : Int)))
    · refine sat_false (by kernel_rfl) ?_
      exact sat_ret (.bool true) (by kernel_rfl) fun w9 h9 => congrArg Value.bool (eqf_yes hm hlt hl)
    · refine sat_true (by kernel_rfl) ?_
      refine sat_idx (A := A_a) (c := c_a) (kk := .i64) (i) (by kernel_rfl) (by kernel_rfl) (lt_of hlt) F_a.addr fun g4 o4 e4 => ?_
      obtain ⟨x1, h_x1⟩ : ∃ x_, a[(i)]? = some x_ := ⟨_, List.getElem?_eq_getElem (lt_of hlt)⟩
      refine sat_el F_a e4 h_x1 rfl (by kernel_rfl) (by kernel_rfl) (by kernel_rfl) ?_
      rintro _ ⟨A_L2, n_L2, c_L2, B_L2, m_L2, k_L2, rfl, r_L2l, r_L2h⟩
      refine sat_idx (A := A_b) (c := c_b) (kk := .i64) (i) (by kernel_rfl) (by kernel_rfl) (by have := lt_of hlt; omega) F_b.addr fun g5 o5 e5 => ?_
      obtain ⟨x3, h_x3⟩ : ∃ x_, b[(i)]? = some x_ := ⟨_, List.getElem?_eq_getElem (by have := lt_of hlt; omega)⟩
      refine sat_el F_b e5 h_x3 rfl (by kernel_rfl) (by kernel_rfl) (by kernel_rfl) ?_
      rintro _ ⟨A_L4, n_L4, c_L4, B_L4, m_L4, k_L4, rfl, r_L4l, r_L4h⟩
      refine sat_call #[.agg #[.bool x1.lo.neg, .slice A_L2 n_L2 c_L2, .int .i64 x1.lo.e, .bool x1.hi.neg, .slice B_L2 m_L2 k_L2, .int .i64 x1.hi.e], .agg #[.bool x3.lo.neg, .slice A_L4 n_L4 c_L4, .int .i64 x3.lo.e, .bool x3.hi.neg, .slice B_L4 m_L4 k_L4, .int .i64 x3.hi.e]] (by kernel_rfl) fun w6 h6 => ?_
      refine (rsameI_any _ _ x1 x3 _ (mkI (h6.rdD r_L2l) (h6.rdD r_L2h)) (mkI (h6.rdD r_L4l) (h6.rdD r_L4h))).mono ?_
      rintro e v6 ⟨rfl, hb6⟩
      refine ⟨hb6, [.bool (sameI x1 x3)], _, rfl, by kernel_rfl, by kernel_rfl, fun g6 => ?_⟩
      replace F_a := F_a.mv g6.mv; replace F_b := F_b.mv g6.mv; replace r_L2l := g6.rdD r_L2l; replace r_L2h := g6.rdD r_L2h; replace r_L4l := g6.rdD r_L4l; replace r_L4h := g6.rdD r_L4h
      clear h6 hb6
      refine sat_prim (v := .bool (!(sameI x1 x3))) (by kernel_rfl) ?_
      cases hf : (sameI x1 x3)
      · refine sat_true (by kernel_rfl) ?_
        exact sat_ret (.bool false) (by kernel_rfl) fun w9 h9 => congrArg Value.bool (eqf_no hm h_x1 h_x3 hf)
      · refine sat_false (by kernel_rfl) ?_
        refine sat_prim (v := .int .i64 (((i + 1 : Nat)) : Int)) (Eq.trans (b := some (.int .i64 (IntKind.i64.wrap ((((i) : Nat) : Int) + 1)))) (by kernel_rfl) (by rw [Sx.wrap_succ (n := a.length) (lt_of hlt) M_a])) ?_
        exact sat_back [.int .i64 (((i + 1 : Nat)) : Int), .bool false] (by kernel_rfl) fun w9 h9 => ⟨_, by have := lt_of hlt; omega, i + 1, rfl, rfl, by have := lt_of hlt; omega, eqf_step hm h_x1 h_x3 hf⟩
  · refine sat_true (by kernel_rfl) ?_
    exact sat_ret (.bool false) (by kernel_rfl) fun w9 h9 => congrArg Value.bool (eqf_len hne)

theorem two_eq {f : Iv → Iv → Bool} {a b : List Iv} (h : twoB a b = true) : (((a.length : Nat) : Int) == ((b.length : Nat) : Int) && all2 f a b) = (twoB a b && all2 f a b) := by
  rw [h]
  unfold twoB at h
  rw [Bool.and_eq_true] at h
  rw [h.1]

def tr_bwithin : Sx.Tree := .call 55 [.one (.lf 0), .one (.lf 1)] .one (.ite (.lf 2) (.call 56 [.one (.lf 0), .one (.lf 1), .one (.fn 57)] .one (.ret (.one (.lf 3)))) (.ret (.one (.bit false))))
theorem tr_bwithin_eq : Sx.treeAt Tryz.prog 19 [] [] [(false, 1), (false, 1)] = some tr_bwithin := by kernel_rfl

theorem withinB_any (A_a : Option Addr) (c_a : Nat) (A_b : Option Addr) (c_b : Nat) (a : List Iv) (b : List Iv) (w : World) (h_a : Sx.Rows Sx.kI (fun _ => True) w A_a a.length c_a a) (h_b : Sx.Rows Sx.kI (fun _ => True) w A_b b.length c_b b) :
    Calls Tryz.prog 19 #[.slice A_a a.length c_a, .slice A_b b.length c_b] w fun e w' => e = .returned (.bool (withinB a b)) ∧ Below w.heap.size w w' := by
  have F_a := h_a.start
  have M_a := h_a.le
  clear h_a
  have F_b := h_b.start
  have M_b := h_b.le
  clear h_b
  refine (Sx.runA [] [] (ls := [.slice A_a a.length c_a, .slice A_b b.length c_b]) (shs := [(false, 1), (false, 1)]) (R := fun v _ => v = .bool (withinB a b)) tr_bwithin_eq rfl (by decide) (fun q h => by cases h) ?_).mono (fun e w' ⟨v, he, hv, hb⟩ => ⟨by rw [he, hv], hb⟩)
  unfold tr_bwithin
  refine sat_call #[.slice A_a a.length c_a, .slice A_b b.length c_b] (by kernel_rfl) fun w1 h1 => ?_
  refine (twoB_any _ _ _ _ a b _ ((F_a.mv h1.mv).any) ((F_b.mv h1.mv).any)).mono ?_
  rintro e v1 ⟨rfl, hb1⟩
  refine ⟨hb1, [.bool (twoB a b)], _, rfl, by kernel_rfl, by kernel_rfl, fun g1 => ?_⟩
  replace F_a := F_a.mv g1.mv; replace F_b := F_b.mv g1.mv
  clear h1 hb1
  cases hT2 : (twoB a b)
  · refine sat_false (by kernel_rfl) ?_
    exact sat_ret (.bool false) (by kernel_rfl) fun w9 h9 => congrArg Value.bool (by unfold withinB; rw [hT2]; rfl)
  · refine sat_true (by kernel_rfl) ?_
    refine sat_call #[.slice A_a a.length c_a, .slice A_b b.length c_b, .func (.func 57) #[] #[]] (by kernel_rfl) fun w3 h3 => ?_
    refine (eqf_within _ _ _ _ a b _ ((F_a.mv h3.mv).any) ((F_b.mv h3.mv).any)).mono ?_
    rintro e v3 ⟨rfl, hb3⟩
    refine ⟨hb3, [.bool ((((a.length : Nat) : Int)) == (((b.length : Nat) : Int)) && all2 withinI a b)], _, rfl, by kernel_rfl, by kernel_rfl, fun g3 => ?_⟩
    replace F_a := F_a.mv g3.mv; replace F_b := F_b.mv g3.mv
    clear h3 hb3
    exact sat_ret (.bool ((((a.length : Nat) : Int)) == (((b.length : Nat) : Int)) && all2 withinI a b)) (by kernel_rfl) fun w9 h9 => congrArg Value.bool (by unfold withinB; exact two_eq hT2)

def tr_binside : Sx.Tree := .call 55 [.one (.lf 0), .one (.lf 1)] .one (.ite (.lf 2) (.call 56 [.one (.lf 0), .one (.lf 1), .one (.fn 59)] .one (.ret (.one (.lf 3)))) (.ret (.one (.bit false))))
theorem tr_binside_eq : Sx.treeAt Tryz.prog 21 [] [] [(false, 1), (false, 1)] = some tr_binside := by kernel_rfl

theorem insideB_any (A_a : Option Addr) (c_a : Nat) (A_b : Option Addr) (c_b : Nat) (a : List Iv) (b : List Iv) (w : World) (h_a : Sx.Rows Sx.kI (fun _ => True) w A_a a.length c_a a) (h_b : Sx.Rows Sx.kI (fun _ => True) w A_b b.length c_b b) :
    Calls Tryz.prog 21 #[.slice A_a a.length c_a, .slice A_b b.length c_b] w fun e w' => e = .returned (.bool (insideB a b)) ∧ Below w.heap.size w w' := by
  have F_a := h_a.start
  have M_a := h_a.le
  clear h_a
  have F_b := h_b.start
  have M_b := h_b.le
  clear h_b
  refine (Sx.runA [] [] (ls := [.slice A_a a.length c_a, .slice A_b b.length c_b]) (shs := [(false, 1), (false, 1)]) (R := fun v _ => v = .bool (insideB a b)) tr_binside_eq rfl (by decide) (fun q h => by cases h) ?_).mono (fun e w' ⟨v, he, hv, hb⟩ => ⟨by rw [he, hv], hb⟩)
  unfold tr_binside
  refine sat_call #[.slice A_a a.length c_a, .slice A_b b.length c_b] (by kernel_rfl) fun w1 h1 => ?_
  refine (twoB_any _ _ _ _ a b _ ((F_a.mv h1.mv).any) ((F_b.mv h1.mv).any)).mono ?_
  rintro e v1 ⟨rfl, hb1⟩
  refine ⟨hb1, [.bool (twoB a b)], _, rfl, by kernel_rfl, by kernel_rfl, fun g1 => ?_⟩
  replace F_a := F_a.mv g1.mv; replace F_b := F_b.mv g1.mv
  clear h1 hb1
  cases hT2 : (twoB a b)
  · refine sat_false (by kernel_rfl) ?_
    exact sat_ret (.bool false) (by kernel_rfl) fun w9 h9 => congrArg Value.bool (by unfold insideB; rw [hT2]; rfl)
  · refine sat_true (by kernel_rfl) ?_
    refine sat_call #[.slice A_a a.length c_a, .slice A_b b.length c_b, .func (.func 59) #[] #[]] (by kernel_rfl) fun w3 h3 => ?_
    refine (eqf_inside _ _ _ _ a b _ ((F_a.mv h3.mv).any) ((F_b.mv h3.mv).any)).mono ?_
    rintro e v3 ⟨rfl, hb3⟩
    refine ⟨hb3, [.bool ((((a.length : Nat) : Int)) == (((b.length : Nat) : Int)) && all2 insideI a b)], _, rfl, by kernel_rfl, by kernel_rfl, fun g3 => ?_⟩
    replace F_a := F_a.mv g3.mv; replace F_b := F_b.mv g3.mv
    clear h3 hb3
    exact sat_ret (.bool ((((a.length : Nat) : Int)) == (((b.length : Nat) : Int)) && all2 insideI a b)) (by kernel_rfl) fun w9 h9 => congrArg Value.bool (by unfold insideB; exact two_eq hT2)

def tr_bhas : Sx.Tree := .call 16 [.one (.lf 0)] .one (.ite (.lf 2) (.call 61 [.one (.lf 0), .one (.lf 1), .one (.fn 62)] .one (.ret (.one (.lf 3)))) (.ret (.one (.bit false))))
theorem tr_bhas_eq : Sx.treeAt Tryz.prog 23 [] [] [(false, 1), (false, 1)] = some tr_bhas := by kernel_rfl

theorem hasB_any (A_b : Option Addr) (c_b : Nat) (A_x : Option Addr) (c_x : Nat) (b : List Iv) (x : List Dy) (w : World) (h_b : Sx.Rows Sx.kI (fun _ => True) w A_b b.length c_b b) (h_x : Sx.Rows Sx.kD (fun _ => True) w A_x x.length c_x x) :
    Calls Tryz.prog 23 #[.slice A_b b.length c_b, .slice A_x x.length c_x] w fun e w' => e = .returned (.bool (hasB b x)) ∧ Below w.heap.size w w' := by
  have F_b := h_b.start
  have M_b := h_b.le
  clear h_b
  have F_x := h_x.start
  have M_x := h_x.le
  clear h_x
  refine (Sx.runA [] [] (ls := [.slice A_b b.length c_b, .slice A_x x.length c_x]) (shs := [(false, 1), (false, 1)]) (R := fun v _ => v = .bool (hasB b x)) tr_bhas_eq rfl (by decide) (fun q h => by cases h) ?_).mono (fun e w' ⟨v, he, hv, hb⟩ => ⟨by rw [he, hv], hb⟩)
  unfold tr_bhas
  refine sat_call #[.slice A_b b.length c_b] (by kernel_rfl) fun w1 h1 => ?_
  refine (mayB_any _ _ b _ ((F_b.mv h1.mv).any)).mono ?_
  rintro e v1 ⟨rfl, hb1⟩
  refine ⟨hb1, [.bool (mayB b)], _, rfl, by kernel_rfl, by kernel_rfl, fun g1 => ?_⟩
  replace F_b := F_b.mv g1.mv; replace F_x := F_x.mv g1.mv
  clear h1 hb1
  cases hT2 : (mayB b)
  · refine sat_false (by kernel_rfl) ?_
    exact sat_ret (.bool false) (by kernel_rfl) fun w9 h9 => congrArg Value.bool (by unfold hasB; rw [hT2]; rfl)
  · refine sat_true (by kernel_rfl) ?_
    refine sat_call #[.slice A_b b.length c_b, .slice A_x x.length c_x, .func (.func 62) #[] #[]] (by kernel_rfl) fun w3 h3 => ?_
    refine (eqf_has _ _ _ _ b x _ ((F_b.mv h3.mv).any) ((F_x.mv h3.mv).any)).mono ?_
    rintro e v3 ⟨rfl, hb3⟩
    refine ⟨hb3, [.bool ((((b.length : Nat) : Int)) == (((x.length : Nat) : Int)) && all2 hasI b x)], _, rfl, by kernel_rfl, by kernel_rfl, fun g3 => ?_⟩
    replace F_b := F_b.mv g3.mv; replace F_x := F_x.mv g3.mv
    clear h3 hb3
    exact sat_ret (.bool ((((b.length : Nat) : Int)) == (((x.length : Nat) : Int)) && all2 hasI b x)) (by kernel_rfl) fun w9 h9 => congrArg Value.bool (by unfold hasB; exact (by rw [hT2, Bool.true_and]))

/-- A box and a mark come back; the box is of the call's own making. -/
def BxTup (w0 w : World) (e : Ending) (r : List Iv × Int) : Prop := ∃ (l : List Iv) (x : Int) (A : Option Addr) (c : Nat), e = .returned (.tuple #[.slice A l.length c, .int .i64 x]) ∧ Hid ((l, x) = r) ∧ Sx.Rows Sx.kI (fun g => w0.heap.size ≤ g) w A l.length c l
theorem BxTup.nil {w0 w : World} {x : Int} {r : List Iv × Int} (h : ([], x) = r) : BxTup w0 w (.returned (.tuple #[.slice none 0 0, .int .i64 x])) r := ⟨[], x, none, 0, rfl, hide h, Sx.Rows.nil _ _ _⟩
theorem eachB_no {f : Iv → Iv → Iv × Int} {a b : List Iv} (h : twoB a b = false) : ([], (1 : Int)) = eachB f a b := by unfold eachB; rw [h]; rfl
theorem eachB_yes {f : Iv → Iv → Iv × Int} {a b : List Iv} (h : twoB a b = true) : eachA f [] a b = eachB f a b := by unfold eachB; rw [h]; rfl
theorem eachA_end {f : Iv → Iv → Iv × Int} {a b acc : List Iv} {i : Nat} (hm : eachB f a b = eachA f acc (a.drop i) (b.drop i)) (hlt : decide ((i : Int) < (a.length : Int)) = false) : (acc, (0 : Int)) = eachB f a b := by rw [hm, drop_end hlt, eachA_nil]

def tr_beachHull : Sx.Tree := .call 55 [.one (.lf 0), .one (.lf 1)] .one (.prim .not [.lf 3] (.ite (.lf 4) (.ret (.tup [(false, [.nil]), (false, [.num .i64 1])])) (.prim .len [.lf 0] (.loop 0 [.num .i64 0, .nil, .num .i64 0, .nil] (.prim (.bin .lss) [.lf 6, .lf 5] (.ite (.lf 10) (.prim (.idx 6) [.lf 0, .lf 6] (.load 49 (.lf 11) (.ag 6) (.prim (.idx 6) [.lf 1, .lf 6] (.load 49 (.lf 18) (.ag 6) (.call 41 [.ag [.lf 12, .lf 13, .lf 14, .lf 15, .lf 16, .lf 17], .ag [.lf 19, .lf 20, .lf 21, .lf 22, .lf 23, .lf 24]] (.tup [(true, 6), (false, 1)]) (.chk [.lf 25, .lf 26, .lf 27, .lf 28, .lf 29, .lf 30] (.prim (.bin .neq) [.lf 31, .num .i64 0] (.ite (.lf 32) (.ret (.tup [(false, [.nil]), (false, [.lf 31])])) (.row 49 [.lf 25, .lf 26, .lf 27, .lf 28, .lf 29, .lf 30] 1 [] (.app 49 6 80 (.lf 7) (.lf 33) (.prim (.bin .add) [.lf 6, .num .i64 1] (.back 0 [.lf 35, .lf 34, .lf 8, .lf 9])))))))))))) (.ret (.tup [(false, [.lf 7]), (false, [.num .i64 0])]))))))))
theorem tr_beachHull_eq : Sx.treeAt Tryz.prog 40 [(2, 41)] [] [(false, 1), (false, 1), (false, 1)] = some tr_beachHull := by kernel_rfl

theorem eachHullB_any (A_a : Option Addr) (c_a : Nat) (A_b : Option Addr) (c_b : Nat) (a : List Iv) (b : List Iv) (w : World) (h_a : Sx.Rows Sx.kI (fun _ => True) w A_a a.length c_a a) (h_b : Sx.Rows Sx.kI (fun _ => True) w A_b b.length c_b b) (hs : a.length ≤ 1000) :
    Calls Tryz.prog 40 #[.slice A_a a.length c_a, .slice A_b b.length c_b, .func (.func 41) #[] #[]] w fun e w' => BxTup w w' e (eachB hullI a b) ∧ Below w.heap.size w w' := by
  have F_a := h_a.start
  have M_a := h_a.le
  clear h_a
  have F_b := h_b.start
  have M_b := h_b.le
  clear h_b
  refine (Sx.runA [(2, 41)] [] (ls := [.slice A_a a.length c_a, .slice A_b b.length c_b, .func (.func 41) #[] #[]]) (shs := [(false, 1), (false, 1), (false, 1)]) (R := fun v w' => BxTup w w' (.returned v) (eachB hullI a b)) tr_beachHull_eq rfl (by decide) (by simp [Sx.tupV]) ?_).mono (fun e w' ⟨v, he, hv, hb⟩ => ⟨by rw [he]; exact hv, hb⟩)
  unfold tr_beachHull
  refine sat_call #[.slice A_a a.length c_a, .slice A_b b.length c_b] (by kernel_rfl) fun w1 h1 => ?_
  refine (twoB_any _ _ _ _ a b _ ((F_a.mv h1.mv).any) ((F_b.mv h1.mv).any)).mono ?_
  rintro e v1 ⟨rfl, hb1⟩
  refine ⟨hb1, [.bool (twoB a b)], _, rfl, by kernel_rfl, by kernel_rfl, fun g1 => ?_⟩
  replace F_a := F_a.mv g1.mv; replace F_b := F_b.mv g1.mv
  clear h1 hb1
  refine sat_prim (v := .bool (!(twoB a b))) (by kernel_rfl) ?_
  cases hT2 : (twoB a b)
  · refine sat_true (by kernel_rfl) ?_
    exact sat_ret (.tuple #[.slice none 0 0, .int .i64 1]) (by kernel_rfl) fun w9 h9 => BxTup.nil (eachB_no hT2)
  · refine sat_false (by kernel_rfl) ?_
    refine sat_prim (v := .int .i64 ((a.length : Nat) : Int)) (by kernel_rfl) ?_
    have hl := twoB_len hT2
    refine sat_loop (fun Kn vs W => ∃ (i : Nat) (out : List Iv) (A_o : Option Addr) (c_o : Nat), vs = [.int .i64 ((i : Nat) : Int), .slice A_o out.length c_o, .int .i64 0, .slice none 0 0] ∧ Kn = a.length - i ∧ i ≤ a.length ∧ (Sx.Gr Sx.kI w 49 W (.slice A_o out.length c_o) out) ∧ (eachB hullI a b = eachA hullI out (a.drop i) (b.drop i)) ∧ (out.length = i)) [.int .i64 0, .slice none 0 0, .int .i64 0, .slice none 0 0] (by kernel_rfl) (fun w1 h1 => ⟨_, 0, [], none, 0, rfl, rfl, Nat.zero_le _, Sx.Gr.nil (by decide) _ _ _, (eachB_yes hT2).symm, rfl⟩) ?_
    rintro Kn vs w3 h3 ⟨i, out, A_o, c_o, rfl, rfl, h_i, G_o, hm, ho⟩
    replace F_a := F_a.mv h3.mv; replace F_b := F_b.mv h3.mv
    clear h3
    refine sat_prim (v := .bool (decide ((((i : Nat) : Int) : Int) < ((a.length : Nat) : Int)))) (by kernel_rfl) ?_
    cases hlt : (decide ((((i : Nat) : Int) : Int) < ((a.length : Nat) : Int)))
    · refine sat_false (by kernel_rfl) ?_
      exact sat_ret (.tuple #[.slice A_o out.length c_o, .int .i64 0]) (by kernel_rfl) fun w9 h9 => ⟨out, 0, _, _, rfl, hide (eachA_end hm hlt), (G_o.le h9).done fun h => h⟩
    · refine sat_true (by kernel_rfl) ?_
      refine sat_idx (A := A_a) (c := c_a) (kk := .i64) (i) (by kernel_rfl) (by kernel_rfl) (lt_of hlt) F_a.addr fun g5 o5 e5 => ?_
      obtain ⟨x1, h_x1⟩ : ∃ x_, a[(i)]? = some x_ := ⟨_, List.getElem?_eq_getElem (lt_of hlt)⟩
      refine sat_el F_a e5 h_x1 rfl (by kernel_rfl) (by kernel_rfl) (by kernel_rfl) ?_
      rintro _ ⟨A_L2, n_L2, c_L2, B_L2, m_L2, k_L2, rfl, r_L2l, r_L2h⟩
      refine sat_idx (A := A_b) (c := c_b) (kk := .i64) (i) (by kernel_rfl) (by kernel_rfl) (by have := lt_of hlt; omega) F_b.addr fun g6 o6 e6 => ?_
      obtain ⟨x3, h_x3⟩ : ∃ x_, b[(i)]? = some x_ := ⟨_, List.getElem?_eq_getElem (by have := lt_of hlt; omega)⟩
      refine sat_el F_b e6 h_x3 rfl (by kernel_rfl) (by kernel_rfl) (by kernel_rfl) ?_
      rintro _ ⟨A_L4, n_L4, c_L4, B_L4, m_L4, k_L4, rfl, r_L4l, r_L4h⟩
      refine sat_call #[.agg #[.bool x1.lo.neg, .slice A_L2 n_L2 c_L2, .int .i64 x1.lo.e, .bool x1.hi.neg, .slice B_L2 m_L2 k_L2, .int .i64 x1.hi.e], .agg #[.bool x3.lo.neg, .slice A_L4 n_L4 c_L4, .int .i64 x3.lo.e, .bool x3.hi.neg, .slice B_L4 m_L4 k_L4, .int .i64 x3.hi.e]] (by kernel_rfl) fun w7 h7 => ?_
      refine (hullI_any _ _ x1 x3 _ (mkI (h7.rdD r_L2l) (h7.rdD r_L2h)) (mkI (h7.rdD r_L4l) (h7.rdD r_L4h))).mono ?_
      rintro e v7 ⟨⟨l_h5, g_h5, x_h5, A_h5, n_h5, c_h5, B_h5, m_h5, k_h5, h_h5, rfl, r_h5l, r_h5h⟩, hb7⟩
      refine ⟨hb7, [.bool l_h5.neg, .slice A_h5 n_h5 c_h5, .int .i64 l_h5.e, .bool g_h5.neg, .slice B_h5 m_h5 k_h5, .int .i64 g_h5.e, .int .i64 x_h5], _, rfl, by kernel_rfl, by kernel_rfl, fun g7 => ?_⟩
      replace F_a := F_a.mv g7.mv; replace F_b := F_b.mv g7.mv; replace G_o := G_o.le g7; replace r_L2l := g7.rdD r_L2l; replace r_L2h := g7.rdD r_L2h; replace r_L4l := g7.rdD r_L4l; replace r_L4h := g7.rdD r_L4h
      clear h7 hb7
      refine sat_chkB (by kernel_rfl) ?_
      refine sat_prim (v := .bool ((x_h5 : Int) != 0)) (by kernel_rfl) ?_
      cases hz : ((x_h5 : Int) != 0)
      · refine sat_false (by kernel_rfl) ?_
        refine sat_rowN [.bool l_h5.neg, .slice A_h5 n_h5 c_h5, .int .i64 l_h5.e, .bool g_h5.neg, .slice B_h5 m_h5 k_h5, .int .i64 g_h5.e] (by kernel_rfl) (by intro x hx; cases hx) fun u1 h1 B1 NB1 => ?_
        replace F_a := F_a.mv h1.mv; replace F_b := F_b.mv h1.mv; replace G_o := G_o.le h1; replace r_L2l := h1.rdD r_L2l; replace r_L2h := h1.rdD r_L2h; replace r_L4l := h1.rdD r_L4l; replace r_L4h := h1.rdD r_L4h; replace r_h5l := h1.rdD r_h5l; replace r_h5h := h1.rdD r_h5h
        have F_R6 : Sx.Rows Sx.kI (Sx.NB _) _ (some ⟨u1.heap.size, 0, none⟩) 1 1 [(⟨l_h5, g_h5⟩ : Iv)] := rows_one (k := Sx.kI) B1 NB1 ⟨_, _, _, _, _, _, rfl, r_h5l, r_h5h⟩
        generalize u1.heap.size = N_R6 at *
        generalize (u1.alloc _) = w_R6 at *
        clear B1 h1 NB1
        refine sat_app (.slice A_o out.length c_o) (.slice (some ⟨N_R6, 0, none⟩) 1 1) (by kernel_rfl) (by kernel_rfl) fun w9 h9 => ?_
        refine (G_o.le h9).app (l' := [(⟨l_h5, g_h5⟩ : Iv)]) (F_R6.mv h9.mv) (by have := lt_of hlt; simp only [List.length_cons, List.length_nil, maxLen]; omega) (by have := lt_of hlt; simp only [List.length_cons, List.length_nil]; omega) fun A_G7 c_G7 v9 a9 G7 => ?_
        replace F_a := F_a.mv h9.mv; replace F_b := F_b.mv h9.mv; replace r_L2l := h9.rdD r_L2l; replace r_L2h := h9.rdD r_L2h; replace r_L4l := h9.rdD r_L4l; replace r_L4h := h9.rdD r_L4h; replace r_h5l := h9.rdD r_h5l; replace r_h5h := h9.rdD r_h5h; replace F_R6 := F_R6.mv h9.mv
        replace F_a := F_a.mv a9.toLf.mv; replace F_b := F_b.mv a9.toLf.mv; replace r_L2l := a9.toLf.rdD r_L2l; replace r_L2h := a9.toLf.rdD r_L2h; replace r_L4l := a9.toLf.rdD r_L4l; replace r_L4h := a9.toLf.rdD r_L4h; replace r_h5l := a9.toLf.rdD r_h5l; replace r_h5h := a9.toLf.rdD r_h5h; replace F_R6 := F_R6.mv a9.toLf.mv
        clear h9 a9 G_o
        refine sat_prim (v := .int .i64 (((i + 1 : Nat)) : Int)) (Eq.trans (b := some (.int .i64 (IntKind.i64.wrap ((((i) : Nat) : Int) + 1)))) (by kernel_rfl) (by rw [Sx.wrap_succ (n := a.length) (lt_of hlt) M_a])) ?_
        exact sat_back [.int .i64 (((i + 1 : Nat)) : Int), .slice A_G7 (out ++ [(⟨l_h5, g_h5⟩ : Iv)]).length c_G7, .int .i64 0, .slice none 0 0] (by kernel_rfl) fun w9 h9 => ⟨_, by have := lt_of hlt; omega, i + 1, (out ++ [(⟨l_h5, g_h5⟩ : Iv)]), _, _, rfl, rfl, by have := lt_of hlt; omega, G7.le h9, hm.trans (eachA_good h_x1 h_x3 h_h5 hz), by simp [ho]⟩
      · refine sat_true (by kernel_rfl) ?_
        exact sat_ret (.tuple #[.slice none 0 0, .int .i64 x_h5]) (by kernel_rfl) fun w9 h9 => BxTup.nil (by rw [hm]; exact eachA_bad h_x1 h_x3 h_h5 hz)

def tr_bhull : Sx.Tree := .call 40 [.one (.lf 0), .one (.lf 1), .one (.fn 41)] (.tup [(false, 1), (false, 1)]) (.ret (.tup [(false, [.lf 2]), (false, [.lf 3])]))
theorem tr_bhull_eq : Sx.treeAt Tryz.prog 7 [] [] [(false, 1), (false, 1)] = some tr_bhull := by kernel_rfl

theorem hullB_any (A_a : Option Addr) (c_a : Nat) (A_b : Option Addr) (c_b : Nat) (a : List Iv) (b : List Iv) (w : World) (h_a : Sx.Rows Sx.kI (fun _ => True) w A_a a.length c_a a) (h_b : Sx.Rows Sx.kI (fun _ => True) w A_b b.length c_b b) (hs : a.length ≤ 1000) :
    Calls Tryz.prog 7 #[.slice A_a a.length c_a, .slice A_b b.length c_b] w fun e w' => BxTup w w' e (eachB hullI a b) ∧ Below w.heap.size w w' := by
  have F_a := h_a.start
  have M_a := h_a.le
  clear h_a
  have F_b := h_b.start
  have M_b := h_b.le
  clear h_b
  refine (Sx.runA [] [] (ls := [.slice A_a a.length c_a, .slice A_b b.length c_b]) (shs := [(false, 1), (false, 1)]) (R := fun v w' => BxTup w w' (.returned v) (eachB hullI a b)) tr_bhull_eq rfl (by decide) (fun q h => by cases h) ?_).mono (fun e w' ⟨v, he, hv, hb⟩ => ⟨by rw [he]; exact hv, hb⟩)
  unfold tr_bhull
  refine sat_call #[.slice A_a a.length c_a, .slice A_b b.length c_b, .func (.func 41) #[] #[]] (by kernel_rfl) fun w1 h1 => ?_
  refine (eachHullB_any _ _ _ _ a b _ ((F_a.mv h1.mv).any) ((F_b.mv h1.mv).any) hs).mono ?_
  rintro e v1 ⟨⟨l, x, A, c, rfl, h_r, F_r⟩, hb1⟩
  refine ⟨hb1, [.slice A l.length c, .int .i64 x], _, rfl, by kernel_rfl, by kernel_rfl, fun g1 => ?_⟩
  replace F_a := F_a.mv g1.mv; replace F_b := F_b.mv g1.mv
  clear hb1
  exact sat_ret (.tuple #[.slice A l.length c, .int .i64 x]) (by kernel_rfl) fun w9 h9 => ⟨l, x, A, c, rfl, h_r, F_r.mv (Sx.Mv.later h1.toLf h9.toLf)⟩

def tr_beachMeet : Sx.Tree := .call 55 [.one (.lf 0), .one (.lf 1)] .one (.prim .not [.lf 3] (.ite (.lf 4) (.ret (.tup [(false, [.nil]), (false, [.num .i64 1])])) (.prim .len [.lf 0] (.loop 0 [.num .i64 0, .nil, .num .i64 0, .nil] (.prim (.bin .lss) [.lf 6, .lf 5] (.ite (.lf 10) (.prim (.idx 6) [.lf 0, .lf 6] (.load 49 (.lf 11) (.ag 6) (.prim (.idx 6) [.lf 1, .lf 6] (.load 49 (.lf 18) (.ag 6) (.call 44 [.ag [.lf 12, .lf 13, .lf 14, .lf 15, .lf 16, .lf 17], .ag [.lf 19, .lf 20, .lf 21, .lf 22, .lf 23, .lf 24]] (.tup [(true, 6), (false, 1)]) (.chk [.lf 25, .lf 26, .lf 27, .lf 28, .lf 29, .lf 30] (.prim (.bin .neq) [.lf 31, .num .i64 0] (.ite (.lf 32) (.ret (.tup [(false, [.nil]), (false, [.lf 31])])) (.row 49 [.lf 25, .lf 26, .lf 27, .lf 28, .lf 29, .lf 30] 1 [] (.app 49 6 80 (.lf 7) (.lf 33) (.prim (.bin .add) [.lf 6, .num .i64 1] (.back 0 [.lf 35, .lf 34, .lf 8, .lf 9])))))))))))) (.ret (.tup [(false, [.lf 7]), (false, [.num .i64 0])]))))))))
theorem tr_beachMeet_eq : Sx.treeAt Tryz.prog 40 [(2, 44)] [] [(false, 1), (false, 1), (false, 1)] = some tr_beachMeet := by kernel_rfl

theorem eachMeetB_any (A_a : Option Addr) (c_a : Nat) (A_b : Option Addr) (c_b : Nat) (a : List Iv) (b : List Iv) (w : World) (h_a : Sx.Rows Sx.kI (fun _ => True) w A_a a.length c_a a) (h_b : Sx.Rows Sx.kI (fun _ => True) w A_b b.length c_b b) (hs : a.length ≤ 1000) :
    Calls Tryz.prog 40 #[.slice A_a a.length c_a, .slice A_b b.length c_b, .func (.func 44) #[] #[]] w fun e w' => BxTup w w' e (eachB meetI a b) ∧ Below w.heap.size w w' := by
  have F_a := h_a.start
  have M_a := h_a.le
  clear h_a
  have F_b := h_b.start
  have M_b := h_b.le
  clear h_b
  refine (Sx.runA [(2, 44)] [] (ls := [.slice A_a a.length c_a, .slice A_b b.length c_b, .func (.func 44) #[] #[]]) (shs := [(false, 1), (false, 1), (false, 1)]) (R := fun v w' => BxTup w w' (.returned v) (eachB meetI a b)) tr_beachMeet_eq rfl (by decide) (by simp [Sx.tupV]) ?_).mono (fun e w' ⟨v, he, hv, hb⟩ => ⟨by rw [he]; exact hv, hb⟩)
  unfold tr_beachMeet
  refine sat_call #[.slice A_a a.length c_a, .slice A_b b.length c_b] (by kernel_rfl) fun w1 h1 => ?_
  refine (twoB_any _ _ _ _ a b _ ((F_a.mv h1.mv).any) ((F_b.mv h1.mv).any)).mono ?_
  rintro e v1 ⟨rfl, hb1⟩
  refine ⟨hb1, [.bool (twoB a b)], _, rfl, by kernel_rfl, by kernel_rfl, fun g1 => ?_⟩
  replace F_a := F_a.mv g1.mv; replace F_b := F_b.mv g1.mv
  clear h1 hb1
  refine sat_prim (v := .bool (!(twoB a b))) (by kernel_rfl) ?_
  cases hT2 : (twoB a b)
  · refine sat_true (by kernel_rfl) ?_
    exact sat_ret (.tuple #[.slice none 0 0, .int .i64 1]) (by kernel_rfl) fun w9 h9 => BxTup.nil (eachB_no hT2)
  · refine sat_false (by kernel_rfl) ?_
    refine sat_prim (v := .int .i64 ((a.length : Nat) : Int)) (by kernel_rfl) ?_
    have hl := twoB_len hT2
    refine sat_loop (fun Kn vs W => ∃ (i : Nat) (out : List Iv) (A_o : Option Addr) (c_o : Nat), vs = [.int .i64 ((i : Nat) : Int), .slice A_o out.length c_o, .int .i64 0, .slice none 0 0] ∧ Kn = a.length - i ∧ i ≤ a.length ∧ (Sx.Gr Sx.kI w 49 W (.slice A_o out.length c_o) out) ∧ (eachB meetI a b = eachA meetI out (a.drop i) (b.drop i)) ∧ (out.length = i)) [.int .i64 0, .slice none 0 0, .int .i64 0, .slice none 0 0] (by kernel_rfl) (fun w1 h1 => ⟨_, 0, [], none, 0, rfl, rfl, Nat.zero_le _, Sx.Gr.nil (by decide) _ _ _, (eachB_yes hT2).symm, rfl⟩) ?_
    rintro Kn vs w3 h3 ⟨i, out, A_o, c_o, rfl, rfl, h_i, G_o, hm, ho⟩
    replace F_a := F_a.mv h3.mv; replace F_b := F_b.mv h3.mv
    clear h3
    refine sat_prim (v := .bool (decide ((((i : Nat) : Int) : Int) < ((a.length : Nat) : Int)))) (by kernel_rfl) ?_
    cases hlt : (decide ((((i : Nat) : Int) : Int) < ((a.length : Nat) : Int)))
    · refine sat_false (by kernel_rfl) ?_
      exact sat_ret (.tuple #[.slice A_o out.length c_o, .int .i64 0]) (by kernel_rfl) fun w9 h9 => ⟨out, 0, _, _, rfl, hide (eachA_end hm hlt), (G_o.le h9).done fun h => h⟩
    · refine sat_true (by kernel_rfl) ?_
      refine sat_idx (A := A_a) (c := c_a) (kk := .i64) (i) (by kernel_rfl) (by kernel_rfl) (lt_of hlt) F_a.addr fun g5 o5 e5 => ?_
      obtain ⟨x1, h_x1⟩ : ∃ x_, a[(i)]? = some x_ := ⟨_, List.getElem?_eq_getElem (lt_of hlt)⟩
      refine sat_el F_a e5 h_x1 rfl (by kernel_rfl) (by kernel_rfl) (by kernel_rfl) ?_
      rintro _ ⟨A_L2, n_L2, c_L2, B_L2, m_L2, k_L2, rfl, r_L2l, r_L2h⟩
      refine sat_idx (A := A_b) (c := c_b) (kk := .i64) (i) (by kernel_rfl) (by kernel_rfl) (by have := lt_of hlt; omega) F_b.addr fun g6 o6 e6 => ?_
      obtain ⟨x3, h_x3⟩ : ∃ x_, b[(i)]? = some x_ := ⟨_, List.getElem?_eq_getElem (by have := lt_of hlt; omega)⟩
      refine sat_el F_b e6 h_x3 rfl (by kernel_rfl) (by kernel_rfl) (by kernel_rfl) ?_
      rintro _ ⟨A_L4, n_L4, c_L4, B_L4, m_L4, k_L4, rfl, r_L4l, r_L4h⟩
      refine sat_call #[.agg #[.bool x1.lo.neg, .slice A_L2 n_L2 c_L2, .int .i64 x1.lo.e, .bool x1.hi.neg, .slice B_L2 m_L2 k_L2, .int .i64 x1.hi.e], .agg #[.bool x3.lo.neg, .slice A_L4 n_L4 c_L4, .int .i64 x3.lo.e, .bool x3.hi.neg, .slice B_L4 m_L4 k_L4, .int .i64 x3.hi.e]] (by kernel_rfl) fun w7 h7 => ?_
      refine (meetI_any _ _ x1 x3 _ (mkI (h7.rdD r_L2l) (h7.rdD r_L2h)) (mkI (h7.rdD r_L4l) (h7.rdD r_L4h))).mono ?_
      rintro e v7 ⟨⟨l_m5, g_m5, x_m5, A_m5, n_m5, c_m5, B_m5, m_m5, k_m5, h_m5, rfl, r_m5l, r_m5h⟩, hb7⟩
      refine ⟨hb7, [.bool l_m5.neg, .slice A_m5 n_m5 c_m5, .int .i64 l_m5.e, .bool g_m5.neg, .slice B_m5 m_m5 k_m5, .int .i64 g_m5.e, .int .i64 x_m5], _, rfl, by kernel_rfl, by kernel_rfl, fun g7 => ?_⟩
      replace F_a := F_a.mv g7.mv; replace F_b := F_b.mv g7.mv; replace G_o := G_o.le g7; replace r_L2l := g7.rdD r_L2l; replace r_L2h := g7.rdD r_L2h; replace r_L4l := g7.rdD r_L4l; replace r_L4h := g7.rdD r_L4h
      clear h7 hb7
      refine sat_chkB (by kernel_rfl) ?_
      refine sat_prim (v := .bool ((x_m5 : Int) != 0)) (by kernel_rfl) ?_
      cases hz : ((x_m5 : Int) != 0)
      · refine sat_false (by kernel_rfl) ?_
        refine sat_rowN [.bool l_m5.neg, .slice A_m5 n_m5 c_m5, .int .i64 l_m5.e, .bool g_m5.neg, .slice B_m5 m_m5 k_m5, .int .i64 g_m5.e] (by kernel_rfl) (by intro x hx; cases hx) fun u1 h1 B1 NB1 => ?_
        replace F_a := F_a.mv h1.mv; replace F_b := F_b.mv h1.mv; replace G_o := G_o.le h1; replace r_L2l := h1.rdD r_L2l; replace r_L2h := h1.rdD r_L2h; replace r_L4l := h1.rdD r_L4l; replace r_L4h := h1.rdD r_L4h; replace r_m5l := h1.rdD r_m5l; replace r_m5h := h1.rdD r_m5h
        have F_R6 : Sx.Rows Sx.kI (Sx.NB _) _ (some ⟨u1.heap.size, 0, none⟩) 1 1 [(⟨l_m5, g_m5⟩ : Iv)] := rows_one (k := Sx.kI) B1 NB1 ⟨_, _, _, _, _, _, rfl, r_m5l, r_m5h⟩
        generalize u1.heap.size = N_R6 at *
        generalize (u1.alloc _) = w_R6 at *
        clear B1 h1 NB1
        refine sat_app (.slice A_o out.length c_o) (.slice (some ⟨N_R6, 0, none⟩) 1 1) (by kernel_rfl) (by kernel_rfl) fun w9 h9 => ?_
        refine (G_o.le h9).app (l' := [(⟨l_m5, g_m5⟩ : Iv)]) (F_R6.mv h9.mv) (by have := lt_of hlt; simp only [List.length_cons, List.length_nil, maxLen]; omega) (by have := lt_of hlt; simp only [List.length_cons, List.length_nil]; omega) fun A_G7 c_G7 v9 a9 G7 => ?_
        replace F_a := F_a.mv h9.mv; replace F_b := F_b.mv h9.mv; replace r_L2l := h9.rdD r_L2l; replace r_L2h := h9.rdD r_L2h; replace r_L4l := h9.rdD r_L4l; replace r_L4h := h9.rdD r_L4h; replace r_m5l := h9.rdD r_m5l; replace r_m5h := h9.rdD r_m5h; replace F_R6 := F_R6.mv h9.mv
        replace F_a := F_a.mv a9.toLf.mv; replace F_b := F_b.mv a9.toLf.mv; replace r_L2l := a9.toLf.rdD r_L2l; replace r_L2h := a9.toLf.rdD r_L2h; replace r_L4l := a9.toLf.rdD r_L4l; replace r_L4h := a9.toLf.rdD r_L4h; replace r_m5l := a9.toLf.rdD r_m5l; replace r_m5h := a9.toLf.rdD r_m5h; replace F_R6 := F_R6.mv a9.toLf.mv
        clear h9 a9 G_o
        refine sat_prim (v := .int .i64 (((i + 1 : Nat)) : Int)) (Eq.trans (b := some (.int .i64 (IntKind.i64.wrap ((((i) : Nat) : Int) + 1)))) (by kernel_rfl) (by rw [Sx.wrap_succ (n := a.length) (lt_of hlt) M_a])) ?_
        exact sat_back [.int .i64 (((i + 1 : Nat)) : Int), .slice A_G7 (out ++ [(⟨l_m5, g_m5⟩ : Iv)]).length c_G7, .int .i64 0, .slice none 0 0] (by kernel_rfl) fun w9 h9 => ⟨_, by have := lt_of hlt; omega, i + 1, (out ++ [(⟨l_m5, g_m5⟩ : Iv)]), _, _, rfl, rfl, by have := lt_of hlt; omega, G7.le h9, hm.trans (eachA_good h_x1 h_x3 h_m5 hz), by simp [ho]⟩
      · refine sat_true (by kernel_rfl) ?_
        exact sat_ret (.tuple #[.slice none 0 0, .int .i64 x_m5]) (by kernel_rfl) fun w9 h9 => BxTup.nil (by rw [hm]; exact eachA_bad h_x1 h_x3 h_m5 hz)

def tr_bmeet : Sx.Tree := .call 40 [.one (.lf 0), .one (.lf 1), .one (.fn 44)] (.tup [(false, 1), (false, 1)]) (.ret (.tup [(false, [.lf 2]), (false, [.lf 3])]))
theorem tr_bmeet_eq : Sx.treeAt Tryz.prog 9 [] [] [(false, 1), (false, 1)] = some tr_bmeet := by kernel_rfl

theorem meetB_any (A_a : Option Addr) (c_a : Nat) (A_b : Option Addr) (c_b : Nat) (a : List Iv) (b : List Iv) (w : World) (h_a : Sx.Rows Sx.kI (fun _ => True) w A_a a.length c_a a) (h_b : Sx.Rows Sx.kI (fun _ => True) w A_b b.length c_b b) (hs : a.length ≤ 1000) :
    Calls Tryz.prog 9 #[.slice A_a a.length c_a, .slice A_b b.length c_b] w fun e w' => BxTup w w' e (eachB meetI a b) ∧ Below w.heap.size w w' := by
  have F_a := h_a.start
  have M_a := h_a.le
  clear h_a
  have F_b := h_b.start
  have M_b := h_b.le
  clear h_b
  refine (Sx.runA [] [] (ls := [.slice A_a a.length c_a, .slice A_b b.length c_b]) (shs := [(false, 1), (false, 1)]) (R := fun v w' => BxTup w w' (.returned v) (eachB meetI a b)) tr_bmeet_eq rfl (by decide) (fun q h => by cases h) ?_).mono (fun e w' ⟨v, he, hv, hb⟩ => ⟨by rw [he]; exact hv, hb⟩)
  unfold tr_bmeet
  refine sat_call #[.slice A_a a.length c_a, .slice A_b b.length c_b, .func (.func 44) #[] #[]] (by kernel_rfl) fun w1 h1 => ?_
  refine (eachMeetB_any _ _ _ _ a b _ ((F_a.mv h1.mv).any) ((F_b.mv h1.mv).any) hs).mono ?_
  rintro e v1 ⟨⟨l, x, A, c, rfl, h_r, F_r⟩, hb1⟩
  refine ⟨hb1, [.slice A l.length c, .int .i64 x], _, rfl, by kernel_rfl, by kernel_rfl, fun g1 => ?_⟩
  replace F_a := F_a.mv g1.mv; replace F_b := F_b.mv g1.mv
  clear hb1
  exact sat_ret (.tuple #[.slice A l.length c, .int .i64 x]) (by kernel_rfl) fun w9 h9 => ⟨l, x, A, c, rfl, h_r, F_r.mv (Sx.Mv.later h1.toLf h9.toLf)⟩

end Go.Proofs.YtbpfnooloemieaaGreatDoor
