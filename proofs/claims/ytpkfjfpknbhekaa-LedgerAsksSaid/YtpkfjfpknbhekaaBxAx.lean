/- Package box, by its trees. Printed by wip/mk_BxA.py. -/
import Derived.Test.YtpkfjfpknbhekaaBxPx
import Derived.Test.YtpkfjfpknbhekaaSeqIx
import Derived.Test.YtpkfjfpknbhekaaRnDx
import Derived.Test.YtpkfjfpknbhekaaCntx
namespace Go.Proofs.Ytpkfjfpknbhekaa
open Go.RowKit Pl
open Sx (sat_call sat_chk sat_prim sat_ite sat_true sat_false sat_trueP sat_falseP sat_ret sat_row sat_callP sat_loop sat_back sat_idx sat_el sat_elf sat_elc sat_load sat_rowN sat_app sat_callB sat_alt rows_one rows_two all_nil all_cons okB okS okI)

/-- Where the first stands that may not be. -/
def IdxB (l : List Iv) (k : Int) : Prop := decide ((0 : Int) ≤ k) = !(mayB l)
theorem idx_yes {l : List Iv} {i : Nat} {x : Iv} (hm : mayB l = mayB (l.drop i)) (hx : l[i]? = some x) (h : mayI x = false) : IdxB l ((i : Nat) : Int) := by
  unfold IdxB
  rw [hm, mayB_cons hx, h, decide_eq_true (by omega)]
  rfl
theorem idx_no {l : List Iv} {i : Nat} (hm : mayB l = mayB (l.drop i)) (hlt : decide ((i : Int) < (l.length : Int)) = false) : IdxB l (-1) := by
  unfold IdxB
  rw [hm, drop_end hlt]
  rfl
theorem eqf_len {a b : Int} {r : Bool} (h : (a != b) = true) : false = (a == b && r) := by
  have : (a == b) = false := by simpa using h
  rw [this]; rfl
theorem eqf_len' {a b : Nat} (h : (((a : Nat) : Int) != ((b : Nat) : Int)) = false) : a = b := by
  have : ((a : Nat) : Int) = b := by simpa using h
  omega
theorem eqf_no {α β : Type} {f : α → β → Bool} {a : List α} {b : List β} {i : Nat} {x : α} {y : β} {r : Bool} (hm : all2 f a b = all2 f (a.drop i) (b.drop i)) (hx : a[i]? = some x) (hy : b[i]? = some y) (h : f x y = false) : false = (r && all2 f a b) := by
  rw [hm, all2_cons hx hy, h, Bool.false_and, Bool.and_false]
theorem eqf_step {α β : Type} {f : α → β → Bool} {a : List α} {b : List β} {i : Nat} {x : α} {y : β} (hm : all2 f a b = all2 f (a.drop i) (b.drop i)) (hx : a[i]? = some x) (hy : b[i]? = some y) (h : f x y = true) : all2 f a b = all2 f (a.drop (i + 1)) (b.drop (i + 1)) := by
  rw [hm, all2_cons hx hy, h, Bool.true_and]
theorem eqf_yes {α β : Type} {f : α → β → Bool} {a : List α} {b : List β} {i : Nat} (hm : all2 f a b = all2 f (a.drop i) (b.drop i)) (hlt : decide ((i : Int) < (a.length : Int)) = false) (hl : a.length = b.length) : true = (((a.length : Nat) : Int) == ((b.length : Nat) : Int) && all2 f a b) := by
  rw [hm, drop_end hlt, all2_nil, hl]
  simp

def tr_esameI : Sx.Tree := .prim .len [.lf 0] (.prim .len [.lf 1] (.prim (.bin .neq) [.lf 3, .lf 4] (.ite (.lf 5) (.ret (.one (.bit false))) (.prim .len [.lf 0] (.loop 0 [.num .i64 0, .bit false] (.prim (.bin .lss) [.lf 7, .lf 6] (.ite (.lf 9) (.prim (.idx 6) [.lf 0, .lf 7] (.load 61 (.lf 10) (.ag 6) (.chk [.lf 11, .lf 12, .lf 13, .lf 14, .lf 15, .lf 16] (.prim (.idx 6) [.lf 1, .lf 7] (.load 61 (.lf 17) (.ag 6) (.chk [.lf 18, .lf 19, .lf 20, .lf 21, .lf 22, .lf 23] (.call 66 [.ag [.lf 11, .lf 12, .lf 13, .lf 14, .lf 15, .lf 16], .ag [.lf 18, .lf 19, .lf 20, .lf 21, .lf 22, .lf 23]] .one (.prim .not [.lf 24] (.ite (.lf 25) (.ret (.one (.bit false))) (.prim (.bin .add) [.lf 7, .num .i64 1] (.back 0 [.lf 26, .lf 8]))))))))))) (.ret (.one (.bit true))))))))))
theorem tr_esameI_eq : Sx.treeAt Try.prog 65 [(2, 66)] [] [(false, 1), (false, 1), (false, 1)] = some tr_esameI := by kernel_rfl

theorem eqf_sameI (A_a : Option Addr) (c_a : Nat) (A_b : Option Addr) (c_b : Nat) (a : List Iv) (b : List Iv) (w : World) (h_a : Sx.Rows Sx.kI (fun _ => True) w A_a a.length c_a a) (h_b : Sx.Rows Sx.kI (fun _ => True) w A_b b.length c_b b) :
    Calls Try.prog 65 #[.slice A_a a.length c_a, .slice A_b b.length c_b, .func (.func 66) #[] #[]] w fun e w' => e = .returned (.bool ((((a.length : Nat) : Int) == ((b.length : Nat) : Int)) && all2 sameI a b)) ∧ Below w.heap.size w w' := by
  have F_a := h_a.start
  have M_a := h_a.le
  clear h_a
  have F_b := h_b.start
  have M_b := h_b.le
  clear h_b
  refine (Sx.runA [(2, 66)] [] (ls := [.slice A_a a.length c_a, .slice A_b b.length c_b, .func (.func 66) #[] #[]]) (shs := [(false, 1), (false, 1), (false, 1)]) (R := fun v _ => v = .bool ((((a.length : Nat) : Int) == ((b.length : Nat) : Int)) && all2 sameI a b)) tr_esameI_eq rfl (by decide) (by simp [Sx.tupV]) ?_).mono (fun e w' ⟨v, he, hv, hb⟩ => ⟨by rw [he, hv], hb⟩)
  unfold tr_esameI
  refine sat_prim (v := .int .i64 ((a.length : Nat) : Int)) (by kernel_rfl) ?_
  refine sat_prim (v := .int .i64 ((b.length : Nat) : Int)) (by kernel_rfl) ?_
  refine sat_prim (v := .bool ((((a.length : Nat) : Int) : Int) != ((b.length : Nat) : Int))) (by kernel_rfl) ?_
  cases hne : ((((a.length : Nat) : Int) : Int) != ((b.length : Nat) : Int))
  · refine sat_false (by kernel_rfl) ?_
    refine sat_prim (v := .int .i64 ((a.length : Nat) : Int)) (by kernel_rfl) ?_
    have hl := eqf_len' hne
    refine sat_loop (fun Kn vs W => ∃ (i : Nat), vs = [.int .i64 ((i : Nat) : Int), .bool false] ∧ Kn = a.length - i ∧ i ≤ a.length ∧ (all2 sameI a b = all2 sameI (a.drop i) (b.drop i))) [.int .i64 0, .bool false] (by kernel_rfl) (fun w1 h1 => ⟨_, 0, rfl, rfl, Nat.zero_le _, rfl⟩) ?_
    rintro Kn vs w2 h2 ⟨i, rfl, rfl, h_i, hm⟩
    replace F_a := F_a.mv h2.mv; replace F_b := F_b.mv h2.mv
    clear h2
    refine sat_prim (v := .bool (decide ((((i : Nat) : Int) : Int) < ((a.length : Nat) : Int)))) (by kernel_rfl) ?_
    cases hlt : (decide ((((i : Nat) : Int) : Int) < ((a.length : Nat) : Int)))
    · refine sat_false (by kernel_rfl) ?_
      exact sat_ret (.bool true) (by kernel_rfl) fun w9 h9 => congrArg Value.bool (eqf_yes hm hlt hl)
    · refine sat_true (by kernel_rfl) ?_
      refine sat_idx (A := A_a) (c := c_a) (kk := .i64) (i) (by kernel_rfl) (by kernel_rfl) (lt_of hlt) F_a.addr fun g4 o4 e4 => ?_
      obtain ⟨x1, h_x1⟩ : ∃ x_, a[(i)]? = some x_ := ⟨_, List.getElem?_eq_getElem (lt_of hlt)⟩
      refine sat_el F_a e4 h_x1 rfl (by kernel_rfl) (by kernel_rfl) (by kernel_rfl) ?_
      rintro _ ⟨A_L2, n_L2, c_L2, B_L2, m_L2, k_L2, rfl, r_L2l, r_L2h⟩
      refine sat_chkB (by kernel_rfl) ?_
      refine sat_idx (A := A_b) (c := c_b) (kk := .i64) (i) (by kernel_rfl) (by kernel_rfl) (by have := lt_of hlt; omega) F_b.addr fun g5 o5 e5 => ?_
      obtain ⟨x3, h_x3⟩ : ∃ x_, b[(i)]? = some x_ := ⟨_, List.getElem?_eq_getElem (by have := lt_of hlt; omega)⟩
      refine sat_el F_b e5 h_x3 rfl (by kernel_rfl) (by kernel_rfl) (by kernel_rfl) ?_
      rintro _ ⟨A_L4, n_L4, c_L4, B_L4, m_L4, k_L4, rfl, r_L4l, r_L4h⟩
      refine sat_chkB (by kernel_rfl) ?_
      refine sat_call #[.agg #[.bool x1.lo.neg, .slice A_L2 n_L2 c_L2, .int .i64 x1.lo.e, .bool x1.hi.neg, .slice B_L2 m_L2 k_L2, .int .i64 x1.hi.e], .agg #[.bool x3.lo.neg, .slice A_L4 n_L4 c_L4, .int .i64 x3.lo.e, .bool x3.hi.neg, .slice B_L4 m_L4 k_L4, .int .i64 x3.hi.e]] (by kernel_rfl) fun w6 h6 => ?_
      refine (sameI_any _ _ x1 x3 _ (mkI (h6.rdD r_L2l) (h6.rdD r_L2h)) (mkI (h6.rdD r_L4l) (h6.rdD r_L4h))).mono ?_
      rintro e v6 ⟨rfl, hb6⟩
      refine ⟨hb6, [.bool (sameI x1 x3)], _, rfl, by kernel_rfl, by kernel_rfl, fun g6 => ?_⟩
      replace F_a := F_a.mv g6.mv; replace F_b := F_b.mv g6.mv; replace r_L2l := g6.rdD r_L2l; replace r_L2h := g6.rdD r_L2h; replace r_L4l := g6.rdD r_L4l; replace r_L4h := g6.rdD r_L4h
      clear h6 hb6
      refine sat_prim (v := .bool (!(sameI x1 x3))) (by kernel_rfl) ?_
      cases hf : (sameI x1 x3)
      · refine sat_true (by kernel_rfl) ?_
        exact sat_ret (.bool false) (by kernel_rfl) fun w9 h9 => congrArg Value.bool (eqf_no hm h_x1 h_x3 hf)
      · refine sat_false (by kernel_rfl) ?_
        refine sat_prim (v := .int .i64 (((i + 1 : Nat)) : Int)) (Eq.trans (b := some (.int .i64 (IntKind.i64.wrap ((((i) : Nat) : Int) + 1)))) (by kernel_rfl) (by rw [Sx.wrap_succ (n := a.length) (lt_of hlt) M_a])) ?_
        exact sat_back [.int .i64 (((i + 1 : Nat)) : Int), .bool false] (by kernel_rfl) fun w9 h9 => ⟨_, by have := lt_of hlt; omega, i + 1, rfl, rfl, by have := lt_of hlt; omega, eqf_step hm h_x1 h_x3 hf⟩
  · refine sat_true (by kernel_rfl) ?_
    exact sat_ret (.bool false) (by kernel_rfl) fun w9 h9 => congrArg Value.bool (eqf_len hne)

def tr_esameD : Sx.Tree := .prim .len [.lf 0] (.prim .len [.lf 1] (.prim (.bin .neq) [.lf 3, .lf 4] (.ite (.lf 5) (.ret (.one (.bit false))) (.prim .len [.lf 0] (.loop 0 [.num .i64 0, .bit false] (.prim (.bin .lss) [.lf 7, .lf 6] (.ite (.lf 9) (.prim (.idx 3) [.lf 0, .lf 7] (.load 24 (.lf 10) (.ag 3) (.chk [.lf 11, .lf 12, .lf 13] (.prim (.idx 3) [.lf 1, .lf 7] (.load 24 (.lf 14) (.ag 3) (.chk [.lf 15, .lf 16, .lf 17] (.call 71 [.ag [.lf 11, .lf 12, .lf 13], .ag [.lf 15, .lf 16, .lf 17]] .one (.prim .not [.lf 18] (.ite (.lf 19) (.ret (.one (.bit false))) (.prim (.bin .add) [.lf 7, .num .i64 1] (.back 0 [.lf 20, .lf 8]))))))))))) (.ret (.one (.bit true))))))))))
theorem tr_esameD_eq : Sx.treeAt Try.prog 85 [(2, 71)] [] [(false, 1), (false, 1), (false, 1)] = some tr_esameD := by kernel_rfl

theorem eqf_sameD (A_a : Option Addr) (c_a : Nat) (A_b : Option Addr) (c_b : Nat) (a : List Dy) (b : List Dy) (w : World) (h_a : Sx.Rows Sx.kD (fun _ => True) w A_a a.length c_a a) (h_b : Sx.Rows Sx.kD (fun _ => True) w A_b b.length c_b b) :
    Calls Try.prog 85 #[.slice A_a a.length c_a, .slice A_b b.length c_b, .func (.func 71) #[] #[]] w fun e w' => e = .returned (.bool ((((a.length : Nat) : Int) == ((b.length : Nat) : Int)) && all2 sameD a b)) ∧ Below w.heap.size w w' := by
  have F_a := h_a.start
  have M_a := h_a.le
  clear h_a
  have F_b := h_b.start
  have M_b := h_b.le
  clear h_b
  refine (Sx.runA [(2, 71)] [] (ls := [.slice A_a a.length c_a, .slice A_b b.length c_b, .func (.func 71) #[] #[]]) (shs := [(false, 1), (false, 1), (false, 1)]) (R := fun v _ => v = .bool ((((a.length : Nat) : Int) == ((b.length : Nat) : Int)) && all2 sameD a b)) tr_esameD_eq rfl (by decide) (by simp [Sx.tupV]) ?_).mono (fun e w' ⟨v, he, hv, hb⟩ => ⟨by rw [he, hv], hb⟩)
  unfold tr_esameD
  refine sat_prim (v := .int .i64 ((a.length : Nat) : Int)) (by kernel_rfl) ?_
  refine sat_prim (v := .int .i64 ((b.length : Nat) : Int)) (by kernel_rfl) ?_
  refine sat_prim (v := .bool ((((a.length : Nat) : Int) : Int) != ((b.length : Nat) : Int))) (by kernel_rfl) ?_
  cases hne : ((((a.length : Nat) : Int) : Int) != ((b.length : Nat) : Int))
  · refine sat_false (by kernel_rfl) ?_
    refine sat_prim (v := .int .i64 ((a.length : Nat) : Int)) (by kernel_rfl) ?_
    have hl := eqf_len' hne
    refine sat_loop (fun Kn vs W => ∃ (i : Nat), vs = [.int .i64 ((i : Nat) : Int), .bool false] ∧ Kn = a.length - i ∧ i ≤ a.length ∧ (all2 sameD a b = all2 sameD (a.drop i) (b.drop i))) [.int .i64 0, .bool false] (by kernel_rfl) (fun w1 h1 => ⟨_, 0, rfl, rfl, Nat.zero_le _, rfl⟩) ?_
    rintro Kn vs w2 h2 ⟨i, rfl, rfl, h_i, hm⟩
    replace F_a := F_a.mv h2.mv; replace F_b := F_b.mv h2.mv
    clear h2
    refine sat_prim (v := .bool (decide ((((i : Nat) : Int) : Int) < ((a.length : Nat) : Int)))) (by kernel_rfl) ?_
    cases hlt : (decide ((((i : Nat) : Int) : Int) < ((a.length : Nat) : Int)))
    · refine sat_false (by kernel_rfl) ?_
      exact sat_ret (.bool true) (by kernel_rfl) fun w9 h9 => congrArg Value.bool (eqf_yes hm hlt hl)
    · refine sat_true (by kernel_rfl) ?_
      refine sat_idx (A := A_a) (c := c_a) (kk := .i64) (i) (by kernel_rfl) (by kernel_rfl) (lt_of hlt) F_a.addr fun g4 o4 e4 => ?_
      obtain ⟨x1, h_x1⟩ : ∃ x_, a[(i)]? = some x_ := ⟨_, List.getElem?_eq_getElem (lt_of hlt)⟩
      refine sat_el F_a e4 h_x1 rfl (by kernel_rfl) (by kernel_rfl) (by kernel_rfl) ?_
      rintro _ ⟨A_L2, n_L2, c_L2, rfl, r_L2⟩
      refine sat_chkB (by kernel_rfl) ?_
      refine sat_idx (A := A_b) (c := c_b) (kk := .i64) (i) (by kernel_rfl) (by kernel_rfl) (by have := lt_of hlt; omega) F_b.addr fun g5 o5 e5 => ?_
      obtain ⟨x3, h_x3⟩ : ∃ x_, b[(i)]? = some x_ := ⟨_, List.getElem?_eq_getElem (by have := lt_of hlt; omega)⟩
      refine sat_el F_b e5 h_x3 rfl (by kernel_rfl) (by kernel_rfl) (by kernel_rfl) ?_
      rintro _ ⟨A_L4, n_L4, c_L4, rfl, r_L4⟩
      refine sat_chkB (by kernel_rfl) ?_
      refine sat_call #[.agg #[.bool x1.neg, .slice A_L2 n_L2 c_L2, .int .i64 x1.e], .agg #[.bool x3.neg, .slice A_L4 n_L4 c_L4, .int .i64 x3.e]] (by kernel_rfl) fun w6 h6 => ?_
      refine (sameD_any _ _ (x1) (x3) _ (h6.rdD r_L2) (h6.rdD r_L4)).mono ?_
      rintro e v6 ⟨rfl, hb6⟩
      refine ⟨hb6, [.bool (sameD x1 x3)], _, rfl, by kernel_rfl, by kernel_rfl, fun g6 => ?_⟩
      replace F_a := F_a.mv g6.mv; replace F_b := F_b.mv g6.mv; replace r_L2 := g6.rdD r_L2; replace r_L4 := g6.rdD r_L4
      clear h6 hb6
      refine sat_prim (v := .bool (!(sameD x1 x3))) (by kernel_rfl) ?_
      cases hf : (sameD x1 x3)
      · refine sat_true (by kernel_rfl) ?_
        exact sat_ret (.bool false) (by kernel_rfl) fun w9 h9 => congrArg Value.bool (eqf_no hm h_x1 h_x3 hf)
      · refine sat_false (by kernel_rfl) ?_
        refine sat_prim (v := .int .i64 (((i + 1 : Nat)) : Int)) (Eq.trans (b := some (.int .i64 (IntKind.i64.wrap ((((i) : Nat) : Int) + 1)))) (by kernel_rfl) (by rw [Sx.wrap_succ (n := a.length) (lt_of hlt) M_a])) ?_
        exact sat_back [.int .i64 (((i + 1 : Nat)) : Int), .bool false] (by kernel_rfl) fun w9 h9 => ⟨_, by have := lt_of hlt; omega, i + 1, rfl, rfl, by have := lt_of hlt; omega, eqf_step hm h_x1 h_x3 hf⟩
  · refine sat_true (by kernel_rfl) ?_
    exact sat_ret (.bool false) (by kernel_rfl) fun w9 h9 => congrArg Value.bool (eqf_len hne)

def tr_rbox : Sx.Tree := .prim .len [.lf 0] (.prim .len [.lf 1] (.prim (.bin .neq) [.lf 2, .lf 3] (.ite (.lf 4) (.ret (.one (.bit false))) (.loop 0 [.num .i64 0, .bit false] (.prim .len [.lf 0] (.prim (.bin .lss) [.lf 5, .lf 7] (.ite (.lf 8) (.prim (.idx 6) [.lf 0, .lf 5] (.load 61 (.lf 9) (.ag 6) (.prim (.idx 6) [.lf 1, .lf 5] (.load 61 (.lf 16) (.ag 6) (.call 84 [.ag [.lf 10, .lf 11, .lf 12, .lf 13, .lf 14, .lf 15], .ag [.lf 17, .lf 18, .lf 19, .lf 20, .lf 21, .lf 22]] .one (.prim .not [.lf 23] (.ite (.lf 24) (.ret (.one (.bit false))) (.prim (.bin .add) [.lf 5, .num .i64 1] (.back 0 [.lf 25, .lf 6]))))))))) (.ret (.one (.bit true))))))))))
theorem tr_rbox_eq : Sx.treeAt Try.prog 61 [] [] [(false, 1), (false, 1)] = some tr_rbox := by kernel_rfl

theorem rsameB_any (A_a : Option Addr) (c_a : Nat) (A_b : Option Addr) (c_b : Nat) (a : List Iv) (b : List Iv) (w : World) (h_a : Sx.Rows Sx.kI (fun _ => True) w A_a a.length c_a a) (h_b : Sx.Rows Sx.kI (fun _ => True) w A_b b.length c_b b) :
    Calls Try.prog 61 #[.slice A_a a.length c_a, .slice A_b b.length c_b] w fun e w' => e = .returned (.bool (sameB a b)) ∧ Below w.heap.size w w' := by
  have F_a := h_a.start
  have M_a := h_a.le
  clear h_a
  have F_b := h_b.start
  have M_b := h_b.le
  clear h_b
  refine (Sx.runA [] [] (ls := [.slice A_a a.length c_a, .slice A_b b.length c_b]) (shs := [(false, 1), (false, 1)]) (R := fun v _ => v = .bool (sameB a b)) tr_rbox_eq rfl (by decide) (fun q h => by cases h) ?_).mono (fun e w' ⟨v, he, hv, hb⟩ => ⟨by rw [he, hv], hb⟩)
  unfold tr_rbox
  refine sat_prim (v := .int .i64 ((a.length : Nat) : Int)) (by kernel_rfl) ?_
  refine sat_prim (v := .int .i64 ((b.length : Nat) : Int)) (by kernel_rfl) ?_
  refine sat_prim (v := .bool ((((a.length : Nat) : Int) : Int) != ((b.length : Nat) : Int))) (by kernel_rfl) ?_
  cases hne : ((((a.length : Nat) : Int) : Int) != ((b.length : Nat) : Int))
  · refine sat_false (by kernel_rfl) ?_
    have hl := eqf_len' hne
    refine sat_loop (fun Kn vs W => ∃ (i : Nat), vs = [.int .i64 ((i : Nat) : Int), .bool false] ∧ Kn = a.length - i ∧ i ≤ a.length ∧ (all2 sameI a b = all2 sameI (a.drop i) (b.drop i))) [.int .i64 0, .bool false] (by kernel_rfl) (fun w1 h1 => ⟨_, 0, rfl, rfl, Nat.zero_le _, rfl⟩) ?_
    rintro Kn vs w2 h2 ⟨i, rfl, rfl, h_i, hm⟩
    replace F_a := F_a.mv h2.mv; replace F_b := F_b.mv h2.mv
    clear h2
    refine sat_prim (v := .int .i64 ((a.length : Nat) : Int)) (by kernel_rfl) ?_
    refine sat_prim (v := .bool (decide ((((i : Nat) : Int) : Int) < ((a.length : Nat) : Int)))) (by kernel_rfl) ?_
    cases hlt : (decide ((((i : Nat) : Int) : Int) < ((a.length : Nat) : Int)))
    · refine sat_false (by kernel_rfl) ?_
      exact sat_ret (.bool true) (by kernel_rfl) fun w9 h9 => congrArg Value.bool (eqf_yes hm hlt hl)
    · refine sat_true (by kernel_rfl) ?_
      refine sat_idx (A := A_a) (c := c_a) (kk := .i64) (i) (by kernel_rfl) (by kernel_rfl) (lt_of hlt) F_a.addr fun g4 o4 e4 => ?_
      obtain ⟨x1, h_x1⟩ : ∃ x_, a[(i)]? = some x_ := ⟨_, List.getElem?_eq_getElem (lt_of hlt)⟩
      refine sat_el F_a e4 h_x1 rfl (by kernel_rfl) (by kernel_rfl) (by kernel_rfl) ?_
      rintro _ ⟨A_L2, n_L2, c_L2, B_L2, m_L2, k_L2, rfl, r_L2l, r_L2h⟩
      refine sat_idx (A := A_b) (c := c_b) (kk := .i64) (i) (by kernel_rfl) (by kernel_rfl) (by have := lt_of hlt; omega) F_b.addr fun g5 o5 e5 => ?_
      obtain ⟨x3, h_x3⟩ : ∃ x_, b[(i)]? = some x_ := ⟨_, List.getElem?_eq_getElem (by have := lt_of hlt; omega)⟩
      refine sat_el F_b e5 h_x3 rfl (by kernel_rfl) (by kernel_rfl) (by kernel_rfl) ?_
      rintro _ ⟨A_L4, n_L4, c_L4, B_L4, m_L4, k_L4, rfl, r_L4l, r_L4h⟩
      refine sat_call #[.agg #[.bool x1.lo.neg, .slice A_L2 n_L2 c_L2, .int .i64 x1.lo.e, .bool x1.hi.neg, .slice B_L2 m_L2 k_L2, .int .i64 x1.hi.e], .agg #[.bool x3.lo.neg, .slice A_L4 n_L4 c_L4, .int .i64 x3.lo.e, .bool x3.hi.neg, .slice B_L4 m_L4 k_L4, .int .i64 x3.hi.e]] (by kernel_rfl) fun w6 h6 => ?_
      refine (rsameI_any _ _ x1 x3 _ (mkI (h6.rdD r_L2l) (h6.rdD r_L2h)) (mkI (h6.rdD r_L4l) (h6.rdD r_L4h))).mono ?_
      rintro e v6 ⟨rfl, hb6⟩
      refine ⟨hb6, [.bool (sameI x1 x3)], _, rfl, by kernel_rfl, by kernel_rfl, fun g6 => ?_⟩
      replace F_a := F_a.mv g6.mv; replace F_b := F_b.mv g6.mv; replace r_L2l := g6.rdD r_L2l; replace r_L2h := g6.rdD r_L2h; replace r_L4l := g6.rdD r_L4l; replace r_L4h := g6.rdD r_L4h
      clear h6 hb6
      refine sat_prim (v := .bool (!(sameI x1 x3))) (by kernel_rfl) ?_
      cases hf : (sameI x1 x3)
      · refine sat_true (by kernel_rfl) ?_
        exact sat_ret (.bool false) (by kernel_rfl) fun w9 h9 => congrArg Value.bool (eqf_no hm h_x1 h_x3 hf)
      · refine sat_false (by kernel_rfl) ?_
        refine sat_prim (v := .int .i64 (((i + 1 : Nat)) : Int)) (Eq.trans (b := some (.int .i64 (IntKind.i64.wrap ((((i) : Nat) : Int) + 1)))) (by kernel_rfl) (by rw [Sx.wrap_succ (n := a.length) (lt_of hlt) M_a])) ?_
        exact sat_back [.int .i64 (((i + 1 : Nat)) : Int), .bool false] (by kernel_rfl) fun w9 h9 => ⟨_, by have := lt_of hlt; omega, i + 1, rfl, rfl, by have := lt_of hlt; omega, eqf_step hm h_x1 h_x3 hf⟩
  · refine sat_true (by kernel_rfl) ?_
    exact sat_ret (.bool false) (by kernel_rfl) fun w9 h9 => congrArg Value.bool (eqf_len hne)

/-- A box and a mark come back; the box is of the call's own making. -/
def BxTup (w0 w : World) (e : Ending) (r : List Iv × Int) : Prop := ∃ (l : List Iv) (x : Int) (A : Option Addr) (c : Nat), e = .returned (.tuple #[.slice A l.length c, .int .i64 x]) ∧ Hid ((l, x) = r) ∧ Sx.Rows Sx.kI (fun g => w0.heap.size ≤ g) w A l.length c l
theorem BxTup.nil {w0 w : World} {x : Int} {r : List Iv × Int} (h : ([], x) = r) : BxTup w0 w (.returned (.tuple #[.slice none 0 0, .int .i64 x])) r := ⟨[], x, none, 0, rfl, hide h, Sx.Rows.nil _ _ _⟩
end Go.Proofs.Ytpkfjfpknbhekaa
