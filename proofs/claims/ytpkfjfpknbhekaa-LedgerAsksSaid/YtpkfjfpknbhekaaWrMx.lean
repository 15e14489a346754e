/- ledger.May, Same, Front, by their trees. Printed by wip/mk_WrM.py. Records that may be, plainly: how many bytes they have at most. Bytes read as records, plainly. -/
import Derived.Test.YtpkfjfpknbhekaaTbAx
import Derived.Test.YtpkfjfpknbhekaaWrPx
namespace Go.Proofs.Ytpkfjfpknbhekaa
open Go.RowKit Pl
open Sx (sat_call sat_chk sat_prim sat_ite sat_true sat_false sat_trueP sat_falseP sat_ret sat_row sat_callP sat_loop sat_back sat_idx sat_el sat_elf sat_elc sat_load sat_rowN sat_app sat_callB sat_alt rows_one rows_two all_nil all_cons okB okS okI)

/-- A record in memory. -/
def RcAt (ok : Nat → Prop) (w : World) (v : Value) (r : Rec) : Prop := ∃ A n a B m b X x Y y, v = .agg #[.int .i64 r.kind, .int .i64 r.epoch, .int .i64 r.code, .bool r.t.neg, .slice A n a, .int .i64 r.t.e, .bool r.h.neg, .slice B m b, .int .i64 r.h.e, .slice X r.boxes.length x, .slice Y r.sigs.length y] ∧
    RdD w (.agg #[.bool r.t.neg, .slice A n a, .int .i64 r.t.e]) r.t ∧ RdD w (.agg #[.bool r.h.neg, .slice B m b, .int .i64 r.h.e]) r.h ∧ Sx.Rows (Sx.kL Sx.kI) ok w X r.boxes.length x r.boxes ∧ Sx.Rows (Sx.kL Sx.kT) ok w Y r.sigs.length y r.sigs
theorem mkRc {ok : Nat → Prop} {w : World} {r : Rec} {A : Option Addr} {n a : Nat} {B : Option Addr} {m b : Nat} {X : Option Addr} {x : Nat} {Y : Option Addr} {y : Nat} (h1 : RdD w (.agg #[.bool r.t.neg, .slice A n a, .int .i64 r.t.e]) r.t) (h2 : RdD w (.agg #[.bool r.h.neg, .slice B m b, .int .i64 r.h.e]) r.h) (h3 : Sx.Rows (Sx.kL Sx.kI) ok w X r.boxes.length x r.boxes) (h4 : Sx.Rows (Sx.kL Sx.kT) ok w Y r.sigs.length y r.sigs) :
    RcAt ok w (.agg #[.int .i64 r.kind, .int .i64 r.epoch, .int .i64 r.code, .bool r.t.neg, .slice A n a, .int .i64 r.t.e, .bool r.h.neg, .slice B m b, .int .i64 r.h.e, .slice X r.boxes.length x, .slice Y r.sigs.length y]) r :=
  ⟨A, n, a, B, m, b, X, x, Y, y, rfl, h1, h2, h3, h4⟩
def okLI (l : List Iv) : Bool := !(decide ((64 : Int) < ((l.length : Nat) : Int))) && l.all mayI
def okLT (l : List Tb) : Bool := !(decide ((64 : Int) < ((l.length : Nat) : Int))) && l.all mayT
def mayR (r : Rec) : Bool := !(decide (r.kind < 1)) && (!(decide ((3 : Int) < r.kind)) && (!(decide (r.epoch < 0)) && (!(decide ((1073741824 : Int) < r.epoch)) && (!(decide (r.code < 0)) && (!(decide ((200 : Int) < r.code)) && (mayD r.t && (mayD r.h && (!(decide ((16 : Int) < ((r.boxes.length : Nat) : Int))) && (!(decide ((16 : Int) < ((r.sigs.length : Nat) : Int))) && (r.boxes.all okLI && r.sigs.all okLT))))))))))
def sameL {α : Type} (f : α → α → Bool) (a b : List α) : Bool := (((a.length : Nat) : Int) == ((b.length : Nat) : Int)) && all2 f a b
def sameRc (a b : Rec) : Bool := sameL (sameL sameI) a.boxes b.boxes && (sameL (sameL sameT) a.sigs b.sigs && ((a.kind == b.kind) && ((a.epoch == b.epoch) && ((a.code == b.code) && (sameD a.t b.t && sameD a.h b.h)))))
def frontR (a b : List Rec) : Bool := decide (((a.length : Nat) : Int) ≤ ((b.length : Nat) : Int)) && sameL sameRc a (b.take a.length)
section
variable {α : Type} {p : α → Bool} {l : List α} {i : Nat} {x : α}
theorem allp_cons (hx : l[i]? = some x) : (l.drop i).all p = (p x && (l.drop (i + 1)).all p) := by rw [drop_cons hx]; rfl
theorem allp_no (hm : l.all p = (l.drop i).all p) (hx : l[i]? = some x) (h : p x = false) : l.all p = false := by rw [hm, allp_cons hx, h]; rfl
theorem allp_step (hm : l.all p = (l.drop i).all p) (hx : l[i]? = some x) (h : p x = true) : l.all p = (l.drop (i + 1)).all p := by rw [hm, allp_cons hx, h]; rfl
theorem allp_end (hm : l.all p = (l.drop i).all p) (hlt : decide ((i : Int) < (l.length : Int)) = false) : l.all p = true := by rw [hm, drop_end hlt]; rfl
theorem idxp_yes (hm : l.all p = (l.drop i).all p) (hx : l[i]? = some x) (h : p x = false) : decide ((0 : Int) ≤ ((i : Nat) : Int)) = !(l.all p) := by rw [allp_no hm hx h, decide_eq_true (by omega)]; rfl
theorem idxp_no (hm : l.all p = (l.drop i).all p) (hlt : decide ((i : Int) < (l.length : Int)) = false) : decide ((0 : Int) ≤ (-1 : Int)) = !(l.all p) := by rw [allp_end hm hlt]; rfl
end
theorem cut0 {α : Type} {k : Sx.Kind α} {ok : Nat → Prop} {w : World} {A : Option Addr} {c n : Nat} {l : List α} (h : Sx.Rows k ok w A l.length c l) (hn : n ≤ l.length) : ∃ B c', Sx.cutV k.sz A c 0 (n : Int) = some (.slice B (l.take n).length c') ∧ Sx.Rows k ok w B (l.take n).length c' (l.take n) := by
  obtain ⟨B, h1, h2⟩ := h.cut (Nat.zero_le n) hn
  rw [List.length_take, Nat.min_eq_left hn]
  exact ⟨B, _, h1, h2⟩

def tr_lmay1 : Sx.Tree := .chk [.lf 0, .lf 1, .lf 2, .lf 3, .lf 4, .lf 5] (.call 35 [.ag [.lf 0, .lf 1, .lf 2, .lf 3, .lf 4, .lf 5]] .one (.prim .not [.lf 6] (.ret (.one (.lf 7)))))
theorem tr_lmay1_eq : Sx.treeAt Try.prog 34 [] [] [(true, 6)] = some tr_lmay1 := by kernel_rfl

theorem lmay1_any (v_a : Value) (a : Iv) (w : World) (h_a : RdI w v_a a) :
    Calls Try.prog 34 #[v_a] w fun e w' => e = .returned (.bool (!(mayI a))) ∧ Below w.heap.size w w' := by
  obtain ⟨A_a, n_a, c_a, B_a, m_a, k_a, rfl, r_al, r_ah⟩ := h_a
  refine (Sx.runA [] [] (ls := [.bool a.lo.neg, .slice A_a n_a c_a, .int .i64 a.lo.e, .bool a.hi.neg, .slice B_a m_a k_a, .int .i64 a.hi.e]) (shs := [(true, 6)]) (R := fun v _ => v = .bool (!(mayI a))) tr_lmay1_eq rfl (by decide) (fun q h => by cases h) ?_).mono (fun e w' ⟨v, he, hv, hb⟩ => ⟨by rw [he, hv], hb⟩)
  unfold tr_lmay1
  refine sat_chkB (by kernel_rfl) ?_
  refine sat_call #[.agg #[.bool a.lo.neg, .slice A_a n_a c_a, .int .i64 a.lo.e, .bool a.hi.neg, .slice B_a m_a k_a, .int .i64 a.hi.e]] (by kernel_rfl) fun w1 h1 => ?_
  refine (mayI_any _ a _ (mkI (h1.rdD r_al) (h1.rdD r_ah))).mono ?_
  rintro e v1 ⟨rfl, hb1⟩
  refine ⟨hb1, [.bool (mayI a)], _, rfl, by kernel_rfl, by kernel_rfl, fun g1 => ?_⟩
  replace r_al := g1.rdD r_al; replace r_ah := g1.rdD r_ah
  clear h1 hb1
  refine sat_prim (v := .bool (!(mayI a))) (by kernel_rfl) ?_
  exact sat_ret (.bool (!(mayI a))) (by kernel_rfl) fun w9 h9 => rfl

def tr_lcix : Sx.Tree := .prim .len [.lf 0] (.loop 0 [.num .i64 0, .num .i64 0] (.prim (.bin .lss) [.lf 3, .lf 2] (.ite (.lf 5) (.prim (.idx 6) [.lf 0, .lf 3] (.load 61 (.lf 6) (.ag 6) (.call 34 [.ag [.lf 7, .lf 8, .lf 9, .lf 10, .lf 11, .lf 12]] .one (.ite (.lf 13) (.ret (.one (.lf 3))) (.prim (.bin .add) [.lf 3, .num .i64 1] (.back 0 [.lf 14, .lf 4])))))) (.ret (.one (.num .i64 ((-1))))))))
theorem tr_lcix_eq : Sx.treeAt Try.prog 77 [(1, 34)] [] [(false, 1), (false, 1)] = some tr_lcix := by kernel_rfl

theorem lcontI_ix (A_l : Option Addr) (c_l : Nat) (l : List Iv) (w : World) (h_l : Sx.Rows Sx.kI (fun _ => True) w A_l l.length c_l l) :
    Calls Try.prog 77 #[.slice A_l l.length c_l, .func (.func 34) #[] #[]] w fun e w' => (∃ k : Int, e = .returned (.int .i64 k) ∧ decide ((0 : Int) ≤ k) = !(l.all mayI)) ∧ Below w.heap.size w w' := by
  have F_l := h_l.start
  have M_l := h_l.le
  clear h_l
  refine (Sx.runA [(1, 34)] [] (ls := [.slice A_l l.length c_l, .func (.func 34) #[] #[]]) (shs := [(false, 1), (false, 1)]) (R := fun v _ => ∃ k : Int, v = .int .i64 k ∧ decide ((0 : Int) ≤ k) = !(l.all mayI)) tr_lcix_eq rfl (by decide) (by simp [Sx.tupV]) ?_).mono (fun e w' ⟨v, he, ⟨k, hv, hk⟩, hb⟩ => ⟨⟨k, by rw [he, hv], hk⟩, hb⟩)
  unfold tr_lcix
  refine sat_prim (v := .int .i64 ((l.length : Nat) : Int)) (by kernel_rfl) ?_
  refine sat_loop (fun Kn vs W => ∃ (i : Nat), vs = [.int .i64 ((i : Nat) : Int), .int .i64 0] ∧ Kn = l.length - i ∧ i ≤ l.length ∧ (l.all mayI = (l.drop i).all mayI)) [.int .i64 0, .int .i64 0] (by kernel_rfl) (fun w1 h1 => ⟨_, 0, rfl, rfl, Nat.zero_le _, rfl⟩) ?_
  rintro Kn vs w1 h1 ⟨i, rfl, rfl, h_i, hm⟩
  replace F_l := F_l.mv h1.mv
  clear h1
  refine sat_prim (v := .bool (decide ((((i : Nat) : Int) : Int) < ((l.length : Nat) : Int)))) (by kernel_rfl) ?_
  cases hlt : (decide ((((i : Nat) : Int) : Int) < ((l.length : Nat) : Int)))
  · refine sat_false (by kernel_rfl) ?_
    exact sat_ret (.int .i64 (-1)) (by kernel_rfl) fun w9 h9 => ⟨_, rfl, idxp_no hm hlt⟩
  · refine sat_true (by kernel_rfl) ?_
    refine sat_idx (A := A_l) (c := c_l) (kk := .i64) (i) (by kernel_rfl) (by kernel_rfl) (lt_of hlt) F_l.addr fun g3 o3 e3 => ?_
    obtain ⟨x1, h_x1⟩ : ∃ x_, l[(i)]? = some x_ := ⟨_, List.getElem?_eq_getElem (lt_of hlt)⟩
    refine sat_el F_l e3 h_x1 rfl (by kernel_rfl) (by kernel_rfl) (by kernel_rfl) ?_
    rintro _ ⟨A_L2, n_L2, c_L2, B_L2, m_L2, k_L2, rfl, r_L2l, r_L2h⟩
    refine sat_call #[.agg #[.bool x1.lo.neg, .slice A_L2 n_L2 c_L2, .int .i64 x1.lo.e, .bool x1.hi.neg, .slice B_L2 m_L2 k_L2, .int .i64 x1.hi.e]] (by kernel_rfl) fun w4 h4 => ?_
    refine (lmay1_any _ x1 _ (mkI (h4.rdD r_L2l) (h4.rdD r_L2h))).mono ?_
    rintro e v4 ⟨rfl, hb4⟩
    refine ⟨hb4, [.bool (!(mayI x1))], _, rfl, by kernel_rfl, by kernel_rfl, fun g4 => ?_⟩
    replace F_l := F_l.mv g4.mv; replace r_L2l := g4.rdD r_L2l; replace r_L2h := g4.rdD r_L2h
    clear h4 hb4
    cases hp : (mayI x1)
    · refine sat_true (by kernel_rfl) ?_
      exact sat_ret (.int .i64 ((i : Nat) : Int)) (by kernel_rfl) fun w9 h9 => ⟨_, rfl, idxp_yes hm h_x1 hp⟩
    · refine sat_false (by kernel_rfl) ?_
      refine sat_prim (v := .int .i64 (((i + 1 : Nat)) : Int)) (Eq.trans (b := some (.int .i64 (IntKind.i64.wrap ((((i) : Nat) : Int) + 1)))) (by kernel_rfl) (by rw [Sx.wrap_succ (n := l.length) (lt_of hlt) M_l])) ?_
      exact sat_back [.int .i64 (((i + 1 : Nat)) : Int), .int .i64 0] (by kernel_rfl) fun w9 h9 => ⟨_, by have := lt_of hlt; omega, i + 1, rfl, rfl, by have := lt_of hlt; omega, allp_step hm h_x1 hp⟩

def tr_lcic : Sx.Tree := .call 77 [.one (.lf 0), .one (.fn 34)] .one (.prim (.bin .geq) [.lf 2, .num .i64 0] (.ret (.one (.lf 3))))
theorem tr_lcic_eq : Sx.treeAt Try.prog 33 [(1, 34)] [] [(false, 1), (false, 1)] = some tr_lcic := by kernel_rfl

theorem lcontI (A_l : Option Addr) (c_l : Nat) (l : List Iv) (w : World) (h_l : Sx.Rows Sx.kI (fun _ => True) w A_l l.length c_l l) :
    Calls Try.prog 33 #[.slice A_l l.length c_l, .func (.func 34) #[] #[]] w fun e w' => e = .returned (.bool (!(l.all mayI))) ∧ Below w.heap.size w w' := by
  have F_l := h_l.start
  have M_l := h_l.le
  clear h_l
  refine (Sx.runA [(1, 34)] [] (ls := [.slice A_l l.length c_l, .func (.func 34) #[] #[]]) (shs := [(false, 1), (false, 1)]) (R := fun v _ => v = .bool (!(l.all mayI))) tr_lcic_eq rfl (by decide) (by simp [Sx.tupV]) ?_).mono (fun e w' ⟨v, he, hv, hb⟩ => ⟨by rw [he, hv], hb⟩)
  unfold tr_lcic
  refine sat_call #[.slice A_l l.length c_l, .func (.func 34) #[] #[]] (by kernel_rfl) fun w1 h1 => ?_
  refine (lcontI_ix _ _ l _ ((F_l.mv h1.mv).any)).mono ?_
  rintro e v1 ⟨⟨k1, rfl, h_k1⟩, hb1⟩
  refine ⟨hb1, [.int .i64 k1], _, rfl, by kernel_rfl, by kernel_rfl, fun g1 => ?_⟩
  replace F_l := F_l.mv g1.mv
  clear h1 hb1
  refine sat_prim (v := .bool (decide ((0 : Int) ≤ k1))) (by kernel_rfl) ?_
  exact sat_ret (.bool (decide ((0 : Int) ≤ k1))) (by kernel_rfl) fun w9 h9 => congrArg Value.bool h_k1

def tr_lmay21 : Sx.Tree := .chk [.lf 0, .lf 1] (.call 40 [.ag [.lf 0, .lf 1]] .one (.prim .not [.lf 2] (.ret (.one (.lf 3)))))
theorem tr_lmay21_eq : Sx.treeAt Try.prog 39 [] [] [(true, 2)] = some tr_lmay21 := by kernel_rfl

theorem lmay21_any (A_t : Option Addr) (c_t : Nat) (B_t : Option Addr) (d_t : Nat) (t : Tb) (w : World) (h_t1 : Sx.Rows Sx.kD (fun _ => True) w A_t t.at_.length c_t t.at_) (h_t2 : Sx.Rows Sx.kI (fun _ => True) w B_t t.v.length d_t t.v) :
    Calls Try.prog 39 #[.agg #[.slice A_t t.at_.length c_t, .slice B_t t.v.length d_t]] w fun e w' => e = .returned (.bool (!(mayT t))) ∧ Below w.heap.size w w' := by
  have F_t1 := h_t1.start
  have M_t1 := h_t1.le
  clear h_t1
  have F_t2 := h_t2.start
  have M_t2 := h_t2.le
  clear h_t2
  refine (Sx.runA [] [] (ls := [.slice A_t t.at_.length c_t, .slice B_t t.v.length d_t]) (shs := [(true, 2)]) (R := fun v _ => v = .bool (!(mayT t))) tr_lmay21_eq rfl (by decide) (fun q h => by cases h) ?_).mono (fun e w' ⟨v, he, hv, hb⟩ => ⟨by rw [he, hv], hb⟩)
  unfold tr_lmay21
  refine sat_chkB (by kernel_rfl) ?_
  refine sat_call #[.agg #[.slice A_t t.at_.length c_t, .slice B_t t.v.length d_t]] (by kernel_rfl) fun w1 h1 => ?_
  refine (mayT_any _ _ _ _ t _ ((F_t1.mv h1.mv).any) ((F_t2.mv h1.mv).any)).mono ?_
  rintro e v1 ⟨rfl, hb1⟩
  refine ⟨hb1, [.bool (mayT t)], _, rfl, by kernel_rfl, by kernel_rfl, fun g1 => ?_⟩
  replace F_t1 := F_t1.mv g1.mv; replace F_t2 := F_t2.mv g1.mv
  clear h1 hb1
  refine sat_prim (v := .bool (!(mayT t))) (by kernel_rfl) ?_
  exact sat_ret (.bool (!(mayT t))) (by kernel_rfl) fun w9 h9 => rfl

def tr_lctx : Sx.Tree := .prim .len [.lf 0] (.loop 0 [.num .i64 0, .num .i64 0] (.prim (.bin .lss) [.lf 3, .lf 2] (.ite (.lf 5) (.prim (.idx 2) [.lf 0, .lf 3] (.load 50 (.lf 6) (.ag 2) (.call 39 [.ag [.lf 7, .lf 8]] .one (.ite (.lf 9) (.ret (.one (.lf 3))) (.prim (.bin .add) [.lf 3, .num .i64 1] (.back 0 [.lf 10, .lf 4])))))) (.ret (.one (.num .i64 ((-1))))))))
theorem tr_lctx_eq : Sx.treeAt Try.prog 80 [(1, 39)] [] [(false, 1), (false, 1)] = some tr_lctx := by kernel_rfl

theorem lcontT_ix (A_l : Option Addr) (c_l : Nat) (l : List Tb) (w : World) (h_l : Sx.Rows Sx.kT (fun _ => True) w A_l l.length c_l l) :
    Calls Try.prog 80 #[.slice A_l l.length c_l, .func (.func 39) #[] #[]] w fun e w' => (∃ k : Int, e = .returned (.int .i64 k) ∧ decide ((0 : Int) ≤ k) = !(l.all mayT)) ∧ Below w.heap.size w w' := by
  have F_l := h_l.start
  have M_l := h_l.le
  clear h_l
  refine (Sx.runA [(1, 39)] [] (ls := [.slice A_l l.length c_l, .func (.func 39) #[] #[]]) (shs := [(false, 1), (false, 1)]) (R := fun v _ => ∃ k : Int, v = .int .i64 k ∧ decide ((0 : Int) ≤ k) = !(l.all mayT)) tr_lctx_eq rfl (by decide) (by simp [Sx.tupV]) ?_).mono (fun e w' ⟨v, he, ⟨k, hv, hk⟩, hb⟩ => ⟨⟨k, by rw [he, hv], hk⟩, hb⟩)
  unfold tr_lctx
  refine sat_prim (v := .int .i64 ((l.length : Nat) : Int)) (by kernel_rfl) ?_
  refine sat_loop (fun Kn vs W => ∃ (i : Nat), vs = [.int .i64 ((i : Nat) : Int), .int .i64 0] ∧ Kn = l.length - i ∧ i ≤ l.length ∧ (l.all mayT = (l.drop i).all mayT)) [.int .i64 0, .int .i64 0] (by kernel_rfl) (fun w1 h1 => ⟨_, 0, rfl, rfl, Nat.zero_le _, rfl⟩) ?_
  rintro Kn vs w1 h1 ⟨i, rfl, rfl, h_i, hm⟩
  replace F_l := F_l.mv h1.mv
  clear h1
  refine sat_prim (v := .bool (decide ((((i : Nat) : Int) : Int) < ((l.length : Nat) : Int)))) (by kernel_rfl) ?_
  cases hlt : (decide ((((i : Nat) : Int) : Int) < ((l.length : Nat) : Int)))
  · refine sat_false (by kernel_rfl) ?_
    exact sat_ret (.int .i64 (-1)) (by kernel_rfl) fun w9 h9 => ⟨_, rfl, idxp_no hm hlt⟩
  · refine sat_true (by kernel_rfl) ?_
    refine sat_idx (A := A_l) (c := c_l) (kk := .i64) (i) (by kernel_rfl) (by kernel_rfl) (lt_of hlt) F_l.addr fun g3 o3 e3 => ?_
    obtain ⟨x1, h_x1⟩ : ∃ x_, l[(i)]? = some x_ := ⟨_, List.getElem?_eq_getElem (lt_of hlt)⟩
    refine sat_el F_l e3 h_x1 rfl (by kernel_rfl) (by kernel_rfl) (by kernel_rfl) ?_
    rintro _ ⟨A_L2, _, c_L2, B_L2, _, d_L2, rfl, F_L21, F_L22⟩
    obtain rfl := F_L21.len
    obtain rfl := F_L22.len
    refine sat_call #[.agg #[.slice A_L2 x1.at_.length c_L2, .slice B_L2 x1.v.length d_L2]] (by kernel_rfl) fun w4 h4 => ?_
    refine (lmay21_any _ _ _ _ x1 _ ((F_L21.mv h4.mv).any) ((F_L22.mv h4.mv).any)).mono ?_
    rintro e v4 ⟨rfl, hb4⟩
    refine ⟨hb4, [.bool (!(mayT x1))], _, rfl, by kernel_rfl, by kernel_rfl, fun g4 => ?_⟩
    replace F_l := F_l.mv g4.mv; replace F_L21 := F_L21.mv g4.mv; replace F_L22 := F_L22.mv g4.mv
    clear h4 hb4
    cases hp : (mayT x1)
    · refine sat_true (by kernel_rfl) ?_
      exact sat_ret (.int .i64 ((i : Nat) : Int)) (by kernel_rfl) fun w9 h9 => ⟨_, rfl, idxp_yes hm h_x1 hp⟩
    · refine sat_false (by kernel_rfl) ?_
      refine sat_prim (v := .int .i64 (((i + 1 : Nat)) : Int)) (Eq.trans (b := some (.int .i64 (IntKind.i64.wrap ((((i) : Nat) : Int) + 1)))) (by kernel_rfl) (by rw [Sx.wrap_succ (n := l.length) (lt_of hlt) M_l])) ?_
      exact sat_back [.int .i64 (((i + 1 : Nat)) : Int), .int .i64 0] (by kernel_rfl) fun w9 h9 => ⟨_, by have := lt_of hlt; omega, i + 1, rfl, rfl, by have := lt_of hlt; omega, allp_step hm h_x1 hp⟩

def tr_lctc : Sx.Tree := .call 80 [.one (.lf 0), .one (.fn 39)] .one (.prim (.bin .geq) [.lf 2, .num .i64 0] (.ret (.one (.lf 3))))
theorem tr_lctc_eq : Sx.treeAt Try.prog 38 [(1, 39)] [] [(false, 1), (false, 1)] = some tr_lctc := by kernel_rfl

theorem lcontT (A_l : Option Addr) (c_l : Nat) (l : List Tb) (w : World) (h_l : Sx.Rows Sx.kT (fun _ => True) w A_l l.length c_l l) :
    Calls Try.prog 38 #[.slice A_l l.length c_l, .func (.func 39) #[] #[]] w fun e w' => e = .returned (.bool (!(l.all mayT))) ∧ Below w.heap.size w w' := by
  have F_l := h_l.start
  have M_l := h_l.le
  clear h_l
  refine (Sx.runA [(1, 39)] [] (ls := [.slice A_l l.length c_l, .func (.func 39) #[] #[]]) (shs := [(false, 1), (false, 1)]) (R := fun v _ => v = .bool (!(l.all mayT))) tr_lctc_eq rfl (by decide) (by simp [Sx.tupV]) ?_).mono (fun e w' ⟨v, he, hv, hb⟩ => ⟨by rw [he, hv], hb⟩)
  unfold tr_lctc
  refine sat_call #[.slice A_l l.length c_l, .func (.func 39) #[] #[]] (by kernel_rfl) fun w1 h1 => ?_
  refine (lcontT_ix _ _ l _ ((F_l.mv h1.mv).any)).mono ?_
  rintro e v1 ⟨⟨k1, rfl, h_k1⟩, hb1⟩
  refine ⟨hb1, [.int .i64 k1], _, rfl, by kernel_rfl, by kernel_rfl, fun g1 => ?_⟩
  replace F_l := F_l.mv g1.mv
  clear h1 hb1
  refine sat_prim (v := .bool (decide ((0 : Int) ≤ k1))) (by kernel_rfl) ?_
  exact sat_ret (.bool (decide ((0 : Int) ≤ k1))) (by kernel_rfl) fun w9 h9 => congrArg Value.bool h_k1

def tr_lmay2 : Sx.Tree := .prim .len [.lf 0] (.prim (.bin .gtr) [.lf 1, .num .i64 64] (.ite (.lf 2) (.ret (.one (.bit true))) (.call 38 [.one (.lf 0), .one (.fn 39)] .one (.ret (.one (.lf 3))))))
theorem tr_lmay2_eq : Sx.treeAt Try.prog 37 [] [] [(false, 1)] = some tr_lmay2 := by kernel_rfl

theorem lmay2_any (A_l : Option Addr) (c_l : Nat) (l : List Tb) (w : World) (h_l : Sx.Rows Sx.kT (fun _ => True) w A_l l.length c_l l) :
    Calls Try.prog 37 #[.slice A_l l.length c_l] w fun e w' => e = .returned (.bool (!(okLT l))) ∧ Below w.heap.size w w' := by
  have F_l := h_l.start
  have M_l := h_l.le
  clear h_l
  refine (Sx.runA [] [] (ls := [.slice A_l l.length c_l]) (shs := [(false, 1)]) (R := fun v _ => v = .bool (!(okLT l))) tr_lmay2_eq rfl (by decide) (fun q h => by cases h) ?_).mono (fun e w' ⟨v, he, hv, hb⟩ => ⟨by rw [he, hv], hb⟩)
  unfold tr_lmay2
  refine sat_prim (v := .int .i64 ((l.length : Nat) : Int)) (by kernel_rfl) ?_
  refine sat_prim (v := .bool (decide ((64 : Int) < ((l.length : Nat) : Int)))) (by kernel_rfl) ?_
  cases hl : (decide ((64 : Int) < ((l.length : Nat) : Int)))
  · refine sat_false (by kernel_rfl) ?_
    refine sat_call #[.slice A_l l.length c_l, .func (.func 39) #[] #[]] (by kernel_rfl) fun w2 h2 => ?_
    refine (lcontT _ _ l _ ((F_l.mv h2.mv).any)).mono ?_
    rintro e v2 ⟨rfl, hb2⟩
    refine ⟨hb2, [.bool (!(l.all mayT))], _, rfl, by kernel_rfl, by kernel_rfl, fun g2 => ?_⟩
    replace F_l := F_l.mv g2.mv
    clear h2 hb2
    exact sat_ret (.bool (!(l.all mayT))) (by kernel_rfl) fun w9 h9 => congrArg Value.bool (by unfold okLT; rw [hl]; rfl)
  · refine sat_true (by kernel_rfl) ?_
    exact sat_ret (.bool true) (by kernel_rfl) fun w9 h9 => congrArg Value.bool (by unfold okLT; rw [hl]; rfl)

def tr_lcltx : Sx.Tree := .prim .len [.lf 0] (.loop 0 [.num .i64 0, .num .i64 0] (.prim (.bin .lss) [.lf 3, .lf 2] (.ite (.lf 5) (.prim (.idx 1) [.lf 0, .lf 3] (.load 46 (.lf 6) .one (.call 37 [.one (.lf 7)] .one (.ite (.lf 8) (.ret (.one (.lf 3))) (.prim (.bin .add) [.lf 3, .num .i64 1] (.back 0 [.lf 9, .lf 4])))))) (.ret (.one (.num .i64 ((-1))))))))
theorem tr_lcltx_eq : Sx.treeAt Try.prog 79 [(1, 37)] [] [(false, 1), (false, 1)] = some tr_lcltx := by kernel_rfl

theorem lcontLT_ix (A_l : Option Addr) (c_l : Nat) (l : List (List Tb)) (w : World) (h_l : Sx.Rows (Sx.kL Sx.kT) (fun _ => True) w A_l l.length c_l l) :
    Calls Try.prog 79 #[.slice A_l l.length c_l, .func (.func 37) #[] #[]] w fun e w' => (∃ k : Int, e = .returned (.int .i64 k) ∧ decide ((0 : Int) ≤ k) = !(l.all okLT)) ∧ Below w.heap.size w w' := by
  have F_l := h_l.start
  have M_l := h_l.le
  clear h_l
  refine (Sx.runA [(1, 37)] [] (ls := [.slice A_l l.length c_l, .func (.func 37) #[] #[]]) (shs := [(false, 1), (false, 1)]) (R := fun v _ => ∃ k : Int, v = .int .i64 k ∧ decide ((0 : Int) ≤ k) = !(l.all okLT)) tr_lcltx_eq rfl (by decide) (by simp [Sx.tupV]) ?_).mono (fun e w' ⟨v, he, ⟨k, hv, hk⟩, hb⟩ => ⟨⟨k, by rw [he, hv], hk⟩, hb⟩)
  unfold tr_lcltx
  refine sat_prim (v := .int .i64 ((l.length : Nat) : Int)) (by kernel_rfl) ?_
  refine sat_loop (fun Kn vs W => ∃ (i : Nat), vs = [.int .i64 ((i : Nat) : Int), .int .i64 0] ∧ Kn = l.length - i ∧ i ≤ l.length ∧ (l.all okLT = (l.drop i).all okLT)) [.int .i64 0, .int .i64 0] (by kernel_rfl) (fun w1 h1 => ⟨_, 0, rfl, rfl, Nat.zero_le _, rfl⟩) ?_
  rintro Kn vs w1 h1 ⟨i, rfl, rfl, h_i, hm⟩
  replace F_l := F_l.mv h1.mv
  clear h1
  refine sat_prim (v := .bool (decide ((((i : Nat) : Int) : Int) < ((l.length : Nat) : Int)))) (by kernel_rfl) ?_
  cases hlt : (decide ((((i : Nat) : Int) : Int) < ((l.length : Nat) : Int)))
  · refine sat_false (by kernel_rfl) ?_
    exact sat_ret (.int .i64 (-1)) (by kernel_rfl) fun w9 h9 => ⟨_, rfl, idxp_no hm hlt⟩
  · refine sat_true (by kernel_rfl) ?_
    refine sat_idx (A := A_l) (c := c_l) (kk := .i64) (i) (by kernel_rfl) (by kernel_rfl) (lt_of hlt) F_l.addr fun g3 o3 e3 => ?_
    obtain ⟨x1, h_x1⟩ : ∃ x_, l[(i)]? = some x_ := ⟨_, List.getElem?_eq_getElem (lt_of hlt)⟩
    refine sat_elc (d := 0) F_l e3 h_x1 rfl (by kernel_rfl) (by kernel_rfl) ?_
    rintro _ ⟨A_L2, c_L2, rfl, F_L2⟩
    refine ⟨_, rfl, ?_⟩
    refine sat_call #[.slice A_L2 x1.length c_L2] (by kernel_rfl) fun w4 h4 => ?_
    refine (lmay2_any _ _ x1 _ ((F_L2.mv h4.mv).any)).mono ?_
    rintro e v4 ⟨rfl, hb4⟩
    refine ⟨hb4, [.bool (!(okLT x1))], _, rfl, by kernel_rfl, by kernel_rfl, fun g4 => ?_⟩
    replace F_l := F_l.mv g4.mv; replace F_L2 := F_L2.mv g4.mv
    clear h4 hb4
    cases hp : (okLT x1)
    · refine sat_true (by kernel_rfl) ?_
      exact sat_ret (.int .i64 ((i : Nat) : Int)) (by kernel_rfl) fun w9 h9 => ⟨_, rfl, idxp_yes hm h_x1 hp⟩
    · refine sat_false (by kernel_rfl) ?_
      refine sat_prim (v := .int .i64 (((i + 1 : Nat)) : Int)) (Eq.trans (b := some (.int .i64 (IntKind.i64.wrap ((((i) : Nat) : Int) + 1)))) (by kernel_rfl) (by rw [Sx.wrap_succ (n := l.length) (lt_of hlt) M_l])) ?_
      exact sat_back [.int .i64 (((i + 1 : Nat)) : Int), .int .i64 0] (by kernel_rfl) fun w9 h9 => ⟨_, by have := lt_of hlt; omega, i + 1, rfl, rfl, by have := lt_of hlt; omega, allp_step hm h_x1 hp⟩

def tr_lcltc : Sx.Tree := .call 79 [.one (.lf 0), .one (.fn 37)] .one (.prim (.bin .geq) [.lf 2, .num .i64 0] (.ret (.one (.lf 3))))
theorem tr_lcltc_eq : Sx.treeAt Try.prog 36 [(1, 37)] [] [(false, 1), (false, 1)] = some tr_lcltc := by kernel_rfl

theorem lcontLT (A_l : Option Addr) (c_l : Nat) (l : List (List Tb)) (w : World) (h_l : Sx.Rows (Sx.kL Sx.kT) (fun _ => True) w A_l l.length c_l l) :
    Calls Try.prog 36 #[.slice A_l l.length c_l, .func (.func 37) #[] #[]] w fun e w' => e = .returned (.bool (!(l.all okLT))) ∧ Below w.heap.size w w' := by
  have F_l := h_l.start
  have M_l := h_l.le
  clear h_l
  refine (Sx.runA [(1, 37)] [] (ls := [.slice A_l l.length c_l, .func (.func 37) #[] #[]]) (shs := [(false, 1), (false, 1)]) (R := fun v _ => v = .bool (!(l.all okLT))) tr_lcltc_eq rfl (by decide) (by simp [Sx.tupV]) ?_).mono (fun e w' ⟨v, he, hv, hb⟩ => ⟨by rw [he, hv], hb⟩)
  unfold tr_lcltc
  refine sat_call #[.slice A_l l.length c_l, .func (.func 37) #[] #[]] (by kernel_rfl) fun w1 h1 => ?_
  refine (lcontLT_ix _ _ l _ ((F_l.mv h1.mv).any)).mono ?_
  rintro e v1 ⟨⟨k1, rfl, h_k1⟩, hb1⟩
  refine ⟨hb1, [.int .i64 k1], _, rfl, by kernel_rfl, by kernel_rfl, fun g1 => ?_⟩
  replace F_l := F_l.mv g1.mv
  clear h1 hb1
  refine sat_prim (v := .bool (decide ((0 : Int) ≤ k1))) (by kernel_rfl) ?_
  exact sat_ret (.bool (decide ((0 : Int) ≤ k1))) (by kernel_rfl) fun w9 h9 => congrArg Value.bool h_k1

def tr_lmay : Sx.Tree := .chk [.lf 0, .lf 1, .lf 2, .lf 3, .lf 4, .lf 5, .lf 6, .lf 7, .lf 8, .lf 9, .lf 10] (.prim (.bin .lss) [.lf 0, .num .i64 1] (.ite (.lf 11) (.ret (.one (.bit false))) (.prim (.bin .gtr) [.lf 0, .num .i64 3] (.ite (.lf 12) (.ret (.one (.bit false))) (.prim (.bin .lss) [.lf 1, .num .i64 0] (.ite (.lf 13) (.ret (.one (.bit false))) (.prim (.bin .gtr) [.lf 1, .num .i64 1073741824] (.ite (.lf 14) (.ret (.one (.bit false))) (.prim (.bin .lss) [.lf 2, .num .i64 0] (.ite (.lf 15) (.ret (.one (.bit false))) (.prim (.bin .gtr) [.lf 2, .num .i64 200] (.ite (.lf 16) (.ret (.one (.bit false))) (.call 32 [.ag [.lf 3, .lf 4, .lf 5]] .one (.prim .not [.lf 17] (.ite (.lf 18) (.ret (.one (.bit false))) (.call 32 [.ag [.lf 6, .lf 7, .lf 8]] .one (.prim .not [.lf 19] (.ite (.lf 20) (.ret (.one (.bit false))) (.prim .len [.lf 9] (.prim (.bin .gtr) [.lf 21, .num .i64 16] (.ite (.lf 22) (.ret (.one (.bit false))) (.prim .len [.lf 10] (.prim (.bin .gtr) [.lf 23, .num .i64 16] (.ite (.lf 24) (.ret (.one (.bit false))) (.prim .len [.lf 9] (.loop 0 [.num .i64 0, .bit false] (.prim (.bin .lss) [.lf 26, .lf 25] (.ite (.lf 28) (.prim (.idx 1) [.lf 9, .lf 26] (.load 45 (.lf 29) .one (.prim .len [.lf 30] (.prim (.bin .gtr) [.lf 31, .num .i64 64] (.ite (.lf 32) (.ret (.one (.bit false))) (.call 33 [.one (.lf 30), .one (.fn 34)] .one (.ite (.lf 33) (.ret (.one (.bit false))) (.prim (.bin .add) [.lf 26, .num .i64 1] (.back 0 [.lf 34, .lf 27]))))))))) (.call 36 [.one (.lf 10), .one (.fn 37)] .one (.prim .not [.lf 29] (.ret (.one (.lf 30)))))))))))))))))))))))))))))))))
theorem tr_lmay_eq : Sx.treeAt Try.prog 10 [] [] [(true, 11)] = some tr_lmay := by kernel_rfl

theorem mayRc_any (v_r : Value) (r : Rec) (w : World) (h_r : RcAt (fun _ => True) w v_r r) :
    Calls Try.prog 10 #[v_r] w fun e w' => e = .returned (.bool (mayR r)) ∧ Below w.heap.size w w' := by
  obtain ⟨A_r1, n_r1, c_r1, A_r2, n_r2, c_r2, X_r, x_r, Y_r, y_r, rfl, r_r1, r_r2, F_r3, F_r4⟩ := h_r
  replace F_r3 := F_r3.start
  replace F_r4 := F_r4.start
  have M_r3 := F_r3.le
  have M_r4 := F_r4.le
  refine (Sx.runA [] [] (ls := [.int .i64 r.kind, .int .i64 r.epoch, .int .i64 r.code, .bool r.t.neg, .slice A_r1 n_r1 c_r1, .int .i64 r.t.e, .bool r.h.neg, .slice A_r2 n_r2 c_r2, .int .i64 r.h.e, .slice X_r r.boxes.length x_r, .slice Y_r r.sigs.length y_r]) (shs := [(true, 11)]) (R := fun v _ => v = .bool (mayR r)) tr_lmay_eq rfl (by decide) (fun q h => by cases h) ?_).mono (fun e w' ⟨v, he, hv, hb⟩ => ⟨by rw [he, hv], hb⟩)
  unfold tr_lmay
  refine sat_chkB (by kernel_rfl) ?_
  refine sat_prim (v := .bool (decide ((r.kind : Int) < 1))) (by kernel_rfl) ?_
  cases hE1 : (decide ((r.kind : Int) < 1))
  · refine sat_false (by kernel_rfl) ?_
    refine sat_prim (v := .bool (decide ((3 : Int) < r.kind))) (by kernel_rfl) ?_
    cases hE2 : (decide ((3 : Int) < r.kind))
    · refine sat_false (by kernel_rfl) ?_
      refine sat_prim (v := .bool (decide ((r.epoch : Int) < 0))) (by kernel_rfl) ?_
      cases hE3 : (decide ((r.epoch : Int) < 0))
      · refine sat_false (by kernel_rfl) ?_
        refine sat_prim (v := .bool (decide ((1073741824 : Int) < r.epoch))) (by kernel_rfl) ?_
        cases hE4 : (decide ((1073741824 : Int) < r.epoch))
        · refine sat_false (by kernel_rfl) ?_
          refine sat_prim (v := .bool (decide ((r.code : Int) < 0))) (by kernel_rfl) ?_
          cases hE5 : (decide ((r.code : Int) < 0))
          · refine sat_false (by kernel_rfl) ?_
            refine sat_prim (v := .bool (decide ((200 : Int) < r.code))) (by kernel_rfl) ?_
            cases hE6 : (decide ((200 : Int) < r.code))
            · refine sat_false (by kernel_rfl) ?_
              refine sat_call #[.agg #[.bool r.t.neg, .slice A_r1 n_r1 c_r1, .int .i64 r.t.e]] (by kernel_rfl) fun w7 h7 => ?_
              refine (mayD_any _ (r.t) _ (h7.rdD r_r1)).mono ?_
              rintro e v7 ⟨rfl, hb7⟩
              refine ⟨hb7, [.bool (mayD r.t)], _, rfl, by kernel_rfl, by kernel_rfl, fun g7 => ?_⟩
              replace r_r1 := g7.rdD r_r1; replace r_r2 := g7.rdD r_r2; replace F_r3 := F_r3.mv g7.mv; replace F_r4 := F_r4.mv g7.mv
              clear h7 hb7
              refine sat_prim (v := .bool (!(mayD r.t))) (by kernel_rfl) ?_
              cases hE8 : (mayD r.t)
              · refine sat_true (by kernel_rfl) ?_
                exact sat_ret (.bool false) (by kernel_rfl) fun w9 h9 => congrArg Value.bool (by unfold mayR; rw [hE1, hE2, hE3, hE4, hE5, hE6, hE8]; rfl)
              · refine sat_false (by kernel_rfl) ?_
                refine sat_call #[.agg #[.bool r.h.neg, .slice A_r2 n_r2 c_r2, .int .i64 r.h.e]] (by kernel_rfl) fun w9 h9 => ?_
                refine (mayD_any _ (r.h) _ (h9.rdD r_r2)).mono ?_
                rintro e v9 ⟨rfl, hb9⟩
                refine ⟨hb9, [.bool (mayD r.h)], _, rfl, by kernel_rfl, by kernel_rfl, fun g9 => ?_⟩
                replace r_r1 := g9.rdD r_r1; replace r_r2 := g9.rdD r_r2; replace F_r3 := F_r3.mv g9.mv; replace F_r4 := F_r4.mv g9.mv
                clear h9 hb9
                refine sat_prim (v := .bool (!(mayD r.h))) (by kernel_rfl) ?_
                cases hE10 : (mayD r.h)
                · refine sat_true (by kernel_rfl) ?_
                  exact sat_ret (.bool false) (by kernel_rfl) fun w9 h9 => congrArg Value.bool (by unfold mayR; rw [hE1, hE2, hE3, hE4, hE5, hE6, hE8, hE10]; rfl)
                · refine sat_false (by kernel_rfl) ?_
                  refine sat_prim (v := .int .i64 ((r.boxes.length : Nat) : Int)) (by kernel_rfl) ?_
                  refine sat_prim (v := .bool (decide ((16 : Int) < ((r.boxes.length : Nat) : Int)))) (by kernel_rfl) ?_
                  cases hE11 : (decide ((16 : Int) < ((r.boxes.length : Nat) : Int)))
                  · refine sat_false (by kernel_rfl) ?_
                    refine sat_prim (v := .int .i64 ((r.sigs.length : Nat) : Int)) (by kernel_rfl) ?_
                    refine sat_prim (v := .bool (decide ((16 : Int) < ((r.sigs.length : Nat) : Int)))) (by kernel_rfl) ?_
                    cases hE12 : (decide ((16 : Int) < ((r.sigs.length : Nat) : Int)))
                    · refine sat_false (by kernel_rfl) ?_
                      refine sat_prim (v := .int .i64 ((r.boxes.length : Nat) : Int)) (by kernel_rfl) ?_
                      refine sat_loop (fun Kn vs W => ∃ (i : Nat), vs = [.int .i64 ((i : Nat) : Int), .bool false] ∧ Kn = r.boxes.length - i ∧ i ≤ r.boxes.length ∧ (r.boxes.all okLI = (r.boxes.drop i).all okLI)) [.int .i64 0, .bool false] (by kernel_rfl) (fun w1 h1 => ⟨_, 0, rfl, rfl, Nat.zero_le _, rfl⟩) ?_
                      rintro Kn vs w13 h13 ⟨i, rfl, rfl, h_i, hm⟩
                      replace r_r1 := h13.rdD r_r1; replace r_r2 := h13.rdD r_r2; replace F_r3 := F_r3.mv h13.mv; replace F_r4 := F_r4.mv h13.mv
                      clear h13
                      refine sat_prim (v := .bool (decide ((((i : Nat) : Int) : Int) < ((r.boxes.length : Nat) : Int)))) (by kernel_rfl) ?_
                      cases hlt : (decide ((((i : Nat) : Int) : Int) < ((r.boxes.length : Nat) : Int)))
                      · refine sat_false (by kernel_rfl) ?_
                        refine sat_call #[.slice Y_r r.sigs.length y_r, .func (.func 37) #[] #[]] (by kernel_rfl) fun w15 h15 => ?_
                        refine (lcontLT _ _ r.sigs _ ((F_r4.mv h15.mv).any)).mono ?_
                        rintro e v15 ⟨rfl, hb15⟩
                        refine ⟨hb15, [.bool (!(r.sigs.all okLT))], _, rfl, by kernel_rfl, by kernel_rfl, fun g15 => ?_⟩
                        replace r_r1 := g15.rdD r_r1; replace r_r2 := g15.rdD r_r2; replace F_r3 := F_r3.mv g15.mv; replace F_r4 := F_r4.mv g15.mv
                        clear h15 hb15
                        refine sat_prim (v := .bool (!(!(r.sigs.all okLT)))) (by kernel_rfl) ?_
                        exact sat_ret (.bool (!(!(r.sigs.all okLT)))) (by kernel_rfl) fun w9 h9 => congrArg Value.bool (by unfold mayR; rw [hE1, hE2, hE3, hE4, hE5, hE6, hE8, hE10, hE11, hE12, allp_end hm hlt, Bool.not_not]; rfl)
                      · refine sat_true (by kernel_rfl) ?_
                        refine sat_idx (A := X_r) (c := x_r) (kk := .i64) (i) (by kernel_rfl) (by kernel_rfl) (lt_of hlt) F_r3.addr fun g15 o15 e15 => ?_
                        obtain ⟨x1, h_x1⟩ : ∃ x_, r.boxes[(i)]? = some x_ := ⟨_, List.getElem?_eq_getElem (lt_of hlt)⟩
                        refine sat_elc (d := 0) F_r3 e15 h_x1 rfl (by kernel_rfl) (by kernel_rfl) ?_
                        rintro _ ⟨A_L2, c_L2, rfl, F_L2⟩
                        refine ⟨_, rfl, ?_⟩
                        refine sat_prim (v := .int .i64 ((x1.length : Nat) : Int)) (by kernel_rfl) ?_
                        refine sat_prim (v := .bool (decide ((64 : Int) < ((x1.length : Nat) : Int)))) (by kernel_rfl) ?_
                        cases hn : (decide ((64 : Int) < ((x1.length : Nat) : Int)))
                        · refine sat_false (by kernel_rfl) ?_
                          refine sat_call #[.slice A_L2 x1.length c_L2, .func (.func 34) #[] #[]] (by kernel_rfl) fun w17 h17 => ?_
                          refine (lcontI _ _ x1 _ ((F_L2.mv h17.mv).any)).mono ?_
                          rintro e v17 ⟨rfl, hb17⟩
                          refine ⟨hb17, [.bool (!(x1.all mayI))], _, rfl, by kernel_rfl, by kernel_rfl, fun g17 => ?_⟩
                          replace r_r1 := g17.rdD r_r1; replace r_r2 := g17.rdD r_r2; replace F_r3 := F_r3.mv g17.mv; replace F_r4 := F_r4.mv g17.mv; replace F_L2 := F_L2.mv g17.mv
                          clear h17 hb17
                          cases hq : (x1.all mayI)
                          · refine sat_true (by kernel_rfl) ?_
                            exact sat_ret (.bool false) (by kernel_rfl) fun w9 h9 => congrArg Value.bool (by unfold mayR; rw [hE1, hE2, hE3, hE4, hE5, hE6, hE8, hE10, hE11, hE12, allp_no hm h_x1 (by unfold okLI; rw [hn, hq]; rfl)]; rfl)
                          · refine sat_false (by kernel_rfl) ?_
                            refine sat_prim (v := .int .i64 (((i + 1 : Nat)) : Int)) (Eq.trans (b := some (.int .i64 (IntKind.i64.wrap ((((i) : Nat) : Int) + 1)))) (by kernel_rfl) (by rw [Sx.wrap_succ (n := r.boxes.length) (lt_of hlt) M_r3])) ?_
                            exact sat_back [.int .i64 (((i + 1 : Nat)) : Int), .bool false] (by kernel_rfl) fun w9 h9 => ⟨_, by have := lt_of hlt; omega, i + 1, rfl, rfl, by have := lt_of hlt; omega, allp_step hm h_x1 (by unfold okLI; rw [hn, hq]; rfl)⟩
                        · refine sat_true (by kernel_rfl) ?_
                          exact sat_ret (.bool false) (by kernel_rfl) fun w9 h9 => congrArg Value.bool (by unfold mayR; rw [hE1, hE2, hE3, hE4, hE5, hE6, hE8, hE10, hE11, hE12, allp_no hm h_x1 (by unfold okLI; rw [hn]; rfl)]; rfl)
                    · refine sat_true (by kernel_rfl) ?_
                      exact sat_ret (.bool false) (by kernel_rfl) fun w9 h9 => congrArg Value.bool (by unfold mayR; rw [hE1, hE2, hE3, hE4, hE5, hE6, hE8, hE10, hE11, hE12]; rfl)
                  · refine sat_true (by kernel_rfl) ?_
                    exact sat_ret (.bool false) (by kernel_rfl) fun w9 h9 => congrArg Value.bool (by unfold mayR; rw [hE1, hE2, hE3, hE4, hE5, hE6, hE8, hE10, hE11]; rfl)
            · refine sat_true (by kernel_rfl) ?_
              exact sat_ret (.bool false) (by kernel_rfl) fun w9 h9 => congrArg Value.bool (by unfold mayR; rw [hE1, hE2, hE3, hE4, hE5, hE6]; rfl)
          · refine sat_true (by kernel_rfl) ?_
            exact sat_ret (.bool false) (by kernel_rfl) fun w9 h9 => congrArg Value.bool (by unfold mayR; rw [hE1, hE2, hE3, hE4, hE5]; rfl)
        · refine sat_true (by kernel_rfl) ?_
          exact sat_ret (.bool false) (by kernel_rfl) fun w9 h9 => congrArg Value.bool (by unfold mayR; rw [hE1, hE2, hE3, hE4]; rfl)
      · refine sat_true (by kernel_rfl) ?_
        exact sat_ret (.bool false) (by kernel_rfl) fun w9 h9 => congrArg Value.bool (by unfold mayR; rw [hE1, hE2, hE3]; rfl)
    · refine sat_true (by kernel_rfl) ?_
      exact sat_ret (.bool false) (by kernel_rfl) fun w9 h9 => congrArg Value.bool (by unfold mayR; rw [hE1, hE2]; rfl)
  · refine sat_true (by kernel_rfl) ?_
    exact sat_ret (.bool false) (by kernel_rfl) fun w9 h9 => congrArg Value.bool (by unfold mayR; rw [hE1]; rfl)

def tr_lsame1 : Sx.Tree := .call 65 [.one (.lf 0), .one (.lf 1), .one (.fn 66)] .one (.ret (.one (.lf 2)))
theorem tr_lsame1_eq : Sx.treeAt Try.prog 64 [] [] [(false, 1), (false, 1)] = some tr_lsame1 := by kernel_rfl

theorem lsame1_any (A_a : Option Addr) (c_a : Nat) (A_b : Option Addr) (c_b : Nat) (a : List Iv) (b : List Iv) (w : World) (h_a : Sx.Rows Sx.kI (fun _ => True) w A_a a.length c_a a) (h_b : Sx.Rows Sx.kI (fun _ => True) w A_b b.length c_b b) :
    Calls Try.prog 64 #[.slice A_a a.length c_a, .slice A_b b.length c_b] w fun e w' => e = .returned (.bool (sameL sameI a b)) ∧ Below w.heap.size w w' := by
  have F_a := h_a.start
  have M_a := h_a.le
  clear h_a
  have F_b := h_b.start
  have M_b := h_b.le
  clear h_b
  refine (Sx.runA [] [] (ls := [.slice A_a a.length c_a, .slice A_b b.length c_b]) (shs := [(false, 1), (false, 1)]) (R := fun v _ => v = .bool (sameL sameI a b)) tr_lsame1_eq rfl (by decide) (fun q h => by cases h) ?_).mono (fun e w' ⟨v, he, hv, hb⟩ => ⟨by rw [he, hv], hb⟩)
  unfold tr_lsame1
  refine sat_call #[.slice A_a a.length c_a, .slice A_b b.length c_b, .func (.func 66) #[] #[]] (by kernel_rfl) fun w1 h1 => ?_
  refine (eqf_sameI _ _ _ _ a b _ ((F_a.mv h1.mv).any) ((F_b.mv h1.mv).any)).mono ?_
  rintro e v1 ⟨rfl, hb1⟩
  refine ⟨hb1, [.bool (sameL sameI a b)], _, rfl, by kernel_rfl, by kernel_rfl, fun g1 => ?_⟩
  replace F_a := F_a.mv g1.mv; replace F_b := F_b.mv g1.mv
  clear h1 hb1
  exact sat_ret (.bool (sameL sameI a b)) (by kernel_rfl) fun w9 h9 => rfl

def tr_eqli : Sx.Tree := .prim .len [.lf 0] (.prim .len [.lf 1] (.prim (.bin .neq) [.lf 3, .lf 4] (.ite (.lf 5) (.ret (.one (.bit false))) (.prim .len [.lf 0] (.loop 0 [.num .i64 0, .bit false] (.prim (.bin .lss) [.lf 7, .lf 6] (.ite (.lf 9) (.prim (.idx 1) [.lf 0, .lf 7] (.load 45 (.lf 10) .one (.prim (.idx 1) [.lf 1, .lf 7] (.load 45 (.lf 12) .one (.call 64 [.one (.lf 11), .one (.lf 13)] .one (.prim .not [.lf 14] (.ite (.lf 15) (.ret (.one (.bit false))) (.prim (.bin .add) [.lf 7, .num .i64 1] (.back 0 [.lf 16, .lf 8]))))))))) (.ret (.one (.bit true))))))))))
theorem tr_eqli_eq : Sx.treeAt Try.prog 63 [(2, 64)] [] [(false, 1), (false, 1), (false, 1)] = some tr_eqli := by kernel_rfl

theorem eqf_LI (A_a : Option Addr) (c_a : Nat) (A_b : Option Addr) (c_b : Nat) (a : List (List Iv)) (b : List (List Iv)) (w : World) (h_a : Sx.Rows (Sx.kL Sx.kI) (fun _ => True) w A_a a.length c_a a) (h_b : Sx.Rows (Sx.kL Sx.kI) (fun _ => True) w A_b b.length c_b b) :
    Calls Try.prog 63 #[.slice A_a a.length c_a, .slice A_b b.length c_b, .func (.func 64) #[] #[]] w fun e w' => e = .returned (.bool (sameL (sameL sameI) a b)) ∧ Below w.heap.size w w' := by
  have F_a := h_a.start
  have M_a := h_a.le
  clear h_a
  have F_b := h_b.start
  have M_b := h_b.le
  clear h_b
  refine (Sx.runA [(2, 64)] [] (ls := [.slice A_a a.length c_a, .slice A_b b.length c_b, .func (.func 64) #[] #[]]) (shs := [(false, 1), (false, 1), (false, 1)]) (R := fun v _ => v = .bool (sameL (sameL sameI) a b)) tr_eqli_eq rfl (by decide) (by simp [Sx.tupV]) ?_).mono (fun e w' ⟨v, he, hv, hb⟩ => ⟨by rw [he, hv], hb⟩)
  unfold tr_eqli
  refine sat_prim (v := .int .i64 ((a.length : Nat) : Int)) (by kernel_rfl) ?_
  refine sat_prim (v := .int .i64 ((b.length : Nat) : Int)) (by kernel_rfl) ?_
  refine sat_prim (v := .bool ((((a.length : Nat) : Int) : Int) != ((b.length : Nat) : Int))) (by kernel_rfl) ?_
  cases hne : ((((a.length : Nat) : Int) : Int) != ((b.length : Nat) : Int))
  · refine sat_false (by kernel_rfl) ?_
    refine sat_prim (v := .int .i64 ((a.length : Nat) : Int)) (by kernel_rfl) ?_
    have hl := eqf_len' hne
    refine sat_loop (fun Kn vs W => ∃ (i : Nat), vs = [.int .i64 ((i : Nat) : Int), .bool false] ∧ Kn = a.length - i ∧ i ≤ a.length ∧ (all2 (sameL sameI) a b = all2 (sameL sameI) (a.drop i) (b.drop i))) [.int .i64 0, .bool false] (by kernel_rfl) (fun w1 h1 => ⟨_, 0, rfl, rfl, Nat.zero_le _, rfl⟩) ?_
    rintro Kn vs w2 h2 ⟨i, rfl, rfl, h_i, hm⟩
    replace F_a := F_a.mv h2.mv; replace F_b := F_b.mv h2.mv
    clear h2
    refine sat_prim (v := .bool (decide ((((i : Nat) : Int) : Int) < ((a.length : Nat) : Int)))) (by kernel_rfl) ?_
    cases hlt : (decide ((((i : Nat) : Int) : Int) < ((a.length : Nat) : Int)))
    · refine sat_false (by kernel_rfl) ?_
      exact sat_ret (.bool true) (by kernel_rfl) fun w9 h9 => congrArg Value.bool (eqf_yes hm hlt hl)
    · refine sat_true (by kernel_rfl) ?_
      refine sat_idx (A := A_a) (c := c_a) (kk := .i64) (i) (by kernel_rfl) (by kernel_rfl) (lt_of hlt) F_a.addr fun g4 o4 e4 => ?_
      obtain ⟨x1, h_x1⟩ : ∃ x_, a[(i)]? = some x_ := ⟨_, List.getElem?_eq_getElem (lt_of hlt)⟩
      refine sat_elc (d := 0) F_a e4 h_x1 rfl (by kernel_rfl) (by kernel_rfl) ?_
      rintro _ ⟨A_L2, c_L2, rfl, F_L2⟩
      refine ⟨_, rfl, ?_⟩
      refine sat_idx (A := A_b) (c := c_b) (kk := .i64) (i) (by kernel_rfl) (by kernel_rfl) (by have := lt_of hlt; omega) F_b.addr fun g5 o5 e5 => ?_
      obtain ⟨x3, h_x3⟩ : ∃ x_, b[(i)]? = some x_ := ⟨_, List.getElem?_eq_getElem (by have := lt_of hlt; omega)⟩
      refine sat_elc (d := 0) F_b e5 h_x3 rfl (by kernel_rfl) (by kernel_rfl) ?_
      rintro _ ⟨A_L4, c_L4, rfl, F_L4⟩
      refine ⟨_, rfl, ?_⟩
      refine sat_call #[.slice A_L2 x1.length c_L2, .slice A_L4 x3.length c_L4] (by kernel_rfl) fun w6 h6 => ?_
      refine (lsame1_any _ _ _ _ x1 x3 _ ((F_L2.mv h6.mv).any) ((F_L4.mv h6.mv).any)).mono ?_
      rintro e v6 ⟨rfl, hb6⟩
      refine ⟨hb6, [.bool ((sameL sameI) x1 x3)], _, rfl, by kernel_rfl, by kernel_rfl, fun g6 => ?_⟩
      replace F_a := F_a.mv g6.mv; replace F_b := F_b.mv g6.mv; replace F_L2 := F_L2.mv g6.mv; replace F_L4 := F_L4.mv g6.mv
      clear h6 hb6
      refine sat_prim (v := .bool (!((sameL sameI) x1 x3))) (by kernel_rfl) ?_
      cases hf : ((sameL sameI) x1 x3)
      · refine sat_true (by kernel_rfl) ?_
        exact sat_ret (.bool false) (by kernel_rfl) fun w9 h9 => congrArg Value.bool (eqf_no hm h_x1 h_x3 hf)
      · refine sat_false (by kernel_rfl) ?_
        refine sat_prim (v := .int .i64 (((i + 1 : Nat)) : Int)) (Eq.trans (b := some (.int .i64 (IntKind.i64.wrap ((((i) : Nat) : Int) + 1)))) (by kernel_rfl) (by rw [Sx.wrap_succ (n := a.length) (lt_of hlt) M_a])) ?_
        exact sat_back [.int .i64 (((i + 1 : Nat)) : Int), .bool false] (by kernel_rfl) fun w9 h9 => ⟨_, by have := lt_of hlt; omega, i + 1, rfl, rfl, by have := lt_of hlt; omega, eqf_step hm h_x1 h_x3 hf⟩
  · refine sat_true (by kernel_rfl) ?_
    exact sat_ret (.bool false) (by kernel_rfl) fun w9 h9 => congrArg Value.bool (eqf_len hne)

def tr_eqt : Sx.Tree := .prim .len [.lf 0] (.prim .len [.lf 1] (.prim (.bin .neq) [.lf 3, .lf 4] (.ite (.lf 5) (.ret (.one (.bit false))) (.prim .len [.lf 0] (.loop 0 [.num .i64 0, .bit false] (.prim (.bin .lss) [.lf 7, .lf 6] (.ite (.lf 9) (.prim (.idx 2) [.lf 0, .lf 7] (.load 50 (.lf 10) (.ag 2) (.chk [.lf 11, .lf 12] (.prim (.idx 2) [.lf 1, .lf 7] (.load 50 (.lf 13) (.ag 2) (.chk [.lf 14, .lf 15] (.call 70 [.ag [.lf 11, .lf 12], .ag [.lf 14, .lf 15]] .one (.prim .not [.lf 16] (.ite (.lf 17) (.ret (.one (.bit false))) (.prim (.bin .add) [.lf 7, .num .i64 1] (.back 0 [.lf 18, .lf 8]))))))))))) (.ret (.one (.bit true))))))))))
theorem tr_eqt_eq : Sx.treeAt Try.prog 69 [(2, 70)] [] [(false, 1), (false, 1), (false, 1)] = some tr_eqt := by kernel_rfl

theorem eqf_T (A_a : Option Addr) (c_a : Nat) (A_b : Option Addr) (c_b : Nat) (a : List Tb) (b : List Tb) (w : World) (h_a : Sx.Rows Sx.kT (fun _ => True) w A_a a.length c_a a) (h_b : Sx.Rows Sx.kT (fun _ => True) w A_b b.length c_b b) :
    Calls Try.prog 69 #[.slice A_a a.length c_a, .slice A_b b.length c_b, .func (.func 70) #[] #[]] w fun e w' => e = .returned (.bool (sameL sameT a b)) ∧ Below w.heap.size w w' := by
  have F_a := h_a.start
  have M_a := h_a.le
  clear h_a
  have F_b := h_b.start
  have M_b := h_b.le
  clear h_b
  refine (Sx.runA [(2, 70)] [] (ls := [.slice A_a a.length c_a, .slice A_b b.length c_b, .func (.func 70) #[] #[]]) (shs := [(false, 1), (false, 1), (false, 1)]) (R := fun v _ => v = .bool (sameL sameT a b)) tr_eqt_eq rfl (by decide) (by simp [Sx.tupV]) ?_).mono (fun e w' ⟨v, he, hv, hb⟩ => ⟨by rw [he, hv], hb⟩)
  unfold tr_eqt
  refine sat_prim (v := .int .i64 ((a.length : Nat) : Int)) (by kernel_rfl) ?_
  refine sat_prim (v := .int .i64 ((b.length : Nat) : Int)) (by kernel_rfl) ?_
  refine sat_prim (v := .bool ((((a.length : Nat) : Int) : Int) != ((b.length : Nat) : Int))) (by kernel_rfl) ?_
  cases hne : ((((a.length : Nat) : Int) : Int) != ((b.length : Nat) : Int))
  · refine sat_false (by kernel_rfl) ?_
    refine sat_prim (v := .int .i64 ((a.length : Nat) : Int)) (by kernel_rfl) ?_
    have hl := eqf_len' hne
    refine sat_loop (fun Kn vs W => ∃ (i : Nat), vs = [.int .i64 ((i : Nat) : Int), .bool false] ∧ Kn = a.length - i ∧ i ≤ a.length ∧ (all2 sameT a b = all2 sameT (a.drop i) (b.drop i))) [.int .i64 0, .bool false] (by kernel_rfl) (fun w1 h1 => ⟨_, 0, rfl, rfl, Nat.zero_le _, rfl⟩) ?_
    rintro Kn vs w2 h2 ⟨i, rfl, rfl, h_i, hm⟩
    replace F_a := F_a.mv h2.mv; replace F_b := F_b.mv h2.mv
    clear h2
    refine sat_prim (v := .bool (decide ((((i : Nat) : Int) : Int) < ((a.length : Nat) : Int)))) (by kernel_rfl) ?_
    cases hlt : (decide ((((i : Nat) : Int) : Int) < ((a.length : Nat) : Int)))
    · refine sat_false (by kernel_rfl) ?_
      exact sat_ret (.bool true) (by kernel_rfl) fun w9 h9 => congrArg Value.bool (eqf_yes hm hlt hl)
    · refine sat_true (by kernel_rfl) ?_
      refine sat_idx (A := A_a) (c := c_a) (kk := .i64) (i) (by kernel_rfl) (by kernel_rfl) (lt_of hlt) F_a.addr fun g4 o4 e4 => ?_
      obtain ⟨x1, h_x1⟩ : ∃ x_, a[(i)]? = some x_ := ⟨_, List.getElem?_eq_getElem (lt_of hlt)⟩
      refine sat_el F_a e4 h_x1 rfl (by kernel_rfl) (by kernel_rfl) (by kernel_rfl) ?_
      rintro _ ⟨A_L2, _, c_L2, B_L2, _, d_L2, rfl, F_L21, F_L22⟩
      obtain rfl := F_L21.len
      obtain rfl := F_L22.len
      refine sat_chkB (by kernel_rfl) ?_
      refine sat_idx (A := A_b) (c := c_b) (kk := .i64) (i) (by kernel_rfl) (by kernel_rfl) (by have := lt_of hlt; omega) F_b.addr fun g5 o5 e5 => ?_
      obtain ⟨x3, h_x3⟩ : ∃ x_, b[(i)]? = some x_ := ⟨_, List.getElem?_eq_getElem (by have := lt_of hlt; omega)⟩
      refine sat_el F_b e5 h_x3 rfl (by kernel_rfl) (by kernel_rfl) (by kernel_rfl) ?_
      rintro _ ⟨A_L4, _, c_L4, B_L4, _, d_L4, rfl, F_L41, F_L42⟩
      obtain rfl := F_L41.len
      obtain rfl := F_L42.len
      refine sat_chkB (by kernel_rfl) ?_
      refine sat_call #[.agg #[.slice A_L2 x1.at_.length c_L2, .slice B_L2 x1.v.length d_L2], .agg #[.slice A_L4 x3.at_.length c_L4, .slice B_L4 x3.v.length d_L4]] (by kernel_rfl) fun w6 h6 => ?_
      refine (sameT_any _ _ _ _ _ _ _ _ x1 x3 _ ((F_L21.mv h6.mv).any) ((F_L22.mv h6.mv).any) ((F_L41.mv h6.mv).any) ((F_L42.mv h6.mv).any)).mono ?_
      rintro e v6 ⟨rfl, hb6⟩
      refine ⟨hb6, [.bool (sameT x1 x3)], _, rfl, by kernel_rfl, by kernel_rfl, fun g6 => ?_⟩
      replace F_a := F_a.mv g6.mv; replace F_b := F_b.mv g6.mv; replace F_L21 := F_L21.mv g6.mv; replace F_L22 := F_L22.mv g6.mv; replace F_L41 := F_L41.mv g6.mv; replace F_L42 := F_L42.mv g6.mv
      clear h6 hb6
      refine sat_prim (v := .bool (!(sameT x1 x3))) (by kernel_rfl) ?_
      cases hf : (sameT x1 x3)
      · refine sat_true (by kernel_rfl) ?_
        exact sat_ret (.bool false) (by kernel_rfl) fun w9 h9 => congrArg Value.bool (eqf_no hm h_x1 h_x3 hf)
      · refine sat_false (by kernel_rfl) ?_
        refine sat_prim (v := .int .i64 (((i + 1 : Nat)) : Int)) (Eq.trans (b := some (.int .i64 (IntKind.i64.wrap ((((i) : Nat) : Int) + 1)))) (by kernel_rfl) (by rw [Sx.wrap_succ (n := a.length) (lt_of hlt) M_a])) ?_
        exact sat_back [.int .i64 (((i + 1 : Nat)) : Int), .bool false] (by kernel_rfl) fun w9 h9 => ⟨_, by have := lt_of hlt; omega, i + 1, rfl, rfl, by have := lt_of hlt; omega, eqf_step hm h_x1 h_x3 hf⟩
  · refine sat_true (by kernel_rfl) ?_
    exact sat_ret (.bool false) (by kernel_rfl) fun w9 h9 => congrArg Value.bool (eqf_len hne)

def tr_lsame2 : Sx.Tree := .call 69 [.one (.lf 0), .one (.lf 1), .one (.fn 70)] .one (.ret (.one (.lf 2)))
theorem tr_lsame2_eq : Sx.treeAt Try.prog 68 [] [] [(false, 1), (false, 1)] = some tr_lsame2 := by kernel_rfl

theorem lsame2_any (A_a : Option Addr) (c_a : Nat) (A_b : Option Addr) (c_b : Nat) (a : List Tb) (b : List Tb) (w : World) (h_a : Sx.Rows Sx.kT (fun _ => True) w A_a a.length c_a a) (h_b : Sx.Rows Sx.kT (fun _ => True) w A_b b.length c_b b) :
    Calls Try.prog 68 #[.slice A_a a.length c_a, .slice A_b b.length c_b] w fun e w' => e = .returned (.bool (sameL sameT a b)) ∧ Below w.heap.size w w' := by
  have F_a := h_a.start
  have M_a := h_a.le
  clear h_a
  have F_b := h_b.start
  have M_b := h_b.le
  clear h_b
  refine (Sx.runA [] [] (ls := [.slice A_a a.length c_a, .slice A_b b.length c_b]) (shs := [(false, 1), (false, 1)]) (R := fun v _ => v = .bool (sameL sameT a b)) tr_lsame2_eq rfl (by decide) (fun q h => by cases h) ?_).mono (fun e w' ⟨v, he, hv, hb⟩ => ⟨by rw [he, hv], hb⟩)
  unfold tr_lsame2
  refine sat_call #[.slice A_a a.length c_a, .slice A_b b.length c_b, .func (.func 70) #[] #[]] (by kernel_rfl) fun w1 h1 => ?_
  refine (eqf_T _ _ _ _ a b _ ((F_a.mv h1.mv).any) ((F_b.mv h1.mv).any)).mono ?_
  rintro e v1 ⟨rfl, hb1⟩
  refine ⟨hb1, [.bool (sameL sameT a b)], _, rfl, by kernel_rfl, by kernel_rfl, fun g1 => ?_⟩
  replace F_a := F_a.mv g1.mv; replace F_b := F_b.mv g1.mv
  clear h1 hb1
  exact sat_ret (.bool (sameL sameT a b)) (by kernel_rfl) fun w9 h9 => rfl

def tr_eqlt : Sx.Tree := .prim .len [.lf 0] (.prim .len [.lf 1] (.prim (.bin .neq) [.lf 3, .lf 4] (.ite (.lf 5) (.ret (.one (.bit false))) (.prim .len [.lf 0] (.loop 0 [.num .i64 0, .bit false] (.prim (.bin .lss) [.lf 7, .lf 6] (.ite (.lf 9) (.prim (.idx 1) [.lf 0, .lf 7] (.load 46 (.lf 10) .one (.prim (.idx 1) [.lf 1, .lf 7] (.load 46 (.lf 12) .one (.call 68 [.one (.lf 11), .one (.lf 13)] .one (.prim .not [.lf 14] (.ite (.lf 15) (.ret (.one (.bit false))) (.prim (.bin .add) [.lf 7, .num .i64 1] (.back 0 [.lf 16, .lf 8]))))))))) (.ret (.one (.bit true))))))))))
theorem tr_eqlt_eq : Sx.treeAt Try.prog 67 [(2, 68)] [] [(false, 1), (false, 1), (false, 1)] = some tr_eqlt := by kernel_rfl

theorem eqf_LT (A_a : Option Addr) (c_a : Nat) (A_b : Option Addr) (c_b : Nat) (a : List (List Tb)) (b : List (List Tb)) (w : World) (h_a : Sx.Rows (Sx.kL Sx.kT) (fun _ => True) w A_a a.length c_a a) (h_b : Sx.Rows (Sx.kL Sx.kT) (fun _ => True) w A_b b.length c_b b) :
    Calls Try.prog 67 #[.slice A_a a.length c_a, .slice A_b b.length c_b, .func (.func 68) #[] #[]] w fun e w' => e = .returned (.bool (sameL (sameL sameT) a b)) ∧ Below w.heap.size w w' := by
  have F_a := h_a.start
  have M_a := h_a.le
  clear h_a
  have F_b := h_b.start
  have M_b := h_b.le
  clear h_b
  refine (Sx.runA [(2, 68)] [] (ls := [.slice A_a a.length c_a, .slice A_b b.length c_b, .func (.func 68) #[] #[]]) (shs := [(false, 1), (false, 1), (false, 1)]) (R := fun v _ => v = .bool (sameL (sameL sameT) a b)) tr_eqlt_eq rfl (by decide) (by simp [Sx.tupV]) ?_).mono (fun e w' ⟨v, he, hv, hb⟩ => ⟨by rw [he, hv], hb⟩)
  unfold tr_eqlt
  refine sat_prim (v := .int .i64 ((a.length : Nat) : Int)) (by kernel_rfl) ?_
  refine sat_prim (v := .int .i64 ((b.length : Nat) : Int)) (by kernel_rfl) ?_
  refine sat_prim (v := .bool ((((a.length : Nat) : Int) : Int) != ((b.length : Nat) : Int))) (by kernel_rfl) ?_
  cases hne : ((((a.length : Nat) : Int) : Int) != ((b.length : Nat) : Int))
  · refine sat_false (by kernel_rfl) ?_
    refine sat_prim (v := .int .i64 ((a.length : Nat) : Int)) (by kernel_rfl) ?_
    have hl := eqf_len' hne
    refine sat_loop (fun Kn vs W => ∃ (i : Nat), vs = [.int .i64 ((i : Nat) : Int), .bool false] ∧ Kn = a.length - i ∧ i ≤ a.length ∧ (all2 (sameL sameT) a b = all2 (sameL sameT) (a.drop i) (b.drop i))) [.int .i64 0, .bool false] (by kernel_rfl) (fun w1 h1 => ⟨_, 0, rfl, rfl, Nat.zero_le _, rfl⟩) ?_
    rintro Kn vs w2 h2 ⟨i, rfl, rfl, h_i, hm⟩
    replace F_a := F_a.mv h2.mv; replace F_b := F_b.mv h2.mv
    clear h2
    refine sat_prim (v := .bool (decide ((((i : Nat) : Int) : Int) < ((a.length : Nat) : Int)))) (by kernel_rfl) ?_
    cases hlt : (decide ((((i : Nat) : Int) : Int) < ((a.length : Nat) : Int)))
    · refine sat_false (by kernel_rfl) ?_
      exact sat_ret (.bool true) (by kernel_rfl) fun w9 h9 => congrArg Value.bool (eqf_yes hm hlt hl)
    · refine sat_true (by kernel_rfl) ?_
      refine sat_idx (A := A_a) (c := c_a) (kk := .i64) (i) (by kernel_rfl) (by kernel_rfl) (lt_of hlt) F_a.addr fun g4 o4 e4 => ?_
      obtain ⟨x1, h_x1⟩ : ∃ x_, a[(i)]? = some x_ := ⟨_, List.getElem?_eq_getElem (lt_of hlt)⟩
      refine sat_elc (d := 0) F_a e4 h_x1 rfl (by kernel_rfl) (by kernel_rfl) ?_
      rintro _ ⟨A_L2, c_L2, rfl, F_L2⟩
      refine ⟨_, rfl, ?_⟩
      refine sat_idx (A := A_b) (c := c_b) (kk := .i64) (i) (by kernel_rfl) (by kernel_rfl) (by have := lt_of hlt; omega) F_b.addr fun g5 o5 e5 => ?_
      obtain ⟨x3, h_x3⟩ : ∃ x_, b[(i)]? = some x_ := ⟨_, List.getElem?_eq_getElem (by have := lt_of hlt; omega)⟩
      refine sat_elc (d := 0) F_b e5 h_x3 rfl (by kernel_rfl) (by kernel_rfl) ?_
      rintro _ ⟨A_L4, c_L4, rfl, F_L4⟩
      refine ⟨_, rfl, ?_⟩
      refine sat_call #[.slice A_L2 x1.length c_L2, .slice A_L4 x3.length c_L4] (by kernel_rfl) fun w6 h6 => ?_
      refine (lsame2_any _ _ _ _ x1 x3 _ ((F_L2.mv h6.mv).any) ((F_L4.mv h6.mv).any)).mono ?_
      rintro e v6 ⟨rfl, hb6⟩
      refine ⟨hb6, [.bool ((sameL sameT) x1 x3)], _, rfl, by kernel_rfl, by kernel_rfl, fun g6 => ?_⟩
      replace F_a := F_a.mv g6.mv; replace F_b := F_b.mv g6.mv; replace F_L2 := F_L2.mv g6.mv; replace F_L4 := F_L4.mv g6.mv
      clear h6 hb6
      refine sat_prim (v := .bool (!((sameL sameT) x1 x3))) (by kernel_rfl) ?_
      cases hf : ((sameL sameT) x1 x3)
      · refine sat_true (by kernel_rfl) ?_
        exact sat_ret (.bool false) (by kernel_rfl) fun w9 h9 => congrArg Value.bool (eqf_no hm h_x1 h_x3 hf)
      · refine sat_false (by kernel_rfl) ?_
        refine sat_prim (v := .int .i64 (((i + 1 : Nat)) : Int)) (Eq.trans (b := some (.int .i64 (IntKind.i64.wrap ((((i) : Nat) : Int) + 1)))) (by kernel_rfl) (by rw [Sx.wrap_succ (n := a.length) (lt_of hlt) M_a])) ?_
        exact sat_back [.int .i64 (((i + 1 : Nat)) : Int), .bool false] (by kernel_rfl) fun w9 h9 => ⟨_, by have := lt_of hlt; omega, i + 1, rfl, rfl, by have := lt_of hlt; omega, eqf_step hm h_x1 h_x3 hf⟩
  · refine sat_true (by kernel_rfl) ?_
    exact sat_ret (.bool false) (by kernel_rfl) fun w9 h9 => congrArg Value.bool (eqf_len hne)

def tr_lsame : Sx.Tree := .chk [.lf 0, .lf 1, .lf 2, .lf 3, .lf 4, .lf 5, .lf 6, .lf 7, .lf 8, .lf 9, .lf 10] (.chk [.lf 11, .lf 12, .lf 13, .lf 14, .lf 15, .lf 16, .lf 17, .lf 18, .lf 19, .lf 20, .lf 21] (.call 63 [.one (.lf 9), .one (.lf 20), .one (.fn 64)] .one (.call 67 [.one (.lf 10), .one (.lf 21), .one (.fn 68)] .one (.ite (.lf 22) (.ite (.lf 23) (.prim (.bin .eql) [.lf 0, .lf 11] (.ite (.lf 24) (.prim (.bin .eql) [.lf 1, .lf 12] (.ite (.lf 25) (.prim (.bin .eql) [.lf 2, .lf 13] (.ite (.lf 26) (.call 71 [.ag [.lf 3, .lf 4, .lf 5], .ag [.lf 14, .lf 15, .lf 16]] .one (.ite (.lf 27) (.call 71 [.ag [.lf 6, .lf 7, .lf 8], .ag [.lf 17, .lf 18, .lf 19]] .one (.ret (.one (.lf 28)))) (.ret (.one (.bit false))))) (.ret (.one (.bit false))))) (.ret (.one (.bit false))))) (.ret (.one (.bit false))))) (.ret (.one (.bit false)))) (.ret (.one (.bit false)))))))
theorem tr_lsame_eq : Sx.treeAt Try.prog 15 [] [] [(true, 11), (true, 11)] = some tr_lsame := by kernel_rfl

theorem sameR_any (v_a : Value) (v_b : Value) (a : Rec) (b : Rec) (w : World) (h_a : RcAt (fun _ => True) w v_a a) (h_b : RcAt (fun _ => True) w v_b b) :
    Calls Try.prog 15 #[v_a, v_b] w fun e w' => e = .returned (.bool (sameRc a b)) ∧ Below w.heap.size w w' := by
  obtain ⟨A_a1, n_a1, c_a1, A_a2, n_a2, c_a2, X_a, x_a, Y_a, y_a, rfl, r_a1, r_a2, F_a3, F_a4⟩ := h_a
  replace F_a3 := F_a3.start
  replace F_a4 := F_a4.start
  have M_a3 := F_a3.le
  have M_a4 := F_a4.le
  obtain ⟨A_b1, n_b1, c_b1, A_b2, n_b2, c_b2, X_b, x_b, Y_b, y_b, rfl, r_b1, r_b2, F_b3, F_b4⟩ := h_b
  replace F_b3 := F_b3.start
  replace F_b4 := F_b4.start
  have M_b3 := F_b3.le
  have M_b4 := F_b4.le
  refine (Sx.runA [] [] (ls := [.int .i64 a.kind, .int .i64 a.epoch, .int .i64 a.code, .bool a.t.neg, .slice A_a1 n_a1 c_a1, .int .i64 a.t.e, .bool a.h.neg, .slice A_a2 n_a2 c_a2, .int .i64 a.h.e, .slice X_a a.boxes.length x_a, .slice Y_a a.sigs.length y_a, .int .i64 b.kind, .int .i64 b.epoch, .int .i64 b.code, .bool b.t.neg, .slice A_b1 n_b1 c_b1, .int .i64 b.t.e, .bool b.h.neg, .slice A_b2 n_b2 c_b2, .int .i64 b.h.e, .slice X_b b.boxes.length x_b, .slice Y_b b.sigs.length y_b]) (shs := [(true, 11), (true, 11)]) (R := fun v _ => v = .bool (sameRc a b)) tr_lsame_eq rfl (by decide) (fun q h => by cases h) ?_).mono (fun e w' ⟨v, he, hv, hb⟩ => ⟨by rw [he, hv], hb⟩)
  unfold tr_lsame
  refine sat_chkB (by kernel_rfl) ?_
  refine sat_chkB (by kernel_rfl) ?_
  refine sat_call #[.slice X_a a.boxes.length x_a, .slice X_b b.boxes.length x_b, .func (.func 64) #[] #[]] (by kernel_rfl) fun w1 h1 => ?_
  refine (eqf_LI _ _ _ _ a.boxes b.boxes _ ((F_a3.mv h1.mv).any) ((F_b3.mv h1.mv).any)).mono ?_
  rintro e v1 ⟨rfl, hb1⟩
  refine ⟨hb1, [.bool (sameL (sameL sameI) a.boxes b.boxes)], _, rfl, by kernel_rfl, by kernel_rfl, fun g1 => ?_⟩
  replace r_a1 := g1.rdD r_a1; replace r_a2 := g1.rdD r_a2; replace F_a3 := F_a3.mv g1.mv; replace F_a4 := F_a4.mv g1.mv; replace r_b1 := g1.rdD r_b1; replace r_b2 := g1.rdD r_b2; replace F_b3 := F_b3.mv g1.mv; replace F_b4 := F_b4.mv g1.mv
  clear h1 hb1
  refine sat_call #[.slice Y_a a.sigs.length y_a, .slice Y_b b.sigs.length y_b, .func (.func 68) #[] #[]] (by kernel_rfl) fun w2 h2 => ?_
  refine (eqf_LT _ _ _ _ a.sigs b.sigs _ ((F_a4.mv h2.mv).any) ((F_b4.mv h2.mv).any)).mono ?_
  rintro e v2 ⟨rfl, hb2⟩
  refine ⟨hb2, [.bool (sameL (sameL sameT) a.sigs b.sigs)], _, rfl, by kernel_rfl, by kernel_rfl, fun g2 => ?_⟩
  replace r_a1 := g2.rdD r_a1; replace r_a2 := g2.rdD r_a2; replace F_a3 := F_a3.mv g2.mv; replace F_a4 := F_a4.mv g2.mv; replace r_b1 := g2.rdD r_b1; replace r_b2 := g2.rdD r_b2; replace F_b3 := F_b3.mv g2.mv; replace F_b4 := F_b4.mv g2.mv
  clear h2 hb2
  cases hE3 : (sameL (sameL sameI) a.boxes b.boxes)
  · refine sat_false (by kernel_rfl) ?_
    exact sat_ret (.bool false) (by kernel_rfl) fun w9 h9 => congrArg Value.bool (by unfold sameRc; rw [hE3]; rfl)
  · refine sat_true (by kernel_rfl) ?_
    cases hE4 : (sameL (sameL sameT) a.sigs b.sigs)
    · refine sat_false (by kernel_rfl) ?_
      exact sat_ret (.bool false) (by kernel_rfl) fun w9 h9 => congrArg Value.bool (by unfold sameRc; rw [hE3, hE4]; rfl)
    · refine sat_true (by kernel_rfl) ?_
      refine sat_prim (v := .bool ((a.kind : Int) == b.kind)) (by kernel_rfl) ?_
      cases hE5 : ((a.kind : Int) == b.kind)
      · refine sat_false (by kernel_rfl) ?_
        exact sat_ret (.bool false) (by kernel_rfl) fun w9 h9 => congrArg Value.bool (by unfold sameRc; rw [hE3, hE4, hE5]; rfl)
      · refine sat_true (by kernel_rfl) ?_
        refine sat_prim (v := .bool ((a.epoch : Int) == b.epoch)) (by kernel_rfl) ?_
        cases hE6 : ((a.epoch : Int) == b.epoch)
        · refine sat_false (by kernel_rfl) ?_
          exact sat_ret (.bool false) (by kernel_rfl) fun w9 h9 => congrArg Value.bool (by unfold sameRc; rw [hE3, hE4, hE5, hE6]; rfl)
        · refine sat_true (by kernel_rfl) ?_
          refine sat_prim (v := .bool ((a.code : Int) == b.code)) (by kernel_rfl) ?_
          cases hE7 : ((a.code : Int) == b.code)
          · refine sat_false (by kernel_rfl) ?_
            exact sat_ret (.bool false) (by kernel_rfl) fun w9 h9 => congrArg Value.bool (by unfold sameRc; rw [hE3, hE4, hE5, hE6, hE7]; rfl)
          · refine sat_true (by kernel_rfl) ?_
            refine sat_call #[.agg #[.bool a.t.neg, .slice A_a1 n_a1 c_a1, .int .i64 a.t.e], .agg #[.bool b.t.neg, .slice A_b1 n_b1 c_b1, .int .i64 b.t.e]] (by kernel_rfl) fun w8 h8 => ?_
            refine (sameD_any _ _ (a.t) (b.t) _ (h8.rdD r_a1) (h8.rdD r_b1)).mono ?_
            rintro e v8 ⟨rfl, hb8⟩
            refine ⟨hb8, [.bool (sameD a.t b.t)], _, rfl, by kernel_rfl, by kernel_rfl, fun g8 => ?_⟩
            replace r_a1 := g8.rdD r_a1; replace r_a2 := g8.rdD r_a2; replace F_a3 := F_a3.mv g8.mv; replace F_a4 := F_a4.mv g8.mv; replace r_b1 := g8.rdD r_b1; replace r_b2 := g8.rdD r_b2; replace F_b3 := F_b3.mv g8.mv; replace F_b4 := F_b4.mv g8.mv
            clear h8 hb8
            cases hE9 : (sameD a.t b.t)
            · refine sat_false (by kernel_rfl) ?_
              exact sat_ret (.bool false) (by kernel_rfl) fun w9 h9 => congrArg Value.bool (by unfold sameRc; rw [hE3, hE4, hE5, hE6, hE7, hE9]; rfl)
            · refine sat_true (by kernel_rfl) ?_
              refine sat_call #[.agg #[.bool a.h.neg, .slice A_a2 n_a2 c_a2, .int .i64 a.h.e], .agg #[.bool b.h.neg, .slice A_b2 n_b2 c_b2, .int .i64 b.h.e]] (by kernel_rfl) fun w10 h10 => ?_
              refine (sameD_any _ _ (a.h) (b.h) _ (h10.rdD r_a2) (h10.rdD r_b2)).mono ?_
              rintro e v10 ⟨rfl, hb10⟩
              refine ⟨hb10, [.bool (sameD a.h b.h)], _, rfl, by kernel_rfl, by kernel_rfl, fun g10 => ?_⟩
              replace r_a1 := g10.rdD r_a1; replace r_a2 := g10.rdD r_a2; replace F_a3 := F_a3.mv g10.mv; replace F_a4 := F_a4.mv g10.mv; replace r_b1 := g10.rdD r_b1; replace r_b2 := g10.rdD r_b2; replace F_b3 := F_b3.mv g10.mv; replace F_b4 := F_b4.mv g10.mv
              clear h10 hb10
              exact sat_ret (.bool (sameD a.h b.h)) (by kernel_rfl) fun w9 h9 => congrArg Value.bool (by unfold sameRc; rw [hE3, hE4, hE5, hE6, hE7, hE9]; rfl)

def tr_eqr : Sx.Tree := .prim .len [.lf 0] (.prim .len [.lf 1] (.prim (.bin .neq) [.lf 3, .lf 4] (.ite (.lf 5) (.ret (.one (.bit false))) (.prim .len [.lf 0] (.loop 0 [.num .i64 0, .bit false] (.prim (.bin .lss) [.lf 7, .lf 6] (.ite (.lf 9) (.prim (.idx 11) [.lf 0, .lf 7] (.load 28 (.lf 10) (.ag 11) (.chk [.lf 11, .lf 12, .lf 13, .lf 14, .lf 15, .lf 16, .lf 17, .lf 18, .lf 19, .lf 20, .lf 21] (.prim (.idx 11) [.lf 1, .lf 7] (.load 28 (.lf 22) (.ag 11) (.chk [.lf 23, .lf 24, .lf 25, .lf 26, .lf 27, .lf 28, .lf 29, .lf 30, .lf 31, .lf 32, .lf 33] (.call 15 [.ag [.lf 11, .lf 12, .lf 13, .lf 14, .lf 15, .lf 16, .lf 17, .lf 18, .lf 19, .lf 20, .lf 21], .ag [.lf 23, .lf 24, .lf 25, .lf 26, .lf 27, .lf 28, .lf 29, .lf 30, .lf 31, .lf 32, .lf 33]] .one (.prim .not [.lf 34] (.ite (.lf 35) (.ret (.one (.bit false))) (.prim (.bin .add) [.lf 7, .num .i64 1] (.back 0 [.lf 36, .lf 8]))))))))))) (.ret (.one (.bit true))))))))))
theorem tr_eqr_eq : Sx.treeAt Try.prog 72 [(2, 15)] [] [(false, 1), (false, 1), (false, 1)] = some tr_eqr := by kernel_rfl

theorem eqf_R (A_a : Option Addr) (c_a : Nat) (A_b : Option Addr) (c_b : Nat) (a : List Rec) (b : List Rec) (w : World) (h_a : Sx.Rows Sx.kRec (fun _ => True) w A_a a.length c_a a) (h_b : Sx.Rows Sx.kRec (fun _ => True) w A_b b.length c_b b) :
    Calls Try.prog 72 #[.slice A_a a.length c_a, .slice A_b b.length c_b, .func (.func 15) #[] #[]] w fun e w' => e = .returned (.bool (sameL sameRc a b)) ∧ Below w.heap.size w w' := by
  have F_a := h_a.start
  have M_a := h_a.le
  clear h_a
  have F_b := h_b.start
  have M_b := h_b.le
  clear h_b
  refine (Sx.runA [(2, 15)] [] (ls := [.slice A_a a.length c_a, .slice A_b b.length c_b, .func (.func 15) #[] #[]]) (shs := [(false, 1), (false, 1), (false, 1)]) (R := fun v _ => v = .bool (sameL sameRc a b)) tr_eqr_eq rfl (by decide) (by simp [Sx.tupV]) ?_).mono (fun e w' ⟨v, he, hv, hb⟩ => ⟨by rw [he, hv], hb⟩)
  unfold tr_eqr
  refine sat_prim (v := .int .i64 ((a.length : Nat) : Int)) (by kernel_rfl) ?_
  refine sat_prim (v := .int .i64 ((b.length : Nat) : Int)) (by kernel_rfl) ?_
  refine sat_prim (v := .bool ((((a.length : Nat) : Int) : Int) != ((b.length : Nat) : Int))) (by kernel_rfl) ?_
  cases hne : ((((a.length : Nat) : Int) : Int) != ((b.length : Nat) : Int))
  · refine sat_false (by kernel_rfl) ?_
    refine sat_prim (v := .int .i64 ((a.length : Nat) : Int)) (by kernel_rfl) ?_
    have hl := eqf_len' hne
    refine sat_loop (fun Kn vs W => ∃ (i : Nat), vs = [.int .i64 ((i : Nat) : Int), .bool false] ∧ Kn = a.length - i ∧ i ≤ a.length ∧ (all2 sameRc a b = all2 sameRc (a.drop i) (b.drop i))) [.int .i64 0, .bool false] (by kernel_rfl) (fun w1 h1 => ⟨_, 0, rfl, rfl, Nat.zero_le _, rfl⟩) ?_
    rintro Kn vs w2 h2 ⟨i, rfl, rfl, h_i, hm⟩
    replace F_a := F_a.mv h2.mv; replace F_b := F_b.mv h2.mv
    clear h2
    refine sat_prim (v := .bool (decide ((((i : Nat) : Int) : Int) < ((a.length : Nat) : Int)))) (by kernel_rfl) ?_
    cases hlt : (decide ((((i : Nat) : Int) : Int) < ((a.length : Nat) : Int)))
    · refine sat_false (by kernel_rfl) ?_
      exact sat_ret (.bool true) (by kernel_rfl) fun w9 h9 => congrArg Value.bool (eqf_yes hm hlt hl)
    · refine sat_true (by kernel_rfl) ?_
      refine sat_idx (A := A_a) (c := c_a) (kk := .i64) (i) (by kernel_rfl) (by kernel_rfl) (lt_of hlt) F_a.addr fun g4 o4 e4 => ?_
      obtain ⟨x1, h_x1⟩ : ∃ x_, a[(i)]? = some x_ := ⟨_, List.getElem?_eq_getElem (lt_of hlt)⟩
      refine sat_el F_a e4 h_x1 rfl (by kernel_rfl) (by kernel_rfl) (by kernel_rfl) ?_
      rintro _ ⟨A_L21, n_L21, c_L21, A_L22, n_L22, c_L22, X_L2, x_L2, Y_L2, y_L2, rfl, r_L21, r_L22, F_L23, F_L24⟩
      refine sat_chkB (by kernel_rfl) ?_
      refine sat_idx (A := A_b) (c := c_b) (kk := .i64) (i) (by kernel_rfl) (by kernel_rfl) (by have := lt_of hlt; omega) F_b.addr fun g5 o5 e5 => ?_
      obtain ⟨x3, h_x3⟩ : ∃ x_, b[(i)]? = some x_ := ⟨_, List.getElem?_eq_getElem (by have := lt_of hlt; omega)⟩
      refine sat_el F_b e5 h_x3 rfl (by kernel_rfl) (by kernel_rfl) (by kernel_rfl) ?_
      rintro _ ⟨A_L41, n_L41, c_L41, A_L42, n_L42, c_L42, X_L4, x_L4, Y_L4, y_L4, rfl, r_L41, r_L42, F_L43, F_L44⟩
      refine sat_chkB (by kernel_rfl) ?_
      refine sat_call #[.agg #[.int .i64 x1.kind, .int .i64 x1.epoch, .int .i64 x1.code, .bool x1.t.neg, .slice A_L21 n_L21 c_L21, .int .i64 x1.t.e, .bool x1.h.neg, .slice A_L22 n_L22 c_L22, .int .i64 x1.h.e, .slice X_L2 x1.boxes.length x_L2, .slice Y_L2 x1.sigs.length y_L2], .agg #[.int .i64 x3.kind, .int .i64 x3.epoch, .int .i64 x3.code, .bool x3.t.neg, .slice A_L41 n_L41 c_L41, .int .i64 x3.t.e, .bool x3.h.neg, .slice A_L42 n_L42 c_L42, .int .i64 x3.h.e, .slice X_L4 x3.boxes.length x_L4, .slice Y_L4 x3.sigs.length y_L4]] (by kernel_rfl) fun w6 h6 => ?_
      refine (sameR_any _ _ x1 x3 _ (mkRc (h6.rdD r_L21) (h6.rdD r_L22) ((F_L23.mv h6.mv).any) ((F_L24.mv h6.mv).any)) (mkRc (h6.rdD r_L41) (h6.rdD r_L42) ((F_L43.mv h6.mv).any) ((F_L44.mv h6.mv).any))).mono ?_
      rintro e v6 ⟨rfl, hb6⟩
      refine ⟨hb6, [.bool (sameRc x1 x3)], _, rfl, by kernel_rfl, by kernel_rfl, fun g6 => ?_⟩
      replace F_a := F_a.mv g6.mv; replace F_b := F_b.mv g6.mv; replace r_L21 := g6.rdD r_L21; replace r_L22 := g6.rdD r_L22; replace F_L23 := F_L23.mv g6.mv; replace F_L24 := F_L24.mv g6.mv; replace r_L41 := g6.rdD r_L41; replace r_L42 := g6.rdD r_L42; replace F_L43 := F_L43.mv g6.mv; replace F_L44 := F_L44.mv g6.mv
      clear h6 hb6
      refine sat_prim (v := .bool (!(sameRc x1 x3))) (by kernel_rfl) ?_
      cases hf : (sameRc x1 x3)
      · refine sat_true (by kernel_rfl) ?_
        exact sat_ret (.bool false) (by kernel_rfl) fun w9 h9 => congrArg Value.bool (eqf_no hm h_x1 h_x3 hf)
      · refine sat_false (by kernel_rfl) ?_
        refine sat_prim (v := .int .i64 (((i + 1 : Nat)) : Int)) (Eq.trans (b := some (.int .i64 (IntKind.i64.wrap ((((i) : Nat) : Int) + 1)))) (by kernel_rfl) (by rw [Sx.wrap_succ (n := a.length) (lt_of hlt) M_a])) ?_
        exact sat_back [.int .i64 (((i + 1 : Nat)) : Int), .bool false] (by kernel_rfl) fun w9 h9 => ⟨_, by have := lt_of hlt; omega, i + 1, rfl, rfl, by have := lt_of hlt; omega, eqf_step hm h_x1 h_x3 hf⟩
  · refine sat_true (by kernel_rfl) ?_
    exact sat_ret (.bool false) (by kernel_rfl) fun w9 h9 => congrArg Value.bool (eqf_len hne)

def tr_lfront : Sx.Tree := .prim .len [.lf 0] (.prim .len [.lf 1] (.prim (.bin .leq) [.lf 2, .lf 3] (.ite (.lf 4) (.prim .len [.lf 0] (.prim (.slc 11 false true) [.lf 1, .lf 5] (.call 72 [.one (.lf 0), .one (.lf 6), .one (.fn 15)] .one (.ret (.one (.lf 7)))))) (.ret (.one (.bit false))))))
theorem tr_lfront_eq : Sx.treeAt Try.prog 16 [] [] [(false, 1), (false, 1)] = some tr_lfront := by kernel_rfl

theorem front_any (A_a : Option Addr) (c_a : Nat) (A_b : Option Addr) (c_b : Nat) (a : List Rec) (b : List Rec) (w : World) (h_a : Sx.Rows Sx.kRec (fun _ => True) w A_a a.length c_a a) (h_b : Sx.Rows Sx.kRec (fun _ => True) w A_b b.length c_b b) :
    Calls Try.prog 16 #[.slice A_a a.length c_a, .slice A_b b.length c_b] w fun e w' => e = .returned (.bool (frontR a b)) ∧ Below w.heap.size w w' := by
  have F_a := h_a.start
  have M_a := h_a.le
  clear h_a
  have F_b := h_b.start
  have M_b := h_b.le
  clear h_b
  refine (Sx.runA [] [] (ls := [.slice A_a a.length c_a, .slice A_b b.length c_b]) (shs := [(false, 1), (false, 1)]) (R := fun v _ => v = .bool (frontR a b)) tr_lfront_eq rfl (by decide) (fun q h => by cases h) ?_).mono (fun e w' ⟨v, he, hv, hb⟩ => ⟨by rw [he, hv], hb⟩)
  unfold tr_lfront
  refine sat_prim (v := .int .i64 ((a.length : Nat) : Int)) (by kernel_rfl) ?_
  refine sat_prim (v := .int .i64 ((b.length : Nat) : Int)) (by kernel_rfl) ?_
  refine sat_prim (v := .bool (decide ((((a.length : Nat) : Int) : Int) ≤ ((b.length : Nat) : Int)))) (by kernel_rfl) ?_
  cases hle : (decide ((((a.length : Nat) : Int) : Int) ≤ ((b.length : Nat) : Int)))
  · refine sat_false (by kernel_rfl) ?_
    exact sat_ret (.bool false) (by kernel_rfl) fun w9 h9 => congrArg Value.bool (by unfold frontR; rw [hle]; rfl)
  · refine sat_true (by kernel_rfl) ?_
    refine sat_prim (v := .int .i64 ((a.length : Nat) : Int)) (by kernel_rfl) ?_
    obtain ⟨C_D1, c_D1, e_D1, F_D1⟩ := cut0 (n := a.length) F_b (by have := of_decide_eq_true hle; omega)
    refine sat_prim (v := .slice C_D1 (b.take a.length).length c_D1) (Eq.trans (by kernel_rfl) e_D1) ?_
    refine sat_call #[.slice A_a a.length c_a, .slice C_D1 (b.take a.length).length c_D1, .func (.func 15) #[] #[]] (by kernel_rfl) fun w2 h2 => ?_
    refine (eqf_R _ _ _ _ a (b.take a.length) _ ((F_a.mv h2.mv).any) ((F_D1.mv h2.mv).any)).mono ?_
    rintro e v2 ⟨rfl, hb2⟩
    refine ⟨hb2, [.bool (sameL sameRc a (b.take a.length))], _, rfl, by kernel_rfl, by kernel_rfl, fun g2 => ?_⟩
    replace F_a := F_a.mv g2.mv; replace F_b := F_b.mv g2.mv; replace F_D1 := F_D1.mv g2.mv
    clear h2 hb2
    exact sat_ret (.bool (sameL sameRc a (b.take a.length))) (by kernel_rfl) fun w9 h9 => congrArg Value.bool (by unfold frontR; rw [hle]; rfl)

end Go.Proofs.Ytpkfjfpknbhekaa
namespace Go.Proofs.Ytpkfjfpknbhekaa
open Go.RowKit Pl
theorem allT_at : ∀ (k : Nat) {l : List Dy} {i : Nat}, k + i = l.length → allT l i = true → ∀ j d, i ≤ j → l[j]? = some d → mayD d = true
  | 0, l, i, hk, _, j, d, hj, hd => by have := (List.getElem?_eq_some_iff.1 hd).1; omega
  | k + 1, l, i, hk, h, j, d, hj, hd => by
    rw [allT_cons (by omega), Bool.and_eq_true] at h
    by_cases e : j = i
    · subst e
      have h1 := h.1
      unfold stepT at h1
      rw [Bool.and_eq_true, atT_is hd] at h1
      exact h1.1
    · exact allT_at k (by omega) h.2 j d (by omega) hd
theorem MayT.dys {t : Tb} (h : mayT t = true) : (∀ d ∈ t.at_, mayD d = true) ∧ ∀ x ∈ t.v, mayD x.lo = true ∧ mayD x.hi = true := by
  have m := MayT.of h
  refine ⟨fun d hd => ?_, fun x hx => ?_⟩
  · obtain ⟨j, hj⟩ := List.getElem?_of_mem hd
    exact allT_at t.at_.length (i := 0) (by omega) m.inc j d (Nat.zero_le _) hj
  · have h2 := List.all_eq_true.1 m.may x hx
    unfold mayI at h2
    rw [Bool.and_eq_true, Bool.and_eq_true] at h2
    exact h2.1
theorem mayI_dys {x : Iv} (h : mayI x = true) : mayD x.lo = true ∧ mayD x.hi = true := by
  unfold mayI at h
  rw [Bool.and_eq_true, Bool.and_eq_true] at h
  exact h.1
theorem flat_max {α : Type} {enc : α → List Nat} {m : Nat} : ∀ {l : List α}, (∀ x ∈ l, (enc x).length ≤ m) → (l.flatMap enc).length ≤ l.length * m
  | [], _ => by simp
  | x :: l, h => by
    rw [List.flatMap_cons, List.length_append, List.length_cons, Nat.succ_mul]
    have h1 := h x (List.mem_cons_self ..)
    have h2 := flat_max (l := l) fun y hy => h y (List.mem_cons_of_mem _ hy)
    omega
theorem dyB_len {d : Dy} (h : mayD d = true) : (dyB d).length ≤ 531 := by
  obtain ⟨_, h1, h2, h3⟩ := mayD_limbs h
  unfold dyB
  simp only [List.length_append, List.length_cons, List.length_nil]
  have a1 := numB_len9 (n := d.m.length) (by omega)
  have a2 := flat_max (enc := limbB) (m := 8) (l := d.m) fun x _ => by rw [limbB_len]; exact Nat.le_refl _
  have a3 : (bif decide (d.e < 0) then numB (-2 * d.e - 1).toNat else numB (2 * d.e).toNat).length ≤ 9 := by
    cases decide (d.e < 0)
    · exact numB_len9 (by omega)
    · exact numB_len9 (by omega)
  omega
theorem ivB_len {x : Iv} (h : mayD x.lo = true ∧ mayD x.hi = true) : (ivB x).length ≤ 1062 := by
  unfold ivB
  rw [List.length_append]
  have := dyB_len h.1
  have := dyB_len h.2
  omega
theorem tbB_len {t : Tb} (h : mayT t = true) : (tbB t).length ≤ 500000 := by
  have m := MayT.of h
  obtain ⟨h1, h2⟩ := MayT.dys h
  unfold tbB
  simp only [List.length_append]
  have a1 := numB_len9 (n := t.v.length) (by have := m.few; omega)
  have a2 := flat_max (enc := dyB) (m := 531) (l := t.at_) fun x hx => dyB_len (h1 x hx)
  have a3 := flat_max (enc := ivB) (m := 1062) (l := t.v) fun x hx => ivB_len (h2 x hx)
  have a4 : t.at_.length * 531 ≤ 257 * 531 := Nat.mul_le_mul_right _ (by have := m.len; have := m.few; omega)
  have a5 : t.v.length * 1062 ≤ 256 * 1062 := Nat.mul_le_mul_right _ m.few
  omega
theorem rowB_len {α : Type} {enc : α → List Nat} {n m : Nat} {l : List α} (hn : l.length ≤ n) (h9 : n < 9223372036854775808) (h : ∀ x ∈ l, (enc x).length ≤ m) : (rowB enc l).length ≤ 9 + n * m := by
  unfold rowB
  rw [List.length_append]
  have a1 := numB_len9 (n := l.length) (by omega)
  have a2 := flat_max h
  have a3 : l.length * m ≤ n * m := Nat.mul_le_mul_right _ hn
  omega
/-- What a record that may be is. -/
structure MayR (r : Rec) : Prop where
  k1 : 1 ≤ r.kind
  k3 : r.kind ≤ 3
  e0 : 0 ≤ r.epoch
  e1 : r.epoch ≤ 1073741824
  c0 : 0 ≤ r.code
  c1 : r.code ≤ 200
  t : mayD r.t = true
  h : mayD r.h = true
  nb : r.boxes.length ≤ 16
  ns : r.sigs.length ≤ 16
  bx : ∀ l ∈ r.boxes, l.length ≤ 64 ∧ ∀ a ∈ l, mayI a = true
  sg : ∀ l ∈ r.sigs, l.length ≤ 64 ∧ ∀ a ∈ l, mayT a = true
theorem not_dec {p : Prop} [Decidable p] (h : (!(decide p)) = true) : ¬ p := by simpa using h
theorem MayR.of {r : Rec} (h : mayR r = true) : MayR r := by
  unfold mayR at h
  simp only [Bool.and_eq_true] at h
  obtain ⟨h1, h2, h3, h4, h5, h6, h7, h8, h9, h10, h11, h12⟩ := h
  have g1 := not_dec h1
  have g2 := not_dec h2
  have g3 := not_dec h3
  have g4 := not_dec h4
  have g5 := not_dec h5
  have g6 := not_dec h6
  have g9 := not_dec h9
  have g10 := not_dec h10
  refine ⟨by omega, by omega, by omega, by omega, by omega, by omega, h7, h8, by omega, by omega, fun l hl => ?_, fun l hl => ?_⟩
  · have k := List.all_eq_true.1 h11 l hl
    unfold okLI at k
    rw [Bool.and_eq_true] at k
    have k1 := not_dec k.1
    exact ⟨by omega, fun a ha => List.all_eq_true.1 k.2 a ha⟩
  · have k := List.all_eq_true.1 h12 l hl
    unfold okLT at k
    rw [Bool.and_eq_true] at k
    have k1 := not_dec k.1
    exact ⟨by omega, fun a ha => List.all_eq_true.1 k.2 a ha⟩
theorem recB_len {r : Rec} (h : mayR r = true) : (recB r).length ≤ MX := by
  have m := MayR.of h
  unfold recB MX
  simp only [List.length_append]
  have a1 := numB_len9 (n := r.kind.toNat) (by have := m.k3; omega)
  have a2 := numB_len9 (n := r.epoch.toNat) (by have := m.e1; omega)
  have a3 := numB_len9 (n := r.code.toNat) (by have := m.c1; omega)
  have a4 := dyB_len m.t
  have a5 := dyB_len m.h
  have a6 := rowB_len (enc := rowB ivB) (n := 16) (m := 9 + 64 * 1062) m.nb (by omega) fun l hl => rowB_len (m.bx l hl).1 (by omega) fun a ha => ivB_len (mayI_dys ((m.bx l hl).2 a ha))
  have a7 := rowB_len (enc := rowB tbB) (n := 16) (m := 9 + 64 * 500000) m.ns (by omega) fun l hl => rowB_len (m.sg l hl).1 (by omega) fun a ha => tbB_len ((m.sg l hl).2 a ha)
  omega
def putB (r : Rec) : List Nat := bif mayR r then recB r else []
def putE (r : Rec) : Int := bif mayR r then 0 else 1
end Go.Proofs.Ytpkfjfpknbhekaa
namespace Go.Proofs.Ytpkfjfpknbhekaa
open Go.RowKit Pl
/-- One behind the other. -/
def andP {α β : Type} (o : Option (α × List Nat)) (f : α → List Nat → Option β) : Option β := match o with
  | none => none
  | some (x, b) => f x b
theorem andP_none {α β : Type} {o : Option (α × List Nat)} {f : α → List Nat → Option β} (h : o = none) : andP o f = none := by rw [h]; rfl
theorem andP_some {α β : Type} {o : Option (α × List Nat)} {f : α → List Nat → Option β} {x : α} {b : List Nat} (h : o = some (x, b)) : andP o f = f x b := by rw [h]; rfl
def pbyte : List Nat → Option (Nat × List Nat)
  | [] => none
  | c :: b => some (c, b)
def pnumF (most : Nat) : Nat → Nat → List Nat → Option (Nat × List Nat)
  | _, _, [] => none
  | n, j, c :: b => bif decide (most < n + c % 128 * 2 ^ (7 * j)) || decide (5 < j) then none else bif decide (c < 128) then some (n + c % 128 * 2 ^ (7 * j), b) else pnumF most (n + c % 128 * 2 ^ (7 * j)) (j + 1) b
def pnum (most : Nat) (b : List Nat) : Option (Nat × List Nat) := pnumF most 0 0 b
def plimbF : Nat → Nat → List Nat → Option (Nat × List Nat)
  | 0, m, b => some (m, b)
  | _ + 1, _, [] => none
  | k + 1, m, c :: b => plimbF k (m + c * 256 ^ (7 - k)) b
def plimb (b : List Nat) : Option (Nat × List Nat) := plimbF 8 0 b
def prep {α : Type} (p : List Nat → Option (α × List Nat)) : Nat → List α → List Nat → Option (List α × List Nat)
  | 0, acc, b => some (acc, b)
  | n + 1, acc, b => andP (p b) fun x b' => prep p n (acc ++ [x]) b'
def expo (e : Nat) : Int := bif decide (e % 2 = 1) then -((e / 2 : Nat) : Int) - 1 else ((e / 2 : Nat) : Int)
def pdy (b : List Nat) : Option (Dy × List Nat) := andP (pnum 64 b) fun n b1 => andP (prep plimb n [] b1) fun m b2 => andP (pbyte b2) fun c b3 => andP (pnum 2097153 b3) fun e b4 => some (⟨c == 1, m, expo e⟩, b4)
def piv (b : List Nat) : Option (Iv × List Nat) := andP (pdy b) fun x b1 => andP (pdy b1) fun y b2 => some (⟨x, y⟩, b2)
def ptb (b : List Nat) : Option (Tb × List Nat) := andP (pnum 256 b) fun n b1 => andP (prep pdy (n + 1) [] b1) fun p b2 => andP (prep piv n [] b2) fun q b3 => some (⟨p, q⟩, b3)
def prow {α : Type} (most : Nat) (p : List Nat → Option (α × List Nat)) (b : List Nat) : Option (List α × List Nat) := andP (pnum most b) fun n b1 => prep p n [] b1
def prec (b : List Nat) : Option (Rec × List Nat) := andP (pnum 3 b) fun k b1 => andP (pnum 1073741824 b1) fun e b2 => andP (pnum 200 b2) fun c b3 => andP (pdy b3) fun t b4 => andP (pdy b4) fun h b5 =>
  andP (prow 16 (prow 64 piv) b5) fun x b6 => andP (prow 16 (prow 64 ptb) b6) fun s b7 => some (⟨(k : Int), (e : Int), (c : Int), t, h, x, s⟩, b7)
/-- What is read back. -/
theorem pnumF_back (most : Nat) : ∀ (k n j q : Nat) (rest : List Nat), q ≤ k → n + q * 2 ^ (7 * j) ≤ most → j ≤ 5 → q < 128 ^ (6 - j) → pnumF most n j (numB q ++ rest) = some (n + q * 2 ^ (7 * j), rest)
  | k, n, j, q, rest, hk, hm, hj, hq => by
    by_cases h : q < 128
    · rw [numB_lo h]
      show (bif decide (most < n + q % 128 * 2 ^ (7 * j)) || decide (5 < j) then none else bif decide (q < 128) then some (n + q % 128 * 2 ^ (7 * j), rest) else _) = _
      rw [Nat.mod_eq_of_lt h, decide_eq_false (by omega), decide_eq_false (by omega), decide_eq_true h]
      rfl
    · rw [numB_hi h]
      show (bif decide (most < n + (q % 128 + 128) % 128 * 2 ^ (7 * j)) || decide (5 < j) then none else bif decide (q % 128 + 128 < 128) then _ else pnumF most (n + (q % 128 + 128) % 128 * 2 ^ (7 * j)) (j + 1) (numB (q / 128) ++ rest)) = _
      have e1 : (q % 128 + 128) % 128 = q % 128 := by omega
      have e2 : q % 128 * 2 ^ (7 * j) + q / 128 * 2 ^ (7 * (j + 1)) = q * 2 ^ (7 * j) := by
        rw [show 2 ^ (7 * (j + 1)) = 128 * 2 ^ (7 * j) by rw [show 7 * (j + 1) = 7 + 7 * j by omega, Nat.pow_add], ← Nat.mul_assoc, ← Nat.add_mul]
        congr 1
        omega
      have hj6 : j < 5 := by
        rcases Nat.lt_or_ge j 5 with e | e
        · exact e
        · obtain rfl : j = 5 := by omega
          simp at hq
          omega
      rw [e1, decide_eq_false (by have : q % 128 * 2 ^ (7 * j) ≤ q * 2 ^ (7 * j) := Nat.mul_le_mul_right _ (Nat.mod_le ..); omega), decide_eq_false (by omega), decide_eq_false (by omega)]
      show pnumF most (n + q % 128 * 2 ^ (7 * j)) (j + 1) (numB (q / 128) ++ rest) = _
      cases k with
      | zero => omega
      | succ k =>
        rw [pnumF_back most k (n + q % 128 * 2 ^ (7 * j)) (j + 1) (q / 128) rest (by omega) (by rw [Nat.add_assoc, e2]; exact hm) (by omega) (by
          rw [Nat.div_lt_iff_lt_mul (by omega), ← Nat.pow_succ, show (6 - (j + 1)).succ = 6 - j by omega]; exact hq), Nat.add_assoc, e2]
theorem pnum_back {most q : Nat} {rest : List Nat} (h : q ≤ most) (hq : q < 4398046511104) : pnum most (numB q ++ rest) = some (q, rest) := by
  unfold pnum
  rw [pnumF_back most q 0 0 q rest (Nat.le_refl _) (by omega) (by omega) (by simpa using hq)]
  simp
theorem plimbF_back (x : Nat) : ∀ (k : Nat) (rest : List Nat), k ≤ 8 → plimbF k (x % 256 ^ (8 - k)) ((((List.range 8).map fun k => x / 256 ^ k % 256).drop (8 - k)) ++ rest) = some (x % 256 ^ 8, rest)
  | 0, rest, _ => rfl
  | k + 1, rest, hk => by
    have h1 : ((List.range 8).map fun k => x / 256 ^ k % 256)[8 - (k + 1)]? = some (x / 256 ^ (8 - (k + 1)) % 256) := by
      rw [List.getElem?_map, List.getElem?_range (by omega)]; rfl
    rw [drop_cons h1]
    show plimbF k (x % 256 ^ (8 - (k + 1)) + x / 256 ^ (8 - (k + 1)) % 256 * 256 ^ (7 - k)) (((List.range 8).map fun k => x / 256 ^ k % 256).drop (8 - (k + 1) + 1) ++ rest) = _
    have e : x % 256 ^ (8 - (k + 1)) + x / 256 ^ (8 - (k + 1)) % 256 * 256 ^ (7 - k) = x % 256 ^ (8 - k) := by
      rw [show 7 - k = 8 - (k + 1) by omega, show 8 - k = 8 - (k + 1) + 1 by omega, Nat.pow_succ, Nat.mod_mul, Nat.mul_comm (x / 256 ^ (8 - (k + 1)) % 256)]
    rw [e, show 8 - (k + 1) + 1 = 8 - k by omega]
    exact plimbF_back x k rest (by omega)
theorem plimb_back {x : Nat} {rest : List Nat} (h : x < 18446744073709551616) : plimb (limbB x ++ rest) = some (x, rest) := by
  have := plimbF_back x 8 rest (Nat.le_refl _)
  rw [show x % 256 ^ 8 = x from Nat.mod_eq_of_lt h] at this
  unfold plimb limbB
  rw [show x % 256 ^ (8 - 8) = 0 by simp; omega] at this
  exact this
theorem prep_back {α : Type} {p : List Nat → Option (α × List Nat)} {enc : α → List Nat} {rest : List Nat} : ∀ {l acc : List α}, (∀ x ∈ l, ∀ r, p (enc x ++ r) = some (x, r)) → prep p l.length acc (l.flatMap enc ++ rest) = some (acc ++ l, rest)
  | [], acc, _ => by simp [prep]
  | x :: l, acc, h => by
    rw [List.flatMap_cons, List.append_assoc]
    show andP (p (enc x ++ (l.flatMap enc ++ rest))) (fun x b' => prep p l.length (acc ++ [x]) b') = _
    rw [andP_some (h x (List.mem_cons_self ..) _), prep_back fun y hy => h y (List.mem_cons_of_mem _ hy), List.append_assoc]
    rfl
theorem prow_back {α : Type} {most : Nat} {p : List Nat → Option (α × List Nat)} {enc : α → List Nat} {l : List α} {rest : List Nat} (hl : l.length ≤ most) (h9 : l.length < 4398046511104) (h : ∀ x ∈ l, ∀ r, p (enc x ++ r) = some (x, r)) : prow most p (rowB enc l ++ rest) = some (l, rest) := by
  unfold prow rowB
  rw [List.append_assoc, andP_some (pnum_back hl h9), prep_back h]
  rfl
theorem expo_neg {e : Int} (h : e < 0) : expo (-2 * e - 1).toNat = e := by
  obtain ⟨k, hk⟩ := Int.eq_ofNat_of_zero_le (a := -e - 1) (by omega)
  obtain rfl : e = -(k : Int) - 1 := by omega
  unfold expo
  rw [show (-2 * (-(k : Int) - 1) - 1).toNat = 2 * k + 1 by omega, decide_eq_true (by omega), show (2 * k + 1) / 2 = k by omega]
  rfl
theorem expo_pos {e : Int} (h : ¬ e < 0) : expo (2 * e).toNat = e := by
  obtain ⟨k, rfl⟩ := Int.eq_ofNat_of_zero_le (a := e) (by omega)
  unfold expo
  rw [show (2 * (k : Int)).toNat = 2 * k by omega, decide_eq_false (by omega), show 2 * k / 2 = k by omega]
  rfl
theorem pdy_back {d : Dy} {rest : List Nat} (h : mayD d = true) (hl : Lim BB d.m) : pdy (dyB d ++ rest) = some (d, rest) := by
  obtain ⟨_, h1, h2, h3⟩ := mayD_limbs h
  unfold pdy dyB
  rw [List.append_assoc, List.append_assoc, List.append_assoc, andP_some (pnum_back h1 (by omega)), andP_some (prep_back (enc := limbB) fun x hx r => plimb_back (hl x hx))]
  have hb : ((bif d.neg then 1 else 0 : Nat) == 1) = d.neg := by cases d.neg <;> rfl
  show andP (some ((bif d.neg then 1 else 0 : Nat), _)) _ = _
  rw [andP_some rfl]
  cases he : decide (d.e < 0)
  · have h0 := of_decide_eq_false he
    rw [cond_false]
    show andP (pnum 2097153 (numB (2 * d.e).toNat ++ rest)) _ = _
    rw [andP_some (pnum_back (by omega) (by omega)), expo_pos h0, hb]
    rfl
  · have h0 := of_decide_eq_true he
    rw [cond_true]
    show andP (pnum 2097153 (numB (-2 * d.e - 1).toNat ++ rest)) _ = _
    rw [andP_some (pnum_back (by omega) (by omega)), expo_neg h0, hb]
    rfl
/-- A Dyad whose limbs are limbs. -/
def LimD (d : Dy) : Prop := Lim BB d.m
def LimI (a : Iv) : Prop := LimD a.lo ∧ LimD a.hi
def LimT' (t : Tb) : Prop := (∀ d ∈ t.at_, LimD d) ∧ ∀ x ∈ t.v, LimI x
structure LimR (r : Rec) : Prop where
  t : LimD r.t
  h : LimD r.h
  bx : ∀ l ∈ r.boxes, ∀ a ∈ l, LimI a
  sg : ∀ l ∈ r.sigs, ∀ a ∈ l, LimT' a
theorem piv_back {a : Iv} {rest : List Nat} (h : mayD a.lo = true ∧ mayD a.hi = true) (hl : LimI a) : piv (ivB a ++ rest) = some (a, rest) := by
  unfold piv ivB
  rw [List.append_assoc, andP_some (pdy_back h.1 hl.1), andP_some (pdy_back h.2 hl.2)]
theorem ptb_back {t : Tb} {rest : List Nat} (h : mayT t = true) (hl : LimT' t) : ptb (tbB t ++ rest) = some (t, rest) := by
  have m := MayT.of h
  obtain ⟨h1, h2⟩ := MayT.dys h
  unfold ptb tbB
  rw [List.append_assoc, List.append_assoc, andP_some (pnum_back m.few (by have := m.few; omega)), ← m.len, andP_some (prep_back (enc := dyB) fun x hx r => pdy_back (h1 x hx) (hl.1 x hx)), andP_some (prep_back (enc := ivB) fun x hx r => piv_back (h2 x hx) (hl.2 x hx))]
  rfl
theorem prec_back {r : Rec} {rest : List Nat} (h : mayR r = true) (hl : LimR r) : prec (recB r ++ rest) = some (r, rest) := by
  have m := MayR.of h
  unfold prec recB
  have := m.k1
  have := m.k3
  have := m.e0
  have := m.e1
  have := m.c0
  have := m.c1
  rw [List.append_assoc, List.append_assoc, List.append_assoc, List.append_assoc, List.append_assoc, List.append_assoc, andP_some (pnum_back (by omega) (by omega)), andP_some (pnum_back (by omega) (by omega)), andP_some (pnum_back (by omega) (by omega)), andP_some (pdy_back m.t hl.t), andP_some (pdy_back m.h hl.h),
    andP_some (prow_back m.nb (by have := m.nb; omega) fun l hx r => prow_back (m.bx l hx).1 (by have := (m.bx l hx).1; omega) fun a ha r => piv_back (mayI_dys ((m.bx l hx).2 a ha)) (hl.bx l hx a ha)),
    andP_some (prow_back m.ns (by have := m.ns; omega) fun l hx r => prow_back (m.sg l hx).1 (by have := (m.sg l hx).1; omega) fun a ha r => ptb_back ((m.sg l hx).2 a ha) (hl.sg l hx a ha)),
    Int.toNat_of_nonneg (by omega), Int.toNat_of_nonneg (by omega), Int.toNat_of_nonneg (by omega)]
end Go.Proofs.Ytpkfjfpknbhekaa
