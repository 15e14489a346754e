/- ledger.row, Put$1, Put$2, by their trees. Printed by wip/mk_WrB.py. -/
import Derived.Test.YtpkfjfpknbhekaaWrAx
import Derived.Test.YtpkfjfpknbhekaaWrPx
namespace Go.Proofs.Ytpkfjfpknbhekaa
open Go.RowKit Pl
open Sx (sat_call sat_chk sat_prim sat_ite sat_true sat_false sat_trueP sat_falseP sat_ret sat_row sat_callP sat_loop sat_back sat_idx sat_el sat_elf sat_elc sat_load sat_rowN sat_app sat_callB sat_alt rows_one rows_two all_nil all_cons okB okS okI)

def tr_wrowI : Sx.Tree := .prim .len [.lf 1] (.call 22 [.one (.lf 0), .one (.lf 3)] (.tup []) (.prim .len [.lf 1] (.loop 0 [.num .i64 0] (.prim (.bin .lss) [.lf 5, .lf 4] (.ite (.lf 6) (.prim (.idx 6) [.lf 1, .lf 5] (.loadm 61 (.lf 7) (.ag 6) (.chk [.lf 8, .lf 9, .lf 10, .lf 11, .lf 12, .lf 13] (.callv (.lf 2) [.ag [.lf 8, .lf 9, .lf 10, .lf 11, .lf 12, .lf 13]] (.tup []) (.prim (.bin .add) [.lf 5, .num .i64 1] (.back 0 [.lf 14])))))) (.ret (.tup [])))))))
theorem tr_wrowI_eq : Sx.treeEs Try.prog 26 [] [] [999999] [(false, 1), (false, 1), (false, 1)] = some tr_wrowI := by kernel_rfl

theorem wrowI_any (g : Nat) (v : Value) (l : List Nat) (A_x : Option Addr) (c_x : Nat) (x : List Iv) (w : World) (hW : Sx.WrW 55 w g v l) (h_x : Sx.Rows Sx.kI (fun q => q ∉ Sx.wb g v) w A_x x.length c_x x) (hm : ∀ e ∈ x, mayD e.lo = true ∧ mayD e.hi = true) (hl : (l ++ rowB ivB x).length ≤ MX) :
    Calls Try.prog 26 #[.pointer (some ⟨g, 0, none⟩), .slice A_x x.length c_x, (.func (.func 27) #[.pointer (some ⟨g, 0, none⟩)] #[])] w fun e w' => e = .returned (.tuple #[]) ∧ ∃ v', Sx.WrPost 55 w w' g v (l ++ rowB ivB x) v' := by
  have F_x := h_x.startW
  have M_x := h_x.le
  clear h_x
  refine Sx.runW hW [] [999999] (ls := [.pointer (some ⟨g, 0, none⟩), .slice A_x x.length c_x, (.func (.func 27) #[.pointer (some ⟨g, 0, none⟩)] #[])]) (shs := [(false, 1), (false, 1), (false, 1)]) tr_wrowI_eq rfl (by decide) fun fW S0 => ?_
  unfold tr_wrowI
  refine sat_prim (v := .int .i64 ((x.length : Nat) : Int)) (by kernel_rfl) ?_
  refine Sx.sat_wcall (l' := (l ++ numB x.length)) fW S0 #[.pointer (some ⟨g, 0, none⟩), .int .i64 ((x.length : Nat) : Int)] (by kernel_rfl) (fun w1 h1 W1 => wnum_any g _ _ (x.length) _ W1 (by have := hl; rw [show rowB ivB x = numB x.length ++ x.flatMap ivB from rfl] at this; simp only [List.length_append] at this ⊢; omega)) fun o1 v1 g1 q1 S1 => ?_
  replace F_x := F_x.mv g1.mv
  clear g1 q1
  refine sat_prim (v := .int .i64 ((x.length : Nat) : Int)) (by kernel_rfl) ?_
  refine sat_loop (fun Kn vs W => ∃ (i : Nat) (v' : Value), vs = [.int .i64 ((i : Nat) : Int)] ∧ Kn = x.length - i ∧ i ≤ x.length ∧ Sx.WrS 55 (Sx.wfr w (Sx.wb g v)) W g v' (l ++ numB x.length ++ (x.take i).flatMap ivB)) [.int .i64 0] (by kernel_rfl) (fun w1 h1 => ⟨_, 0, v1, rfl, rfl, Nat.zero_le _, by simpa using S1.le h1⟩) ?_
  rintro Kn vs w2 h2 ⟨i, v2, rfl, rfl, h_i, S2⟩
  replace F_x := F_x.mv h2.mv
  clear h2
  refine sat_prim (v := .bool (decide ((((i : Nat) : Int) : Int) < ((x.length : Nat) : Int)))) (by kernel_rfl) ?_
  cases hi : (decide ((((i : Nat) : Int) : Int) < ((x.length : Nat) : Int)))
  · refine sat_false (by kernel_rfl) ?_
    rw [show x.take i = x from List.take_of_length_le (by have := of_decide_eq_false hi; omega)] at S2
    exact sat_ret (.tuple #[]) (by kernel_rfl) fun w9 h9 => ⟨rfl, _, by have hq := S2.post h9; rw [show rowB ivB x = numB x.length ++ x.flatMap ivB from rfl]; simpa using hq⟩
  · refine sat_true (by kernel_rfl) ?_
    have hle := flat_le (enc := ivB) (l := x) (i := i + 1)
    refine sat_idx (A := A_x) (c := c_x) (kk := .i64) (i) (by kernel_rfl) (by kernel_rfl) (lt_of hi) F_x.addr fun g3 o3 e3 => ?_
    refine Sx.sat_m ?_
    obtain ⟨x1, h_x1⟩ : ∃ x_, x[(i)]? = some x_ := ⟨_, List.getElem?_eq_getElem (lt_of hi)⟩
    refine sat_el F_x e3 h_x1 rfl (by kernel_rfl) (by kernel_rfl) (by kernel_rfl) ?_
    rintro _ ⟨A_L2, n_L2, c_L2, B_L2, m_L2, k_L2, rfl, r_L2l, r_L2h⟩
    refine sat_chkB (by kernel_rfl) ?_
    refine Sx.sat_wcallv (l' := (l ++ numB x.length ++ (x.take i).flatMap ivB ++ ivB x1)) (first := #[.pointer (some ⟨g, 0, none⟩)]) (caps := #[]) fW S2 (by kernel_rfl) (by kernel_rfl) #[.pointer (some ⟨g, 0, none⟩), .agg #[.bool x1.lo.neg, .slice A_L2 n_L2 c_L2, .int .i64 x1.lo.e, .bool x1.hi.neg, .slice B_L2 m_L2 k_L2, .int .i64 x1.hi.e]] (by kernel_rfl) (fun w4 h4 W4 => wival_any g _ _ _ x1 _ W4 (mkI (h4.rdD r_L2l) (h4.rdD r_L2h)) (hm _ (List.mem_of_getElem? h_x1)) (by have := hl; rw [show rowB ivB x = numB x.length ++ x.flatMap ivB from rfl] at this; rw [flat_take h_x1, List.length_append] at hle; simp only [List.length_append] at this ⊢; omega)) fun o4 v4 g4 q4 S4 => ?_
    replace F_x := F_x.mv g4.mv; replace r_L2l := g4.rdD r_L2l; replace r_L2h := g4.rdD r_L2h
    clear g4 q4
    refine sat_prim (v := .int .i64 (((i + 1 : Nat)) : Int)) (Eq.trans (b := some (.int .i64 (IntKind.i64.wrap ((((i) : Nat) : Int) + 1)))) (by kernel_rfl) (by rw [Sx.wrap_succ (n := x.length) (lt_of hi) M_x])) ?_
    exact sat_back [.int .i64 (((i + 1 : Nat)) : Int)] (by kernel_rfl) fun w9 h9 => ⟨_, by have := lt_of hi; omega, i + 1, _, rfl, rfl, by have := lt_of hi; omega, by have hq := S4.le h9; rw [flat_take h_x1, ← List.append_assoc]; simpa using hq⟩

def tr_wrowT : Sx.Tree := .prim .len [.lf 1] (.call 22 [.one (.lf 0), .one (.lf 3)] (.tup []) (.prim .len [.lf 1] (.loop 0 [.num .i64 0] (.prim (.bin .lss) [.lf 5, .lf 4] (.ite (.lf 6) (.prim (.idx 2) [.lf 1, .lf 5] (.loadm 50 (.lf 7) (.ag 2) (.chk [.lf 8, .lf 9] (.callv (.lf 2) [.ag [.lf 8, .lf 9]] (.tup []) (.prim (.bin .add) [.lf 5, .num .i64 1] (.back 0 [.lf 10])))))) (.ret (.tup [])))))))
theorem tr_wrowT_eq : Sx.treeEs Try.prog 30 [] [] [999999] [(false, 1), (false, 1), (false, 1)] = some tr_wrowT := by kernel_rfl

theorem wrowT_any (g : Nat) (v : Value) (l : List Nat) (A_x : Option Addr) (c_x : Nat) (x : List Tb) (w : World) (hW : Sx.WrW 55 w g v l) (h_x : Sx.Rows Sx.kT (fun q => q ∉ Sx.wb g v) w A_x x.length c_x x) (hm : ∀ e ∈ x, (∀ d ∈ e.at_, mayD d = true) ∧ ∀ x ∈ e.v, mayD x.lo = true ∧ mayD x.hi = true) (hl : (l ++ rowB tbB x).length ≤ MX) :
    Calls Try.prog 30 #[.pointer (some ⟨g, 0, none⟩), .slice A_x x.length c_x, (.func (.func 31) #[.pointer (some ⟨g, 0, none⟩)] #[])] w fun e w' => e = .returned (.tuple #[]) ∧ ∃ v', Sx.WrPost 55 w w' g v (l ++ rowB tbB x) v' := by
  have F_x := h_x.startW
  have M_x := h_x.le
  clear h_x
  refine Sx.runW hW [] [999999] (ls := [.pointer (some ⟨g, 0, none⟩), .slice A_x x.length c_x, (.func (.func 31) #[.pointer (some ⟨g, 0, none⟩)] #[])]) (shs := [(false, 1), (false, 1), (false, 1)]) tr_wrowT_eq rfl (by decide) fun fW S0 => ?_
  unfold tr_wrowT
  refine sat_prim (v := .int .i64 ((x.length : Nat) : Int)) (by kernel_rfl) ?_
  refine Sx.sat_wcall (l' := (l ++ numB x.length)) fW S0 #[.pointer (some ⟨g, 0, none⟩), .int .i64 ((x.length : Nat) : Int)] (by kernel_rfl) (fun w1 h1 W1 => wnum_any g _ _ (x.length) _ W1 (by have := hl; rw [show rowB tbB x = numB x.length ++ x.flatMap tbB from rfl] at this; simp only [List.length_append] at this ⊢; omega)) fun o1 v1 g1 q1 S1 => ?_
  replace F_x := F_x.mv g1.mv
  clear g1 q1
  refine sat_prim (v := .int .i64 ((x.length : Nat) : Int)) (by kernel_rfl) ?_
  refine sat_loop (fun Kn vs W => ∃ (i : Nat) (v' : Value), vs = [.int .i64 ((i : Nat) : Int)] ∧ Kn = x.length - i ∧ i ≤ x.length ∧ Sx.WrS 55 (Sx.wfr w (Sx.wb g v)) W g v' (l ++ numB x.length ++ (x.take i).flatMap tbB)) [.int .i64 0] (by kernel_rfl) (fun w1 h1 => ⟨_, 0, v1, rfl, rfl, Nat.zero_le _, by simpa using S1.le h1⟩) ?_
  rintro Kn vs w2 h2 ⟨i, v2, rfl, rfl, h_i, S2⟩
  replace F_x := F_x.mv h2.mv
  clear h2
  refine sat_prim (v := .bool (decide ((((i : Nat) : Int) : Int) < ((x.length : Nat) : Int)))) (by kernel_rfl) ?_
  cases hi : (decide ((((i : Nat) : Int) : Int) < ((x.length : Nat) : Int)))
  · refine sat_false (by kernel_rfl) ?_
    rw [show x.take i = x from List.take_of_length_le (by have := of_decide_eq_false hi; omega)] at S2
    exact sat_ret (.tuple #[]) (by kernel_rfl) fun w9 h9 => ⟨rfl, _, by have hq := S2.post h9; rw [show rowB tbB x = numB x.length ++ x.flatMap tbB from rfl]; simpa using hq⟩
  · refine sat_true (by kernel_rfl) ?_
    have hle := flat_le (enc := tbB) (l := x) (i := i + 1)
    refine sat_idx (A := A_x) (c := c_x) (kk := .i64) (i) (by kernel_rfl) (by kernel_rfl) (lt_of hi) F_x.addr fun g3 o3 e3 => ?_
    refine Sx.sat_m ?_
    obtain ⟨x1, h_x1⟩ : ∃ x_, x[(i)]? = some x_ := ⟨_, List.getElem?_eq_getElem (lt_of hi)⟩
    refine sat_el F_x e3 h_x1 rfl (by kernel_rfl) (by kernel_rfl) (by kernel_rfl) ?_
    rintro _ ⟨A_L2, _, c_L2, B_L2, _, d_L2, rfl, F_L21, F_L22⟩
    obtain rfl := F_L21.len
    obtain rfl := F_L22.len
    refine sat_chkB (by kernel_rfl) ?_
    refine Sx.sat_wcallv (l' := (l ++ numB x.length ++ (x.take i).flatMap tbB ++ tbB x1)) (first := #[.pointer (some ⟨g, 0, none⟩)]) (caps := #[]) fW S2 (by kernel_rfl) (by kernel_rfl) #[.pointer (some ⟨g, 0, none⟩), .agg #[.slice A_L2 x1.at_.length c_L2, .slice B_L2 x1.v.length d_L2]] (by kernel_rfl) (fun w4 h4 W4 => wtube_any g _ _ _ _ _ _ x1 _ W4 ((F_L21.mv h4.mv).out (S2.le h4)) ((F_L22.mv h4.mv).out (S2.le h4)) (hm _ (List.mem_of_getElem? h_x1)) (by have := hl; rw [show rowB tbB x = numB x.length ++ x.flatMap tbB from rfl] at this; rw [flat_take h_x1, List.length_append] at hle; simp only [List.length_append] at this ⊢; omega)) fun o4 v4 g4 q4 S4 => ?_
    replace F_x := F_x.mv g4.mv; replace F_L21 := F_L21.mv g4.mv; replace F_L22 := F_L22.mv g4.mv
    clear g4 q4
    refine sat_prim (v := .int .i64 (((i + 1 : Nat)) : Int)) (Eq.trans (b := some (.int .i64 (IntKind.i64.wrap ((((i) : Nat) : Int) + 1)))) (by kernel_rfl) (by rw [Sx.wrap_succ (n := x.length) (lt_of hi) M_x])) ?_
    exact sat_back [.int .i64 (((i + 1 : Nat)) : Int)] (by kernel_rfl) fun w9 h9 => ⟨_, by have := lt_of hi; omega, i + 1, _, rfl, rfl, by have := lt_of hi; omega, by have hq := S4.le h9; rw [flat_take h_x1, ← List.append_assoc]; simpa using hq⟩

def tr_put1 : Sx.Tree := .loadm 53 (.lf 1) .one (.loadm 53 (.lf 1) .one (.prim (.clo 27 1) [.lf 3] (.call 26 [.one (.lf 2), .one (.lf 0), .one (.lf 4)] (.tup []) (.ret (.tup [])))))
theorem tr_put1_eq : Sx.treeEs Try.prog 25 [] [] [999999] [(false, 1), (false, 1)] = some tr_put1 := by kernel_rfl

theorem put1_any (g : Nat) (v : Value) (l : List Nat) (A_x : Option Addr) (c_x : Nat) (x : List Iv) (p : Nat) (w : World) (hW : Sx.WrW 55 w g v l) (h_x : Sx.Rows Sx.kI (fun q => q ∉ Sx.wb g v) w A_x x.length c_x x) (h_p : Box w p [.pointer (some ⟨g, 0, none⟩)] 53 ∧ p ∉ Sx.wb g v ∧ p < w.heap.size) (hm : ∀ e ∈ x, mayD e.lo = true ∧ mayD e.hi = true) (hl : (l ++ rowB ivB x).length ≤ MX) :
    Calls Try.prog 25 #[.slice A_x x.length c_x, .pointer (some ⟨p, 0, none⟩)] w fun e w' => e = .returned (.tuple #[]) ∧ ∃ v', Sx.WrPost 55 w w' g v (l ++ rowB ivB x) v' := by
  have F_x := h_x.startW
  refine Sx.runW hW [] [999999] (ls := [.slice A_x x.length c_x, .pointer (some ⟨p, 0, none⟩)]) (shs := [(false, 1), (false, 1)]) tr_put1_eq rfl (by decide) fun fW S0 => ?_
  unfold tr_put1
  have F_p : Sx.PV ⟨w, [], Sx.wb g v⟩ p _ _ := ⟨⟨h_p.2.2, (⟨fun e => (by cases e), h_p.2.1⟩ : _ ∧ _)⟩, h_p.1⟩
  refine Sx.sat_pv F_p (by kernel_rfl) (by kernel_rfl) ?_
  refine Sx.sat_pv F_p (by kernel_rfl) (by kernel_rfl) ?_
  refine sat_prim (v := .func (.func 27) #[.pointer (some ⟨g, 0, none⟩)] #[]) (by kernel_rfl) ?_
  refine Sx.sat_wcall (l' := l ++ rowB ivB x) fW S0 #[.pointer (some ⟨g, 0, none⟩), .slice A_x x.length c_x, .func (.func 27) #[.pointer (some ⟨g, 0, none⟩)] #[]] (by kernel_rfl) (fun w1 h1 W1 => wrowI_any g _ _ _ _ x _ W1 ((F_x.mv h1.mv).out (S0.le h1)) hm hl) fun o1 v1 g1 q1 S1 => ?_
  exact sat_ret (.tuple #[]) (by kernel_rfl) fun w9 h9 => ⟨rfl, _, S1.post h9⟩

def tr_put2 : Sx.Tree := .loadm 53 (.lf 1) .one (.loadm 53 (.lf 1) .one (.prim (.clo 31 1) [.lf 3] (.call 30 [.one (.lf 2), .one (.lf 0), .one (.lf 4)] (.tup []) (.ret (.tup [])))))
theorem tr_put2_eq : Sx.treeEs Try.prog 29 [] [] [999999] [(false, 1), (false, 1)] = some tr_put2 := by kernel_rfl

theorem put2_any (g : Nat) (v : Value) (l : List Nat) (A_x : Option Addr) (c_x : Nat) (x : List Tb) (p : Nat) (w : World) (hW : Sx.WrW 55 w g v l) (h_x : Sx.Rows Sx.kT (fun q => q ∉ Sx.wb g v) w A_x x.length c_x x) (h_p : Box w p [.pointer (some ⟨g, 0, none⟩)] 53 ∧ p ∉ Sx.wb g v ∧ p < w.heap.size) (hm : ∀ e ∈ x, (∀ d ∈ e.at_, mayD d = true) ∧ ∀ x ∈ e.v, mayD x.lo = true ∧ mayD x.hi = true) (hl : (l ++ rowB tbB x).length ≤ MX) :
    Calls Try.prog 29 #[.slice A_x x.length c_x, .pointer (some ⟨p, 0, none⟩)] w fun e w' => e = .returned (.tuple #[]) ∧ ∃ v', Sx.WrPost 55 w w' g v (l ++ rowB tbB x) v' := by
  have F_x := h_x.startW
  refine Sx.runW hW [] [999999] (ls := [.slice A_x x.length c_x, .pointer (some ⟨p, 0, none⟩)]) (shs := [(false, 1), (false, 1)]) tr_put2_eq rfl (by decide) fun fW S0 => ?_
  unfold tr_put2
  have F_p : Sx.PV ⟨w, [], Sx.wb g v⟩ p _ _ := ⟨⟨h_p.2.2, (⟨fun e => (by cases e), h_p.2.1⟩ : _ ∧ _)⟩, h_p.1⟩
  refine Sx.sat_pv F_p (by kernel_rfl) (by kernel_rfl) ?_
  refine Sx.sat_pv F_p (by kernel_rfl) (by kernel_rfl) ?_
  refine sat_prim (v := .func (.func 31) #[.pointer (some ⟨g, 0, none⟩)] #[]) (by kernel_rfl) ?_
  refine Sx.sat_wcall (l' := l ++ rowB tbB x) fW S0 #[.pointer (some ⟨g, 0, none⟩), .slice A_x x.length c_x, .func (.func 31) #[.pointer (some ⟨g, 0, none⟩)] #[]] (by kernel_rfl) (fun w1 h1 W1 => wrowT_any g _ _ _ _ x _ W1 ((F_x.mv h1.mv).out (S0.le h1)) hm hl) fun o1 v1 g1 q1 S1 => ?_
  exact sat_ret (.tuple #[]) (by kernel_rfl) fun w9 h9 => ⟨rfl, _, S1.post h9⟩

def tr_wrowLI : Sx.Tree := .prim .len [.lf 1] (.call 22 [.one (.lf 0), .one (.lf 3)] (.tup []) (.prim .len [.lf 1] (.loop 0 [.num .i64 0] (.prim (.bin .lss) [.lf 5, .lf 4] (.ite (.lf 6) (.prim (.idx 1) [.lf 1, .lf 5] (.loadm 45 (.lf 7) .one (.callv (.lf 2) [.one (.lf 8)] (.tup []) (.prim (.bin .add) [.lf 5, .num .i64 1] (.back 0 [.lf 9]))))) (.ret (.tup [])))))))
theorem tr_wrowLI_eq : Sx.treeEs Try.prog 24 [] [] [999999] [(false, 1), (false, 1), (false, 1)] = some tr_wrowLI := by kernel_rfl

theorem wrowLI_any (g : Nat) (v : Value) (l : List Nat) (A_x : Option Addr) (c_x : Nat) (x : List (List Iv)) (p : Nat) (w : World) (hW : Sx.WrW 55 w g v l) (h_x : Sx.Rows (Sx.kL Sx.kI) (fun q => q ∉ Sx.wb g v) w A_x x.length c_x x) (h_p : Box w p [.pointer (some ⟨g, 0, none⟩)] 53 ∧ p ∉ Sx.wb g v ∧ p < w.heap.size) (hm : ∀ e ∈ x, ∀ a ∈ e, mayD a.lo = true ∧ mayD a.hi = true) (hl : (l ++ rowB (rowB ivB) x).length ≤ MX) :
    Calls Try.prog 24 #[.pointer (some ⟨g, 0, none⟩), .slice A_x x.length c_x, (.func (.func 25) #[] #[.pointer (some ⟨p, 0, none⟩)])] w fun e w' => e = .returned (.tuple #[]) ∧ ∃ v', Sx.WrPost 55 w w' g v (l ++ rowB (rowB ivB) x) v' := by
  have F_x := h_x.startW
  have M_x := h_x.le
  clear h_x
  refine Sx.runW hW [] [999999] (ls := [.pointer (some ⟨g, 0, none⟩), .slice A_x x.length c_x, (.func (.func 25) #[] #[.pointer (some ⟨p, 0, none⟩)])]) (shs := [(false, 1), (false, 1), (false, 1)]) tr_wrowLI_eq rfl (by decide) fun fW S0 => ?_
  unfold tr_wrowLI
  have F_p : Sx.PV ⟨w, [], Sx.wb g v⟩ p _ _ := ⟨⟨h_p.2.2, (⟨fun e => (by cases e), h_p.2.1⟩ : _ ∧ _)⟩, h_p.1⟩
  refine sat_prim (v := .int .i64 ((x.length : Nat) : Int)) (by kernel_rfl) ?_
  refine Sx.sat_wcall (l' := (l ++ numB x.length)) fW S0 #[.pointer (some ⟨g, 0, none⟩), .int .i64 ((x.length : Nat) : Int)] (by kernel_rfl) (fun w1 h1 W1 => wnum_any g _ _ (x.length) _ W1 (by have := hl; rw [show rowB (rowB ivB) x = numB x.length ++ x.flatMap (rowB ivB) from rfl] at this; simp only [List.length_append] at this ⊢; omega)) fun o1 v1 g1 q1 S1 => ?_
  replace F_x := F_x.mv g1.mv; replace F_p := g1.pv F_p
  clear g1 q1
  refine sat_prim (v := .int .i64 ((x.length : Nat) : Int)) (by kernel_rfl) ?_
  refine sat_loop (fun Kn vs W => ∃ (i : Nat) (v' : Value), vs = [.int .i64 ((i : Nat) : Int)] ∧ Kn = x.length - i ∧ i ≤ x.length ∧ Sx.WrS 55 (Sx.wfr w (Sx.wb g v)) W g v' (l ++ numB x.length ++ (x.take i).flatMap (rowB ivB))) [.int .i64 0] (by kernel_rfl) (fun w1 h1 => ⟨_, 0, v1, rfl, rfl, Nat.zero_le _, by simpa using S1.le h1⟩) ?_
  rintro Kn vs w2 h2 ⟨i, v2, rfl, rfl, h_i, S2⟩
  replace F_x := F_x.mv h2.mv; replace F_p := h2.pv F_p
  clear h2
  refine sat_prim (v := .bool (decide ((((i : Nat) : Int) : Int) < ((x.length : Nat) : Int)))) (by kernel_rfl) ?_
  cases hi : (decide ((((i : Nat) : Int) : Int) < ((x.length : Nat) : Int)))
  · refine sat_false (by kernel_rfl) ?_
    rw [show x.take i = x from List.take_of_length_le (by have := of_decide_eq_false hi; omega)] at S2
    exact sat_ret (.tuple #[]) (by kernel_rfl) fun w9 h9 => ⟨rfl, _, by have hq := S2.post h9; rw [show rowB (rowB ivB) x = numB x.length ++ x.flatMap (rowB ivB) from rfl]; simpa using hq⟩
  · refine sat_true (by kernel_rfl) ?_
    have hle := flat_le (enc := (rowB ivB)) (l := x) (i := i + 1)
    refine sat_idx (A := A_x) (c := c_x) (kk := .i64) (i) (by kernel_rfl) (by kernel_rfl) (lt_of hi) F_x.addr fun g3 o3 e3 => ?_
    refine Sx.sat_m ?_
    obtain ⟨x1, h_x1⟩ : ∃ x_, x[(i)]? = some x_ := ⟨_, List.getElem?_eq_getElem (lt_of hi)⟩
    refine sat_elc (d := 0) F_x e3 h_x1 rfl (by kernel_rfl) (by kernel_rfl) ?_
    rintro _ ⟨A_L2, c_L2, rfl, F_L2⟩
    refine ⟨_, rfl, ?_⟩
    refine Sx.sat_wcallv (l' := (l ++ numB x.length ++ (x.take i).flatMap (rowB ivB) ++ rowB ivB x1)) (first := #[]) (caps := #[.pointer (some ⟨p, 0, none⟩)]) fW S2 (by kernel_rfl) (by kernel_rfl) #[.slice A_L2 x1.length c_L2, .pointer (some ⟨p, 0, none⟩)] (by kernel_rfl) (fun w4 h4 W4 => put1_any g _ _ _ _ x1 p _ W4 ((F_L2.mv h4.mv).out (S2.le h4)) ((h4.pv F_p).out (S2.le h4)) (hm _ (List.mem_of_getElem? h_x1)) (by have := hl; rw [show rowB (rowB ivB) x = numB x.length ++ x.flatMap (rowB ivB) from rfl] at this; rw [flat_take h_x1, List.length_append] at hle; simp only [List.length_append] at this ⊢; omega)) fun o4 v4 g4 q4 S4 => ?_
    replace F_x := F_x.mv g4.mv; replace F_p := g4.pv F_p; replace F_L2 := F_L2.mv g4.mv
    clear g4 q4
    refine sat_prim (v := .int .i64 (((i + 1 : Nat)) : Int)) (Eq.trans (b := some (.int .i64 (IntKind.i64.wrap ((((i) : Nat) : Int) + 1)))) (by kernel_rfl) (by rw [Sx.wrap_succ (n := x.length) (lt_of hi) M_x])) ?_
    exact sat_back [.int .i64 (((i + 1 : Nat)) : Int)] (by kernel_rfl) fun w9 h9 => ⟨_, by have := lt_of hi; omega, i + 1, _, rfl, rfl, by have := lt_of hi; omega, by have hq := S4.le h9; rw [flat_take h_x1, ← List.append_assoc]; simpa using hq⟩

def tr_wrowLT : Sx.Tree := .prim .len [.lf 1] (.call 22 [.one (.lf 0), .one (.lf 3)] (.tup []) (.prim .len [.lf 1] (.loop 0 [.num .i64 0] (.prim (.bin .lss) [.lf 5, .lf 4] (.ite (.lf 6) (.prim (.idx 1) [.lf 1, .lf 5] (.loadm 46 (.lf 7) .one (.callv (.lf 2) [.one (.lf 8)] (.tup []) (.prim (.bin .add) [.lf 5, .num .i64 1] (.back 0 [.lf 9]))))) (.ret (.tup [])))))))
theorem tr_wrowLT_eq : Sx.treeEs Try.prog 28 [] [] [999999] [(false, 1), (false, 1), (false, 1)] = some tr_wrowLT := by kernel_rfl

theorem wrowLT_any (g : Nat) (v : Value) (l : List Nat) (A_x : Option Addr) (c_x : Nat) (x : List (List Tb)) (p : Nat) (w : World) (hW : Sx.WrW 55 w g v l) (h_x : Sx.Rows (Sx.kL Sx.kT) (fun q => q ∉ Sx.wb g v) w A_x x.length c_x x) (h_p : Box w p [.pointer (some ⟨g, 0, none⟩)] 53 ∧ p ∉ Sx.wb g v ∧ p < w.heap.size) (hm : ∀ e ∈ x, ∀ t ∈ e, (∀ d ∈ t.at_, mayD d = true) ∧ ∀ x ∈ t.v, mayD x.lo = true ∧ mayD x.hi = true) (hl : (l ++ rowB (rowB tbB) x).length ≤ MX) :
    Calls Try.prog 28 #[.pointer (some ⟨g, 0, none⟩), .slice A_x x.length c_x, (.func (.func 29) #[] #[.pointer (some ⟨p, 0, none⟩)])] w fun e w' => e = .returned (.tuple #[]) ∧ ∃ v', Sx.WrPost 55 w w' g v (l ++ rowB (rowB tbB) x) v' := by
  have F_x := h_x.startW
  have M_x := h_x.le
  clear h_x
  refine Sx.runW hW [] [999999] (ls := [.pointer (some ⟨g, 0, none⟩), .slice A_x x.length c_x, (.func (.func 29) #[] #[.pointer (some ⟨p, 0, none⟩)])]) (shs := [(false, 1), (false, 1), (false, 1)]) tr_wrowLT_eq rfl (by decide) fun fW S0 => ?_
  unfold tr_wrowLT
  have F_p : Sx.PV ⟨w, [], Sx.wb g v⟩ p _ _ := ⟨⟨h_p.2.2, (⟨fun e => (by cases e), h_p.2.1⟩ : _ ∧ _)⟩, h_p.1⟩
  refine sat_prim (v := .int .i64 ((x.length : Nat) : Int)) (by kernel_rfl) ?_
  refine Sx.sat_wcall (l' := (l ++ numB x.length)) fW S0 #[.pointer (some ⟨g, 0, none⟩), .int .i64 ((x.length : Nat) : Int)] (by kernel_rfl) (fun w1 h1 W1 => wnum_any g _ _ (x.length) _ W1 (by have := hl; rw [show rowB (rowB tbB) x = numB x.length ++ x.flatMap (rowB tbB) from rfl] at this; simp only [List.length_append] at this ⊢; omega)) fun o1 v1 g1 q1 S1 => ?_
  replace F_x := F_x.mv g1.mv; replace F_p := g1.pv F_p
  clear g1 q1
  refine sat_prim (v := .int .i64 ((x.length : Nat) : Int)) (by kernel_rfl) ?_
  refine sat_loop (fun Kn vs W => ∃ (i : Nat) (v' : Value), vs = [.int .i64 ((i : Nat) : Int)] ∧ Kn = x.length - i ∧ i ≤ x.length ∧ Sx.WrS 55 (Sx.wfr w (Sx.wb g v)) W g v' (l ++ numB x.length ++ (x.take i).flatMap (rowB tbB))) [.int .i64 0] (by kernel_rfl) (fun w1 h1 => ⟨_, 0, v1, rfl, rfl, Nat.zero_le _, by simpa using S1.le h1⟩) ?_
  rintro Kn vs w2 h2 ⟨i, v2, rfl, rfl, h_i, S2⟩
  replace F_x := F_x.mv h2.mv; replace F_p := h2.pv F_p
  clear h2
  refine sat_prim (v := .bool (decide ((((i : Nat) : Int) : Int) < ((x.length : Nat) : Int)))) (by kernel_rfl) ?_
  cases hi : (decide ((((i : Nat) : Int) : Int) < ((x.length : Nat) : Int)))
  · refine sat_false (by kernel_rfl) ?_
    rw [show x.take i = x from List.take_of_length_le (by have := of_decide_eq_false hi; omega)] at S2
    exact sat_ret (.tuple #[]) (by kernel_rfl) fun w9 h9 => ⟨rfl, _, by have hq := S2.post h9; rw [show rowB (rowB tbB) x = numB x.length ++ x.flatMap (rowB tbB) from rfl]; simpa using hq⟩
  · refine sat_true (by kernel_rfl) ?_
    have hle := flat_le (enc := (rowB tbB)) (l := x) (i := i + 1)
    refine sat_idx (A := A_x) (c := c_x) (kk := .i64) (i) (by kernel_rfl) (by kernel_rfl) (lt_of hi) F_x.addr fun g3 o3 e3 => ?_
    refine Sx.sat_m ?_
    obtain ⟨x1, h_x1⟩ : ∃ x_, x[(i)]? = some x_ := ⟨_, List.getElem?_eq_getElem (lt_of hi)⟩
    refine sat_elc (d := 0) F_x e3 h_x1 rfl (by kernel_rfl) (by kernel_rfl) ?_
    rintro _ ⟨A_L2, c_L2, rfl, F_L2⟩
    refine ⟨_, rfl, ?_⟩
    refine Sx.sat_wcallv (l' := (l ++ numB x.length ++ (x.take i).flatMap (rowB tbB) ++ rowB tbB x1)) (first := #[]) (caps := #[.pointer (some ⟨p, 0, none⟩)]) fW S2 (by kernel_rfl) (by kernel_rfl) #[.slice A_L2 x1.length c_L2, .pointer (some ⟨p, 0, none⟩)] (by kernel_rfl) (fun w4 h4 W4 => put2_any g _ _ _ _ x1 p _ W4 ((F_L2.mv h4.mv).out (S2.le h4)) ((h4.pv F_p).out (S2.le h4)) (hm _ (List.mem_of_getElem? h_x1)) (by have := hl; rw [show rowB (rowB tbB) x = numB x.length ++ x.flatMap (rowB tbB) from rfl] at this; rw [flat_take h_x1, List.length_append] at hle; simp only [List.length_append] at this ⊢; omega)) fun o4 v4 g4 q4 S4 => ?_
    replace F_x := F_x.mv g4.mv; replace F_p := g4.pv F_p; replace F_L2 := F_L2.mv g4.mv
    clear g4 q4
    refine sat_prim (v := .int .i64 (((i + 1 : Nat)) : Int)) (Eq.trans (b := some (.int .i64 (IntKind.i64.wrap ((((i) : Nat) : Int) + 1)))) (by kernel_rfl) (by rw [Sx.wrap_succ (n := x.length) (lt_of hi) M_x])) ?_
    exact sat_back [.int .i64 (((i + 1 : Nat)) : Int)] (by kernel_rfl) fun w9 h9 => ⟨_, by have := lt_of hi; omega, i + 1, _, rfl, rfl, by have := lt_of hi; omega, by have hq := S4.le h9; rw [flat_take h_x1, ← List.append_assoc]; simpa using hq⟩

end Go.Proofs.Ytpkfjfpknbhekaa
