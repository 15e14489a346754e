/- ledger's writer: num, dyad, ival, tube, by their trees. Printed by wip/mk_WrA.py. -/
import Derived.Test.YtpkfjfpknbhekaaWrPx
import Derived.Test.YtpkfjfpknbhekaaTbAx
namespace Go.Proofs.Ytpkfjfpknbhekaa
open Go.RowKit Pl
open Sx (sat_call sat_chk sat_prim sat_ite sat_true sat_false sat_trueP sat_falseP sat_ret sat_row sat_callP sat_loop sat_back sat_idx sat_el sat_elf sat_elc sat_load sat_rowN sat_app sat_callB sat_alt rows_one rows_two all_nil all_cons okB okS okI)

theorem RdD.nums {w : World} {d : Dy} {A : Option Addr} {n c : Nat} (h : RdD w (.agg #[.bool d.neg, .slice A n c, .int .i64 d.e]) d) : RdN .u64 w A n c d.m := by
  obtain ⟨A', n', c', h1, h2, _⟩ := h
  injection h1 with h1
  have h3 := congrArg Array.toList h1
  simp only [List.cons.injEq, Value.slice.injEq, true_and, and_true] at h3
  obtain ⟨rfl, rfl, rfl⟩ := h3
  exact h2
theorem dy_exp {d : Dy} (h : mayD d = true) : d.m.length ≤ 64 ∧ -1048576 ≤ d.e ∧ d.e ≤ 1048576 := (mayD_limbs h).2
theorem limb_take {x k : Nat} : ((List.range (k + 1)).map fun k => x / 256 ^ k % 256) = ((List.range k).map fun k => x / 256 ^ k % 256) ++ [x / 256 ^ k % 256] := by
  rw [List.range_succ, List.map_append]; rfl
theorem nth_some {l : List Nat} {i : Nat} (h : i < l.length) : l[i]? = some (nth l i) := by
  unfold nth
  rw [List.getElem?_eq_getElem h, List.getD_eq_getElem?_getD, List.getElem?_eq_getElem h]
  rfl

def tr_wnum : Sx.Tree := .loop 0 [.lf 1] (.prim (.bin .geq) [.lf 2, .num .i64 128] (.ite (.lf 3) (.prim .nchk [.lf 0] (.prim (.fld 0) [.lf 4] (.loadm 29 (.lf 5) .one (.prim (.cvt .u8) [.lf 2] (.prim (.bin .or) [.lf 7, .num .u8 128] (.row 5 [.lf 8] 1 [.lf 8] (.appk .u8 5 1 1 (.lf 6) (.lf 9) (.prim .nchk [.lf 0] (.prim (.fld 0) [.lf 11] (.fst 29 (.lf 12) (.one (.lf 10)) (.prim .shr [.lf 2, .num .u64 7] (.back 0 [.lf 13])))))))))))) (.prim .nchk [.lf 0] (.prim (.fld 0) [.lf 4] (.loadm 29 (.lf 5) .one (.prim (.cvt .u8) [.lf 2] (.row 5 [.lf 7] 1 [.lf 7] (.appk .u8 5 1 1 (.lf 6) (.lf 8) (.prim .nchk [.lf 0] (.prim (.fld 0) [.lf 10] (.fst 29 (.lf 11) (.one (.lf 9)) (.ret (.tup [])))))))))))))
theorem tr_wnum_eq : Sx.treeEs Try.prog 22 [] [] [999999] [(false, 1), (false, 1)] = some tr_wnum := by kernel_rfl

theorem wnum_any (g : Nat) (v : Value) (l : List Nat) (n : Nat) (w : World) (hW : Sx.WrW 55 w g v l) (hl : (l ++ numB n).length ≤ MX) :
    Calls Try.prog 22 #[.pointer (some ⟨g, 0, none⟩), .int .i64 ((n : Nat) : Int)] w fun e w' => e = .returned (.tuple #[]) ∧ ∃ v', Sx.WrPost 55 w w' g v (l ++ numB n) v' := by
  refine Sx.runW hW [] [999999] (ls := [.pointer (some ⟨g, 0, none⟩), .int .i64 ((n : Nat) : Int)]) (shs := [(false, 1), (false, 1)]) tr_wnum_eq rfl (by decide) fun fW S0 => ?_
  unfold tr_wnum
  refine sat_loop (fun Kn vs W => ∃ (m : Nat) (p : List Nat) (v' : Value), vs = [.int .i64 ((m : Nat) : Int)] ∧ m = Kn ∧ numB n = p ++ numB m ∧ Sx.WrS 55 (Sx.wfr w (Sx.wb g v)) W g v' (l ++ p)) [.int .i64 ((n : Nat) : Int)] (by kernel_rfl) (fun w1 h1 => ⟨_, n, [], v, rfl, rfl, rfl, by simpa using S0.le h1⟩) ?_
  rintro Kn vs w1 h1 ⟨m, p, v1, rfl, rfl, hm, S1⟩
  clear h1
  refine sat_prim (v := .bool (decide ((128 : Int) ≤ ((m : Nat) : Int)))) (by kernel_rfl) ?_
  by_cases h128 : m < 128
  · refine sat_falseP (b := (decide ((128 : Int) ≤ ((m : Nat) : Int)))) (by kernel_rfl) (decide_eq_false (by omega)) ?_
    have hm2 := numB_lo h128
    rw [hm2] at hm
    refine sat_prim (v := .pointer (some ⟨g, 0, none⟩)) (by kernel_rfl) ?_
    refine sat_prim (v := .pointer (some ⟨g, 0 + 0, none⟩)) (by kernel_rfl) ?_
    refine Sx.sat_bload (off := 0) v1 S1.box S1.bg (by kernel_rfl) rfl (by kernel_rfl) ?_
    refine sat_prim (v := .int .u8 ((m % 256 : Nat) : Int)) (Eq.trans (by kernel_rfl) (pr_u8 (n := m))) ?_
    refine Sx.sat_push (j := 8) (l := (l ++ p)) (m % 256) fW S1 (by kernel_rfl) (by kernel_rfl) (by kernel_rfl) (fun y hy => by obtain rfl := List.mem_singleton.1 hy; rfl) (by have := hl; rw [hm] at this; simp only [List.length_append, List.length_cons, List.length_nil] at this ⊢; omega) (by kernel_rfl) (fun r2 v2 w2 h2 q2 S2 => ?_) (fun r => by kernel_rfl) (fun r q => by kernel_rfl)
    clear h2 q2
    exact sat_ret (.tuple #[]) (by kernel_rfl) fun w9 h9 => ⟨rfl, _, by have hq := S2.post h9; rw [show m % 256 = m by omega] at hq; rw [hm]; simpa using hq⟩
  · refine sat_trueP (b := (decide ((128 : Int) ≤ ((m : Nat) : Int)))) (by kernel_rfl) (decide_eq_true (by omega)) ?_
    have hm2 := numB_hi h128
    refine sat_prim (v := .pointer (some ⟨g, 0, none⟩)) (by kernel_rfl) ?_
    refine sat_prim (v := .pointer (some ⟨g, 0 + 0, none⟩)) (by kernel_rfl) ?_
    refine Sx.sat_bload (off := 0) v1 S1.box S1.bg (by kernel_rfl) rfl (by kernel_rfl) ?_
    refine sat_prim (v := .int .u8 ((m % 256 : Nat) : Int)) (Eq.trans (by kernel_rfl) (pr_u8 (n := m))) ?_
    refine sat_prim (v := .int .u8 ((m % 128 + 128 : Nat) : Int)) (Eq.trans (by kernel_rfl) (pr_or128 (n := m))) ?_
    refine Sx.sat_push (j := 9) (l := (l ++ p)) (m % 128 + 128) fW S1 (by kernel_rfl) (by kernel_rfl) (by kernel_rfl) (fun y hy => by obtain rfl := List.mem_singleton.1 hy; rfl) (by have := hl; rw [hm, hm2] at this; simp only [List.length_append, List.length_cons, List.length_nil] at this ⊢; omega) (by kernel_rfl) (fun r2 v2 w2 h2 q2 S2 => ?_) (fun r => by kernel_rfl) (fun r q => by kernel_rfl)
    clear h2 q2
    refine sat_prim (v := .int .i64 ((m / 128 : Nat) : Int)) (Eq.trans (by kernel_rfl) (pr_shr7 (n := m))) ?_
    exact sat_back [.int .i64 ((m / 128 : Nat) : Int)] (by kernel_rfl) fun w9 h9 => ⟨_, by omega, m / 128, p ++ [m % 128 + 128], _, rfl, rfl, by rw [hm, numB_hi h128, List.append_assoc]; rfl, by have hq := S2.le h9; simpa using hq⟩

def tr_wdyad : Sx.Tree := .chk [.lf 1, .lf 2, .lf 3] (.prim .len [.lf 2] (.call 22 [.one (.lf 0), .one (.lf 4)] (.tup []) (.prim .len [.lf 2] (.loop 0 [.num .i64 0] (.prim (.bin .lss) [.lf 6, .lf 5] (.ite (.lf 7) (.prim (.idx 1) [.lf 2, .lf 6] (.loadm 51 (.lf 8) .one (.loop 1 [.num .i64 0] (.prim (.bin .lss) [.lf 10, .num .i64 8] (.ite (.lf 11) (.prim .nchk [.lf 0] (.prim (.fld 0) [.lf 12] (.loadm 29 (.lf 13) .one (.prim (.bin .mul) [.num .i64 8, .lf 10] (.prim (.cvt .u64) [.lf 15] (.prim .shr [.lf 9, .lf 16] (.prim (.cvt .u8) [.lf 17] (.row 5 [.lf 18] 1 [.lf 18] (.appk .u8 5 1 1 (.lf 14) (.lf 19) (.prim .nchk [.lf 0] (.prim (.fld 0) [.lf 21] (.fst 29 (.lf 22) (.one (.lf 20)) (.prim (.bin .add) [.lf 10, .num .i64 1] (.back 1 [.lf 23])))))))))))))) (.prim (.bin .add) [.lf 6, .num .i64 1] (.back 0 [.lf 12]))))))) (.ite (.lf 1) (.prim .nchk [.lf 0] (.prim (.fld 0) [.lf 8] (.loadm 29 (.lf 9) .one (.row 5 [.num .u8 1] 1 [] (.appk .u8 5 1 1 (.lf 10) (.lf 11) (.prim .nchk [.lf 0] (.prim (.fld 0) [.lf 13] (.fst 29 (.lf 14) (.one (.lf 12)) (.prim (.bin .lss) [.lf 3, .num .i64 0] (.ite (.lf 15) (.prim (.bin .mul) [.num .i64 ((-2)), .lf 3] (.prim (.bin .sub) [.lf 16, .num .i64 1] (.call 22 [.one (.lf 0), .one (.lf 17)] (.tup []) (.ret (.tup []))))) (.prim (.bin .mul) [.num .i64 2, .lf 3] (.call 22 [.one (.lf 0), .one (.lf 16)] (.tup []) (.ret (.tup [])))))))))))))) (.prim .nchk [.lf 0] (.prim (.fld 0) [.lf 8] (.loadm 29 (.lf 9) .one (.row 5 [.num .u8 0] 1 [] (.appk .u8 5 1 1 (.lf 10) (.lf 11) (.prim .nchk [.lf 0] (.prim (.fld 0) [.lf 13] (.fst 29 (.lf 14) (.one (.lf 12)) (.prim (.bin .lss) [.lf 3, .num .i64 0] (.ite (.lf 15) (.prim (.bin .mul) [.num .i64 ((-2)), .lf 3] (.prim (.bin .sub) [.lf 16, .num .i64 1] (.call 22 [.one (.lf 0), .one (.lf 17)] (.tup []) (.ret (.tup []))))) (.prim (.bin .mul) [.num .i64 2, .lf 3] (.call 22 [.one (.lf 0), .one (.lf 16)] (.tup []) (.ret (.tup [])))))))))))))))))))))
theorem tr_wdyad_eq : Sx.treeEs Try.prog 23 [] [] [999999] [(false, 1), (true, 3)] = some tr_wdyad := by kernel_rfl

theorem wdyad_any (g : Nat) (v : Value) (l : List Nat) (v_d : Value) (d : Dy) (w : World) (hW : Sx.WrW 55 w g v l) (h_d : RdD w v_d d) (hm : mayD d = true) (hl : (l ++ dyB d).length ≤ MX) :
    Calls Try.prog 23 #[.pointer (some ⟨g, 0, none⟩), v_d] w fun e w' => e = .returned (.tuple #[]) ∧ ∃ v', Sx.WrPost 55 w w' g v (l ++ dyB d) v' := by
  have r_d := h_d
  obtain ⟨A_d, n_d, c_d, rfl, _⟩ := h_d
  obtain rfl := r_d.few
  refine Sx.runW hW [] [999999] (ls := [.pointer (some ⟨g, 0, none⟩), .bool d.neg, .slice A_d d.m.length c_d, .int .i64 d.e]) (shs := [(false, 1), (true, 3)]) tr_wdyad_eq rfl (by decide) fun fW S0 => ?_
  unfold tr_wdyad
  obtain ⟨m1, m2, m3⟩ := dy_exp hm
  refine sat_chkB (by kernel_rfl) ?_
  refine sat_prim (v := .int .i64 ((d.m.length : Nat) : Int)) (by kernel_rfl) ?_
  refine Sx.sat_wcall (l' := (l ++ numB (d.m.length))) fW S0 #[.pointer (some ⟨g, 0, none⟩), .int .i64 ((d.m.length : Nat) : Int)] (by kernel_rfl) (fun w1 h1 W1 => wnum_any g _ _ (d.m.length) _ W1 (by have := hl; unfold dyB at this; simp only [List.length_append, List.length_cons, List.length_nil, List.length_map, List.length_range] at this ⊢; omega)) fun o1 v1 g1 q1 S1 => ?_
  replace r_d := g1.rdD r_d
  clear g1 q1
  refine sat_prim (v := .int .i64 ((d.m.length : Nat) : Int)) (by kernel_rfl) ?_
  refine sat_loop (fun Kn vs W => ∃ (i : Nat) (v' : Value), vs = [.int .i64 ((i : Nat) : Int)] ∧ Kn = d.m.length - i ∧ i ≤ d.m.length ∧ Sx.WrS 55 (Sx.wfr w (Sx.wb g v)) W g v' (l ++ numB d.m.length ++ (d.m.take i).flatMap limbB)) [.int .i64 0] (by kernel_rfl) (fun w1 h1 => ⟨_, 0, v1, rfl, rfl, Nat.zero_le _, by simpa using S1.le h1⟩) ?_
  rintro Kn vs w2 h2 ⟨i, v2, rfl, rfl, h_i, S2⟩
  replace r_d := h2.rdD r_d
  clear h2
  refine sat_prim (v := .bool (decide ((((i : Nat) : Int) : Int) < ((d.m.length : Nat) : Int)))) (by kernel_rfl) ?_
  cases hi : (decide ((((i : Nat) : Int) : Int) < ((d.m.length : Nat) : Int)))
  · refine sat_false (by kernel_rfl) ?_
    rw [show d.m.take i = d.m from List.take_of_length_le (by have := of_decide_eq_false hi; omega)] at S2
    cases hN : (d.neg)
    · refine sat_false (by kernel_rfl) ?_
      refine sat_prim (v := .pointer (some ⟨g, 0, none⟩)) (by kernel_rfl) ?_
      refine sat_prim (v := .pointer (some ⟨g, 0 + 0, none⟩)) (by kernel_rfl) ?_
      refine Sx.sat_bload (off := 0) v2 S2.box S2.bg (by kernel_rfl) rfl (by kernel_rfl) ?_
      refine Sx.sat_push (j := 11) (l := l ++ numB d.m.length ++ d.m.flatMap limbB) (0) fW S2 (by kernel_rfl) (by kernel_rfl) (by kernel_rfl) (by intro y hy; cases hy) (by have := hl; unfold dyB at this; simp only [List.length_append, List.length_cons, List.length_nil, List.length_map, List.length_range] at this ⊢; omega) (by kernel_rfl) (fun r4 v4 w4 h4 q4 S4 => ?_) (fun r => by kernel_rfl) (fun r q => by kernel_rfl)
      replace r_d := h4.rdD r_d
      clear h4 q4
      refine sat_prim (v := .bool (decide ((d.e : Int) < 0))) (by kernel_rfl) ?_
      cases hE : (decide ((d.e : Int) < 0))
      · refine sat_false (by kernel_rfl) ?_
        obtain ⟨N, hM⟩ : ∃ N : Nat, (N : Int) = 2 * d.e := ⟨(2 * d.e).toNat, by have := of_decide_eq_false hE; omega⟩
        refine sat_prim (v := .int .i64 ((N : Nat) : Int)) (Eq.trans (b := some (.int .i64 (IntKind.i64.wrap (2 * d.e)))) (by kernel_rfl) (sml hM.symm (by omega))) ?_
        refine Sx.sat_wcall (l' := ((l ++ numB d.m.length ++ d.m.flatMap limbB ++ [0]) ++ numB (N))) fW S4 #[.pointer (some ⟨g, 0, none⟩), .int .i64 ((N : Nat) : Int)] (by kernel_rfl) (fun w6 h6 W6 => wnum_any g _ _ (N) _ W6 (by have := hl; unfold dyB at this; rw [hE, ← hM, Int.toNat_natCast] at this; simp only [List.length_append, List.length_cons, List.length_nil, List.length_map, List.length_range, cond_true, cond_false] at this ⊢; omega)) fun o6 v6 g6 q6 S6 => ?_
        replace r_d := g6.rdD r_d
        clear g6 q6
        exact sat_ret (.tuple #[]) (by kernel_rfl) fun w9 h9 => ⟨rfl, _, by have hq := S6.post h9; have e : dyB d = numB d.m.length ++ (d.m.flatMap limbB ++ ([0] ++ numB N)) := (by unfold dyB; rw [hN, hE, ← hM, Int.toNat_natCast]; try rfl); rw [e]; simpa using hq⟩
      · refine sat_true (by kernel_rfl) ?_
        refine sat_prim (v := .int .i64 (-2 * d.e)) (Eq.trans (b := some (.int .i64 (IntKind.i64.wrap (-2 * d.e)))) (by kernel_rfl) (sml rfl (by omega))) ?_
        obtain ⟨N, hM⟩ : ∃ N : Nat, (N : Int) = -2 * d.e - 1 := ⟨(-2 * d.e - 1).toNat, by have := of_decide_eq_true hE; omega⟩
        refine sat_prim (v := .int .i64 ((N : Nat) : Int)) (Eq.trans (b := some (.int .i64 (IntKind.i64.wrap (-2 * d.e - 1)))) (by kernel_rfl) (sml hM.symm (by omega))) ?_
        refine Sx.sat_wcall (l' := ((l ++ numB d.m.length ++ d.m.flatMap limbB ++ [0]) ++ numB (N))) fW S4 #[.pointer (some ⟨g, 0, none⟩), .int .i64 ((N : Nat) : Int)] (by kernel_rfl) (fun w6 h6 W6 => wnum_any g _ _ (N) _ W6 (by have := hl; unfold dyB at this; rw [hE, ← hM, Int.toNat_natCast] at this; simp only [List.length_append, List.length_cons, List.length_nil, List.length_map, List.length_range, cond_true, cond_false] at this ⊢; omega)) fun o6 v6 g6 q6 S6 => ?_
        replace r_d := g6.rdD r_d
        clear g6 q6
        exact sat_ret (.tuple #[]) (by kernel_rfl) fun w9 h9 => ⟨rfl, _, by have hq := S6.post h9; have e : dyB d = numB d.m.length ++ (d.m.flatMap limbB ++ ([0] ++ numB N)) := (by unfold dyB; rw [hN, hE, ← hM, Int.toNat_natCast]; try rfl); rw [e]; simpa using hq⟩
    · refine sat_true (by kernel_rfl) ?_
      refine sat_prim (v := .pointer (some ⟨g, 0, none⟩)) (by kernel_rfl) ?_
      refine sat_prim (v := .pointer (some ⟨g, 0 + 0, none⟩)) (by kernel_rfl) ?_
      refine Sx.sat_bload (off := 0) v2 S2.box S2.bg (by kernel_rfl) rfl (by kernel_rfl) ?_
      refine Sx.sat_push (j := 11) (l := l ++ numB d.m.length ++ d.m.flatMap limbB) (1) fW S2 (by kernel_rfl) (by kernel_rfl) (by kernel_rfl) (by intro y hy; cases hy) (by have := hl; unfold dyB at this; simp only [List.length_append, List.length_cons, List.length_nil, List.length_map, List.length_range] at this ⊢; omega) (by kernel_rfl) (fun r4 v4 w4 h4 q4 S4 => ?_) (fun r => by kernel_rfl) (fun r q => by kernel_rfl)
      replace r_d := h4.rdD r_d
      clear h4 q4
      refine sat_prim (v := .bool (decide ((d.e : Int) < 0))) (by kernel_rfl) ?_
      cases hE : (decide ((d.e : Int) < 0))
      · refine sat_false (by kernel_rfl) ?_
        obtain ⟨N, hM⟩ : ∃ N : Nat, (N : Int) = 2 * d.e := ⟨(2 * d.e).toNat, by have := of_decide_eq_false hE; omega⟩
        refine sat_prim (v := .int .i64 ((N : Nat) : Int)) (Eq.trans (b := some (.int .i64 (IntKind.i64.wrap (2 * d.e)))) (by kernel_rfl) (sml hM.symm (by omega))) ?_
        refine Sx.sat_wcall (l' := ((l ++ numB d.m.length ++ d.m.flatMap limbB ++ [1]) ++ numB (N))) fW S4 #[.pointer (some ⟨g, 0, none⟩), .int .i64 ((N : Nat) : Int)] (by kernel_rfl) (fun w6 h6 W6 => wnum_any g _ _ (N) _ W6 (by have := hl; unfold dyB at this; rw [hE, ← hM, Int.toNat_natCast] at this; simp only [List.length_append, List.length_cons, List.length_nil, List.length_map, List.length_range, cond_true, cond_false] at this ⊢; omega)) fun o6 v6 g6 q6 S6 => ?_
        replace r_d := g6.rdD r_d
        clear g6 q6
        exact sat_ret (.tuple #[]) (by kernel_rfl) fun w9 h9 => ⟨rfl, _, by have hq := S6.post h9; have e : dyB d = numB d.m.length ++ (d.m.flatMap limbB ++ ([1] ++ numB N)) := (by unfold dyB; rw [hN, hE, ← hM, Int.toNat_natCast]; try rfl); rw [e]; simpa using hq⟩
      · refine sat_true (by kernel_rfl) ?_
        refine sat_prim (v := .int .i64 (-2 * d.e)) (Eq.trans (b := some (.int .i64 (IntKind.i64.wrap (-2 * d.e)))) (by kernel_rfl) (sml rfl (by omega))) ?_
        obtain ⟨N, hM⟩ : ∃ N : Nat, (N : Int) = -2 * d.e - 1 := ⟨(-2 * d.e - 1).toNat, by have := of_decide_eq_true hE; omega⟩
        refine sat_prim (v := .int .i64 ((N : Nat) : Int)) (Eq.trans (b := some (.int .i64 (IntKind.i64.wrap (-2 * d.e - 1)))) (by kernel_rfl) (sml hM.symm (by omega))) ?_
        refine Sx.sat_wcall (l' := ((l ++ numB d.m.length ++ d.m.flatMap limbB ++ [1]) ++ numB (N))) fW S4 #[.pointer (some ⟨g, 0, none⟩), .int .i64 ((N : Nat) : Int)] (by kernel_rfl) (fun w6 h6 W6 => wnum_any g _ _ (N) _ W6 (by have := hl; unfold dyB at this; rw [hE, ← hM, Int.toNat_natCast] at this; simp only [List.length_append, List.length_cons, List.length_nil, List.length_map, List.length_range, cond_true, cond_false] at this ⊢; omega)) fun o6 v6 g6 q6 S6 => ?_
        replace r_d := g6.rdD r_d
        clear g6 q6
        exact sat_ret (.tuple #[]) (by kernel_rfl) fun w9 h9 => ⟨rfl, _, by have hq := S6.post h9; have e : dyB d = numB d.m.length ++ (d.m.flatMap limbB ++ ([1] ++ numB N)) := (by unfold dyB; rw [hN, hE, ← hM, Int.toNat_natCast]; try rfl); rw [e]; simpa using hq⟩
  · refine sat_true (by kernel_rfl) ?_
    have hx0 := flat_take (enc := limbB) (nth_some (lt_of hi))
    have hle := flat_le (enc := limbB) (l := d.m) (i := i + 1)
    rw [hx0, List.length_append, limbB_len] at hle
    refine Sx.sat_limb (kk := .i64) (j := 8) (xs := d.m) (i := i) (by kernel_rfl) fW.u64 (RdD.nums r_d) (by kernel_rfl) (by kernel_rfl) (lt_of hi) (by kernel_rfl) fun g3 o3 => ?_
    refine sat_loop (fun Kn vs W => ∃ (k : Nat) (v' : Value), vs = [.int .i64 ((k : Nat) : Int)] ∧ Kn = 8 - k ∧ k ≤ 8 ∧ Sx.WrS 55 (Sx.wfr w (Sx.wb g v)) W g v' (l ++ numB d.m.length ++ (d.m.take i).flatMap limbB ++ ((List.range k).map fun k => nth d.m i / 256 ^ k % 256))) [.int .i64 0] (by kernel_rfl) (fun w1 h1 => ⟨_, 0, v2, rfl, rfl, Nat.zero_le _, by simpa using S2.le h1⟩) ?_
    rintro Kn vs w4 h4 ⟨k, v4, rfl, rfl, h_k, S4⟩
    replace r_d := h4.rdD r_d
    clear h4
    refine sat_prim (v := .bool (decide ((((k : Nat) : Int) : Int) < 8))) (by kernel_rfl) ?_
    cases hk : (decide ((((k : Nat) : Int) : Int) < 8))
    · refine sat_false (by kernel_rfl) ?_
      have e8 : limbB (nth d.m i) = (List.range k).map fun k => nth d.m i / 256 ^ k % 256 := by rw [show k = 8 by have := of_decide_eq_false hk; omega]; rfl
      refine sat_prim (v := .int .i64 ((i + 1 : Nat) : Int)) (Eq.trans (b := some (.int .i64 (IntKind.i64.wrap (((i : Nat) : Int) + 1)))) (by kernel_rfl) (sml (by omega) (by omega))) ?_
      exact Sx.sat_backO (d := 0) (d' := 1) rfl [.int .i64 ((i + 1 : Nat) : Int)] (by kernel_rfl) fun w9 h9 => ⟨_, by have := lt_of hi; omega, i + 1, _, rfl, rfl, by have := lt_of hi; omega, by have hq := S4.le h9; rw [hx0, e8, ← List.append_assoc]; exact hq⟩
    · refine sat_true (by kernel_rfl) ?_
      have hk8 : k < 8 := by have := of_decide_eq_true hk; omega
      refine sat_prim (v := .pointer (some ⟨g, 0, none⟩)) (by kernel_rfl) ?_
      refine sat_prim (v := .pointer (some ⟨g, 0 + 0, none⟩)) (by kernel_rfl) ?_
      refine Sx.sat_bload (off := 0) v4 S4.box S4.bg (by kernel_rfl) rfl (by kernel_rfl) ?_
      refine sat_prim (v := .int .i64 ((8 * k : Nat) : Int)) (Eq.trans (b := some (.int .i64 (IntKind.i64.wrap (8 * ((k : Nat) : Int))))) (by kernel_rfl) (sml (by omega) (by omega))) ?_
      refine sat_prim (v := .int .u64 ((8 * k : Nat) : Int)) (Eq.trans (by kernel_rfl) (pr_cvtn (n := 8 * k) (by omega))) ?_
      refine sat_prim (v := .int .u64 ((nth d.m i / 256 ^ k : Nat) : Int)) (Eq.trans (by kernel_rfl) (pr_shr8 (x := nth d.m i) (k := k) (by omega))) ?_
      refine sat_prim (v := .int .u8 ((nth d.m i / 256 ^ k % 256 : Nat) : Int)) (Eq.trans (by kernel_rfl) (pr_u8u (n := nth d.m i / 256 ^ k))) ?_
      refine Sx.sat_push (j := 19) (l := l ++ numB d.m.length ++ (d.m.take i).flatMap limbB ++ ((List.range k).map fun k => nth d.m i / 256 ^ k % 256)) (nth d.m i / 256 ^ k % 256) fW S4 (by kernel_rfl) (by kernel_rfl) (by kernel_rfl) (fun y hy => by obtain rfl := List.mem_singleton.1 hy; rfl) (by have := hl; unfold dyB at this; simp only [List.length_append, List.length_cons, List.length_nil, List.length_map, List.length_range] at this ⊢; omega) (by kernel_rfl) (fun r5 v5 w5 h5 q5 S5 => ?_) (fun r => by kernel_rfl) (fun r q => by kernel_rfl)
      replace r_d := h5.rdD r_d
      clear h5 q5
      refine sat_prim (v := .int .i64 (((k + 1 : Nat)) : Int)) (Eq.trans (b := some (.int .i64 (IntKind.i64.wrap ((((k) : Nat) : Int) + 1)))) (by kernel_rfl) (by rw [Sx.wrap_succ (n := 8) hk8 (by decide)])) ?_
      exact sat_back [.int .i64 (((k + 1 : Nat)) : Int)] (by kernel_rfl) fun w9 h9 => ⟨_, by have := hk8; omega, k + 1, _, rfl, rfl, by have := hk8; omega, by have hq := S5.le h9; rw [limb_take, ← List.append_assoc]; exact hq⟩

def tr_wival : Sx.Tree := .chk [.lf 1, .lf 2, .lf 3, .lf 4, .lf 5, .lf 6] (.call 23 [.one (.lf 0), .ag [.lf 1, .lf 2, .lf 3]] (.tup []) (.call 23 [.one (.lf 0), .ag [.lf 4, .lf 5, .lf 6]] (.tup []) (.ret (.tup []))))
theorem tr_wival_eq : Sx.treeEs Try.prog 27 [] [] [999999] [(false, 1), (true, 6)] = some tr_wival := by kernel_rfl

theorem wival_any (g : Nat) (v : Value) (l : List Nat) (v_a : Value) (a : Iv) (w : World) (hW : Sx.WrW 55 w g v l) (h_a : RdI w v_a a) (hm : mayD a.lo = true ∧ mayD a.hi = true) (hl : (l ++ ivB a).length ≤ MX) :
    Calls Try.prog 27 #[.pointer (some ⟨g, 0, none⟩), v_a] w fun e w' => e = .returned (.tuple #[]) ∧ ∃ v', Sx.WrPost 55 w w' g v (l ++ ivB a) v' := by
  obtain ⟨A_a, n_a, c_a, B_a, m_a, k_a, rfl, r_al, r_ah⟩ := h_a
  refine Sx.runW hW [] [999999] (ls := [.pointer (some ⟨g, 0, none⟩), .bool a.lo.neg, .slice A_a n_a c_a, .int .i64 a.lo.e, .bool a.hi.neg, .slice B_a m_a k_a, .int .i64 a.hi.e]) (shs := [(false, 1), (true, 6)]) tr_wival_eq rfl (by decide) fun fW S0 => ?_
  unfold tr_wival
  refine sat_chkB (by kernel_rfl) ?_
  refine Sx.sat_wcall (l' := (l ++ dyB a.lo)) fW S0 #[.pointer (some ⟨g, 0, none⟩), .agg #[.bool a.lo.neg, .slice A_a n_a c_a, .int .i64 a.lo.e]] (by kernel_rfl) (fun w1 h1 W1 => wdyad_any g _ _ _ (a.lo) _ W1 (h1.rdD r_al) (hm.1) (by have := hl; unfold ivB at this; simp only [List.length_append] at this ⊢; omega)) fun o1 v1 g1 q1 S1 => ?_
  replace r_al := g1.rdD r_al; replace r_ah := g1.rdD r_ah
  clear g1 q1
  refine Sx.sat_wcall (l' := ((l ++ dyB a.lo) ++ dyB a.hi)) fW S1 #[.pointer (some ⟨g, 0, none⟩), .agg #[.bool a.hi.neg, .slice B_a m_a k_a, .int .i64 a.hi.e]] (by kernel_rfl) (fun w2 h2 W2 => wdyad_any g _ _ _ (a.hi) _ W2 (h2.rdD r_ah) (hm.2) (by have := hl; unfold ivB at this; simp only [List.length_append] at this ⊢; omega)) fun o2 v2 g2 q2 S2 => ?_
  replace r_al := g2.rdD r_al; replace r_ah := g2.rdD r_ah
  clear g2 q2
  exact sat_ret (.tuple #[]) (by kernel_rfl) fun w9 h9 => ⟨rfl, _, by have hq := S2.post h9; unfold ivB; simpa using hq⟩

def tr_wtube : Sx.Tree := .chk [.lf 1, .lf 2] (.prim .len [.lf 2] (.call 22 [.one (.lf 0), .one (.lf 3)] (.tup []) (.prim .len [.lf 1] (.loop 0 [.num .i64 0] (.prim (.bin .lss) [.lf 5, .lf 4] (.ite (.lf 6) (.prim (.idx 3) [.lf 1, .lf 5] (.loadm 24 (.lf 7) (.ag 3) (.chk [.lf 8, .lf 9, .lf 10] (.call 23 [.one (.lf 0), .ag [.lf 8, .lf 9, .lf 10]] (.tup []) (.prim (.bin .add) [.lf 5, .num .i64 1] (.back 0 [.lf 11])))))) (.prim .len [.lf 2] (.loop 0 [.num .i64 0] (.prim (.bin .lss) [.lf 8, .lf 7] (.ite (.lf 9) (.prim (.idx 6) [.lf 2, .lf 8] (.loadm 61 (.lf 10) (.ag 6) (.chk [.lf 11, .lf 12, .lf 13, .lf 14, .lf 15, .lf 16] (.call 27 [.one (.lf 0), .ag [.lf 11, .lf 12, .lf 13, .lf 14, .lf 15, .lf 16]] (.tup []) (.prim (.bin .add) [.lf 8, .num .i64 1] (.back 0 [.lf 17])))))) (.ret (.tup []))))))))))))
theorem tr_wtube_eq : Sx.treeEs Try.prog 31 [] [] [999999] [(false, 1), (true, 2)] = some tr_wtube := by kernel_rfl

theorem wtube_any (g : Nat) (v : Value) (l : List Nat) (A_t : Option Addr) (c_t : Nat) (B_t : Option Addr) (d_t : Nat) (t : Tb) (w : World) (hW : Sx.WrW 55 w g v l) (h_t1 : Sx.Rows Sx.kD (fun q => q ∉ Sx.wb g v) w A_t t.at_.length c_t t.at_) (h_t2 : Sx.Rows Sx.kI (fun q => q ∉ Sx.wb g v) w B_t t.v.length d_t t.v) (hm : (∀ d ∈ t.at_, mayD d = true) ∧ ∀ x ∈ t.v, mayD x.lo = true ∧ mayD x.hi = true) (hl : (l ++ tbB t).length ≤ MX) :
    Calls Try.prog 31 #[.pointer (some ⟨g, 0, none⟩), .agg #[.slice A_t t.at_.length c_t, .slice B_t t.v.length d_t]] w fun e w' => e = .returned (.tuple #[]) ∧ ∃ v', Sx.WrPost 55 w w' g v (l ++ tbB t) v' := by
  have F_t1 := h_t1.startW
  have M_t1 := h_t1.le
  clear h_t1
  have F_t2 := h_t2.startW
  have M_t2 := h_t2.le
  clear h_t2
  refine Sx.runW hW [] [999999] (ls := [.pointer (some ⟨g, 0, none⟩), .slice A_t t.at_.length c_t, .slice B_t t.v.length d_t]) (shs := [(false, 1), (true, 2)]) tr_wtube_eq rfl (by decide) fun fW S0 => ?_
  unfold tr_wtube
  refine sat_chkB (by kernel_rfl) ?_
  refine sat_prim (v := .int .i64 ((t.v.length : Nat) : Int)) (by kernel_rfl) ?_
  refine Sx.sat_wcall (l' := (l ++ numB (t.v.length))) fW S0 #[.pointer (some ⟨g, 0, none⟩), .int .i64 ((t.v.length : Nat) : Int)] (by kernel_rfl) (fun w1 h1 W1 => wnum_any g _ _ (t.v.length) _ W1 (by have := hl; unfold tbB at this; simp only [List.length_append] at this ⊢; omega)) fun o1 v1 g1 q1 S1 => ?_
  replace F_t1 := F_t1.mv g1.mv; replace F_t2 := F_t2.mv g1.mv
  clear g1 q1
  refine sat_prim (v := .int .i64 ((t.at_.length : Nat) : Int)) (by kernel_rfl) ?_
  refine sat_loop (fun Kn vs W => ∃ (i : Nat) (v' : Value), vs = [.int .i64 ((i : Nat) : Int)] ∧ Kn = t.at_.length - i ∧ i ≤ t.at_.length ∧ Sx.WrS 55 (Sx.wfr w (Sx.wb g v)) W g v' (l ++ numB t.v.length ++ (t.at_.take i).flatMap dyB)) [.int .i64 0] (by kernel_rfl) (fun w1 h1 => ⟨_, 0, v1, rfl, rfl, Nat.zero_le _, by simpa using S1.le h1⟩) ?_
  rintro Kn vs w2 h2 ⟨i, v2, rfl, rfl, h_i, S2⟩
  replace F_t1 := F_t1.mv h2.mv; replace F_t2 := F_t2.mv h2.mv
  clear h2
  refine sat_prim (v := .bool (decide ((((i : Nat) : Int) : Int) < ((t.at_.length : Nat) : Int)))) (by kernel_rfl) ?_
  cases hi : (decide ((((i : Nat) : Int) : Int) < ((t.at_.length : Nat) : Int)))
  · refine sat_false (by kernel_rfl) ?_
    rw [show t.at_.take i = t.at_ from List.take_of_length_le (by have := of_decide_eq_false hi; omega)] at S2
    refine sat_prim (v := .int .i64 ((t.v.length : Nat) : Int)) (by kernel_rfl) ?_
    refine sat_loop (fun Kn vs W => ∃ (k : Nat) (v' : Value), vs = [.int .i64 ((k : Nat) : Int)] ∧ Kn = t.v.length - k ∧ k ≤ t.v.length ∧ Sx.WrS 55 (Sx.wfr w (Sx.wb g v)) W g v' (l ++ numB t.v.length ++ t.at_.flatMap dyB ++ (t.v.take k).flatMap ivB)) [.int .i64 0] (by kernel_rfl) (fun w1 h1 => ⟨_, 0, v2, rfl, rfl, Nat.zero_le _, by simpa using S2.le h1⟩) ?_
    rintro Kn vs w3 h3 ⟨k, v3, rfl, rfl, h_k, S3⟩
    replace F_t1 := F_t1.mv h3.mv; replace F_t2 := F_t2.mv h3.mv
    clear h3
    refine sat_prim (v := .bool (decide ((((k : Nat) : Int) : Int) < ((t.v.length : Nat) : Int)))) (by kernel_rfl) ?_
    cases hk : (decide ((((k : Nat) : Int) : Int) < ((t.v.length : Nat) : Int)))
    · refine sat_false (by kernel_rfl) ?_
      rw [show t.v.take k = t.v from List.take_of_length_le (by have := of_decide_eq_false hk; omega)] at S3
      exact sat_ret (.tuple #[]) (by kernel_rfl) fun w9 h9 => ⟨rfl, _, by have hq := S3.post h9; unfold tbB; simpa using hq⟩
    · refine sat_true (by kernel_rfl) ?_
      have hle := flat_le (enc := ivB) (l := t.v) (i := k + 1)
      refine sat_idx (A := B_t) (c := d_t) (kk := .i64) (k) (by kernel_rfl) (by kernel_rfl) (lt_of hk) F_t2.addr fun g4 o4 e4 => ?_
      refine Sx.sat_m ?_
      obtain ⟨x1, h_x1⟩ : ∃ x_, t.v[(k)]? = some x_ := ⟨_, List.getElem?_eq_getElem (lt_of hk)⟩
      refine sat_el F_t2 e4 h_x1 rfl (by kernel_rfl) (by kernel_rfl) (by kernel_rfl) ?_
      rintro _ ⟨A_L2, n_L2, c_L2, B_L2, m_L2, k_L2, rfl, r_L2l, r_L2h⟩
      refine sat_chkB (by kernel_rfl) ?_
      refine Sx.sat_wcall (l' := (l ++ numB t.v.length ++ t.at_.flatMap dyB ++ (t.v.take k).flatMap ivB ++ ivB x1)) fW S3 #[.pointer (some ⟨g, 0, none⟩), .agg #[.bool x1.lo.neg, .slice A_L2 n_L2 c_L2, .int .i64 x1.lo.e, .bool x1.hi.neg, .slice B_L2 m_L2 k_L2, .int .i64 x1.hi.e]] (by kernel_rfl) (fun w5 h5 W5 => wival_any g _ _ _ x1 _ W5 (mkI (h5.rdD r_L2l) (h5.rdD r_L2h)) (hm.2 _ (List.mem_of_getElem? h_x1)) (by have := hl; unfold tbB at this; rw [flat_take h_x1, List.length_append] at hle; simp only [List.length_append] at this ⊢; omega)) fun o5 v5 g5 q5 S5 => ?_
      replace F_t1 := F_t1.mv g5.mv; replace F_t2 := F_t2.mv g5.mv; replace r_L2l := g5.rdD r_L2l; replace r_L2h := g5.rdD r_L2h
      clear g5 q5
      refine sat_prim (v := .int .i64 (((k + 1 : Nat)) : Int)) (Eq.trans (b := some (.int .i64 (IntKind.i64.wrap ((((k) : Nat) : Int) + 1)))) (by kernel_rfl) (by rw [Sx.wrap_succ (n := t.v.length) (lt_of hk) M_t2])) ?_
      exact sat_back [.int .i64 (((k + 1 : Nat)) : Int)] (by kernel_rfl) fun w9 h9 => ⟨_, by have := lt_of hk; omega, k + 1, _, rfl, rfl, by have := lt_of hk; omega, by have hq := S5.le h9; rw [flat_take h_x1, ← List.append_assoc]; simpa using hq⟩
  · refine sat_true (by kernel_rfl) ?_
    have hle := flat_le (enc := dyB) (l := t.at_) (i := i + 1)
    refine sat_idx (A := A_t) (c := c_t) (kk := .i64) (i) (by kernel_rfl) (by kernel_rfl) (lt_of hi) F_t1.addr fun g3 o3 e3 => ?_
    refine Sx.sat_m ?_
    obtain ⟨x1, h_x1⟩ : ∃ x_, t.at_[(i)]? = some x_ := ⟨_, List.getElem?_eq_getElem (lt_of hi)⟩
    refine sat_el F_t1 e3 h_x1 rfl (by kernel_rfl) (by kernel_rfl) (by kernel_rfl) ?_
    rintro _ ⟨A_L2, n_L2, c_L2, rfl, r_L2⟩
    refine sat_chkB (by kernel_rfl) ?_
    refine Sx.sat_wcall (l' := (l ++ numB t.v.length ++ (t.at_.take i).flatMap dyB ++ dyB x1)) fW S2 #[.pointer (some ⟨g, 0, none⟩), .agg #[.bool x1.neg, .slice A_L2 n_L2 c_L2, .int .i64 x1.e]] (by kernel_rfl) (fun w4 h4 W4 => wdyad_any g _ _ _ (x1) _ W4 (h4.rdD r_L2) (hm.1 _ (List.mem_of_getElem? h_x1)) (by have := hl; unfold tbB at this; rw [flat_take h_x1, List.length_append] at hle; simp only [List.length_append] at this ⊢; omega)) fun o4 v4 g4 q4 S4 => ?_
    replace F_t1 := F_t1.mv g4.mv; replace F_t2 := F_t2.mv g4.mv; replace r_L2 := g4.rdD r_L2
    clear g4 q4
    refine sat_prim (v := .int .i64 (((i + 1 : Nat)) : Int)) (Eq.trans (b := some (.int .i64 (IntKind.i64.wrap ((((i) : Nat) : Int) + 1)))) (by kernel_rfl) (by rw [Sx.wrap_succ (n := t.at_.length) (lt_of hi) M_t1])) ?_
    exact sat_back [.int .i64 (((i + 1 : Nat)) : Int)] (by kernel_rfl) fun w9 h9 => ⟨_, by have := lt_of hi; omega, i + 1, _, rfl, rfl, by have := lt_of hi; omega, by have hq := S4.le h9; rw [flat_take h_x1, ← List.append_assoc]; simpa using hq⟩

end Go.Proofs.Ytpkfjfpknbhekaa
