/- The walk of LedgerFront. Printed by wip/mk_WrF.py. -/
import Derived.Test.YtbpfnooloemieaaWrLx
import Derived.Test.YtbpfnooloemieaaWrRx
namespace Go.Proofs.Ytbpfnooloemieaa
open Go.RowKit Pl
open Sx (sat_call sat_chk sat_prim sat_ite sat_true sat_false sat_trueP sat_falseP sat_ret sat_row sat_callP sat_loop sat_back sat_idx sat_el sat_elf sat_elc sat_load sat_rowN sat_app sat_callB sat_alt rows_one rows_two all_nil all_cons okB okS okI)

def tr_lfront21 : Sx.Tree := .chk [.lf 2, .lf 3, .lf 4, .lf 5, .lf 6, .lf 7, .lf 8, .lf 9, .lf 10, .lf 11, .lf 12] (.prim .len [.lf 0] (.prim (.bin .gtr) [.lf 13, .num .i64 8] (.ite (.lf 14) (.call 7 [] .one (.ret (.one (.lf 15)))) (.call 6 [.ag [.lf 2, .lf 3, .lf 4, .lf 5, .lf 6, .lf 7, .lf 8, .lf 9, .lf 10, .lf 11, .lf 12]] .one (.prim .not [.lf 15] (.ite (.lf 16) (.call 7 [] .one (.ret (.one (.lf 17)))) (.loop 0 [.num .i64 0, .bit false] (.prim .len [.lf 0] (.prim (.bin .lss) [.lf 17, .lf 19] (.ite (.lf 20) (.prim (.idx 11) [.lf 0, .lf 17] (.load 28 (.lf 21) (.ag 11) (.call 6 [.ag [.lf 22, .lf 23, .lf 24, .lf 25, .lf 26, .lf 27, .lf 28, .lf 29, .lf 30, .lf 31, .lf 32]] .one (.prim .not [.lf 33] (.ite (.lf 34) (.call 7 [] .one (.ret (.one (.lf 35)))) (.prim (.bin .add) [.lf 17, .num .i64 1] (.back 0 [.lf 35, .lf 18]))))))) (.prim (.cvt .u64) [.lf 1] (.prim .len [.lf 0] (.prim (.bin .add) [.lf 22, .num .i64 1] (.prim (.cvt .u64) [.lf 23] (.prim (.bin .rem) [.lf 21, .lf 24] (.prim (.cvt .i64) [.lf 25] (.prim (.slc 11 false true) [.lf 0, .lf 26] (.alt (.row 28 [] 0 [] (.alt (.app 28 11 152 (.lf 28) (.lf 27) (.row 28 [.lf 2, .lf 3, .lf 4, .lf 5, .lf 6, .lf 7, .lf 8, .lf 9, .lf 10, .lf 11, .lf 12] 1 [] (.app 28 11 152 (.lf 29) (.lf 30) (.prim .len [.lf 0] (.prim (.bin .lss) [.lf 26, .lf 32] (.ite (.lf 33) (.prim (.idx 11) [.lf 0, .lf 26] (.load 28 (.lf 34) (.ag 11) (.call 14 [.ag [.lf 35, .lf 36, .lf 37, .lf 38, .lf 39, .lf 40, .lf 41, .lf 42, .lf 43, .lf 44, .lf 45], .ag [.lf 2, .lf 3, .lf 4, .lf 5, .lf 6, .lf 7, .lf 8, .lf 9, .lf 10, .lf 11, .lf 12]] .one (.call 7 [] .one (.ite (.lf 47) (.call 16 [.one (.lf 0), .one (.lf 0)] .one (.ite (.lf 48) (.prim (.slc 11 false true) [.lf 0, .lf 26] (.call 16 [.one (.lf 49), .one (.lf 0)] .one (.ite (.lf 50) (.prim (.slc 11 false true) [.lf 0, .lf 26] (.call 16 [.one (.lf 0), .one (.lf 51)] .one (.prim .len [.lf 0] (.prim (.bin .eql) [.lf 26, .lf 53] (.prim (.bbin .eql) [.lf 52, .lf 54] (.ite (.lf 55) (.call 16 [.one (.lf 31), .one (.lf 0)] .one (.prim (.bbin .eql) [.lf 56, .lf 46] (.ite (.lf 57) (.prim (.slc 11 false true) [.lf 0, .lf 26] (.call 16 [.one (.lf 58), .one (.lf 31)] .one (.ret (.one (.lf 59))))) (.ret (.one (.bit false)))))) (.ret (.one (.bit false))))))))) (.ret (.one (.bit false)))))) (.ret (.one (.bit false))))) (.ret (.one (.bit false)))))))) (.call 7 [] .one (.ite (.lf 34) (.call 16 [.one (.lf 0), .one (.lf 0)] .one (.ite (.lf 35) (.prim (.slc 11 false true) [.lf 0, .lf 26] (.call 16 [.one (.lf 36), .one (.lf 0)] .one (.ite (.lf 37) (.prim (.slc 11 false true) [.lf 0, .lf 26] (.call 16 [.one (.lf 0), .one (.lf 38)] .one (.prim .len [.lf 0] (.prim (.bin .eql) [.lf 26, .lf 40] (.prim (.bbin .eql) [.lf 39, .lf 41] (.ite (.lf 42) (.call 16 [.one (.lf 31), .one (.lf 0)] .one (.prim (.bbin .eql) [.lf 43, .bit false] (.ite (.lf 44) (.prim (.slc 11 false true) [.lf 0, .lf 26] (.call 16 [.one (.lf 45), .one (.lf 31)] .one (.ret (.one (.lf 46))))) (.ret (.one (.bit false)))))) (.ret (.one (.bit false))))))))) (.ret (.one (.bit false)))))) (.ret (.one (.bit false))))) (.ret (.one (.bit false))))))))))) (.row 28 [.lf 2, .lf 3, .lf 4, .lf 5, .lf 6, .lf 7, .lf 8, .lf 9, .lf 10, .lf 11, .lf 12] 1 [] (.app 28 11 152 (.lf 28) (.lf 27) (.app 28 11 152 (.lf 30) (.lf 29) (.prim .len [.lf 0] (.prim (.bin .lss) [.lf 26, .lf 32] (.ite (.lf 33) (.prim (.idx 11) [.lf 0, .lf 26] (.load 28 (.lf 34) (.ag 11) (.call 14 [.ag [.lf 35, .lf 36, .lf 37, .lf 38, .lf 39, .lf 40, .lf 41, .lf 42, .lf 43, .lf 44, .lf 45], .ag [.lf 2, .lf 3, .lf 4, .lf 5, .lf 6, .lf 7, .lf 8, .lf 9, .lf 10, .lf 11, .lf 12]] .one (.call 7 [] .one (.ite (.lf 47) (.call 16 [.one (.lf 0), .one (.lf 0)] .one (.ite (.lf 48) (.prim (.slc 11 false true) [.lf 0, .lf 26] (.call 16 [.one (.lf 49), .one (.lf 0)] .one (.ite (.lf 50) (.prim (.slc 11 false true) [.lf 0, .lf 26] (.call 16 [.one (.lf 0), .one (.lf 51)] .one (.prim .len [.lf 0] (.prim (.bin .eql) [.lf 26, .lf 53] (.prim (.bbin .eql) [.lf 52, .lf 54] (.ite (.lf 55) (.call 16 [.one (.lf 31), .one (.lf 0)] .one (.prim (.bbin .eql) [.lf 56, .lf 46] (.ite (.lf 57) (.prim (.slc 11 false true) [.lf 0, .lf 26] (.call 16 [.one (.lf 58), .one (.lf 31)] .one (.ret (.one (.lf 59))))) (.ret (.one (.bit false)))))) (.ret (.one (.bit false))))))))) (.ret (.one (.bit false)))))) (.ret (.one (.bit false))))) (.ret (.one (.bit false)))))))) (.call 7 [] .one (.ite (.lf 34) (.call 16 [.one (.lf 0), .one (.lf 0)] .one (.ite (.lf 35) (.prim (.slc 11 false true) [.lf 0, .lf 26] (.call 16 [.one (.lf 36), .one (.lf 0)] .one (.ite (.lf 37) (.prim (.slc 11 false true) [.lf 0, .lf 26] (.call 16 [.one (.lf 0), .one (.lf 38)] .one (.prim .len [.lf 0] (.prim (.bin .eql) [.lf 26, .lf 40] (.prim (.bbin .eql) [.lf 39, .lf 41] (.ite (.lf 42) (.call 16 [.one (.lf 31), .one (.lf 0)] .one (.prim (.bbin .eql) [.lf 43, .bit false] (.ite (.lf 44) (.prim (.slc 11 false true) [.lf 0, .lf 26] (.call 16 [.one (.lf 45), .one (.lf 31)] .one (.ret (.one (.lf 46))))) (.ret (.one (.bit false)))))) (.ret (.one (.bit false))))))))) (.ret (.one (.bit false)))))) (.ret (.one (.bit false))))) (.ret (.one (.bit false))))))))))))) (.row 28 [.lf 2, .lf 3, .lf 4, .lf 5, .lf 6, .lf 7, .lf 8, .lf 9, .lf 10, .lf 11, .lf 12] 1 [] (.row 28 [] 0 [] (.app 28 11 152 (.lf 29) (.lf 27) (.app 28 11 152 (.lf 30) (.lf 28) (.prim .len [.lf 0] (.prim (.bin .lss) [.lf 26, .lf 32] (.ite (.lf 33) (.prim (.idx 11) [.lf 0, .lf 26] (.load 28 (.lf 34) (.ag 11) (.call 14 [.ag [.lf 35, .lf 36, .lf 37, .lf 38, .lf 39, .lf 40, .lf 41, .lf 42, .lf 43, .lf 44, .lf 45], .ag [.lf 2, .lf 3, .lf 4, .lf 5, .lf 6, .lf 7, .lf 8, .lf 9, .lf 10, .lf 11, .lf 12]] .one (.call 7 [] .one (.ite (.lf 47) (.call 16 [.one (.lf 0), .one (.lf 0)] .one (.ite (.lf 48) (.prim (.slc 11 false true) [.lf 0, .lf 26] (.call 16 [.one (.lf 49), .one (.lf 0)] .one (.ite (.lf 50) (.prim (.slc 11 false true) [.lf 0, .lf 26] (.call 16 [.one (.lf 0), .one (.lf 51)] .one (.prim .len [.lf 0] (.prim (.bin .eql) [.lf 26, .lf 53] (.prim (.bbin .eql) [.lf 52, .lf 54] (.ite (.lf 55) (.call 16 [.one (.lf 31), .one (.lf 0)] .one (.prim (.bbin .eql) [.lf 56, .lf 46] (.ite (.lf 57) (.prim (.slc 11 false true) [.lf 0, .lf 26] (.call 16 [.one (.lf 58), .one (.lf 31)] .one (.ret (.one (.lf 59))))) (.ret (.one (.bit false)))))) (.ret (.one (.bit false))))))))) (.ret (.one (.bit false)))))) (.ret (.one (.bit false))))) (.ret (.one (.bit false)))))))) (.call 7 [] .one (.ite (.lf 34) (.call 16 [.one (.lf 0), .one (.lf 0)] .one (.ite (.lf 35) (.prim (.slc 11 false true) [.lf 0, .lf 26] (.call 16 [.one (.lf 36), .one (.lf 0)] .one (.ite (.lf 37) (.prim (.slc 11 false true) [.lf 0, .lf 26] (.call 16 [.one (.lf 0), .one (.lf 38)] .one (.prim .len [.lf 0] (.prim (.bin .eql) [.lf 26, .lf 40] (.prim (.bbin .eql) [.lf 39, .lf 41] (.ite (.lf 42) (.call 16 [.one (.lf 31), .one (.lf 0)] .one (.prim (.bbin .eql) [.lf 43, .bit false] (.ite (.lf 44) (.prim (.slc 11 false true) [.lf 0, .lf 26] (.call 16 [.one (.lf 45), .one (.lf 31)] .one (.ret (.one (.lf 46))))) (.ret (.one (.bit false)))))) (.ret (.one (.bit false))))))))) (.ret (.one (.bit false)))))) (.ret (.one (.bit false))))) (.ret (.one (.bit false))))))))))))))))))))))))))))))
theorem tr_lfront21_eq : Sx.treeAt Try.prog 5 [] [] [(false, 1), (false, 1), (true, 11)] = some tr_lfront21 := by kernel_rfl

theorem ledgerFront_any (A_l : Option Addr) (c_l : Nat) (v_r : Value) (l : List Rec) (cut : Int) (r : Rec) (w : World) (h_l : Sx.Rows Sx.kRec (fun _ => True) w A_l l.length c_l l) (h_r : RcAt (fun _ => True) w v_r r) :
    Calls Try.prog 5 #[.slice A_l l.length c_l, .int .i64 cut, v_r] w fun e w' => e = .returned (.bool true) ∧ Below w.heap.size w w' := by
  have F_l := h_l.start
  have M_l := h_l.le
  clear h_l
  obtain ⟨A_r1, n_r1, c_r1, A_r2, n_r2, c_r2, X_r, x_r, Y_r, y_r, rfl, r_r1, r_r2, F_r3, F_r4⟩ := h_r
  replace F_r3 := F_r3.start
  replace F_r4 := F_r4.start
  have M_r3 := F_r3.le
  have M_r4 := F_r4.le
  refine (Sx.runA [] [] (ls := [.slice A_l l.length c_l, .int .i64 cut, .int .i64 r.kind, .int .i64 r.epoch, .int .i64 r.code, .bool r.t.neg, .slice A_r1 n_r1 c_r1, .int .i64 r.t.e, .bool r.h.neg, .slice A_r2 n_r2 c_r2, .int .i64 r.h.e, .slice X_r r.boxes.length x_r, .slice Y_r r.sigs.length y_r]) (shs := [(false, 1), (false, 1), (true, 11)]) (R := fun v _ => v = .bool true) tr_lfront21_eq rfl (by decide) (fun q h => by cases h) ?_).mono (fun e w' ⟨v, he, hv, hb⟩ => ⟨by rw [he, hv], hb⟩)
  unfold tr_lfront21
  refine sat_chkB (by kernel_rfl) ?_
  refine sat_prim (v := .int .i64 ((l.length : Nat) : Int)) (by kernel_rfl) ?_
  refine sat_prim (v := .bool (decide ((8 : Int) < ((l.length : Nat) : Int)))) (by kernel_rfl) ?_
  cases hl8b : decide ((8 : Int) < ((l.length : Nat) : Int))
  · refine sat_false (by kernel_rfl) ?_
    have hl8 : l.length ≤ 8 := by have := of_decide_eq_false hl8b; omega
    refine sat_call #[.agg #[.int .i64 r.kind, .int .i64 r.epoch, .int .i64 r.code, .bool r.t.neg, .slice A_r1 n_r1 c_r1, .int .i64 r.t.e, .bool r.h.neg, .slice A_r2 n_r2 c_r2, .int .i64 r.h.e, .slice X_r r.boxes.length x_r, .slice Y_r r.sigs.length y_r]] (by kernel_rfl) fun w1 h1 => ?_
    refine (fewR_any _ r _ (mkRc (h1.rdD r_r1) (h1.rdD r_r2) ((F_r3.mv h1.mv).any) ((F_r4.mv h1.mv).any))).mono ?_
    rintro e v1 ⟨⟨q1, rfl⟩, hb1⟩
    refine ⟨hb1, [.bool q1], _, rfl, by kernel_rfl, by kernel_rfl, fun g1 => ?_⟩
    replace F_l := F_l.mv g1.mv; replace r_r1 := g1.rdD r_r1; replace r_r2 := g1.rdD r_r2; replace F_r3 := F_r3.mv g1.mv; replace F_r4 := F_r4.mv g1.mv
    clear h1 hb1
    refine sat_prim (v := .bool (!q1)) (by kernel_rfl) ?_
    cases hE2 : (q1)
    · refine sat_true (by kernel_rfl) ?_
      refine sat_call #[] (by kernel_rfl) fun w3 h3 => ?_
      refine (told21_any _).mono ?_
      rintro e v3 ⟨rfl, hb3⟩
      refine ⟨hb3, [.bool true], _, rfl, by kernel_rfl, by kernel_rfl, fun g3 => ?_⟩
      replace F_l := F_l.mv g3.mv; replace r_r1 := g3.rdD r_r1; replace r_r2 := g3.rdD r_r2; replace F_r3 := F_r3.mv g3.mv; replace F_r4 := F_r4.mv g3.mv
      clear h3 hb3
      exact sat_ret (.bool true) (by kernel_rfl) fun w9 h9 => rfl
    · refine sat_false (by kernel_rfl) ?_
      refine sat_loop (fun Kn vs W => ∃ (i : Nat), vs = [.int .i64 ((i : Nat) : Int), .bool false] ∧ Kn = l.length - i ∧ i ≤ l.length) [.int .i64 0, .bool false] (by kernel_rfl) (fun w1 h1 => ⟨_, 0, rfl, rfl, Nat.zero_le _⟩) ?_
      rintro Kn vs w3 h3 ⟨i, rfl, rfl, h_i⟩
      replace F_l := F_l.mv h3.mv; replace r_r1 := h3.rdD r_r1; replace r_r2 := h3.rdD r_r2; replace F_r3 := F_r3.mv h3.mv; replace F_r4 := F_r4.mv h3.mv
      clear h3
      refine sat_prim (v := .int .i64 ((l.length : Nat) : Int)) (by kernel_rfl) ?_
      refine sat_prim (v := .bool (decide ((((i : Nat) : Int) : Int) < ((l.length : Nat) : Int)))) (by kernel_rfl) ?_
      cases hi : (decide ((((i : Nat) : Int) : Int) < ((l.length : Nat) : Int)))
      · refine sat_false (by kernel_rfl) ?_
        refine sat_prim (v := .int .u64 (IntKind.u64.wrap cut)) (by kernel_rfl) ?_
        refine sat_prim (v := .int .i64 ((l.length : Nat) : Int)) (by kernel_rfl) ?_
        refine sat_prim (v := .int .i64 ((l.length + 1 : Nat) : Int)) (Eq.trans (b := some (.int .i64 (IntKind.i64.wrap (((l.length : Nat) : Int) + 1)))) (by kernel_rfl) (sml (by omega) (by have := M_l; simp only [maxLen] at this; omega))) ?_
        refine sat_prim (v := .int .u64 ((l.length + 1 : Nat) : Int)) (Eq.trans (by kernel_rfl) (pr_cvtn (n := l.length + 1) (by have := M_l; simp only [maxLen] at this; omega))) ?_
        obtain ⟨K, hK, eK⟩ := cut_k cut l.length
        refine sat_prim (v := .int .u64 ((K : Nat) : Int)) (Eq.trans (by kernel_rfl) eK) ?_
        refine sat_prim (v := .int .i64 ((K : Nat) : Int)) (Eq.trans (b := some (.int .i64 (IntKind.i64.wrap ((K : Nat) : Int)))) (by kernel_rfl) (sml rfl (by have := M_l; simp only [maxLen] at this; omega))) ?_
        obtain ⟨C_D2, c_D2, e_D2, F_D2⟩ := cut0 (n := K) F_l hK
        refine sat_prim (v := .slice C_D2 (l.take K).length c_D2) (Eq.trans (by kernel_rfl) e_D2) ?_
        refine sat_alt ?_ ?_
        · refine Sx.sat_lit0 Sx.kRec (Nat.succ_pos _) rfl rfl fun N5 w5 h5 G3 => ?_
          replace F_l := F_l.mv h5.mv; replace r_r1 := h5.rdD r_r1; replace r_r2 := h5.rdD r_r2; replace F_r3 := F_r3.mv h5.mv; replace F_r4 := F_r4.mv h5.mv; replace F_D2 := F_D2.mv h5.mv
          clear h5
          refine sat_alt ?_ ?_
          · refine sat_app (.slice (some ⟨N5, 0, none⟩) 0 0) (.slice C_D2 (l.take K).length c_D2) (by kernel_rfl) (by kernel_rfl) fun w6 h6 => ?_
            refine Sx.Gr.appN (l := []) (G3.le h6) (l' := (l.take K)) (F_D2.mv h6.mv) (by have := M_l; have := hK; have := hl8; simp only [List.length_append, List.length_take, List.length_cons, List.length_nil, maxLen] at *; omega) (by have := M_l; have := hK; have := hl8; simp only [List.length_append, List.length_take, List.length_cons, List.length_nil, maxLen] at *; omega) fun A_G4 c_G4 v6 a6 G4 => ?_
            rw [List.nil_append] at G4
            rw [List.nil_append]
            replace F_l := F_l.mv h6.mv; replace r_r1 := h6.rdD r_r1; replace r_r2 := h6.rdD r_r2; replace F_r3 := F_r3.mv h6.mv; replace F_r4 := F_r4.mv h6.mv; replace F_D2 := F_D2.mv h6.mv
            replace F_l := F_l.mv a6.toLf.mv; replace r_r1 := a6.toLf.rdD r_r1; replace r_r2 := a6.toLf.rdD r_r2; replace F_r3 := F_r3.mv a6.toLf.mv; replace F_r4 := F_r4.mv a6.toLf.mv; replace F_D2 := F_D2.mv a6.toLf.mv
            clear h6 a6 G3
            refine sat_rowN [.int .i64 r.kind, .int .i64 r.epoch, .int .i64 r.code, .bool r.t.neg, .slice A_r1 n_r1 c_r1, .int .i64 r.t.e, .bool r.h.neg, .slice A_r2 n_r2 c_r2, .int .i64 r.h.e, .slice X_r r.boxes.length x_r, .slice Y_r r.sigs.length y_r] (by kernel_rfl) (by intro x hx; cases hx) fun u1 h1 B1 NB1 => ?_
            replace F_l := F_l.mv h1.mv; replace r_r1 := h1.rdD r_r1; replace r_r2 := h1.rdD r_r2; replace F_r3 := F_r3.mv h1.mv; replace F_r4 := F_r4.mv h1.mv; replace F_D2 := F_D2.mv h1.mv; replace G4 := G4.le h1
            have F_R5 : Sx.Rows Sx.kRec (Sx.NB _) _ (some ⟨u1.heap.size, 0, none⟩) 1 1 [r] := rows_one (k := Sx.kRec) B1 NB1 ⟨_, _, _, _, _, _, _, _, _, _, rfl, r_r1, r_r2, F_r3, F_r4⟩
            generalize u1.heap.size = N_R5 at *
            generalize (u1.alloc _) = w_R5 at *
            clear B1 h1 NB1
            refine sat_app (.slice A_G4 (l.take K).length c_G4) (.slice (some ⟨N_R5, 0, none⟩) 1 1) (by kernel_rfl) (by kernel_rfl) fun w7 h7 => ?_
            refine Sx.Gr.appN (l := (l.take K)) (G4.le h7) (l' := [r]) (F_R5.mv h7.mv) (by have := M_l; have := hK; have := hl8; simp only [List.length_append, List.length_take, List.length_cons, List.length_nil, maxLen] at *; omega) (by have := M_l; have := hK; have := hl8; simp only [List.length_append, List.length_take, List.length_cons, List.length_nil, maxLen] at *; omega) fun A_G6 c_G6 v7 a7 G6 => ?_
            replace F_l := F_l.mv h7.mv; replace r_r1 := h7.rdD r_r1; replace r_r2 := h7.rdD r_r2; replace F_r3 := F_r3.mv h7.mv; replace F_r4 := F_r4.mv h7.mv; replace F_D2 := F_D2.mv h7.mv; replace F_R5 := F_R5.mv h7.mv
            replace F_l := F_l.mv a7.toLf.mv; replace r_r1 := a7.toLf.rdD r_r1; replace r_r2 := a7.toLf.rdD r_r2; replace F_r3 := F_r3.mv a7.toLf.mv; replace F_r4 := F_r4.mv a7.toLf.mv; replace F_D2 := F_D2.mv a7.toLf.mv; replace F_R5 := F_R5.mv a7.toLf.mv
            clear h7 a7 G4
            refine sat_prim (v := .int .i64 ((l.length : Nat) : Int)) (by kernel_rfl) ?_
            refine sat_prim (v := .bool (decide ((((K : Nat) : Int) : Int) < ((l.length : Nat) : Int)))) (by kernel_rfl) ?_
            by_cases hKn : K < l.length
            · refine sat_trueP (b := decide ((((K : Nat) : Int) : Int) < ((l.length : Nat) : Int))) (by kernel_rfl) (decide_eq_true (by omega)) ?_
              refine sat_idx (A := A_l) (c := c_l) (kk := .i64) (K) (by kernel_rfl) (by kernel_rfl) (hKn) F_l.addr fun g8 o8 e8 => ?_
              obtain ⟨x7, h_x7⟩ : ∃ x_, l[(K)]? = some x_ := ⟨_, List.getElem?_eq_getElem (hKn)⟩
              refine sat_el F_l e8 h_x7 rfl (by kernel_rfl) (by kernel_rfl) (by kernel_rfl) ?_
              rintro _ ⟨A_L81, n_L81, c_L81, A_L82, n_L82, c_L82, X_L8, x_L8, Y_L8, y_L8, rfl, r_L81, r_L82, F_L83, F_L84⟩
              refine sat_call #[.agg #[.int .i64 x7.kind, .int .i64 x7.epoch, .int .i64 x7.code, .bool x7.t.neg, .slice A_L81 n_L81 c_L81, .int .i64 x7.t.e, .bool x7.h.neg, .slice A_L82 n_L82 c_L82, .int .i64 x7.h.e, .slice X_L8 x7.boxes.length x_L8, .slice Y_L8 x7.sigs.length y_L8], .agg #[.int .i64 r.kind, .int .i64 r.epoch, .int .i64 r.code, .bool r.t.neg, .slice A_r1 n_r1 c_r1, .int .i64 r.t.e, .bool r.h.neg, .slice A_r2 n_r2 c_r2, .int .i64 r.h.e, .slice X_r r.boxes.length x_r, .slice Y_r r.sigs.length y_r]] (by kernel_rfl) fun w9 h9 => ?_
              refine (rsameR_any _ _ x7 r _ (mkRc (h9.rdD r_L81) (h9.rdD r_L82) ((F_L83.mv h9.mv).any) ((F_L84.mv h9.mv).any)) (mkRc (h9.rdD r_r1) (h9.rdD r_r2) ((F_r3.mv h9.mv).any) ((F_r4.mv h9.mv).any))).mono ?_
              rintro e v9 ⟨rfl, hb9⟩
              refine ⟨hb9, [.bool (sameRc x7 r)], _, rfl, by kernel_rfl, by kernel_rfl, fun g9 => ?_⟩
              replace F_l := F_l.mv g9.mv; replace r_r1 := g9.rdD r_r1; replace r_r2 := g9.rdD r_r2; replace F_r3 := F_r3.mv g9.mv; replace F_r4 := F_r4.mv g9.mv; replace F_D2 := F_D2.mv g9.mv; replace F_R5 := F_R5.mv g9.mv; replace G6 := G6.le g9; replace r_L81 := g9.rdD r_L81; replace r_L82 := g9.rdD r_L82; replace F_L83 := F_L83.mv g9.mv; replace F_L84 := F_L84.mv g9.mv
              clear h9 hb9
              refine sat_call #[] (by kernel_rfl) fun w10 h10 => ?_
              refine (told21_any _).mono ?_
              rintro e v10 ⟨rfl, hb10⟩
              refine ⟨hb10, [.bool true], _, rfl, by kernel_rfl, by kernel_rfl, fun g10 => ?_⟩
              replace F_l := F_l.mv g10.mv; replace r_r1 := g10.rdD r_r1; replace r_r2 := g10.rdD r_r2; replace F_r3 := F_r3.mv g10.mv; replace F_r4 := F_r4.mv g10.mv; replace F_D2 := F_D2.mv g10.mv; replace F_R5 := F_R5.mv g10.mv; replace G6 := G6.le g10; replace r_L81 := g10.rdD r_L81; replace r_L82 := g10.rdD r_L82; replace F_L83 := F_L83.mv g10.mv; replace F_L84 := F_L84.mv g10.mv
              clear h10 hb10
              refine sat_true (by kernel_rfl) ?_
              refine sat_call #[.slice A_l l.length c_l, .slice A_l l.length c_l] (by kernel_rfl) fun w11 h11 => ?_
              refine (front_any _ _ _ _ l l _ ((F_l.mv h11.mv).any) ((F_l.mv h11.mv).any)).mono ?_
              rw [front_ll]
              rintro e v11 ⟨rfl, hb11⟩
              refine ⟨hb11, [.bool true], _, rfl, by kernel_rfl, by kernel_rfl, fun g11 => ?_⟩
              replace F_l := F_l.mv g11.mv; replace r_r1 := g11.rdD r_r1; replace r_r2 := g11.rdD r_r2; replace F_r3 := F_r3.mv g11.mv; replace F_r4 := F_r4.mv g11.mv; replace F_D2 := F_D2.mv g11.mv; replace F_R5 := F_R5.mv g11.mv; replace G6 := G6.le g11; replace r_L81 := g11.rdD r_L81; replace r_L82 := g11.rdD r_L82; replace F_L83 := F_L83.mv g11.mv; replace F_L84 := F_L84.mv g11.mv
              clear h11 hb11
              refine sat_true (by kernel_rfl) ?_
              obtain ⟨C_D9, c_D9, e_D9, F_D9⟩ := cut0 (n := K) F_l hK
              refine sat_prim (v := .slice C_D9 (l.take K).length c_D9) (Eq.trans (by kernel_rfl) e_D9) ?_
              refine sat_call #[.slice C_D9 (l.take K).length c_D9, .slice A_l l.length c_l] (by kernel_rfl) fun w12 h12 => ?_
              refine (front_any _ _ _ _ (l.take K) l _ ((F_D9.mv h12.mv).any) ((F_l.mv h12.mv).any)).mono ?_
              rw [front_tl hK]
              rintro e v12 ⟨rfl, hb12⟩
              refine ⟨hb12, [.bool true], _, rfl, by kernel_rfl, by kernel_rfl, fun g12 => ?_⟩
              replace F_l := F_l.mv g12.mv; replace r_r1 := g12.rdD r_r1; replace r_r2 := g12.rdD r_r2; replace F_r3 := F_r3.mv g12.mv; replace F_r4 := F_r4.mv g12.mv; replace F_D2 := F_D2.mv g12.mv; replace F_R5 := F_R5.mv g12.mv; replace G6 := G6.le g12; replace r_L81 := g12.rdD r_L81; replace r_L82 := g12.rdD r_L82; replace F_L83 := F_L83.mv g12.mv; replace F_L84 := F_L84.mv g12.mv; replace F_D9 := F_D9.mv g12.mv
              clear h12 hb12
              refine sat_true (by kernel_rfl) ?_
              obtain ⟨C_D10, c_D10, e_D10, F_D10⟩ := cut0 (n := K) F_l hK
              refine sat_prim (v := .slice C_D10 (l.take K).length c_D10) (Eq.trans (by kernel_rfl) e_D10) ?_
              refine sat_call #[.slice A_l l.length c_l, .slice C_D10 (l.take K).length c_D10] (by kernel_rfl) fun w13 h13 => ?_
              refine (front_any _ _ _ _ l (l.take K) _ ((F_l.mv h13.mv).any) ((F_D10.mv h13.mv).any)).mono ?_
              rw [front_lt hK]
              rintro e v13 ⟨rfl, hb13⟩
              refine ⟨hb13, [.bool (((K : Nat) : Int) == ((l.length : Nat) : Int))], _, rfl, by kernel_rfl, by kernel_rfl, fun g13 => ?_⟩
              replace F_l := F_l.mv g13.mv; replace r_r1 := g13.rdD r_r1; replace r_r2 := g13.rdD r_r2; replace F_r3 := F_r3.mv g13.mv; replace F_r4 := F_r4.mv g13.mv; replace F_D2 := F_D2.mv g13.mv; replace F_R5 := F_R5.mv g13.mv; replace G6 := G6.le g13; replace r_L81 := g13.rdD r_L81; replace r_L82 := g13.rdD r_L82; replace F_L83 := F_L83.mv g13.mv; replace F_L84 := F_L84.mv g13.mv; replace F_D9 := F_D9.mv g13.mv; replace F_D10 := F_D10.mv g13.mv
              clear h13 hb13
              refine sat_prim (v := .int .i64 ((l.length : Nat) : Int)) (by kernel_rfl) ?_
              refine sat_prim (v := .bool ((((K : Nat) : Int) : Int) == ((l.length : Nat) : Int))) (by kernel_rfl) ?_
              refine sat_prim (v := .bool ((((K : Nat) : Int) == ((l.length : Nat) : Int)) == ((((K : Nat) : Int) : Int) == ((l.length : Nat) : Int)))) (by kernel_rfl) ?_
              refine sat_trueP (b := (((K : Nat) : Int) == ((l.length : Nat) : Int)) == ((((K : Nat) : Int) : Int) == ((l.length : Nat) : Int))) (by kernel_rfl) (beq_self_eq_true _) ?_
              refine sat_call #[.slice A_G6 ((l.take K) ++ [r]).length c_G6, .slice A_l l.length c_l] (by kernel_rfl) fun w14 h14 => ?_
              refine (front_any _ _ _ _ (l.take K ++ [r]) l _ ((G6.le h14).reads) ((F_l.mv h14.mv).any)).mono ?_
              rw [front_ml hK h_x7]
              rintro e v14 ⟨rfl, hb14⟩
              refine ⟨hb14, [.bool (sameRc x7 r)], _, rfl, by kernel_rfl, by kernel_rfl, fun g14 => ?_⟩
              replace F_l := F_l.mv g14.mv; replace r_r1 := g14.rdD r_r1; replace r_r2 := g14.rdD r_r2; replace F_r3 := F_r3.mv g14.mv; replace F_r4 := F_r4.mv g14.mv; replace F_D2 := F_D2.mv g14.mv; replace F_R5 := F_R5.mv g14.mv; replace G6 := G6.le g14; replace r_L81 := g14.rdD r_L81; replace r_L82 := g14.rdD r_L82; replace F_L83 := F_L83.mv g14.mv; replace F_L84 := F_L84.mv g14.mv; replace F_D9 := F_D9.mv g14.mv; replace F_D10 := F_D10.mv g14.mv
              clear h14 hb14
              refine sat_prim (v := .bool ((sameRc x7 r) == (sameRc x7 r))) (by kernel_rfl) ?_
              refine sat_trueP (b := ((sameRc x7 r) == (sameRc x7 r))) (by kernel_rfl) (by simp) ?_
              obtain ⟨C_D11, c_D11, e_D11, F_D11⟩ := cut0 (n := K) F_l hK
              refine sat_prim (v := .slice C_D11 (l.take K).length c_D11) (Eq.trans (by kernel_rfl) e_D11) ?_
              refine sat_call #[.slice C_D11 (l.take K).length c_D11, .slice A_G6 ((l.take K) ++ [r]).length c_G6] (by kernel_rfl) fun w15 h15 => ?_
              refine (front_any _ _ _ _ (l.take K) (l.take K ++ [r]) _ ((F_D11.mv h15.mv).any) ((G6.le h15).reads)).mono ?_
              rw [front_tm]
              rintro e v15 ⟨rfl, hb15⟩
              refine ⟨hb15, [.bool true], _, rfl, by kernel_rfl, by kernel_rfl, fun g15 => ?_⟩
              replace F_l := F_l.mv g15.mv; replace r_r1 := g15.rdD r_r1; replace r_r2 := g15.rdD r_r2; replace F_r3 := F_r3.mv g15.mv; replace F_r4 := F_r4.mv g15.mv; replace F_D2 := F_D2.mv g15.mv; replace F_R5 := F_R5.mv g15.mv; replace G6 := G6.le g15; replace r_L81 := g15.rdD r_L81; replace r_L82 := g15.rdD r_L82; replace F_L83 := F_L83.mv g15.mv; replace F_L84 := F_L84.mv g15.mv; replace F_D9 := F_D9.mv g15.mv; replace F_D10 := F_D10.mv g15.mv; replace F_D11 := F_D11.mv g15.mv
              clear h15 hb15
              exact sat_ret (.bool true) (by kernel_rfl) fun w9 h9 => rfl
            · refine sat_falseP (b := decide ((((K : Nat) : Int) : Int) < ((l.length : Nat) : Int))) (by kernel_rfl) (decide_eq_false (by omega)) ?_
              refine sat_call #[] (by kernel_rfl) fun w8 h8 => ?_
              refine (told21_any _).mono ?_
              rintro e v8 ⟨rfl, hb8⟩
              refine ⟨hb8, [.bool true], _, rfl, by kernel_rfl, by kernel_rfl, fun g8 => ?_⟩
              replace F_l := F_l.mv g8.mv; replace r_r1 := g8.rdD r_r1; replace r_r2 := g8.rdD r_r2; replace F_r3 := F_r3.mv g8.mv; replace F_r4 := F_r4.mv g8.mv; replace F_D2 := F_D2.mv g8.mv; replace F_R5 := F_R5.mv g8.mv; replace G6 := G6.le g8
              clear h8 hb8
              refine sat_true (by kernel_rfl) ?_
              refine sat_call #[.slice A_l l.length c_l, .slice A_l l.length c_l] (by kernel_rfl) fun w9 h9 => ?_
              refine (front_any _ _ _ _ l l _ ((F_l.mv h9.mv).any) ((F_l.mv h9.mv).any)).mono ?_
              rw [front_ll]
              rintro e v9 ⟨rfl, hb9⟩
              refine ⟨hb9, [.bool true], _, rfl, by kernel_rfl, by kernel_rfl, fun g9 => ?_⟩
              replace F_l := F_l.mv g9.mv; replace r_r1 := g9.rdD r_r1; replace r_r2 := g9.rdD r_r2; replace F_r3 := F_r3.mv g9.mv; replace F_r4 := F_r4.mv g9.mv; replace F_D2 := F_D2.mv g9.mv; replace F_R5 := F_R5.mv g9.mv; replace G6 := G6.le g9
              clear h9 hb9
              refine sat_true (by kernel_rfl) ?_
              obtain ⟨C_D7, c_D7, e_D7, F_D7⟩ := cut0 (n := K) F_l hK
              refine sat_prim (v := .slice C_D7 (l.take K).length c_D7) (Eq.trans (by kernel_rfl) e_D7) ?_
              refine sat_call #[.slice C_D7 (l.take K).length c_D7, .slice A_l l.length c_l] (by kernel_rfl) fun w10 h10 => ?_
              refine (front_any _ _ _ _ (l.take K) l _ ((F_D7.mv h10.mv).any) ((F_l.mv h10.mv).any)).mono ?_
              rw [front_tl hK]
              rintro e v10 ⟨rfl, hb10⟩
              refine ⟨hb10, [.bool true], _, rfl, by kernel_rfl, by kernel_rfl, fun g10 => ?_⟩
              replace F_l := F_l.mv g10.mv; replace r_r1 := g10.rdD r_r1; replace r_r2 := g10.rdD r_r2; replace F_r3 := F_r3.mv g10.mv; replace F_r4 := F_r4.mv g10.mv; replace F_D2 := F_D2.mv g10.mv; replace F_R5 := F_R5.mv g10.mv; replace G6 := G6.le g10; replace F_D7 := F_D7.mv g10.mv
              clear h10 hb10
              refine sat_true (by kernel_rfl) ?_
              obtain ⟨C_D8, c_D8, e_D8, F_D8⟩ := cut0 (n := K) F_l hK
              refine sat_prim (v := .slice C_D8 (l.take K).length c_D8) (Eq.trans (by kernel_rfl) e_D8) ?_
              refine sat_call #[.slice A_l l.length c_l, .slice C_D8 (l.take K).length c_D8] (by kernel_rfl) fun w11 h11 => ?_
              refine (front_any _ _ _ _ l (l.take K) _ ((F_l.mv h11.mv).any) ((F_D8.mv h11.mv).any)).mono ?_
              rw [front_lt hK]
              rintro e v11 ⟨rfl, hb11⟩
              refine ⟨hb11, [.bool (((K : Nat) : Int) == ((l.length : Nat) : Int))], _, rfl, by kernel_rfl, by kernel_rfl, fun g11 => ?_⟩
              replace F_l := F_l.mv g11.mv; replace r_r1 := g11.rdD r_r1; replace r_r2 := g11.rdD r_r2; replace F_r3 := F_r3.mv g11.mv; replace F_r4 := F_r4.mv g11.mv; replace F_D2 := F_D2.mv g11.mv; replace F_R5 := F_R5.mv g11.mv; replace G6 := G6.le g11; replace F_D7 := F_D7.mv g11.mv; replace F_D8 := F_D8.mv g11.mv
              clear h11 hb11
              refine sat_prim (v := .int .i64 ((l.length : Nat) : Int)) (by kernel_rfl) ?_
              refine sat_prim (v := .bool ((((K : Nat) : Int) : Int) == ((l.length : Nat) : Int))) (by kernel_rfl) ?_
              refine sat_prim (v := .bool ((((K : Nat) : Int) == ((l.length : Nat) : Int)) == ((((K : Nat) : Int) : Int) == ((l.length : Nat) : Int)))) (by kernel_rfl) ?_
              refine sat_trueP (b := (((K : Nat) : Int) == ((l.length : Nat) : Int)) == ((((K : Nat) : Int) : Int) == ((l.length : Nat) : Int))) (by kernel_rfl) (beq_self_eq_true _) ?_
              refine sat_call #[.slice A_G6 ((l.take K) ++ [r]).length c_G6, .slice A_l l.length c_l] (by kernel_rfl) fun w12 h12 => ?_
              refine (front_any _ _ _ _ (l.take K ++ [r]) l _ ((G6.le h12).reads) ((F_l.mv h12.mv).any)).mono ?_
              rw [front_mn hK hKn]
              rintro e v12 ⟨rfl, hb12⟩
              refine ⟨hb12, [.bool false], _, rfl, by kernel_rfl, by kernel_rfl, fun g12 => ?_⟩
              replace F_l := F_l.mv g12.mv; replace r_r1 := g12.rdD r_r1; replace r_r2 := g12.rdD r_r2; replace F_r3 := F_r3.mv g12.mv; replace F_r4 := F_r4.mv g12.mv; replace F_D2 := F_D2.mv g12.mv; replace F_R5 := F_R5.mv g12.mv; replace G6 := G6.le g12; replace F_D7 := F_D7.mv g12.mv; replace F_D8 := F_D8.mv g12.mv
              clear h12 hb12
              refine sat_prim (v := .bool (false == false)) (by kernel_rfl) ?_
              refine sat_trueP (b := (false == false)) (by kernel_rfl) (by simp) ?_
              obtain ⟨C_D9, c_D9, e_D9, F_D9⟩ := cut0 (n := K) F_l hK
              refine sat_prim (v := .slice C_D9 (l.take K).length c_D9) (Eq.trans (by kernel_rfl) e_D9) ?_
              refine sat_call #[.slice C_D9 (l.take K).length c_D9, .slice A_G6 ((l.take K) ++ [r]).length c_G6] (by kernel_rfl) fun w13 h13 => ?_
              refine (front_any _ _ _ _ (l.take K) (l.take K ++ [r]) _ ((F_D9.mv h13.mv).any) ((G6.le h13).reads)).mono ?_
              rw [front_tm]
              rintro e v13 ⟨rfl, hb13⟩
              refine ⟨hb13, [.bool true], _, rfl, by kernel_rfl, by kernel_rfl, fun g13 => ?_⟩
              replace F_l := F_l.mv g13.mv; replace r_r1 := g13.rdD r_r1; replace r_r2 := g13.rdD r_r2; replace F_r3 := F_r3.mv g13.mv; replace F_r4 := F_r4.mv g13.mv; replace F_D2 := F_D2.mv g13.mv; replace F_R5 := F_R5.mv g13.mv; replace G6 := G6.le g13; replace F_D7 := F_D7.mv g13.mv; replace F_D8 := F_D8.mv g13.mv; replace F_D9 := F_D9.mv g13.mv
              clear h13 hb13
              exact sat_ret (.bool true) (by kernel_rfl) fun w9 h9 => rfl
          · refine sat_rowN [.int .i64 r.kind, .int .i64 r.epoch, .int .i64 r.code, .bool r.t.neg, .slice A_r1 n_r1 c_r1, .int .i64 r.t.e, .bool r.h.neg, .slice A_r2 n_r2 c_r2, .int .i64 r.h.e, .slice X_r r.boxes.length x_r, .slice Y_r r.sigs.length y_r] (by kernel_rfl) (by intro x hx; cases hx) fun u1 h1 B1 NB1 => ?_
            replace F_l := F_l.mv h1.mv; replace r_r1 := h1.rdD r_r1; replace r_r2 := h1.rdD r_r2; replace F_r3 := F_r3.mv h1.mv; replace F_r4 := F_r4.mv h1.mv; replace F_D2 := F_D2.mv h1.mv; replace G3 := G3.le h1
            have F_R4 : Sx.Rows Sx.kRec (Sx.NB _) _ (some ⟨u1.heap.size, 0, none⟩) 1 1 [r] := rows_one (k := Sx.kRec) B1 NB1 ⟨_, _, _, _, _, _, _, _, _, _, rfl, r_r1, r_r2, F_r3, F_r4⟩
            generalize u1.heap.size = N_R4 at *
            generalize (u1.alloc _) = w_R4 at *
            clear B1 h1 NB1
            refine sat_app (.slice (some ⟨N5, 0, none⟩) 0 0) (.slice C_D2 (l.take K).length c_D2) (by kernel_rfl) (by kernel_rfl) fun w6 h6 => ?_
            refine Sx.Gr.appN (l := []) (G3.le h6) (l' := (l.take K)) (F_D2.mv h6.mv) (by have := M_l; have := hK; have := hl8; simp only [List.length_append, List.length_take, List.length_cons, List.length_nil, maxLen] at *; omega) (by have := M_l; have := hK; have := hl8; simp only [List.length_append, List.length_take, List.length_cons, List.length_nil, maxLen] at *; omega) fun A_G5 c_G5 v6 a6 G5 => ?_
            rw [List.nil_append] at G5
            rw [List.nil_append]
            replace F_l := F_l.mv h6.mv; replace r_r1 := h6.rdD r_r1; replace r_r2 := h6.rdD r_r2; replace F_r3 := F_r3.mv h6.mv; replace F_r4 := F_r4.mv h6.mv; replace F_D2 := F_D2.mv h6.mv; replace F_R4 := F_R4.mv h6.mv
            replace F_l := F_l.mv a6.toLf.mv; replace r_r1 := a6.toLf.rdD r_r1; replace r_r2 := a6.toLf.rdD r_r2; replace F_r3 := F_r3.mv a6.toLf.mv; replace F_r4 := F_r4.mv a6.toLf.mv; replace F_D2 := F_D2.mv a6.toLf.mv; replace F_R4 := F_R4.mv a6.toLf.mv
            clear h6 a6 G3
            refine sat_app (.slice A_G5 (l.take K).length c_G5) (.slice (some ⟨N_R4, 0, none⟩) 1 1) (by kernel_rfl) (by kernel_rfl) fun w7 h7 => ?_
            refine Sx.Gr.appN (l := (l.take K)) (G5.le h7) (l' := [r]) (F_R4.mv h7.mv) (by have := M_l; have := hK; have := hl8; simp only [List.length_append, List.length_take, List.length_cons, List.length_nil, maxLen] at *; omega) (by have := M_l; have := hK; have := hl8; simp only [List.length_append, List.length_take, List.length_cons, List.length_nil, maxLen] at *; omega) fun A_G6 c_G6 v7 a7 G6 => ?_
            replace F_l := F_l.mv h7.mv; replace r_r1 := h7.rdD r_r1; replace r_r2 := h7.rdD r_r2; replace F_r3 := F_r3.mv h7.mv; replace F_r4 := F_r4.mv h7.mv; replace F_D2 := F_D2.mv h7.mv; replace F_R4 := F_R4.mv h7.mv
            replace F_l := F_l.mv a7.toLf.mv; replace r_r1 := a7.toLf.rdD r_r1; replace r_r2 := a7.toLf.rdD r_r2; replace F_r3 := F_r3.mv a7.toLf.mv; replace F_r4 := F_r4.mv a7.toLf.mv; replace F_D2 := F_D2.mv a7.toLf.mv; replace F_R4 := F_R4.mv a7.toLf.mv
            clear h7 a7 G5
            refine sat_prim (v := .int .i64 ((l.length : Nat) : Int)) (by kernel_rfl) ?_
            refine sat_prim (v := .bool (decide ((((K : Nat) : Int) : Int) < ((l.length : Nat) : Int)))) (by kernel_rfl) ?_
            by_cases hKn : K < l.length
            · refine sat_trueP (b := decide ((((K : Nat) : Int) : Int) < ((l.length : Nat) : Int))) (by kernel_rfl) (decide_eq_true (by omega)) ?_
              refine sat_idx (A := A_l) (c := c_l) (kk := .i64) (K) (by kernel_rfl) (by kernel_rfl) (hKn) F_l.addr fun g8 o8 e8 => ?_
              obtain ⟨x7, h_x7⟩ : ∃ x_, l[(K)]? = some x_ := ⟨_, List.getElem?_eq_getElem (hKn)⟩
              refine sat_el F_l e8 h_x7 rfl (by kernel_rfl) (by kernel_rfl) (by kernel_rfl) ?_
              rintro _ ⟨A_L81, n_L81, c_L81, A_L82, n_L82, c_L82, X_L8, x_L8, Y_L8, y_L8, rfl, r_L81, r_L82, F_L83, F_L84⟩
              refine sat_call #[.agg #[.int .i64 x7.kind, .int .i64 x7.epoch, .int .i64 x7.code, .bool x7.t.neg, .slice A_L81 n_L81 c_L81, .int .i64 x7.t.e, .bool x7.h.neg, .slice A_L82 n_L82 c_L82, .int .i64 x7.h.e, .slice X_L8 x7.boxes.length x_L8, .slice Y_L8 x7.sigs.length y_L8], .agg #[.int .i64 r.kind, .int .i64 r.epoch, .int .i64 r.code, .bool r.t.neg, .slice A_r1 n_r1 c_r1, .int .i64 r.t.e, .bool r.h.neg, .slice A_r2 n_r2 c_r2, .int .i64 r.h.e, .slice X_r r.boxes.length x_r, .slice Y_r r.sigs.length y_r]] (by kernel_rfl) fun w9 h9 => ?_
              refine (rsameR_any _ _ x7 r _ (mkRc (h9.rdD r_L81) (h9.rdD r_L82) ((F_L83.mv h9.mv).any) ((F_L84.mv h9.mv).any)) (mkRc (h9.rdD r_r1) (h9.rdD r_r2) ((F_r3.mv h9.mv).any) ((F_r4.mv h9.mv).any))).mono ?_
              rintro e v9 ⟨rfl, hb9⟩
              refine ⟨hb9, [.bool (sameRc x7 r)], _, rfl, by kernel_rfl, by kernel_rfl, fun g9 => ?_⟩
              replace F_l := F_l.mv g9.mv; replace r_r1 := g9.rdD r_r1; replace r_r2 := g9.rdD r_r2; replace F_r3 := F_r3.mv g9.mv; replace F_r4 := F_r4.mv g9.mv; replace F_D2 := F_D2.mv g9.mv; replace F_R4 := F_R4.mv g9.mv; replace G6 := G6.le g9; replace r_L81 := g9.rdD r_L81; replace r_L82 := g9.rdD r_L82; replace F_L83 := F_L83.mv g9.mv; replace F_L84 := F_L84.mv g9.mv
              clear h9 hb9
              refine sat_call #[] (by kernel_rfl) fun w10 h10 => ?_
              refine (told21_any _).mono ?_
              rintro e v10 ⟨rfl, hb10⟩
              refine ⟨hb10, [.bool true], _, rfl, by kernel_rfl, by kernel_rfl, fun g10 => ?_⟩
              replace F_l := F_l.mv g10.mv; replace r_r1 := g10.rdD r_r1; replace r_r2 := g10.rdD r_r2; replace F_r3 := F_r3.mv g10.mv; replace F_r4 := F_r4.mv g10.mv; replace F_D2 := F_D2.mv g10.mv; replace F_R4 := F_R4.mv g10.mv; replace G6 := G6.le g10; replace r_L81 := g10.rdD r_L81; replace r_L82 := g10.rdD r_L82; replace F_L83 := F_L83.mv g10.mv; replace F_L84 := F_L84.mv g10.mv
              clear h10 hb10
              refine sat_true (by kernel_rfl) ?_
              refine sat_call #[.slice A_l l.length c_l, .slice A_l l.length c_l] (by kernel_rfl) fun w11 h11 => ?_
              refine (front_any _ _ _ _ l l _ ((F_l.mv h11.mv).any) ((F_l.mv h11.mv).any)).mono ?_
              rw [front_ll]
              rintro e v11 ⟨rfl, hb11⟩
              refine ⟨hb11, [.bool true], _, rfl, by kernel_rfl, by kernel_rfl, fun g11 => ?_⟩
              replace F_l := F_l.mv g11.mv; replace r_r1 := g11.rdD r_r1; replace r_r2 := g11.rdD r_r2; replace F_r3 := F_r3.mv g11.mv; replace F_r4 := F_r4.mv g11.mv; replace F_D2 := F_D2.mv g11.mv; replace F_R4 := F_R4.mv g11.mv; replace G6 := G6.le g11; replace r_L81 := g11.rdD r_L81; replace r_L82 := g11.rdD r_L82; replace F_L83 := F_L83.mv g11.mv; replace F_L84 := F_L84.mv g11.mv
              clear h11 hb11
              refine sat_true (by kernel_rfl) ?_
              obtain ⟨C_D9, c_D9, e_D9, F_D9⟩ := cut0 (n := K) F_l hK
              refine sat_prim (v := .slice C_D9 (l.take K).length c_D9) (Eq.trans (by kernel_rfl) e_D9) ?_
              refine sat_call #[.slice C_D9 (l.take K).length c_D9, .slice A_l l.length c_l] (by kernel_rfl) fun w12 h12 => ?_
              refine (front_any _ _ _ _ (l.take K) l _ ((F_D9.mv h12.mv).any) ((F_l.mv h12.mv).any)).mono ?_
              rw [front_tl hK]
              rintro e v12 ⟨rfl, hb12⟩
              refine ⟨hb12, [.bool true], _, rfl, by kernel_rfl, by kernel_rfl, fun g12 => ?_⟩
              replace F_l := F_l.mv g12.mv; replace r_r1 := g12.rdD r_r1; replace r_r2 := g12.rdD r_r2; replace F_r3 := F_r3.mv g12.mv; replace F_r4 := F_r4.mv g12.mv; replace F_D2 := F_D2.mv g12.mv; replace F_R4 := F_R4.mv g12.mv; replace G6 := G6.le g12; replace r_L81 := g12.rdD r_L81; replace r_L82 := g12.rdD r_L82; replace F_L83 := F_L83.mv g12.mv; replace F_L84 := F_L84.mv g12.mv; replace F_D9 := F_D9.mv g12.mv
              clear h12 hb12
              refine sat_true (by kernel_rfl) ?_
              obtain ⟨C_D10, c_D10, e_D10, F_D10⟩ := cut0 (n := K) F_l hK
              refine sat_prim (v := .slice C_D10 (l.take K).length c_D10) (Eq.trans (by kernel_rfl) e_D10) ?_
              refine sat_call #[.slice A_l l.length c_l, .slice C_D10 (l.take K).length c_D10] (by kernel_rfl) fun w13 h13 => ?_
              refine (front_any _ _ _ _ l (l.take K) _ ((F_l.mv h13.mv).any) ((F_D10.mv h13.mv).any)).mono ?_
              rw [front_lt hK]
              rintro e v13 ⟨rfl, hb13⟩
              refine ⟨hb13, [.bool (((K : Nat) : Int) == ((l.length : Nat) : Int))], _, rfl, by kernel_rfl, by kernel_rfl, fun g13 => ?_⟩
              replace F_l := F_l.mv g13.mv; replace r_r1 := g13.rdD r_r1; replace r_r2 := g13.rdD r_r2; replace F_r3 := F_r3.mv g13.mv; replace F_r4 := F_r4.mv g13.mv; replace F_D2 := F_D2.mv g13.mv; replace F_R4 := F_R4.mv g13.mv; replace G6 := G6.le g13; replace r_L81 := g13.rdD r_L81; replace r_L82 := g13.rdD r_L82; replace F_L83 := F_L83.mv g13.mv; replace F_L84 := F_L84.mv g13.mv; replace F_D9 := F_D9.mv g13.mv; replace F_D10 := F_D10.mv g13.mv
              clear h13 hb13
              refine sat_prim (v := .int .i64 ((l.length : Nat) : Int)) (by kernel_rfl) ?_
              refine sat_prim (v := .bool ((((K : Nat) : Int) : Int) == ((l.length : Nat) : Int))) (by kernel_rfl) ?_
              refine sat_prim (v := .bool ((((K : Nat) : Int) == ((l.length : Nat) : Int)) == ((((K : Nat) : Int) : Int) == ((l.length : Nat) : Int)))) (by kernel_rfl) ?_
              refine sat_trueP (b := (((K : Nat) : Int) == ((l.length : Nat) : Int)) == ((((K : Nat) : Int) : Int) == ((l.length : Nat) : Int))) (by kernel_rfl) (beq_self_eq_true _) ?_
              refine sat_call #[.slice A_G6 ((l.take K) ++ [r]).length c_G6, .slice A_l l.length c_l] (by kernel_rfl) fun w14 h14 => ?_
              refine (front_any _ _ _ _ (l.take K ++ [r]) l _ ((G6.le h14).reads) ((F_l.mv h14.mv).any)).mono ?_
              rw [front_ml hK h_x7]
              rintro e v14 ⟨rfl, hb14⟩
              refine ⟨hb14, [.bool (sameRc x7 r)], _, rfl, by kernel_rfl, by kernel_rfl, fun g14 => ?_⟩
              replace F_l := F_l.mv g14.mv; replace r_r1 := g14.rdD r_r1; replace r_r2 := g14.rdD r_r2; replace F_r3 := F_r3.mv g14.mv; replace F_r4 := F_r4.mv g14.mv; replace F_D2 := F_D2.mv g14.mv; replace F_R4 := F_R4.mv g14.mv; replace G6 := G6.le g14; replace r_L81 := g14.rdD r_L81; replace r_L82 := g14.rdD r_L82; replace F_L83 := F_L83.mv g14.mv; replace F_L84 := F_L84.mv g14.mv; replace F_D9 := F_D9.mv g14.mv; replace F_D10 := F_D10.mv g14.mv
              clear h14 hb14
              refine sat_prim (v := .bool ((sameRc x7 r) == (sameRc x7 r))) (by kernel_rfl) ?_
              refine sat_trueP (b := ((sameRc x7 r) == (sameRc x7 r))) (by kernel_rfl) (by simp) ?_
              obtain ⟨C_D11, c_D11, e_D11, F_D11⟩ := cut0 (n := K) F_l hK
              refine sat_prim (v := .slice C_D11 (l.take K).length c_D11) (Eq.trans (by kernel_rfl) e_D11) ?_
              refine sat_call #[.slice C_D11 (l.take K).length c_D11, .slice A_G6 ((l.take K) ++ [r]).length c_G6] (by kernel_rfl) fun w15 h15 => ?_
              refine (front_any _ _ _ _ (l.take K) (l.take K ++ [r]) _ ((F_D11.mv h15.mv).any) ((G6.le h15).reads)).mono ?_
              rw [front_tm]
              rintro e v15 ⟨rfl, hb15⟩
              refine ⟨hb15, [.bool true], _, rfl, by kernel_rfl, by kernel_rfl, fun g15 => ?_⟩
              replace F_l := F_l.mv g15.mv; replace r_r1 := g15.rdD r_r1; replace r_r2 := g15.rdD r_r2; replace F_r3 := F_r3.mv g15.mv; replace F_r4 := F_r4.mv g15.mv; replace F_D2 := F_D2.mv g15.mv; replace F_R4 := F_R4.mv g15.mv; replace G6 := G6.le g15; replace r_L81 := g15.rdD r_L81; replace r_L82 := g15.rdD r_L82; replace F_L83 := F_L83.mv g15.mv; replace F_L84 := F_L84.mv g15.mv; replace F_D9 := F_D9.mv g15.mv; replace F_D10 := F_D10.mv g15.mv; replace F_D11 := F_D11.mv g15.mv
              clear h15 hb15
              exact sat_ret (.bool true) (by kernel_rfl) fun w9 h9 => rfl
            · refine sat_falseP (b := decide ((((K : Nat) : Int) : Int) < ((l.length : Nat) : Int))) (by kernel_rfl) (decide_eq_false (by omega)) ?_
              refine sat_call #[] (by kernel_rfl) fun w8 h8 => ?_
              refine (told21_any _).mono ?_
              rintro e v8 ⟨rfl, hb8⟩
              refine ⟨hb8, [.bool true], _, rfl, by kernel_rfl, by kernel_rfl, fun g8 => ?_⟩
              replace F_l := F_l.mv g8.mv; replace r_r1 := g8.rdD r_r1; replace r_r2 := g8.rdD r_r2; replace F_r3 := F_r3.mv g8.mv; replace F_r4 := F_r4.mv g8.mv; replace F_D2 := F_D2.mv g8.mv; replace F_R4 := F_R4.mv g8.mv; replace G6 := G6.le g8
              clear h8 hb8
              refine sat_true (by kernel_rfl) ?_
              refine sat_call #[.slice A_l l.length c_l, .slice A_l l.length c_l] (by kernel_rfl) fun w9 h9 => ?_
              refine (front_any _ _ _ _ l l _ ((F_l.mv h9.mv).any) ((F_l.mv h9.mv).any)).mono ?_
              rw [front_ll]
              rintro e v9 ⟨rfl, hb9⟩
              refine ⟨hb9, [.bool true], _, rfl, by kernel_rfl, by kernel_rfl, fun g9 => ?_⟩
              replace F_l := F_l.mv g9.mv; replace r_r1 := g9.rdD r_r1; replace r_r2 := g9.rdD r_r2; replace F_r3 := F_r3.mv g9.mv; replace F_r4 := F_r4.mv g9.mv; replace F_D2 := F_D2.mv g9.mv; replace F_R4 := F_R4.mv g9.mv; replace G6 := G6.le g9
              clear h9 hb9
              refine sat_true (by kernel_rfl) ?_
              obtain ⟨C_D7, c_D7, e_D7, F_D7⟩ := cut0 (n := K) F_l hK
              refine sat_prim (v := .slice C_D7 (l.take K).length c_D7) (Eq.trans (by kernel_rfl) e_D7) ?_
              refine sat_call #[.slice C_D7 (l.take K).length c_D7, .slice A_l l.length c_l] (by kernel_rfl) fun w10 h10 => ?_
              refine (front_any _ _ _ _ (l.take K) l _ ((F_D7.mv h10.mv).any) ((F_l.mv h10.mv).any)).mono ?_
              rw [front_tl hK]
              rintro e v10 ⟨rfl, hb10⟩
              refine ⟨hb10, [.bool true], _, rfl, by kernel_rfl, by kernel_rfl, fun g10 => ?_⟩
              replace F_l := F_l.mv g10.mv; replace r_r1 := g10.rdD r_r1; replace r_r2 := g10.rdD r_r2; replace F_r3 := F_r3.mv g10.mv; replace F_r4 := F_r4.mv g10.mv; replace F_D2 := F_D2.mv g10.mv; replace F_R4 := F_R4.mv g10.mv; replace G6 := G6.le g10; replace F_D7 := F_D7.mv g10.mv
              clear h10 hb10
              refine sat_true (by kernel_rfl) ?_
              obtain ⟨C_D8, c_D8, e_D8, F_D8⟩ := cut0 (n := K) F_l hK
              refine sat_prim (v := .slice C_D8 (l.take K).length c_D8) (Eq.trans (by kernel_rfl) e_D8) ?_
              refine sat_call #[.slice A_l l.length c_l, .slice C_D8 (l.take K).length c_D8] (by kernel_rfl) fun w11 h11 => ?_
              refine (front_any _ _ _ _ l (l.take K) _ ((F_l.mv h11.mv).any) ((F_D8.mv h11.mv).any)).mono ?_
              rw [front_lt hK]
              rintro e v11 ⟨rfl, hb11⟩
              refine ⟨hb11, [.bool (((K : Nat) : Int) == ((l.length : Nat) : Int))], _, rfl, by kernel_rfl, by kernel_rfl, fun g11 => ?_⟩
              replace F_l := F_l.mv g11.mv; replace r_r1 := g11.rdD r_r1; replace r_r2 := g11.rdD r_r2; replace F_r3 := F_r3.mv g11.mv; replace F_r4 := F_r4.mv g11.mv; replace F_D2 := F_D2.mv g11.mv; replace F_R4 := F_R4.mv g11.mv; replace G6 := G6.le g11; replace F_D7 := F_D7.mv g11.mv; replace F_D8 := F_D8.mv g11.mv
              clear h11 hb11
              refine sat_prim (v := .int .i64 ((l.length : Nat) : Int)) (by kernel_rfl) ?_
              refine sat_prim (v := .bool ((((K : Nat) : Int) : Int) == ((l.length : Nat) : Int))) (by kernel_rfl) ?_
              refine sat_prim (v := .bool ((((K : Nat) : Int) == ((l.length : Nat) : Int)) == ((((K : Nat) : Int) : Int) == ((l.length : Nat) : Int)))) (by kernel_rfl) ?_
              refine sat_trueP (b := (((K : Nat) : Int) == ((l.length : Nat) : Int)) == ((((K : Nat) : Int) : Int) == ((l.length : Nat) : Int))) (by kernel_rfl) (beq_self_eq_true _) ?_
              refine sat_call #[.slice A_G6 ((l.take K) ++ [r]).length c_G6, .slice A_l l.length c_l] (by kernel_rfl) fun w12 h12 => ?_
              refine (front_any _ _ _ _ (l.take K ++ [r]) l _ ((G6.le h12).reads) ((F_l.mv h12.mv).any)).mono ?_
              rw [front_mn hK hKn]
              rintro e v12 ⟨rfl, hb12⟩
              refine ⟨hb12, [.bool false], _, rfl, by kernel_rfl, by kernel_rfl, fun g12 => ?_⟩
              replace F_l := F_l.mv g12.mv; replace r_r1 := g12.rdD r_r1; replace r_r2 := g12.rdD r_r2; replace F_r3 := F_r3.mv g12.mv; replace F_r4 := F_r4.mv g12.mv; replace F_D2 := F_D2.mv g12.mv; replace F_R4 := F_R4.mv g12.mv; replace G6 := G6.le g12; replace F_D7 := F_D7.mv g12.mv; replace F_D8 := F_D8.mv g12.mv
              clear h12 hb12
              refine sat_prim (v := .bool (false == false)) (by kernel_rfl) ?_
              refine sat_trueP (b := (false == false)) (by kernel_rfl) (by simp) ?_
              obtain ⟨C_D9, c_D9, e_D9, F_D9⟩ := cut0 (n := K) F_l hK
              refine sat_prim (v := .slice C_D9 (l.take K).length c_D9) (Eq.trans (by kernel_rfl) e_D9) ?_
              refine sat_call #[.slice C_D9 (l.take K).length c_D9, .slice A_G6 ((l.take K) ++ [r]).length c_G6] (by kernel_rfl) fun w13 h13 => ?_
              refine (front_any _ _ _ _ (l.take K) (l.take K ++ [r]) _ ((F_D9.mv h13.mv).any) ((G6.le h13).reads)).mono ?_
              rw [front_tm]
              rintro e v13 ⟨rfl, hb13⟩
              refine ⟨hb13, [.bool true], _, rfl, by kernel_rfl, by kernel_rfl, fun g13 => ?_⟩
              replace F_l := F_l.mv g13.mv; replace r_r1 := g13.rdD r_r1; replace r_r2 := g13.rdD r_r2; replace F_r3 := F_r3.mv g13.mv; replace F_r4 := F_r4.mv g13.mv; replace F_D2 := F_D2.mv g13.mv; replace F_R4 := F_R4.mv g13.mv; replace G6 := G6.le g13; replace F_D7 := F_D7.mv g13.mv; replace F_D8 := F_D8.mv g13.mv; replace F_D9 := F_D9.mv g13.mv
              clear h13 hb13
              exact sat_ret (.bool true) (by kernel_rfl) fun w9 h9 => rfl
        · refine sat_rowN [.int .i64 r.kind, .int .i64 r.epoch, .int .i64 r.code, .bool r.t.neg, .slice A_r1 n_r1 c_r1, .int .i64 r.t.e, .bool r.h.neg, .slice A_r2 n_r2 c_r2, .int .i64 r.h.e, .slice X_r r.boxes.length x_r, .slice Y_r r.sigs.length y_r] (by kernel_rfl) (by intro x hx; cases hx) fun u1 h1 B1 NB1 => ?_
          replace F_l := F_l.mv h1.mv; replace r_r1 := h1.rdD r_r1; replace r_r2 := h1.rdD r_r2; replace F_r3 := F_r3.mv h1.mv; replace F_r4 := F_r4.mv h1.mv; replace F_D2 := F_D2.mv h1.mv
          have F_R3 : Sx.Rows Sx.kRec (Sx.NB _) _ (some ⟨u1.heap.size, 0, none⟩) 1 1 [r] := rows_one (k := Sx.kRec) B1 NB1 ⟨_, _, _, _, _, _, _, _, _, _, rfl, r_r1, r_r2, F_r3, F_r4⟩
          generalize u1.heap.size = N_R3 at *
          generalize (u1.alloc _) = w_R3 at *
          clear B1 h1 NB1
          refine Sx.sat_lit0 Sx.kRec (Nat.succ_pos _) rfl rfl fun N5 w5 h5 G4 => ?_
          replace F_l := F_l.mv h5.mv; replace r_r1 := h5.rdD r_r1; replace r_r2 := h5.rdD r_r2; replace F_r3 := F_r3.mv h5.mv; replace F_r4 := F_r4.mv h5.mv; replace F_D2 := F_D2.mv h5.mv; replace F_R3 := F_R3.mv h5.mv
          clear h5
          refine sat_app (.slice (some ⟨N5, 0, none⟩) 0 0) (.slice C_D2 (l.take K).length c_D2) (by kernel_rfl) (by kernel_rfl) fun w6 h6 => ?_
          refine Sx.Gr.appN (l := []) (G4.le h6) (l' := (l.take K)) (F_D2.mv h6.mv) (by have := M_l; have := hK; have := hl8; simp only [List.length_append, List.length_take, List.length_cons, List.length_nil, maxLen] at *; omega) (by have := M_l; have := hK; have := hl8; simp only [List.length_append, List.length_take, List.length_cons, List.length_nil, maxLen] at *; omega) fun A_G5 c_G5 v6 a6 G5 => ?_
          rw [List.nil_append] at G5
          rw [List.nil_append]
          replace F_l := F_l.mv h6.mv; replace r_r1 := h6.rdD r_r1; replace r_r2 := h6.rdD r_r2; replace F_r3 := F_r3.mv h6.mv; replace F_r4 := F_r4.mv h6.mv; replace F_D2 := F_D2.mv h6.mv; replace F_R3 := F_R3.mv h6.mv
          replace F_l := F_l.mv a6.toLf.mv; replace r_r1 := a6.toLf.rdD r_r1; replace r_r2 := a6.toLf.rdD r_r2; replace F_r3 := F_r3.mv a6.toLf.mv; replace F_r4 := F_r4.mv a6.toLf.mv; replace F_D2 := F_D2.mv a6.toLf.mv; replace F_R3 := F_R3.mv a6.toLf.mv
          clear h6 a6 G4
          refine sat_app (.slice A_G5 (l.take K).length c_G5) (.slice (some ⟨N_R3, 0, none⟩) 1 1) (by kernel_rfl) (by kernel_rfl) fun w7 h7 => ?_
          refine Sx.Gr.appN (l := (l.take K)) (G5.le h7) (l' := [r]) (F_R3.mv h7.mv) (by have := M_l; have := hK; have := hl8; simp only [List.length_append, List.length_take, List.length_cons, List.length_nil, maxLen] at *; omega) (by have := M_l; have := hK; have := hl8; simp only [List.length_append, List.length_take, List.length_cons, List.length_nil, maxLen] at *; omega) fun A_G6 c_G6 v7 a7 G6 => ?_
          replace F_l := F_l.mv h7.mv; replace r_r1 := h7.rdD r_r1; replace r_r2 := h7.rdD r_r2; replace F_r3 := F_r3.mv h7.mv; replace F_r4 := F_r4.mv h7.mv; replace F_D2 := F_D2.mv h7.mv; replace F_R3 := F_R3.mv h7.mv
          replace F_l := F_l.mv a7.toLf.mv; replace r_r1 := a7.toLf.rdD r_r1; replace r_r2 := a7.toLf.rdD r_r2; replace F_r3 := F_r3.mv a7.toLf.mv; replace F_r4 := F_r4.mv a7.toLf.mv; replace F_D2 := F_D2.mv a7.toLf.mv; replace F_R3 := F_R3.mv a7.toLf.mv
          clear h7 a7 G5
          refine sat_prim (v := .int .i64 ((l.length : Nat) : Int)) (by kernel_rfl) ?_
          refine sat_prim (v := .bool (decide ((((K : Nat) : Int) : Int) < ((l.length : Nat) : Int)))) (by kernel_rfl) ?_
          by_cases hKn : K < l.length
          · refine sat_trueP (b := decide ((((K : Nat) : Int) : Int) < ((l.length : Nat) : Int))) (by kernel_rfl) (decide_eq_true (by omega)) ?_
            refine sat_idx (A := A_l) (c := c_l) (kk := .i64) (K) (by kernel_rfl) (by kernel_rfl) (hKn) F_l.addr fun g8 o8 e8 => ?_
            obtain ⟨x7, h_x7⟩ : ∃ x_, l[(K)]? = some x_ := ⟨_, List.getElem?_eq_getElem (hKn)⟩
            refine sat_el F_l e8 h_x7 rfl (by kernel_rfl) (by kernel_rfl) (by kernel_rfl) ?_
            rintro _ ⟨A_L81, n_L81, c_L81, A_L82, n_L82, c_L82, X_L8, x_L8, Y_L8, y_L8, rfl, r_L81, r_L82, F_L83, F_L84⟩
            refine sat_call #[.agg #[.int .i64 x7.kind, .int .i64 x7.epoch, .int .i64 x7.code, .bool x7.t.neg, .slice A_L81 n_L81 c_L81, .int .i64 x7.t.e, .bool x7.h.neg, .slice A_L82 n_L82 c_L82, .int .i64 x7.h.e, .slice X_L8 x7.boxes.length x_L8, .slice Y_L8 x7.sigs.length y_L8], .agg #[.int .i64 r.kind, .int .i64 r.epoch, .int .i64 r.code, .bool r.t.neg, .slice A_r1 n_r1 c_r1, .int .i64 r.t.e, .bool r.h.neg, .slice A_r2 n_r2 c_r2, .int .i64 r.h.e, .slice X_r r.boxes.length x_r, .slice Y_r r.sigs.length y_r]] (by kernel_rfl) fun w9 h9 => ?_
            refine (rsameR_any _ _ x7 r _ (mkRc (h9.rdD r_L81) (h9.rdD r_L82) ((F_L83.mv h9.mv).any) ((F_L84.mv h9.mv).any)) (mkRc (h9.rdD r_r1) (h9.rdD r_r2) ((F_r3.mv h9.mv).any) ((F_r4.mv h9.mv).any))).mono ?_
            rintro e v9 ⟨rfl, hb9⟩
            refine ⟨hb9, [.bool (sameRc x7 r)], _, rfl, by kernel_rfl, by kernel_rfl, fun g9 => ?_⟩
            replace F_l := F_l.mv g9.mv; replace r_r1 := g9.rdD r_r1; replace r_r2 := g9.rdD r_r2; replace F_r3 := F_r3.mv g9.mv; replace F_r4 := F_r4.mv g9.mv; replace F_D2 := F_D2.mv g9.mv; replace F_R3 := F_R3.mv g9.mv; replace G6 := G6.le g9; replace r_L81 := g9.rdD r_L81; replace r_L82 := g9.rdD r_L82; replace F_L83 := F_L83.mv g9.mv; replace F_L84 := F_L84.mv g9.mv
            clear h9 hb9
            refine sat_call #[] (by kernel_rfl) fun w10 h10 => ?_
            refine (told21_any _).mono ?_
            rintro e v10 ⟨rfl, hb10⟩
            refine ⟨hb10, [.bool true], _, rfl, by kernel_rfl, by kernel_rfl, fun g10 => ?_⟩
            replace F_l := F_l.mv g10.mv; replace r_r1 := g10.rdD r_r1; replace r_r2 := g10.rdD r_r2; replace F_r3 := F_r3.mv g10.mv; replace F_r4 := F_r4.mv g10.mv; replace F_D2 := F_D2.mv g10.mv; replace F_R3 := F_R3.mv g10.mv; replace G6 := G6.le g10; replace r_L81 := g10.rdD r_L81; replace r_L82 := g10.rdD r_L82; replace F_L83 := F_L83.mv g10.mv; replace F_L84 := F_L84.mv g10.mv
            clear h10 hb10
            refine sat_true (by kernel_rfl) ?_
            refine sat_call #[.slice A_l l.length c_l, .slice A_l l.length c_l] (by kernel_rfl) fun w11 h11 => ?_
            refine (front_any _ _ _ _ l l _ ((F_l.mv h11.mv).any) ((F_l.mv h11.mv).any)).mono ?_
            rw [front_ll]
            rintro e v11 ⟨rfl, hb11⟩
            refine ⟨hb11, [.bool true], _, rfl, by kernel_rfl, by kernel_rfl, fun g11 => ?_⟩
            replace F_l := F_l.mv g11.mv; replace r_r1 := g11.rdD r_r1; replace r_r2 := g11.rdD r_r2; replace F_r3 := F_r3.mv g11.mv; replace F_r4 := F_r4.mv g11.mv; replace F_D2 := F_D2.mv g11.mv; replace F_R3 := F_R3.mv g11.mv; replace G6 := G6.le g11; replace r_L81 := g11.rdD r_L81; replace r_L82 := g11.rdD r_L82; replace F_L83 := F_L83.mv g11.mv; replace F_L84 := F_L84.mv g11.mv
            clear h11 hb11
            refine sat_true (by kernel_rfl) ?_
            obtain ⟨C_D9, c_D9, e_D9, F_D9⟩ := cut0 (n := K) F_l hK
            refine sat_prim (v := .slice C_D9 (l.take K).length c_D9) (Eq.trans (by kernel_rfl) e_D9) ?_
            refine sat_call #[.slice C_D9 (l.take K).length c_D9, .slice A_l l.length c_l] (by kernel_rfl) fun w12 h12 => ?_
            refine (front_any _ _ _ _ (l.take K) l _ ((F_D9.mv h12.mv).any) ((F_l.mv h12.mv).any)).mono ?_
            rw [front_tl hK]
            rintro e v12 ⟨rfl, hb12⟩
            refine ⟨hb12, [.bool true], _, rfl, by kernel_rfl, by kernel_rfl, fun g12 => ?_⟩
            replace F_l := F_l.mv g12.mv; replace r_r1 := g12.rdD r_r1; replace r_r2 := g12.rdD r_r2; replace F_r3 := F_r3.mv g12.mv; replace F_r4 := F_r4.mv g12.mv; replace F_D2 := F_D2.mv g12.mv; replace F_R3 := F_R3.mv g12.mv; replace G6 := G6.le g12; replace r_L81 := g12.rdD r_L81; replace r_L82 := g12.rdD r_L82; replace F_L83 := F_L83.mv g12.mv; replace F_L84 := F_L84.mv g12.mv; replace F_D9 := F_D9.mv g12.mv
            clear h12 hb12
            refine sat_true (by kernel_rfl) ?_
            obtain ⟨C_D10, c_D10, e_D10, F_D10⟩ := cut0 (n := K) F_l hK
            refine sat_prim (v := .slice C_D10 (l.take K).length c_D10) (Eq.trans (by kernel_rfl) e_D10) ?_
            refine sat_call #[.slice A_l l.length c_l, .slice C_D10 (l.take K).length c_D10] (by kernel_rfl) fun w13 h13 => ?_
            refine (front_any _ _ _ _ l (l.take K) _ ((F_l.mv h13.mv).any) ((F_D10.mv h13.mv).any)).mono ?_
            rw [front_lt hK]
            rintro e v13 ⟨rfl, hb13⟩
            refine ⟨hb13, [.bool (((K : Nat) : Int) == ((l.length : Nat) : Int))], _, rfl, by kernel_rfl, by kernel_rfl, fun g13 => ?_⟩
            replace F_l := F_l.mv g13.mv; replace r_r1 := g13.rdD r_r1; replace r_r2 := g13.rdD r_r2; replace F_r3 := F_r3.mv g13.mv; replace F_r4 := F_r4.mv g13.mv; replace F_D2 := F_D2.mv g13.mv; replace F_R3 := F_R3.mv g13.mv; replace G6 := G6.le g13; replace r_L81 := g13.rdD r_L81; replace r_L82 := g13.rdD r_L82; replace F_L83 := F_L83.mv g13.mv; replace F_L84 := F_L84.mv g13.mv; replace F_D9 := F_D9.mv g13.mv; replace F_D10 := F_D10.mv g13.mv
            clear h13 hb13
            refine sat_prim (v := .int .i64 ((l.length : Nat) : Int)) (by kernel_rfl) ?_
            refine sat_prim (v := .bool ((((K : Nat) : Int) : Int) == ((l.length : Nat) : Int))) (by kernel_rfl) ?_
            refine sat_prim (v := .bool ((((K : Nat) : Int) == ((l.length : Nat) : Int)) == ((((K : Nat) : Int) : Int) == ((l.length : Nat) : Int)))) (by kernel_rfl) ?_
            refine sat_trueP (b := (((K : Nat) : Int) == ((l.length : Nat) : Int)) == ((((K : Nat) : Int) : Int) == ((l.length : Nat) : Int))) (by kernel_rfl) (beq_self_eq_true _) ?_
            refine sat_call #[.slice A_G6 ((l.take K) ++ [r]).length c_G6, .slice A_l l.length c_l] (by kernel_rfl) fun w14 h14 => ?_
            refine (front_any _ _ _ _ (l.take K ++ [r]) l _ ((G6.le h14).reads) ((F_l.mv h14.mv).any)).mono ?_
            rw [front_ml hK h_x7]
            rintro e v14 ⟨rfl, hb14⟩
            refine ⟨hb14, [.bool (sameRc x7 r)], _, rfl, by kernel_rfl, by kernel_rfl, fun g14 => ?_⟩
            replace F_l := F_l.mv g14.mv; replace r_r1 := g14.rdD r_r1; replace r_r2 := g14.rdD r_r2; replace F_r3 := F_r3.mv g14.mv; replace F_r4 := F_r4.mv g14.mv; replace F_D2 := F_D2.mv g14.mv; replace F_R3 := F_R3.mv g14.mv; replace G6 := G6.le g14; replace r_L81 := g14.rdD r_L81; replace r_L82 := g14.rdD r_L82; replace F_L83 := F_L83.mv g14.mv; replace F_L84 := F_L84.mv g14.mv; replace F_D9 := F_D9.mv g14.mv; replace F_D10 := F_D10.mv g14.mv
            clear h14 hb14
            refine sat_prim (v := .bool ((sameRc x7 r) == (sameRc x7 r))) (by kernel_rfl) ?_
            refine sat_trueP (b := ((sameRc x7 r) == (sameRc x7 r))) (by kernel_rfl) (by simp) ?_
            obtain ⟨C_D11, c_D11, e_D11, F_D11⟩ := cut0 (n := K) F_l hK
            refine sat_prim (v := .slice C_D11 (l.take K).length c_D11) (Eq.trans (by kernel_rfl) e_D11) ?_
            refine sat_call #[.slice C_D11 (l.take K).length c_D11, .slice A_G6 ((l.take K) ++ [r]).length c_G6] (by kernel_rfl) fun w15 h15 => ?_
            refine (front_any _ _ _ _ (l.take K) (l.take K ++ [r]) _ ((F_D11.mv h15.mv).any) ((G6.le h15).reads)).mono ?_
            rw [front_tm]
            rintro e v15 ⟨rfl, hb15⟩
            refine ⟨hb15, [.bool true], _, rfl, by kernel_rfl, by kernel_rfl, fun g15 => ?_⟩
            replace F_l := F_l.mv g15.mv; replace r_r1 := g15.rdD r_r1; replace r_r2 := g15.rdD r_r2; replace F_r3 := F_r3.mv g15.mv; replace F_r4 := F_r4.mv g15.mv; replace F_D2 := F_D2.mv g15.mv; replace F_R3 := F_R3.mv g15.mv; replace G6 := G6.le g15; replace r_L81 := g15.rdD r_L81; replace r_L82 := g15.rdD r_L82; replace F_L83 := F_L83.mv g15.mv; replace F_L84 := F_L84.mv g15.mv; replace F_D9 := F_D9.mv g15.mv; replace F_D10 := F_D10.mv g15.mv; replace F_D11 := F_D11.mv g15.mv
            clear h15 hb15
            exact sat_ret (.bool true) (by kernel_rfl) fun w9 h9 => rfl
          · refine sat_falseP (b := decide ((((K : Nat) : Int) : Int) < ((l.length : Nat) : Int))) (by kernel_rfl) (decide_eq_false (by omega)) ?_
            refine sat_call #[] (by kernel_rfl) fun w8 h8 => ?_
            refine (told21_any _).mono ?_
            rintro e v8 ⟨rfl, hb8⟩
            refine ⟨hb8, [.bool true], _, rfl, by kernel_rfl, by kernel_rfl, fun g8 => ?_⟩
            replace F_l := F_l.mv g8.mv; replace r_r1 := g8.rdD r_r1; replace r_r2 := g8.rdD r_r2; replace F_r3 := F_r3.mv g8.mv; replace F_r4 := F_r4.mv g8.mv; replace F_D2 := F_D2.mv g8.mv; replace F_R3 := F_R3.mv g8.mv; replace G6 := G6.le g8
            clear h8 hb8
            refine sat_true (by kernel_rfl) ?_
            refine sat_call #[.slice A_l l.length c_l, .slice A_l l.length c_l] (by kernel_rfl) fun w9 h9 => ?_
            refine (front_any _ _ _ _ l l _ ((F_l.mv h9.mv).any) ((F_l.mv h9.mv).any)).mono ?_
            rw [front_ll]
            rintro e v9 ⟨rfl, hb9⟩
            refine ⟨hb9, [.bool true], _, rfl, by kernel_rfl, by kernel_rfl, fun g9 => ?_⟩
            replace F_l := F_l.mv g9.mv; replace r_r1 := g9.rdD r_r1; replace r_r2 := g9.rdD r_r2; replace F_r3 := F_r3.mv g9.mv; replace F_r4 := F_r4.mv g9.mv; replace F_D2 := F_D2.mv g9.mv; replace F_R3 := F_R3.mv g9.mv; replace G6 := G6.le g9
            clear h9 hb9
            refine sat_true (by kernel_rfl) ?_
            obtain ⟨C_D7, c_D7, e_D7, F_D7⟩ := cut0 (n := K) F_l hK
            refine sat_prim (v := .slice C_D7 (l.take K).length c_D7) (Eq.trans (by kernel_rfl) e_D7) ?_
            refine sat_call #[.slice C_D7 (l.take K).length c_D7, .slice A_l l.length c_l] (by kernel_rfl) fun w10 h10 => ?_
            refine (front_any _ _ _ _ (l.take K) l _ ((F_D7.mv h10.mv).any) ((F_l.mv h10.mv).any)).mono ?_
            rw [front_tl hK]
            rintro e v10 ⟨rfl, hb10⟩
            refine ⟨hb10, [.bool true], _, rfl, by kernel_rfl, by kernel_rfl, fun g10 => ?_⟩
            replace F_l := F_l.mv g10.mv; replace r_r1 := g10.rdD r_r1; replace r_r2 := g10.rdD r_r2; replace F_r3 := F_r3.mv g10.mv; replace F_r4 := F_r4.mv g10.mv; replace F_D2 := F_D2.mv g10.mv; replace F_R3 := F_R3.mv g10.mv; replace G6 := G6.le g10; replace F_D7 := F_D7.mv g10.mv
            clear h10 hb10
            refine sat_true (by kernel_rfl) ?_
            obtain ⟨C_D8, c_D8, e_D8, F_D8⟩ := cut0 (n := K) F_l hK
            refine sat_prim (v := .slice C_D8 (l.take K).length c_D8) (Eq.trans (by kernel_rfl) e_D8) ?_
            refine sat_call #[.slice A_l l.length c_l, .slice C_D8 (l.take K).length c_D8] (by kernel_rfl) fun w11 h11 => ?_
            refine (front_any _ _ _ _ l (l.take K) _ ((F_l.mv h11.mv).any) ((F_D8.mv h11.mv).any)).mono ?_
            rw [front_lt hK]
            rintro e v11 ⟨rfl, hb11⟩
            refine ⟨hb11, [.bool (((K : Nat) : Int) == ((l.length : Nat) : Int))], _, rfl, by kernel_rfl, by kernel_rfl, fun g11 => ?_⟩
            replace F_l := F_l.mv g11.mv; replace r_r1 := g11.rdD r_r1; replace r_r2 := g11.rdD r_r2; replace F_r3 := F_r3.mv g11.mv; replace F_r4 := F_r4.mv g11.mv; replace F_D2 := F_D2.mv g11.mv; replace F_R3 := F_R3.mv g11.mv; replace G6 := G6.le g11; replace F_D7 := F_D7.mv g11.mv; replace F_D8 := F_D8.mv g11.mv
            clear h11 hb11
            refine sat_prim (v := .int .i64 ((l.length : Nat) : Int)) (by kernel_rfl) ?_
            refine sat_prim (v := .bool ((((K : Nat) : Int) : Int) == ((l.length : Nat) : Int))) (by kernel_rfl) ?_
            refine sat_prim (v := .bool ((((K : Nat) : Int) == ((l.length : Nat) : Int)) == ((((K : Nat) : Int) : Int) == ((l.length : Nat) : Int)))) (by kernel_rfl) ?_
            refine sat_trueP (b := (((K : Nat) : Int) == ((l.length : Nat) : Int)) == ((((K : Nat) : Int) : Int) == ((l.length : Nat) : Int))) (by kernel_rfl) (beq_self_eq_true _) ?_
            refine sat_call #[.slice A_G6 ((l.take K) ++ [r]).length c_G6, .slice A_l l.length c_l] (by kernel_rfl) fun w12 h12 => ?_
            refine (front_any _ _ _ _ (l.take K ++ [r]) l _ ((G6.le h12).reads) ((F_l.mv h12.mv).any)).mono ?_
            rw [front_mn hK hKn]
            rintro e v12 ⟨rfl, hb12⟩
            refine ⟨hb12, [.bool false], _, rfl, by kernel_rfl, by kernel_rfl, fun g12 => ?_⟩
            replace F_l := F_l.mv g12.mv; replace r_r1 := g12.rdD r_r1; replace r_r2 := g12.rdD r_r2; replace F_r3 := F_r3.mv g12.mv; replace F_r4 := F_r4.mv g12.mv; replace F_D2 := F_D2.mv g12.mv; replace F_R3 := F_R3.mv g12.mv; replace G6 := G6.le g12; replace F_D7 := F_D7.mv g12.mv; replace F_D8 := F_D8.mv g12.mv
            clear h12 hb12
            refine sat_prim (v := .bool (false == false)) (by kernel_rfl) ?_
            refine sat_trueP (b := (false == false)) (by kernel_rfl) (by simp) ?_
            obtain ⟨C_D9, c_D9, e_D9, F_D9⟩ := cut0 (n := K) F_l hK
            refine sat_prim (v := .slice C_D9 (l.take K).length c_D9) (Eq.trans (by kernel_rfl) e_D9) ?_
            refine sat_call #[.slice C_D9 (l.take K).length c_D9, .slice A_G6 ((l.take K) ++ [r]).length c_G6] (by kernel_rfl) fun w13 h13 => ?_
            refine (front_any _ _ _ _ (l.take K) (l.take K ++ [r]) _ ((F_D9.mv h13.mv).any) ((G6.le h13).reads)).mono ?_
            rw [front_tm]
            rintro e v13 ⟨rfl, hb13⟩
            refine ⟨hb13, [.bool true], _, rfl, by kernel_rfl, by kernel_rfl, fun g13 => ?_⟩
            replace F_l := F_l.mv g13.mv; replace r_r1 := g13.rdD r_r1; replace r_r2 := g13.rdD r_r2; replace F_r3 := F_r3.mv g13.mv; replace F_r4 := F_r4.mv g13.mv; replace F_D2 := F_D2.mv g13.mv; replace F_R3 := F_R3.mv g13.mv; replace G6 := G6.le g13; replace F_D7 := F_D7.mv g13.mv; replace F_D8 := F_D8.mv g13.mv; replace F_D9 := F_D9.mv g13.mv
            clear h13 hb13
            exact sat_ret (.bool true) (by kernel_rfl) fun w9 h9 => rfl
      · refine sat_true (by kernel_rfl) ?_
        refine sat_idx (A := A_l) (c := c_l) (kk := .i64) (i) (by kernel_rfl) (by kernel_rfl) (lt_of hi) F_l.addr fun g5 o5 e5 => ?_
        obtain ⟨x2, h_x2⟩ : ∃ x_, l[(i)]? = some x_ := ⟨_, List.getElem?_eq_getElem (lt_of hi)⟩
        refine sat_el F_l e5 h_x2 rfl (by kernel_rfl) (by kernel_rfl) (by kernel_rfl) ?_
        rintro _ ⟨A_L31, n_L31, c_L31, A_L32, n_L32, c_L32, X_L3, x_L3, Y_L3, y_L3, rfl, r_L31, r_L32, F_L33, F_L34⟩
        refine sat_call #[.agg #[.int .i64 x2.kind, .int .i64 x2.epoch, .int .i64 x2.code, .bool x2.t.neg, .slice A_L31 n_L31 c_L31, .int .i64 x2.t.e, .bool x2.h.neg, .slice A_L32 n_L32 c_L32, .int .i64 x2.h.e, .slice X_L3 x2.boxes.length x_L3, .slice Y_L3 x2.sigs.length y_L3]] (by kernel_rfl) fun w6 h6 => ?_
        refine (fewR_any _ x2 _ (mkRc (h6.rdD r_L31) (h6.rdD r_L32) ((F_L33.mv h6.mv).any) ((F_L34.mv h6.mv).any))).mono ?_
        rintro e v6 ⟨⟨q4, rfl⟩, hb6⟩
        refine ⟨hb6, [.bool q4], _, rfl, by kernel_rfl, by kernel_rfl, fun g6 => ?_⟩
        replace F_l := F_l.mv g6.mv; replace r_r1 := g6.rdD r_r1; replace r_r2 := g6.rdD r_r2; replace F_r3 := F_r3.mv g6.mv; replace F_r4 := F_r4.mv g6.mv; replace r_L31 := g6.rdD r_L31; replace r_L32 := g6.rdD r_L32; replace F_L33 := F_L33.mv g6.mv; replace F_L34 := F_L34.mv g6.mv
        clear h6 hb6
        refine sat_prim (v := .bool (!q4)) (by kernel_rfl) ?_
        cases hE7 : (q4)
        · refine sat_true (by kernel_rfl) ?_
          refine sat_call #[] (by kernel_rfl) fun w8 h8 => ?_
          refine (told21_any _).mono ?_
          rintro e v8 ⟨rfl, hb8⟩
          refine ⟨hb8, [.bool true], _, rfl, by kernel_rfl, by kernel_rfl, fun g8 => ?_⟩
          replace F_l := F_l.mv g8.mv; replace r_r1 := g8.rdD r_r1; replace r_r2 := g8.rdD r_r2; replace F_r3 := F_r3.mv g8.mv; replace F_r4 := F_r4.mv g8.mv; replace r_L31 := g8.rdD r_L31; replace r_L32 := g8.rdD r_L32; replace F_L33 := F_L33.mv g8.mv; replace F_L34 := F_L34.mv g8.mv
          clear h8 hb8
          exact sat_ret (.bool true) (by kernel_rfl) fun w9 h9 => rfl
        · refine sat_false (by kernel_rfl) ?_
          refine sat_prim (v := .int .i64 (((i + 1 : Nat)) : Int)) (Eq.trans (b := some (.int .i64 (IntKind.i64.wrap ((((i) : Nat) : Int) + 1)))) (by kernel_rfl) (by rw [Sx.wrap_succ (n := l.length) (lt_of hi) M_l])) ?_
          exact sat_back [.int .i64 (((i + 1 : Nat)) : Int), .bool false] (by kernel_rfl) fun w9 h9 => ⟨_, by have := lt_of hi; omega, i + 1, rfl, rfl, by have := lt_of hi; omega⟩
  · refine sat_true (by kernel_rfl) ?_
    refine sat_call #[] (by kernel_rfl) fun w1 h1 => ?_
    refine (told21_any _).mono ?_
    rintro e v1 ⟨rfl, hb1⟩
    refine ⟨hb1, [.bool true], _, rfl, by kernel_rfl, by kernel_rfl, fun g1 => ?_⟩
    replace F_l := F_l.mv g1.mv; replace r_r1 := g1.rdD r_r1; replace r_r2 := g1.rdD r_r2; replace F_r3 := F_r3.mv g1.mv; replace F_r4 := F_r4.mv g1.mv
    clear h1 hb1
    exact sat_ret (.bool true) (by kernel_rfl) fun w9 h9 => rfl

end Go.Proofs.Ytbpfnooloemieaa
