/- sluicewaylaw21.Few, sluicewayref21.Same, by their trees. Printed by wip/mk_WrL.py. Sameness and beginnings of records, plainly. -/
import Derived.Test.YtpkfjfpknbhekaaWrMx
import Derived.Test.YtpkfjfpknbhekaaTbRx
namespace Go.Proofs.Ytpkfjfpknbhekaa
open Go.RowKit Pl
open Sx (sat_call sat_chk sat_prim sat_ite sat_true sat_false sat_trueP sat_falseP sat_ret sat_row sat_callP sat_loop sat_back sat_idx sat_el sat_elf sat_elc sat_load sat_rowN sat_app sat_callB sat_alt rows_one rows_two all_nil all_cons okB okS okI)

section
variable {a b : Rec}
theorem sr_k (h : (a.kind != b.kind) = true) : false = sameRc a b := by unfold sameRc; rw [show (a.kind == b.kind) = false by simpa using h]; simp
theorem sr_e (h : (a.epoch != b.epoch) = true) : false = sameRc a b := by unfold sameRc; rw [show (a.epoch == b.epoch) = false by simpa using h]; simp
theorem sr_c (h : (a.code != b.code) = true) : false = sameRc a b := by unfold sameRc; rw [show (a.code == b.code) = false by simpa using h]; simp
theorem sr_t (h : sameD a.t b.t = false) : false = sameRc a b := by unfold sameRc; rw [h]; simp
theorem sr_h (h : sameD a.h b.h = false) : false = sameRc a b := by unfold sameRc; rw [h]; simp
theorem sr_b (h : sameL (sameL sameI) a.boxes b.boxes = false) : false = sameRc a b := by unfold sameRc; rw [h]; simp
theorem sr_s (h : sameL (sameL sameT) a.sigs b.sigs = false) : false = sameRc a b := by unfold sameRc; rw [h]; simp
theorem sr_yes (h1 : (a.kind != b.kind) = false) (h2 : (a.epoch != b.epoch) = false) (h3 : (a.code != b.code) = false) (h4 : sameD a.t b.t = true) (h5 : sameD a.h b.h = true) (h6 : sameL (sameL sameI) a.boxes b.boxes = true) (h7 : sameL (sameL sameT) a.sigs b.sigs = true) : true = sameRc a b := by
  unfold sameRc
  rw [show (a.kind == b.kind) = true by simpa using h1, show (a.epoch == b.epoch) = true by simpa using h2, show (a.code == b.code) = true by simpa using h3, h4, h5, h6, h7]
  rfl
end
theorem sameL_len {α : Type} {f : α → α → Bool} {x y : List α} (h : (((x.length : Nat) : Int) != ((y.length : Nat) : Int)) = true) : sameL f x y = false := by unfold sameL; exact (eqf_len h).symm
theorem sameL_no {α : Type} {f : α → α → Bool} {x y : List α} {i : Nat} {u v : α} (hm : all2 f x y = all2 f (x.drop i) (y.drop i)) (hx : x[i]? = some u) (hy : y[i]? = some v) (h : f u v = false) : sameL f x y = false := by unfold sameL; exact (eqf_no hm hx hy h).symm
theorem sameL_yes {α : Type} {f : α → α → Bool} {x y : List α} {i : Nat} (hm : all2 f x y = all2 f (x.drop i) (y.drop i)) (hlt : decide ((i : Int) < (x.length : Int)) = false) (hl : x.length = y.length) : sameL f x y = true := by unfold sameL; exact (eqf_yes hm hlt hl).symm

def tr_few21 : Sx.Tree := .chk [.lf 0, .lf 1, .lf 2, .lf 3, .lf 4, .lf 5, .lf 6, .lf 7, .lf 8, .lf 9, .lf 10] (.prim .len [.lf 9] (.prim (.bin .gtr) [.lf 11, .num .i64 6] (.ite (.lf 12) (.ret (.one (.bit false))) (.prim .len [.lf 10] (.prim (.bin .gtr) [.lf 13, .num .i64 6] (.ite (.lf 14) (.ret (.one (.bit false))) (.prim .len [.lf 4] (.prim (.bin .gtr) [.lf 15, .num .i64 70] (.ite (.lf 16) (.ret (.one (.bit false))) (.prim .len [.lf 7] (.prim (.bin .gtr) [.lf 17, .num .i64 70] (.ite (.lf 18) (.ret (.one (.bit false))) (.loop 0 [.num .i64 0, .bit false] (.prim .len [.lf 9] (.prim (.bin .lss) [.lf 19, .lf 21] (.ite (.lf 22) (.prim (.idx 1) [.lf 9, .lf 19] (.load 45 (.lf 23) .one (.call 17 [.one (.lf 24)] .one (.prim .not [.lf 25] (.ite (.lf 26) (.ret (.one (.bit false))) (.prim (.bin .add) [.lf 19, .num .i64 1] (.back 0 [.lf 27, .lf 20]))))))) (.loop 0 [.num .i64 0, .lf 20] (.prim .len [.lf 10] (.prim (.bin .lss) [.lf 23, .lf 25] (.ite (.lf 26) (.prim (.idx 1) [.lf 10, .lf 23] (.load 46 (.lf 27) .one (.prim .len [.lf 28] (.prim (.bin .gtr) [.lf 29, .num .i64 5] (.ite (.lf 30) (.ret (.one (.bit false))) (.loop 1 [.num .i64 0, .lf 24] (.prim (.idx 1) [.lf 10, .lf 23] (.load 46 (.lf 33) .one (.prim .len [.lf 34] (.prim (.bin .lss) [.lf 31, .lf 35] (.ite (.lf 36) (.prim (.idx 1) [.lf 10, .lf 23] (.load 46 (.lf 37) .one (.prim (.idx 2) [.lf 38, .lf 31] (.load 50 (.lf 39) (.ag 2) (.call 18 [.ag [.lf 40, .lf 41]] .one (.prim .not [.lf 42] (.ite (.lf 43) (.ret (.one (.bit false))) (.prim (.bin .add) [.lf 31, .num .i64 1] (.back 1 [.lf 44, .lf 32]))))))))) (.prim (.bin .add) [.lf 23, .num .i64 1] (.back 0 [.lf 37, .lf 32]))))))))))))) (.ret (.one (.bit true)))))))))))))))))))))))
theorem tr_few21_eq : Sx.treeAt Try.prog 6 [] [] [(true, 11)] = some tr_few21 := by kernel_rfl

theorem fewR_any (v_r : Value) (r : Rec) (w : World) (h_r : RcAt (fun _ => True) w v_r r) :
    Calls Try.prog 6 #[v_r] w fun e w' => (∃ q : Bool, e = .returned (.bool q)) ∧ Below w.heap.size w w' := by
  obtain ⟨A_r1, n_r1, c_r1, A_r2, n_r2, c_r2, X_r, x_r, Y_r, y_r, rfl, r_r1, r_r2, F_r3, F_r4⟩ := h_r
  replace F_r3 := F_r3.start
  replace F_r4 := F_r4.start
  have M_r3 := F_r3.le
  have M_r4 := F_r4.le
  refine (Sx.runA [] [] (ls := [.int .i64 r.kind, .int .i64 r.epoch, .int .i64 r.code, .bool r.t.neg, .slice A_r1 n_r1 c_r1, .int .i64 r.t.e, .bool r.h.neg, .slice A_r2 n_r2 c_r2, .int .i64 r.h.e, .slice X_r r.boxes.length x_r, .slice Y_r r.sigs.length y_r]) (shs := [(true, 11)]) (R := fun v _ => ∃ q : Bool, v = .bool q) tr_few21_eq rfl (by decide) (fun q h => by cases h) ?_).mono (fun e w' ⟨v, he, ⟨q, hv⟩, hb⟩ => ⟨⟨q, by rw [he, hv]⟩, hb⟩)
  unfold tr_few21
  refine sat_chkB (by kernel_rfl) ?_
  refine sat_prim (v := .int .i64 ((r.boxes.length : Nat) : Int)) (by kernel_rfl) ?_
  refine sat_prim (v := .bool (decide ((6 : Int) < ((r.boxes.length : Nat) : Int)))) (by kernel_rfl) ?_
  cases hE1 : (decide ((6 : Int) < ((r.boxes.length : Nat) : Int)))
  · refine sat_false (by kernel_rfl) ?_
    refine sat_prim (v := .int .i64 ((r.sigs.length : Nat) : Int)) (by kernel_rfl) ?_
    refine sat_prim (v := .bool (decide ((6 : Int) < ((r.sigs.length : Nat) : Int)))) (by kernel_rfl) ?_
    cases hE2 : (decide ((6 : Int) < ((r.sigs.length : Nat) : Int)))
    · refine sat_false (by kernel_rfl) ?_
      refine sat_prim (v := .int .i64 ((n_r1 : Nat) : Int)) (by kernel_rfl) ?_
      refine sat_prim (v := .bool (decide ((70 : Int) < ((n_r1 : Nat) : Int)))) (by kernel_rfl) ?_
      cases hE3 : (decide ((70 : Int) < ((n_r1 : Nat) : Int)))
      · refine sat_false (by kernel_rfl) ?_
        refine sat_prim (v := .int .i64 ((n_r2 : Nat) : Int)) (by kernel_rfl) ?_
        refine sat_prim (v := .bool (decide ((70 : Int) < ((n_r2 : Nat) : Int)))) (by kernel_rfl) ?_
        cases hE4 : (decide ((70 : Int) < ((n_r2 : Nat) : Int)))
        · refine sat_false (by kernel_rfl) ?_
          refine sat_loop (fun Kn vs W => ∃ (i : Nat), vs = [.int .i64 ((i : Nat) : Int), .bool false] ∧ Kn = r.boxes.length - i ∧ i ≤ r.boxes.length) [.int .i64 0, .bool false] (by kernel_rfl) (fun w1 h1 => ⟨_, 0, rfl, rfl, Nat.zero_le _⟩) ?_
          rintro Kn vs w5 h5 ⟨i, rfl, rfl, h_i⟩
          replace r_r1 := h5.rdD r_r1; replace r_r2 := h5.rdD r_r2; replace F_r3 := F_r3.mv h5.mv; replace F_r4 := F_r4.mv h5.mv
          clear h5
          refine sat_prim (v := .int .i64 ((r.boxes.length : Nat) : Int)) (by kernel_rfl) ?_
          refine sat_prim (v := .bool (decide ((((i : Nat) : Int) : Int) < ((r.boxes.length : Nat) : Int)))) (by kernel_rfl) ?_
          cases hi : (decide ((((i : Nat) : Int) : Int) < ((r.boxes.length : Nat) : Int)))
          · refine sat_false (by kernel_rfl) ?_
            refine sat_loop (fun Kn vs W => ∃ (j : Nat), vs = [.int .i64 ((j : Nat) : Int), .bool false] ∧ Kn = r.sigs.length - j ∧ j ≤ r.sigs.length) [.int .i64 0, .bool false] (by kernel_rfl) (fun w1 h1 => ⟨_, 0, rfl, rfl, Nat.zero_le _⟩) ?_
            rintro Kn vs w7 h7 ⟨j, rfl, rfl, h_j⟩
            replace r_r1 := h7.rdD r_r1; replace r_r2 := h7.rdD r_r2; replace F_r3 := F_r3.mv h7.mv; replace F_r4 := F_r4.mv h7.mv
            clear h7
            refine sat_prim (v := .int .i64 ((r.sigs.length : Nat) : Int)) (by kernel_rfl) ?_
            refine sat_prim (v := .bool (decide ((((j : Nat) : Int) : Int) < ((r.sigs.length : Nat) : Int)))) (by kernel_rfl) ?_
            cases hj : (decide ((((j : Nat) : Int) : Int) < ((r.sigs.length : Nat) : Int)))
            · refine sat_false (by kernel_rfl) ?_
              exact sat_ret (.bool true) (by kernel_rfl) fun w9 h9 => ⟨_, rfl⟩
            · refine sat_true (by kernel_rfl) ?_
              refine sat_idx (A := Y_r) (c := y_r) (kk := .i64) (j) (by kernel_rfl) (by kernel_rfl) (lt_of hj) F_r4.addr fun g9 o9 e9 => ?_
              obtain ⟨x1, h_x1⟩ : ∃ x_, r.sigs[(j)]? = some x_ := ⟨_, List.getElem?_eq_getElem (lt_of hj)⟩
              refine sat_elc (d := 0) F_r4 e9 h_x1 rfl (by kernel_rfl) (by kernel_rfl) ?_
              rintro _ ⟨A_L2, c_L2, rfl, F_L2⟩
              refine ⟨_, rfl, ?_⟩
              refine sat_prim (v := .int .i64 ((x1.length : Nat) : Int)) (by kernel_rfl) ?_
              refine sat_prim (v := .bool (decide ((5 : Int) < ((x1.length : Nat) : Int)))) (by kernel_rfl) ?_
              cases hE10 : (decide ((5 : Int) < ((x1.length : Nat) : Int)))
              · refine sat_false (by kernel_rfl) ?_
                have M_x := F_L2.le
                refine sat_loop (fun Kn vs W => ∃ (k : Nat), vs = [.int .i64 ((k : Nat) : Int), .bool false] ∧ Kn = x1.length - k ∧ k ≤ x1.length) [.int .i64 0, .bool false] (by kernel_rfl) (fun w1 h1 => ⟨_, 0, rfl, rfl, Nat.zero_le _⟩) ?_
                rintro Kn vs w11 h11 ⟨k, rfl, rfl, h_k⟩
                replace r_r1 := h11.rdD r_r1; replace r_r2 := h11.rdD r_r2; replace F_r3 := F_r3.mv h11.mv; replace F_r4 := F_r4.mv h11.mv; replace F_L2 := F_L2.mv h11.mv
                clear h11
                refine sat_idx (A := Y_r) (c := y_r) (kk := .i64) (j) (by kernel_rfl) (by kernel_rfl) (lt_of hj) F_r4.addr fun g12 o12 e12 => ?_
                refine sat_elc (d := 0) F_r4 e12 h_x1 rfl (by kernel_rfl) (by kernel_rfl) ?_
                rintro _ ⟨A_L3, c_L3, rfl, F_L3⟩
                refine ⟨_, rfl, ?_⟩
                refine sat_prim (v := .int .i64 ((x1.length : Nat) : Int)) (by kernel_rfl) ?_
                refine sat_prim (v := .bool (decide ((((k : Nat) : Int) : Int) < ((x1.length : Nat) : Int)))) (by kernel_rfl) ?_
                cases hk : (decide ((((k : Nat) : Int) : Int) < ((x1.length : Nat) : Int)))
                · refine sat_false (by kernel_rfl) ?_
                  refine sat_prim (v := .int .i64 (((j + 1 : Nat)) : Int)) (Eq.trans (b := some (.int .i64 (IntKind.i64.wrap (((j : Nat) : Int) + 1)))) (by kernel_rfl) (by rw [Sx.wrap_succ (n := r.sigs.length) (lt_of hj) M_r4])) ?_
                  exact Sx.sat_backO (d := 0) (d' := 1) rfl [.int .i64 (((j + 1 : Nat)) : Int), .bool false] (by kernel_rfl) fun w9 h9 => ⟨_, by have := lt_of hj; omega, j + 1, rfl, rfl, by have := lt_of hj; omega⟩
                · refine sat_true (by kernel_rfl) ?_
                  refine sat_idx (A := Y_r) (c := y_r) (kk := .i64) (j) (by kernel_rfl) (by kernel_rfl) (lt_of hj) F_r4.addr fun g14 o14 e14 => ?_
                  refine sat_elc (d := 0) F_r4 e14 h_x1 rfl (by kernel_rfl) (by kernel_rfl) ?_
                  rintro _ ⟨A_L4, c_L4, rfl, F_L4⟩
                  refine ⟨_, rfl, ?_⟩
                  refine sat_idx (A := A_L4) (c := c_L4) (kk := .i64) (k) (by kernel_rfl) (by kernel_rfl) (lt_of hk) F_L4.addr fun g15 o15 e15 => ?_
                  obtain ⟨x5, h_x5⟩ : ∃ x_, x1[(k)]? = some x_ := ⟨_, List.getElem?_eq_getElem (lt_of hk)⟩
                  refine sat_el F_L4 e15 h_x5 rfl (by kernel_rfl) (by kernel_rfl) (by kernel_rfl) ?_
                  rintro _ ⟨A_L6, _, c_L6, B_L6, _, d_L6, rfl, F_L61, F_L62⟩
                  obtain rfl := F_L61.len
                  obtain rfl := F_L62.len
                  refine sat_call #[.agg #[.slice A_L6 x5.at_.length c_L6, .slice B_L6 x5.v.length d_L6]] (by kernel_rfl) fun w16 h16 => ?_
                  refine (fewT_any _ _ _ _ x5 _ ((F_L61.mv h16.mv).any) ((F_L62.mv h16.mv).any)).mono ?_
                  rintro e v16 ⟨rfl, hb16⟩
                  refine ⟨hb16, [.bool (fewT x5)], _, rfl, by kernel_rfl, by kernel_rfl, fun g16 => ?_⟩
                  replace r_r1 := g16.rdD r_r1; replace r_r2 := g16.rdD r_r2; replace F_r3 := F_r3.mv g16.mv; replace F_r4 := F_r4.mv g16.mv; replace F_L2 := F_L2.mv g16.mv; replace F_L3 := F_L3.mv g16.mv; replace F_L4 := F_L4.mv g16.mv; replace F_L61 := F_L61.mv g16.mv; replace F_L62 := F_L62.mv g16.mv
                  clear h16 hb16
                  refine sat_prim (v := .bool (!(fewT x5))) (by kernel_rfl) ?_
                  cases hE17 : (fewT x5)
                  · refine sat_true (by kernel_rfl) ?_
                    exact sat_ret (.bool false) (by kernel_rfl) fun w9 h9 => ⟨_, rfl⟩
                  · refine sat_false (by kernel_rfl) ?_
                    refine sat_prim (v := .int .i64 (((k + 1 : Nat)) : Int)) (Eq.trans (b := some (.int .i64 (IntKind.i64.wrap (((k : Nat) : Int) + 1)))) (by kernel_rfl) (by rw [Sx.wrap_succ (n := x1.length) (lt_of hk) M_x])) ?_
                    exact sat_back [.int .i64 (((k + 1 : Nat)) : Int), .bool false] (by kernel_rfl) fun w9 h9 => ⟨_, by have := lt_of hk; omega, k + 1, rfl, rfl, by have := lt_of hk; omega⟩
              · refine sat_true (by kernel_rfl) ?_
                exact sat_ret (.bool false) (by kernel_rfl) fun w9 h9 => ⟨_, rfl⟩
          · refine sat_true (by kernel_rfl) ?_
            refine sat_idx (A := X_r) (c := x_r) (kk := .i64) (i) (by kernel_rfl) (by kernel_rfl) (lt_of hi) F_r3.addr fun g7 o7 e7 => ?_
            obtain ⟨x1, h_x1⟩ : ∃ x_, r.boxes[(i)]? = some x_ := ⟨_, List.getElem?_eq_getElem (lt_of hi)⟩
            refine sat_elc (d := 0) F_r3 e7 h_x1 rfl (by kernel_rfl) (by kernel_rfl) ?_
            rintro _ ⟨A_L2, c_L2, rfl, F_L2⟩
            refine ⟨_, rfl, ?_⟩
            refine sat_call #[.slice A_L2 x1.length c_L2] (by kernel_rfl) fun w8 h8 => ?_
            refine (row8_any _ _ x1 _ ((F_L2.mv h8.mv).any)).mono ?_
            rintro e v8 ⟨rfl, hb8⟩
            refine ⟨hb8, [.bool (fewB x1)], _, rfl, by kernel_rfl, by kernel_rfl, fun g8 => ?_⟩
            replace r_r1 := g8.rdD r_r1; replace r_r2 := g8.rdD r_r2; replace F_r3 := F_r3.mv g8.mv; replace F_r4 := F_r4.mv g8.mv; replace F_L2 := F_L2.mv g8.mv
            clear h8 hb8
            refine sat_prim (v := .bool (!(fewB x1))) (by kernel_rfl) ?_
            cases hE9 : (fewB x1)
            · refine sat_true (by kernel_rfl) ?_
              exact sat_ret (.bool false) (by kernel_rfl) fun w9 h9 => ⟨_, rfl⟩
            · refine sat_false (by kernel_rfl) ?_
              refine sat_prim (v := .int .i64 (((i + 1 : Nat)) : Int)) (Eq.trans (b := some (.int .i64 (IntKind.i64.wrap (((i : Nat) : Int) + 1)))) (by kernel_rfl) (by rw [Sx.wrap_succ (n := r.boxes.length) (lt_of hi) M_r3])) ?_
              exact sat_back [.int .i64 (((i + 1 : Nat)) : Int), .bool false] (by kernel_rfl) fun w9 h9 => ⟨_, by have := lt_of hi; omega, i + 1, rfl, rfl, by have := lt_of hi; omega⟩
        · refine sat_true (by kernel_rfl) ?_
          exact sat_ret (.bool false) (by kernel_rfl) fun w9 h9 => ⟨_, rfl⟩
      · refine sat_true (by kernel_rfl) ?_
        exact sat_ret (.bool false) (by kernel_rfl) fun w9 h9 => ⟨_, rfl⟩
    · refine sat_true (by kernel_rfl) ?_
      exact sat_ret (.bool false) (by kernel_rfl) fun w9 h9 => ⟨_, rfl⟩
  · refine sat_true (by kernel_rfl) ?_
    exact sat_ret (.bool false) (by kernel_rfl) fun w9 h9 => ⟨_, rfl⟩

def tr_rsame21 : Sx.Tree := .chk [.lf 0, .lf 1, .lf 2, .lf 3, .lf 4, .lf 5, .lf 6, .lf 7, .lf 8, .lf 9, .lf 10] (.chk [.lf 11, .lf 12, .lf 13, .lf 14, .lf 15, .lf 16, .lf 17, .lf 18, .lf 19, .lf 20, .lf 21] (.prim (.bin .neq) [.lf 0, .lf 11] (.ite (.lf 22) (.ret (.one (.bit false))) (.prim (.bin .neq) [.lf 1, .lf 12] (.ite (.lf 23) (.ret (.one (.bit false))) (.prim (.bin .neq) [.lf 2, .lf 13] (.ite (.lf 24) (.ret (.one (.bit false))) (.call 60 [.ag [.lf 3, .lf 4, .lf 5], .ag [.lf 14, .lf 15, .lf 16]] .one (.prim .not [.lf 25] (.ite (.lf 26) (.ret (.one (.bit false))) (.call 60 [.ag [.lf 6, .lf 7, .lf 8], .ag [.lf 17, .lf 18, .lf 19]] .one (.prim .not [.lf 27] (.ite (.lf 28) (.ret (.one (.bit false))) (.prim .len [.lf 9] (.prim .len [.lf 20] (.prim (.bin .neq) [.lf 29, .lf 30] (.ite (.lf 31) (.ret (.one (.bit false))) (.prim .len [.lf 10] (.prim .len [.lf 21] (.prim (.bin .neq) [.lf 32, .lf 33] (.ite (.lf 34) (.ret (.one (.bit false))) (.loop 0 [.num .i64 0, .bit false] (.prim .len [.lf 9] (.prim (.bin .lss) [.lf 35, .lf 37] (.ite (.lf 38) (.prim (.idx 1) [.lf 9, .lf 35] (.load 45 (.lf 39) .one (.prim (.idx 1) [.lf 20, .lf 35] (.load 45 (.lf 41) .one (.call 61 [.one (.lf 40), .one (.lf 42)] .one (.prim .not [.lf 43] (.ite (.lf 44) (.ret (.one (.bit false))) (.prim (.bin .add) [.lf 35, .num .i64 1] (.back 0 [.lf 45, .lf 36]))))))))) (.loop 0 [.num .i64 0, .lf 36] (.prim .len [.lf 10] (.prim (.bin .lss) [.lf 39, .lf 41] (.ite (.lf 42) (.prim (.idx 1) [.lf 10, .lf 39] (.load 46 (.lf 43) .one (.prim .len [.lf 44] (.prim (.idx 1) [.lf 21, .lf 39] (.load 46 (.lf 46) .one (.prim .len [.lf 47] (.prim (.bin .neq) [.lf 45, .lf 48] (.ite (.lf 49) (.ret (.one (.bit false))) (.loop 1 [.num .i64 0, .lf 40] (.prim (.idx 1) [.lf 10, .lf 39] (.load 46 (.lf 52) .one (.prim .len [.lf 53] (.prim (.bin .lss) [.lf 50, .lf 54] (.ite (.lf 55) (.prim (.idx 1) [.lf 10, .lf 39] (.load 46 (.lf 56) .one (.prim (.idx 2) [.lf 57, .lf 50] (.load 50 (.lf 58) (.ag 2) (.prim (.idx 1) [.lf 21, .lf 39] (.load 46 (.lf 61) .one (.prim (.idx 2) [.lf 62, .lf 50] (.load 50 (.lf 63) (.ag 2) (.call 62 [.ag [.lf 59, .lf 60], .ag [.lf 64, .lf 65]] .one (.prim .not [.lf 66] (.ite (.lf 67) (.ret (.one (.bit false))) (.prim (.bin .add) [.lf 50, .num .i64 1] (.back 1 [.lf 68, .lf 51]))))))))))))) (.prim (.bin .add) [.lf 39, .num .i64 1] (.back 0 [.lf 56, .lf 51])))))))))))))))) (.ret (.one (.bit true))))))))))))))))))))))))))))))))
theorem tr_rsame21_eq : Sx.treeAt Try.prog 14 [] [] [(true, 11), (true, 11)] = some tr_rsame21 := by kernel_rfl

theorem rsameR_any (v_a : Value) (v_b : Value) (a : Rec) (b : Rec) (w : World) (h_a : RcAt (fun _ => True) w v_a a) (h_b : RcAt (fun _ => True) w v_b b) :
    Calls Try.prog 14 #[v_a, v_b] w fun e w' => e = .returned (.bool (sameRc a b)) ∧ Below w.heap.size w w' := by
  obtain ⟨A_a1, n_a1, c_a1, A_a2, n_a2, c_a2, X_a, x_a, Y_a, y_a, rfl, r_a1, r_a2, F_a3, F_a4⟩ := h_a
  replace F_a3 := F_a3.start
  replace F_a4 := F_a4.start
  have M_a3 := F_a3.le
  have M_a4 := F_a4.le
  obtain ⟨A_b1, n_b1, c_b1, A_b2, n_b2, c_b2, X_b, x_b, Y_b, y_b, rfl, r_b1, r_b2, F_b3, F_b4⟩ := h_b
  replace F_b3 := F_b3.start
  replace F_b4 := F_b4.start
  have M_b3 := F_b3.le
  have M_b4 := F_b4.le
  refine (Sx.runA [] [] (ls := [.int .i64 a.kind, .int .i64 a.epoch, .int .i64 a.code, .bool a.t.neg, .slice A_a1 n_a1 c_a1, .int .i64 a.t.e, .bool a.h.neg, .slice A_a2 n_a2 c_a2, .int .i64 a.h.e, .slice X_a a.boxes.length x_a, .slice Y_a a.sigs.length y_a, .int .i64 b.kind, .int .i64 b.epoch, .int .i64 b.code, .bool b.t.neg, .slice A_b1 n_b1 c_b1, .int .i64 b.t.e, .bool b.h.neg, .slice A_b2 n_b2 c_b2, .int .i64 b.h.e, .slice X_b b.boxes.length x_b, .slice Y_b b.sigs.length y_b]) (shs := [(true, 11), (true, 11)]) (R := fun v _ => v = .bool (sameRc a b)) tr_rsame21_eq rfl (by decide) (fun q h => by cases h) ?_).mono (fun e w' ⟨v, he, hv, hb⟩ => ⟨by rw [he, hv], hb⟩)
  unfold tr_rsame21
  refine sat_chkB (by kernel_rfl) ?_
  refine sat_chkB (by kernel_rfl) ?_
  refine sat_prim (v := .bool ((a.kind : Int) != b.kind)) (by kernel_rfl) ?_
  cases hk1 : ((a.kind : Int) != b.kind)
  · refine sat_false (by kernel_rfl) ?_
    refine sat_prim (v := .bool ((a.epoch : Int) != b.epoch)) (by kernel_rfl) ?_
    cases he1 : ((a.epoch : Int) != b.epoch)
    · refine sat_false (by kernel_rfl) ?_
      refine sat_prim (v := .bool ((a.code : Int) != b.code)) (by kernel_rfl) ?_
      cases hc1 : ((a.code : Int) != b.code)
      · refine sat_false (by kernel_rfl) ?_
        refine sat_call #[.agg #[.bool a.t.neg, .slice A_a1 n_a1 c_a1, .int .i64 a.t.e], .agg #[.bool b.t.neg, .slice A_b1 n_b1 c_b1, .int .i64 b.t.e]] (by kernel_rfl) fun w4 h4 => ?_
        refine (rsame_any _ _ (a.t) (b.t) _ (h4.rdD r_a1) (h4.rdD r_b1)).mono ?_
        rintro e v4 ⟨rfl, hb4⟩
        refine ⟨hb4, [.bool (sameD a.t b.t)], _, rfl, by kernel_rfl, by kernel_rfl, fun g4 => ?_⟩
        replace r_a1 := g4.rdD r_a1; replace r_a2 := g4.rdD r_a2; replace F_a3 := F_a3.mv g4.mv; replace F_a4 := F_a4.mv g4.mv; replace r_b1 := g4.rdD r_b1; replace r_b2 := g4.rdD r_b2; replace F_b3 := F_b3.mv g4.mv; replace F_b4 := F_b4.mv g4.mv
        clear h4 hb4
        refine sat_prim (v := .bool (!(sameD a.t b.t))) (by kernel_rfl) ?_
        cases ht1 : (sameD a.t b.t)
        · refine sat_true (by kernel_rfl) ?_
          exact sat_ret (.bool false) (by kernel_rfl) fun w9 h9 => congrArg Value.bool (sr_t ht1)
        · refine sat_false (by kernel_rfl) ?_
          refine sat_call #[.agg #[.bool a.h.neg, .slice A_a2 n_a2 c_a2, .int .i64 a.h.e], .agg #[.bool b.h.neg, .slice A_b2 n_b2 c_b2, .int .i64 b.h.e]] (by kernel_rfl) fun w6 h6 => ?_
          refine (rsame_any _ _ (a.h) (b.h) _ (h6.rdD r_a2) (h6.rdD r_b2)).mono ?_
          rintro e v6 ⟨rfl, hb6⟩
          refine ⟨hb6, [.bool (sameD a.h b.h)], _, rfl, by kernel_rfl, by kernel_rfl, fun g6 => ?_⟩
          replace r_a1 := g6.rdD r_a1; replace r_a2 := g6.rdD r_a2; replace F_a3 := F_a3.mv g6.mv; replace F_a4 := F_a4.mv g6.mv; replace r_b1 := g6.rdD r_b1; replace r_b2 := g6.rdD r_b2; replace F_b3 := F_b3.mv g6.mv; replace F_b4 := F_b4.mv g6.mv
          clear h6 hb6
          refine sat_prim (v := .bool (!(sameD a.h b.h))) (by kernel_rfl) ?_
          cases hh1 : (sameD a.h b.h)
          · refine sat_true (by kernel_rfl) ?_
            exact sat_ret (.bool false) (by kernel_rfl) fun w9 h9 => congrArg Value.bool (sr_h hh1)
          · refine sat_false (by kernel_rfl) ?_
            refine sat_prim (v := .int .i64 ((a.boxes.length : Nat) : Int)) (by kernel_rfl) ?_
            refine sat_prim (v := .int .i64 ((b.boxes.length : Nat) : Int)) (by kernel_rfl) ?_
            refine sat_prim (v := .bool ((((a.boxes.length : Nat) : Int) : Int) != ((b.boxes.length : Nat) : Int))) (by kernel_rfl) ?_
            cases hb1 : ((((a.boxes.length : Nat) : Int) : Int) != ((b.boxes.length : Nat) : Int))
            · refine sat_false (by kernel_rfl) ?_
              refine sat_prim (v := .int .i64 ((a.sigs.length : Nat) : Int)) (by kernel_rfl) ?_
              refine sat_prim (v := .int .i64 ((b.sigs.length : Nat) : Int)) (by kernel_rfl) ?_
              refine sat_prim (v := .bool ((((a.sigs.length : Nat) : Int) : Int) != ((b.sigs.length : Nat) : Int))) (by kernel_rfl) ?_
              cases hs1 : ((((a.sigs.length : Nat) : Int) : Int) != ((b.sigs.length : Nat) : Int))
              · refine sat_false (by kernel_rfl) ?_
                have hl1 := eqf_len' hb1
                refine sat_loop (fun Kn vs W => ∃ (i : Nat), vs = [.int .i64 ((i : Nat) : Int), .bool false] ∧ Kn = a.boxes.length - i ∧ i ≤ a.boxes.length ∧ (all2 (sameL sameI) a.boxes b.boxes = all2 (sameL sameI) (a.boxes.drop i) (b.boxes.drop i))) [.int .i64 0, .bool false] (by kernel_rfl) (fun w1 h1 => ⟨_, 0, rfl, rfl, Nat.zero_le _, rfl⟩) ?_
                rintro Kn vs w10 h10 ⟨i, rfl, rfl, h_i, hm1⟩
                replace r_a1 := h10.rdD r_a1; replace r_a2 := h10.rdD r_a2; replace F_a3 := F_a3.mv h10.mv; replace F_a4 := F_a4.mv h10.mv; replace r_b1 := h10.rdD r_b1; replace r_b2 := h10.rdD r_b2; replace F_b3 := F_b3.mv h10.mv; replace F_b4 := F_b4.mv h10.mv
                clear h10
                refine sat_prim (v := .int .i64 ((a.boxes.length : Nat) : Int)) (by kernel_rfl) ?_
                refine sat_prim (v := .bool (decide ((((i : Nat) : Int) : Int) < ((a.boxes.length : Nat) : Int)))) (by kernel_rfl) ?_
                cases hi : (decide ((((i : Nat) : Int) : Int) < ((a.boxes.length : Nat) : Int)))
                · refine sat_false (by kernel_rfl) ?_
                  have hl2 := eqf_len' hs1
                  have hB := sameL_yes hm1 hi hl1
                  refine sat_loop (fun Kn vs W => ∃ (j : Nat), vs = [.int .i64 ((j : Nat) : Int), .bool false] ∧ Kn = a.sigs.length - j ∧ j ≤ a.sigs.length ∧ (all2 (sameL sameT) a.sigs b.sigs = all2 (sameL sameT) (a.sigs.drop j) (b.sigs.drop j))) [.int .i64 0, .bool false] (by kernel_rfl) (fun w1 h1 => ⟨_, 0, rfl, rfl, Nat.zero_le _, rfl⟩) ?_
                  rintro Kn vs w12 h12 ⟨j, rfl, rfl, h_j, hm2⟩
                  replace r_a1 := h12.rdD r_a1; replace r_a2 := h12.rdD r_a2; replace F_a3 := F_a3.mv h12.mv; replace F_a4 := F_a4.mv h12.mv; replace r_b1 := h12.rdD r_b1; replace r_b2 := h12.rdD r_b2; replace F_b3 := F_b3.mv h12.mv; replace F_b4 := F_b4.mv h12.mv
                  clear h12
                  refine sat_prim (v := .int .i64 ((a.sigs.length : Nat) : Int)) (by kernel_rfl) ?_
                  refine sat_prim (v := .bool (decide ((((j : Nat) : Int) : Int) < ((a.sigs.length : Nat) : Int)))) (by kernel_rfl) ?_
                  cases hj : (decide ((((j : Nat) : Int) : Int) < ((a.sigs.length : Nat) : Int)))
                  · refine sat_false (by kernel_rfl) ?_
                    exact sat_ret (.bool true) (by kernel_rfl) fun w9 h9 => congrArg Value.bool (sr_yes hk1 he1 hc1 ht1 hh1 hB (sameL_yes hm2 hj hl2))
                  · refine sat_true (by kernel_rfl) ?_
                    refine sat_idx (A := Y_a) (c := y_a) (kk := .i64) (j) (by kernel_rfl) (by kernel_rfl) (lt_of hj) F_a4.addr fun g14 o14 e14 => ?_
                    obtain ⟨x1, h_x1⟩ : ∃ x_, a.sigs[(j)]? = some x_ := ⟨_, List.getElem?_eq_getElem (lt_of hj)⟩
                    refine sat_elc (d := 0) F_a4 e14 h_x1 rfl (by kernel_rfl) (by kernel_rfl) ?_
                    rintro _ ⟨A_L2, c_L2, rfl, F_L2⟩
                    refine ⟨_, rfl, ?_⟩
                    refine sat_prim (v := .int .i64 ((x1.length : Nat) : Int)) (by kernel_rfl) ?_
                    refine sat_idx (A := Y_b) (c := y_b) (kk := .i64) (j) (by kernel_rfl) (by kernel_rfl) (by have := lt_of hj; omega) F_b4.addr fun g15 o15 e15 => ?_
                    obtain ⟨x3, h_x3⟩ : ∃ x_, b.sigs[(j)]? = some x_ := ⟨_, List.getElem?_eq_getElem (by have := lt_of hj; omega)⟩
                    refine sat_elc (d := 0) F_b4 e15 h_x3 rfl (by kernel_rfl) (by kernel_rfl) ?_
                    rintro _ ⟨A_L4, c_L4, rfl, F_L4⟩
                    refine ⟨_, rfl, ?_⟩
                    refine sat_prim (v := .int .i64 ((x3.length : Nat) : Int)) (by kernel_rfl) ?_
                    refine sat_prim (v := .bool ((((x1.length : Nat) : Int) : Int) != ((x3.length : Nat) : Int))) (by kernel_rfl) ?_
                    cases hn3 : ((((x1.length : Nat) : Int) : Int) != ((x3.length : Nat) : Int))
                    · refine sat_false (by kernel_rfl) ?_
                      have hl3 := eqf_len' hn3
                      have M_x := F_L2.le
                      refine sat_loop (fun Kn vs W => ∃ (k : Nat), vs = [.int .i64 ((k : Nat) : Int), .bool false] ∧ Kn = x1.length - k ∧ k ≤ x1.length ∧ (all2 sameT x1 x3 = all2 sameT (x1.drop k) (x3.drop k))) [.int .i64 0, .bool false] (by kernel_rfl) (fun w1 h1 => ⟨_, 0, rfl, rfl, Nat.zero_le _, rfl⟩) ?_
                      rintro Kn vs w17 h17 ⟨k, rfl, rfl, h_k, hm3⟩
                      replace r_a1 := h17.rdD r_a1; replace r_a2 := h17.rdD r_a2; replace F_a3 := F_a3.mv h17.mv; replace F_a4 := F_a4.mv h17.mv; replace r_b1 := h17.rdD r_b1; replace r_b2 := h17.rdD r_b2; replace F_b3 := F_b3.mv h17.mv; replace F_b4 := F_b4.mv h17.mv; replace F_L2 := F_L2.mv h17.mv; replace F_L4 := F_L4.mv h17.mv
                      clear h17
                      refine sat_idx (A := Y_a) (c := y_a) (kk := .i64) (j) (by kernel_rfl) (by kernel_rfl) (lt_of hj) F_a4.addr fun g18 o18 e18 => ?_
                      refine sat_elc (d := 0) F_a4 e18 h_x1 rfl (by kernel_rfl) (by kernel_rfl) ?_
                      rintro _ ⟨A_L5, c_L5, rfl, F_L5⟩
                      refine ⟨_, rfl, ?_⟩
                      refine sat_prim (v := .int .i64 ((x1.length : Nat) : Int)) (by kernel_rfl) ?_
                      refine sat_prim (v := .bool (decide ((((k : Nat) : Int) : Int) < ((x1.length : Nat) : Int)))) (by kernel_rfl) ?_
                      cases hk : (decide ((((k : Nat) : Int) : Int) < ((x1.length : Nat) : Int)))
                      · refine sat_false (by kernel_rfl) ?_
                        refine sat_prim (v := .int .i64 (((j + 1 : Nat)) : Int)) (Eq.trans (b := some (.int .i64 (IntKind.i64.wrap (((j : Nat) : Int) + 1)))) (by kernel_rfl) (by rw [Sx.wrap_succ (n := a.sigs.length) (lt_of hj) M_a4])) ?_
                        exact Sx.sat_backO (d := 0) (d' := 1) rfl [.int .i64 (((j + 1 : Nat)) : Int), .bool false] (by kernel_rfl) fun w9 h9 => ⟨_, by have := lt_of hj; omega, j + 1, rfl, rfl, by have := lt_of hj; omega, eqf_step hm2 h_x1 h_x3 (sameL_yes hm3 hk hl3)⟩
                      · refine sat_true (by kernel_rfl) ?_
                        refine sat_idx (A := Y_a) (c := y_a) (kk := .i64) (j) (by kernel_rfl) (by kernel_rfl) (lt_of hj) F_a4.addr fun g20 o20 e20 => ?_
                        refine sat_elc (d := 0) F_a4 e20 h_x1 rfl (by kernel_rfl) (by kernel_rfl) ?_
                        rintro _ ⟨A_L6, c_L6, rfl, F_L6⟩
                        refine ⟨_, rfl, ?_⟩
                        refine sat_idx (A := A_L6) (c := c_L6) (kk := .i64) (k) (by kernel_rfl) (by kernel_rfl) (lt_of hk) F_L6.addr fun g21 o21 e21 => ?_
                        obtain ⟨x7, h_x7⟩ : ∃ x_, x1[(k)]? = some x_ := ⟨_, List.getElem?_eq_getElem (lt_of hk)⟩
                        refine sat_el F_L6 e21 h_x7 rfl (by kernel_rfl) (by kernel_rfl) (by kernel_rfl) ?_
                        rintro _ ⟨A_L8, _, c_L8, B_L8, _, d_L8, rfl, F_L81, F_L82⟩
                        obtain rfl := F_L81.len
                        obtain rfl := F_L82.len
                        refine sat_idx (A := Y_b) (c := y_b) (kk := .i64) (j) (by kernel_rfl) (by kernel_rfl) (by have := lt_of hj; omega) F_b4.addr fun g22 o22 e22 => ?_
                        refine sat_elc (d := 0) F_b4 e22 h_x3 rfl (by kernel_rfl) (by kernel_rfl) ?_
                        rintro _ ⟨A_L9, c_L9, rfl, F_L9⟩
                        refine ⟨_, rfl, ?_⟩
                        refine sat_idx (A := A_L9) (c := c_L9) (kk := .i64) (k) (by kernel_rfl) (by kernel_rfl) (by have := lt_of hk; omega) F_L9.addr fun g23 o23 e23 => ?_
                        obtain ⟨x10, h_x10⟩ : ∃ x_, x3[(k)]? = some x_ := ⟨_, List.getElem?_eq_getElem (by have := lt_of hk; omega)⟩
                        refine sat_el F_L9 e23 h_x10 rfl (by kernel_rfl) (by kernel_rfl) (by kernel_rfl) ?_
                        rintro _ ⟨A_L11, _, c_L11, B_L11, _, d_L11, rfl, F_L111, F_L112⟩
                        obtain rfl := F_L111.len
                        obtain rfl := F_L112.len
                        refine sat_call #[.agg #[.slice A_L8 x7.at_.length c_L8, .slice B_L8 x7.v.length d_L8], .agg #[.slice A_L11 x10.at_.length c_L11, .slice B_L11 x10.v.length d_L11]] (by kernel_rfl) fun w24 h24 => ?_
                        refine (rsameT_any _ _ _ _ _ _ _ _ x7 x10 _ ((F_L81.mv h24.mv).any) ((F_L82.mv h24.mv).any) ((F_L111.mv h24.mv).any) ((F_L112.mv h24.mv).any)).mono ?_
                        rintro e v24 ⟨rfl, hb24⟩
                        refine ⟨hb24, [.bool (sameT x7 x10)], _, rfl, by kernel_rfl, by kernel_rfl, fun g24 => ?_⟩
                        replace r_a1 := g24.rdD r_a1; replace r_a2 := g24.rdD r_a2; replace F_a3 := F_a3.mv g24.mv; replace F_a4 := F_a4.mv g24.mv; replace r_b1 := g24.rdD r_b1; replace r_b2 := g24.rdD r_b2; replace F_b3 := F_b3.mv g24.mv; replace F_b4 := F_b4.mv g24.mv; replace F_L2 := F_L2.mv g24.mv; replace F_L4 := F_L4.mv g24.mv; replace F_L5 := F_L5.mv g24.mv; replace F_L6 := F_L6.mv g24.mv; replace F_L81 := F_L81.mv g24.mv; replace F_L82 := F_L82.mv g24.mv; replace F_L9 := F_L9.mv g24.mv; replace F_L111 := F_L111.mv g24.mv; replace F_L112 := F_L112.mv g24.mv
                        clear h24 hb24
                        refine sat_prim (v := .bool (!(sameT x7 x10))) (by kernel_rfl) ?_
                        cases hT : (sameT x7 x10)
                        · refine sat_true (by kernel_rfl) ?_
                          exact sat_ret (.bool false) (by kernel_rfl) fun w9 h9 => congrArg Value.bool (sr_s (sameL_no hm2 h_x1 h_x3 (sameL_no hm3 h_x7 h_x10 hT)))
                        · refine sat_false (by kernel_rfl) ?_
                          refine sat_prim (v := .int .i64 (((k + 1 : Nat)) : Int)) (Eq.trans (b := some (.int .i64 (IntKind.i64.wrap (((k : Nat) : Int) + 1)))) (by kernel_rfl) (by rw [Sx.wrap_succ (n := x1.length) (lt_of hk) M_x])) ?_
                          exact sat_back [.int .i64 (((k + 1 : Nat)) : Int), .bool false] (by kernel_rfl) fun w9 h9 => ⟨_, by have := lt_of hk; omega, k + 1, rfl, rfl, by have := lt_of hk; omega, eqf_step hm3 h_x7 h_x10 hT⟩
                    · refine sat_true (by kernel_rfl) ?_
                      exact sat_ret (.bool false) (by kernel_rfl) fun w9 h9 => congrArg Value.bool (sr_s (sameL_no hm2 h_x1 h_x3 (sameL_len hn3)))
                · refine sat_true (by kernel_rfl) ?_
                  refine sat_idx (A := X_a) (c := x_a) (kk := .i64) (i) (by kernel_rfl) (by kernel_rfl) (lt_of hi) F_a3.addr fun g12 o12 e12 => ?_
                  obtain ⟨x1, h_x1⟩ : ∃ x_, a.boxes[(i)]? = some x_ := ⟨_, List.getElem?_eq_getElem (lt_of hi)⟩
                  refine sat_elc (d := 0) F_a3 e12 h_x1 rfl (by kernel_rfl) (by kernel_rfl) ?_
                  rintro _ ⟨A_L2, c_L2, rfl, F_L2⟩
                  refine ⟨_, rfl, ?_⟩
                  refine sat_idx (A := X_b) (c := x_b) (kk := .i64) (i) (by kernel_rfl) (by kernel_rfl) (by have := lt_of hi; omega) F_b3.addr fun g13 o13 e13 => ?_
                  obtain ⟨x3, h_x3⟩ : ∃ x_, b.boxes[(i)]? = some x_ := ⟨_, List.getElem?_eq_getElem (by have := lt_of hi; omega)⟩
                  refine sat_elc (d := 0) F_b3 e13 h_x3 rfl (by kernel_rfl) (by kernel_rfl) ?_
                  rintro _ ⟨A_L4, c_L4, rfl, F_L4⟩
                  refine ⟨_, rfl, ?_⟩
                  refine sat_call #[.slice A_L2 x1.length c_L2, .slice A_L4 x3.length c_L4] (by kernel_rfl) fun w14 h14 => ?_
                  refine (rsameB_any _ _ _ _ x1 x3 _ ((F_L2.mv h14.mv).any) ((F_L4.mv h14.mv).any)).mono ?_
                  rintro e v14 ⟨rfl, hb14⟩
                  refine ⟨hb14, [.bool (sameB x1 x3)], _, rfl, by kernel_rfl, by kernel_rfl, fun g14 => ?_⟩
                  replace r_a1 := g14.rdD r_a1; replace r_a2 := g14.rdD r_a2; replace F_a3 := F_a3.mv g14.mv; replace F_a4 := F_a4.mv g14.mv; replace r_b1 := g14.rdD r_b1; replace r_b2 := g14.rdD r_b2; replace F_b3 := F_b3.mv g14.mv; replace F_b4 := F_b4.mv g14.mv; replace F_L2 := F_L2.mv g14.mv; replace F_L4 := F_L4.mv g14.mv
                  clear h14 hb14
                  refine sat_prim (v := .bool (!(sameB x1 x3))) (by kernel_rfl) ?_
                  cases hf : (sameB x1 x3)
                  · refine sat_true (by kernel_rfl) ?_
                    exact sat_ret (.bool false) (by kernel_rfl) fun w9 h9 => congrArg Value.bool (sr_b (sameL_no hm1 h_x1 h_x3 hf))
                  · refine sat_false (by kernel_rfl) ?_
                    refine sat_prim (v := .int .i64 (((i + 1 : Nat)) : Int)) (Eq.trans (b := some (.int .i64 (IntKind.i64.wrap (((i : Nat) : Int) + 1)))) (by kernel_rfl) (by rw [Sx.wrap_succ (n := a.boxes.length) (lt_of hi) M_a3])) ?_
                    exact sat_back [.int .i64 (((i + 1 : Nat)) : Int), .bool false] (by kernel_rfl) fun w9 h9 => ⟨_, by have := lt_of hi; omega, i + 1, rfl, rfl, by have := lt_of hi; omega, eqf_step hm1 h_x1 h_x3 hf⟩
              · refine sat_true (by kernel_rfl) ?_
                exact sat_ret (.bool false) (by kernel_rfl) fun w9 h9 => congrArg Value.bool (sr_s (sameL_len hs1))
            · refine sat_true (by kernel_rfl) ?_
              exact sat_ret (.bool false) (by kernel_rfl) fun w9 h9 => congrArg Value.bool (sr_b (sameL_len hb1))
      · refine sat_true (by kernel_rfl) ?_
        exact sat_ret (.bool false) (by kernel_rfl) fun w9 h9 => congrArg Value.bool (sr_c hc1)
    · refine sat_true (by kernel_rfl) ?_
      exact sat_ret (.bool false) (by kernel_rfl) fun w9 h9 => congrArg Value.bool (sr_e he1)
  · refine sat_true (by kernel_rfl) ?_
    exact sat_ret (.bool false) (by kernel_rfl) fun w9 h9 => congrArg Value.bool (sr_k hk1)

end Go.Proofs.Ytpkfjfpknbhekaa
namespace Go.Proofs.Ytpkfjfpknbhekaa
open Go.RowKit Pl
theorem all2_iff {α : Type} {f : α → α → Bool} (hf : ∀ x y, f x y = true ↔ x = y) : ∀ {a b : List α}, a.length = b.length → (all2 f a b = true ↔ a = b)
  | [], [], _ => by simp [all2]
  | [], _ :: _, h => by simp at h
  | _ :: _, [], h => by simp at h
  | x :: a, y :: b, h => by
    have ih := all2_iff hf (a := a) (b := b) (by simpa using h)
    show (f x y && all2 f a b) = true ↔ _
    rw [Bool.and_eq_true, hf, ih, List.cons.injEq]
theorem sameL_iff {α : Type} {f : α → α → Bool} (hf : ∀ x y, f x y = true ↔ x = y) {a b : List α} : sameL f a b = true ↔ a = b := by
  unfold sameL
  rw [Bool.and_eq_true]
  constructor
  · rintro ⟨h1, h2⟩
    have := eq_of_beq h1
    exact (all2_iff hf (by omega)).1 h2
  · rintro rfl
    exact ⟨by simp, (all2_iff hf rfl).2 rfl⟩
theorem sameI_iff (a b : Iv) : sameI a b = true ↔ a = b := by
  unfold sameI
  rw [Bool.and_eq_true, sameD_iff, sameD_iff]
  cases a; cases b
  simp
theorem sameT_iff (a b : Tb) : sameT a b = true ↔ a = b := by
  have h1 : sameT a b = (sameL sameD a.at_ b.at_ && sameL sameI a.v b.v) := rfl
  rw [h1, Bool.and_eq_true, sameL_iff (fun x y => sameD_iff), sameL_iff sameI_iff]
  cases a; cases b
  simp
theorem sameRc_iff {a b : Rec} : sameRc a b = true ↔ a = b := by
  unfold sameRc
  simp only [Bool.and_eq_true]
  rw [sameL_iff (fun x y => sameL_iff sameI_iff), sameL_iff (fun x y => sameL_iff sameT_iff), sameD_iff, sameD_iff, beq_iff_eq, beq_iff_eq, beq_iff_eq]
  constructor
  · rintro ⟨h1, h2, h3, h4, h5, h6, h7⟩
    cases a; cases b
    simp_all
  · rintro rfl
    exact ⟨rfl, rfl, rfl, rfl, rfl, rfl, rfl⟩
theorem sameRc_self (a : Rec) : sameRc a a = true := sameRc_iff.2 rfl
namespace Sx
end Sx
end Go.Proofs.Ytpkfjfpknbhekaa
