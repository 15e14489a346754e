/- sluicewaylaw21.Few, sluicewayref21.Same, by their trees. Printed by wip/mk_WrL.py. Sameness and beginnings of records, plainly. -/
import Derived.Test.YtpkfjfpknbhekaaWrMx
import Derived.Test.YtpkfjfpknbhekaaTbAx
import Derived.Test.YtpkfjfpknbhekaaBxQx
import Derived.Test.YtpkfjfpknbhekaaRfOx
namespace Go.Proofs.Ytpkfjfpknbhekaa
open Go.RowKit Pl
open Sx (sat_call sat_chk sat_prim sat_ite sat_true sat_false sat_trueP sat_falseP sat_ret sat_row sat_callP sat_loop sat_back sat_idx sat_el sat_elf sat_elc sat_load sat_rowN sat_app sat_callB sat_alt rows_one rows_two all_nil all_cons okB okS okI)

section
variable {a b : Rec}
end
def tr_few21 : Sx.Tree := .chk [.lf 0, .lf 1, .lf 2, .lf 3, .lf 4, .lf 5, .lf 6, .lf 7, .lf 8, .lf 9, .lf 10] (.prim .len [.lf 9] (.prim (.bin .gtr) [.lf 11, .num .i64 6] (.ite (.lf 12) (.ret (.one (.bit false))) (.prim .len [.lf 10] (.prim (.bin .gtr) [.lf 13, .num .i64 6] (.ite (.lf 14) (.ret (.one (.bit false))) (.prim .len [.lf 4] (.prim (.bin .gtr) [.lf 15, .num .i64 70] (.ite (.lf 16) (.ret (.one (.bit false))) (.prim .len [.lf 7] (.prim (.bin .gtr) [.lf 17, .num .i64 70] (.ite (.lf 18) (.ret (.one (.bit false))) (.loop 0 [.num .i64 0, .bit false] (.prim .len [.lf 9] (.prim (.bin .lss) [.lf 19, .lf 21] (.ite (.lf 22) (.prim (.idx 1) [.lf 9, .lf 19] (.load 45 (.lf 23) .one (.call 17 [.one (.lf 24)] .one (.prim .not [.lf 25] (.ite (.lf 26) (.ret (.one (.bit false))) (.prim (.bin .add) [.lf 19, .num .i64 1] (.back 0 [.lf 27, .lf 20]))))))) (.loop 0 [.num .i64 0, .lf 20] (.prim .len [.lf 10] (.prim (.bin .lss) [.lf 23, .lf 25] (.ite (.lf 26) (.prim (.idx 1) [.lf 10, .lf 23] (.load 46 (.lf 27) .one (.prim .len [.lf 28] (.prim (.bin .gtr) [.lf 29, .num .i64 5] (.ite (.lf 30) (.ret (.one (.bit false))) (.loop 1 [.num .i64 0, .lf 24] (.prim (.idx 1) [.lf 10, .lf 23] (.load 46 (.lf 33) .one (.prim .len [.lf 34] (.prim (.bin .lss) [.lf 31, .lf 35] (.ite (.lf 36) (.prim (.idx 1) [.lf 10, .lf 23] (.load 46 (.lf 37) .one (.prim (.idx 2) [.lf 38, .lf 31] (.load 50 (.lf 39) (.ag 2) (.call 18 [.ag [.lf 40, .lf 41]] .one (.prim .not [.lf 42] (.ite (.lf 43) (.ret (.one (.bit false))) (.prim (.bin .add) [.lf 31, .num .i64 1] (.back 1 [.lf 44, .lf 32]))))))))) (.prim (.bin .add) [.lf 23, .num .i64 1] (.back 0 [.lf 37, .lf 32]))))))))))))) (.ret (.one (.bit true)))))))))))))))))))))))
theorem tr_few21_eq : Sx.treeAt Try.prog 6 [] [] [(true, 11)] = some tr_few21 := by kernel_rfl

theorem fewR_any (v_r : Value) (r : Rec) (w : World) (h_r : RcAt (fun _ => True) w v_r r) :
    Calls Try.prog 6 #[v_r] w fun e w' => (∃ q : Bool, e = .returned (.bool q)) ∧ Below w.heap.size w w' := by
  obtain ⟨A_r1, n_r1, c_r1, A_r2, n_r2, c_r2, X_r, x_r, Y_r, y_r, rfl, r_r1, r_r2, F_r3, F_r4⟩ := h_r
  replace F_r3 := F_r3.start
  replace F_r4 := F_r4.start
  have M_r3 := F_r3.le
  have M_r4 := F_r4.le
  refine (Sx.runA [] [] (ls := [.int .i64 r.kind, .int .i64 r.epoch, .int .i64 r.code, .bool r.t.neg, .slice A_r1 n_r1 c_r1, .int .i64 r.t.e, .bool r.h.neg, .slice A_r2 n_r2 c_r2, .int .i64 r.h.e, .slice X_r r.boxes.length x_r, .slice Y_r r.sigs.length y_r]) (shs := [(true, 11)]) (R := fun v _ => ∃ q : Bool, v = .bool q) tr_few21_eq rfl (by decide) (fun q h => by cases h) ?_).mono (fun e w' ⟨v, he, ⟨q, hv⟩, hb⟩ => ⟨⟨q, by rw [he, hv]⟩, hb⟩)
  unfold tr_few21
  refine sat_chkB (by kernel_rfl) ?_
  refine sat_prim (v := .int .i64 ((r.boxes.length : Nat) : Int)) (by kernel_rfl) ?_
  refine sat_prim (v := .bool (decide ((6 : Int) < ((r.boxes.length : Nat) : Int)))) (by kernel_rfl) ?_
  cases hE1 : (decide ((6 : Int) < ((r.boxes.length : Nat) : Int)))
  · refine sat_false (by kernel_rfl) ?_
    refine sat_prim (v := .int .i64 ((r.sigs.length : Nat) : Int)) (by kernel_rfl) ?_
    refine sat_prim (v := .bool (decide ((6 : Int) < ((r.sigs.length : Nat) : Int)))) (by kernel_rfl) ?_
    cases hE2 : (decide ((6 : Int) < ((r.sigs.length : Nat) : Int)))
    · refine sat_false (by kernel_rfl) ?_
      refine sat_prim (v := .int .i64 ((n_r1 : Nat) : Int)) (by kernel_rfl) ?_
      refine sat_prim (v := .bool (decide ((70 : Int) < ((n_r1 : Nat) : Int)))) (by kernel_rfl) ?_
      cases hE3 : (decide ((70 : Int) < ((n_r1 : Nat) : Int)))
      · refine sat_false (by kernel_rfl) ?_
        refine sat_prim (v := .int .i64 ((n_r2 : Nat) : Int)) (by kernel_rfl) ?_
        refine sat_prim (v := .bool (decide ((70 : Int) < ((n_r2 : Nat) : Int)))) (by kernel_rfl) ?_
        cases hE4 : (decide ((70 : Int) < ((n_r2 : Nat) : Int)))
        · refine sat_false (by kernel_rfl) ?_
          refine sat_loop (fun Kn vs W => ∃ (i : Nat), vs = [.int .i64 ((i : Nat) : Int), .bool false] ∧ Kn = r.boxes.length - i ∧ i ≤ r.boxes.length) [.int .i64 0, .bool false] (by kernel_rfl) (fun w1 h1 => ⟨_, 0, rfl, rfl, Nat.zero_le _⟩) ?_
          rintro Kn vs w5 h5 ⟨i, rfl, rfl, h_i⟩
          replace r_r1 := h5.rdD r_r1; replace r_r2 := h5.rdD r_r2; replace F_r3 := F_r3.mv h5.mv; replace F_r4 := F_r4.mv h5.mv
          clear h5
          refine sat_prim (v := .int .i64 ((r.boxes.length : Nat) : Int)) (by kernel_rfl) ?_
          refine sat_prim (v := .bool (decide ((((i : Nat) : Int) : Int) < ((r.boxes.length : Nat) : Int)))) (by kernel_rfl) ?_
          cases hi : (decide ((((i : Nat) : Int) : Int) < ((r.boxes.length : Nat) : Int)))
          · refine sat_false (by kernel_rfl) ?_
            refine sat_loop (fun Kn vs W => ∃ (j : Nat), vs = [.int .i64 ((j : Nat) : Int), .bool false] ∧ Kn = r.sigs.length - j ∧ j ≤ r.sigs.length) [.int .i64 0, .bool false] (by kernel_rfl) (fun w1 h1 => ⟨_, 0, rfl, rfl, Nat.zero_le _⟩) ?_
            rintro Kn vs w7 h7 ⟨j, rfl, rfl, h_j⟩
            replace r_r1 := h7.rdD r_r1; replace r_r2 := h7.rdD r_r2; replace F_r3 := F_r3.mv h7.mv; replace F_r4 := F_r4.mv h7.mv
            clear h7
            refine sat_prim (v := .int .i64 ((r.sigs.length : Nat) : Int)) (by kernel_rfl) ?_
            refine sat_prim (v := .bool (decide ((((j : Nat) : Int) : Int) < ((r.sigs.length : Nat) : Int)))) (by kernel_rfl) ?_
            cases hj : (decide ((((j : Nat) : Int) : Int) < ((r.sigs.length : Nat) : Int)))
            · refine sat_false (by kernel_rfl) ?_
              exact sat_ret (.bool true) (by kernel_rfl) fun w9 h9 => ⟨_, rfl⟩
            · refine sat_true (by kernel_rfl) ?_
              refine sat_idx (A := Y_r) (c := y_r) (kk := .i64) (j) (by kernel_rfl) (by kernel_rfl) (lt_of hj) F_r4.addr fun g9 o9 e9 => ?_
              obtain ⟨x1, h_x1⟩ : ∃ x_, r.sigs[(j)]? = some x_ := ⟨_, List.getElem?_eq_getElem (lt_of hj)⟩
              refine sat_elc (d := 0) F_r4 e9 h_x1 rfl (by kernel_rfl) (by kernel_rfl) ?_
              rintro _ ⟨A_L2, c_L2, rfl, F_L2⟩
              refine ⟨_, rfl, ?_⟩
              refine sat_prim (v := .int .i64 ((x1.length : Nat) : Int)) (by kernel_rfl) ?_
              refine sat_prim (v := .bool (decide ((5 : Int) < ((x1.length : Nat) : Int)))) (by kernel_rfl) ?_
              cases hE10 : (decide ((5 : Int) < ((x1.length : Nat) : Int)))
              · refine sat_false (by kernel_rfl) ?_
                have M_x := F_L2.le
                refine sat_loop (fun Kn vs W => ∃ (k : Nat), vs = [.int .i64 ((k : Nat) : Int), .bool false] ∧ Kn = x1.length - k ∧ k ≤ x1.length) [.int .i64 0, .bool false] (by kernel_rfl) (fun w1 h1 => ⟨_, 0, rfl, rfl, Nat.zero_le _⟩) ?_
                rintro Kn vs w11 h11 ⟨k, rfl, rfl, h_k⟩
                replace r_r1 := h11.rdD r_r1; replace r_r2 := h11.rdD r_r2; replace F_r3 := F_r3.mv h11.mv; replace F_r4 := F_r4.mv h11.mv; replace F_L2 := F_L2.mv h11.mv
                clear h11
                refine sat_idx (A := Y_r) (c := y_r) (kk := .i64) (j) (by kernel_rfl) (by kernel_rfl) (lt_of hj) F_r4.addr fun g12 o12 e12 => ?_
                refine sat_elc (d := 0) F_r4 e12 h_x1 rfl (by kernel_rfl) (by kernel_rfl) ?_
                rintro _ ⟨A_L3, c_L3, rfl, F_L3⟩
                refine ⟨_, rfl, ?_⟩
                refine sat_prim (v := .int .i64 ((x1.length : Nat) : Int)) (by kernel_rfl) ?_
                refine sat_prim (v := .bool (decide ((((k : Nat) : Int) : Int) < ((x1.length : Nat) : Int)))) (by kernel_rfl) ?_
                cases hk : (decide ((((k : Nat) : Int) : Int) < ((x1.length : Nat) : Int)))
                · refine sat_false (by kernel_rfl) ?_
                  refine sat_prim (v := .int .i64 (((j + 1 : Nat)) : Int)) (Eq.trans (b := some (.int .i64 (IntKind.i64.wrap (((j : Nat) : Int) + 1)))) (by kernel_rfl) (by rw [Sx.wrap_succ (n := r.sigs.length) (lt_of hj) M_r4])) ?_
                  exact Sx.sat_backO (d := 0) (d' := 1) rfl [.int .i64 (((j + 1 : Nat)) : Int), .bool false] (by kernel_rfl) fun w9 h9 => ⟨_, by have := lt_of hj; omega, j + 1, rfl, rfl, by have := lt_of hj; omega⟩
                · refine sat_true (by kernel_rfl) ?_
                  refine sat_idx (A := Y_r) (c := y_r) (kk := .i64) (j) (by kernel_rfl) (by kernel_rfl) (lt_of hj) F_r4.addr fun g14 o14 e14 => ?_
                  refine sat_elc (d := 0) F_r4 e14 h_x1 rfl (by kernel_rfl) (by kernel_rfl) ?_
                  rintro _ ⟨A_L4, c_L4, rfl, F_L4⟩
                  refine ⟨_, rfl, ?_⟩
                  refine sat_idx (A := A_L4) (c := c_L4) (kk := .i64) (k) (by kernel_rfl) (by kernel_rfl) (lt_of hk) F_L4.addr fun g15 o15 e15 => ?_
                  obtain ⟨x5, h_x5⟩ : ∃ x_, x1[(k)]? = some x_ := ⟨_, List.getElem?_eq_getElem (lt_of hk)⟩
                  refine sat_el F_L4 e15 h_x5 rfl (by kernel_rfl) (by kernel_rfl) (by kernel_rfl) ?_
                  rintro _ ⟨A_L6, _, c_L6, B_L6, _, d_L6, rfl, F_L61, F_L62⟩
                  obtain rfl := F_L61.len
                  obtain rfl := F_L62.len
                  refine sat_call #[.agg #[.slice A_L6 x5.at_.length c_L6, .slice B_L6 x5.v.length d_L6]] (by kernel_rfl) fun w16 h16 => ?_
                  refine (fewT_any _ _ _ _ x5 _ ((F_L61.mv h16.mv).any) ((F_L62.mv h16.mv).any)).mono ?_
                  rintro e v16 ⟨rfl, hb16⟩
                  refine ⟨hb16, [.bool (fewT x5)], _, rfl, by kernel_rfl, by kernel_rfl, fun g16 => ?_⟩
                  replace r_r1 := g16.rdD r_r1; replace r_r2 := g16.rdD r_r2; replace F_r3 := F_r3.mv g16.mv; replace F_r4 := F_r4.mv g16.mv; replace F_L2 := F_L2.mv g16.mv; replace F_L3 := F_L3.mv g16.mv; replace F_L4 := F_L4.mv g16.mv; replace F_L61 := F_L61.mv g16.mv; replace F_L62 := F_L62.mv g16.mv
                  clear h16 hb16
                  refine sat_prim (v := .bool (!(fewT x5))) (by kernel_rfl) ?_
                  cases hE17 : (fewT x5)
                  · refine sat_true (by kernel_rfl) ?_
                    exact sat_ret (.bool false) (by kernel_rfl) fun w9 h9 => ⟨_, rfl⟩
                  · refine sat_false (by kernel_rfl) ?_
                    refine sat_prim (v := .int .i64 (((k + 1 : Nat)) : Int)) (Eq.trans (b := some (.int .i64 (IntKind.i64.wrap (((k : Nat) : Int) + 1)))) (by kernel_rfl) (by rw [Sx.wrap_succ (n := x1.length) (lt_of hk) M_x])) ?_
                    exact sat_back [.int .i64 (((k + 1 : Nat)) : Int), .bool false] (by kernel_rfl) fun w9 h9 => ⟨_, by have := lt_of hk; omega, k + 1, rfl, rfl, by have := lt_of hk; omega⟩
              · refine sat_true (by kernel_rfl) ?_
                exact sat_ret (.bool false) (by kernel_rfl) fun w9 h9 => ⟨_, rfl⟩
          · refine sat_true (by kernel_rfl) ?_
            refine sat_idx (A := X_r) (c := x_r) (kk := .i64) (i) (by kernel_rfl) (by kernel_rfl) (lt_of hi) F_r3.addr fun g7 o7 e7 => ?_
            obtain ⟨x1, h_x1⟩ : ∃ x_, r.boxes[(i)]? = some x_ := ⟨_, List.getElem?_eq_getElem (lt_of hi)⟩
            refine sat_elc (d := 0) F_r3 e7 h_x1 rfl (by kernel_rfl) (by kernel_rfl) ?_
            rintro _ ⟨A_L2, c_L2, rfl, F_L2⟩
            refine ⟨_, rfl, ?_⟩
            refine sat_call #[.slice A_L2 x1.length c_L2] (by kernel_rfl) fun w8 h8 => ?_
            refine (row8_any _ _ x1 _ ((F_L2.mv h8.mv).any)).mono ?_
            rintro e v8 ⟨rfl, hb8⟩
            refine ⟨hb8, [.bool (fewB x1)], _, rfl, by kernel_rfl, by kernel_rfl, fun g8 => ?_⟩
            replace r_r1 := g8.rdD r_r1; replace r_r2 := g8.rdD r_r2; replace F_r3 := F_r3.mv g8.mv; replace F_r4 := F_r4.mv g8.mv; replace F_L2 := F_L2.mv g8.mv
            clear h8 hb8
            refine sat_prim (v := .bool (!(fewB x1))) (by kernel_rfl) ?_
            cases hE9 : (fewB x1)
            · refine sat_true (by kernel_rfl) ?_
              exact sat_ret (.bool false) (by kernel_rfl) fun w9 h9 => ⟨_, rfl⟩
            · refine sat_false (by kernel_rfl) ?_
              refine sat_prim (v := .int .i64 (((i + 1 : Nat)) : Int)) (Eq.trans (b := some (.int .i64 (IntKind.i64.wrap (((i : Nat) : Int) + 1)))) (by kernel_rfl) (by rw [Sx.wrap_succ (n := r.boxes.length) (lt_of hi) M_r3])) ?_
              exact sat_back [.int .i64 (((i + 1 : Nat)) : Int), .bool false] (by kernel_rfl) fun w9 h9 => ⟨_, by have := lt_of hi; omega, i + 1, rfl, rfl, by have := lt_of hi; omega⟩
        · refine sat_true (by kernel_rfl) ?_
          exact sat_ret (.bool false) (by kernel_rfl) fun w9 h9 => ⟨_, rfl⟩
      · refine sat_true (by kernel_rfl) ?_
        exact sat_ret (.bool false) (by kernel_rfl) fun w9 h9 => ⟨_, rfl⟩
    · refine sat_true (by kernel_rfl) ?_
      exact sat_ret (.bool false) (by kernel_rfl) fun w9 h9 => ⟨_, rfl⟩
  · refine sat_true (by kernel_rfl) ?_
    exact sat_ret (.bool false) (by kernel_rfl) fun w9 h9 => ⟨_, rfl⟩

end Go.Proofs.Ytpkfjfpknbhekaa
namespace Go.Proofs.Ytpkfjfpknbhekaa
open Go.RowKit Pl
theorem all2_iff {α : Type} {f : α → α → Bool} (hf : ∀ x y, f x y = true ↔ x = y) : ∀ {a b : List α}, a.length = b.length → (all2 f a b = true ↔ a = b)
  | [], [], _ => by simp [all2]
  | [], _ :: _, h => by simp at h
  | _ :: _, [], h => by simp at h
  | x :: a, y :: b, h => by
    have ih := all2_iff hf (a := a) (b := b) (by simpa using h)
    show (f x y && all2 f a b) = true ↔ _
    rw [Bool.and_eq_true, hf, ih, List.cons.injEq]
theorem sameL_iff {α : Type} {f : α → α → Bool} (hf : ∀ x y, f x y = true ↔ x = y) {a b : List α} : sameL f a b = true ↔ a = b := by
  unfold sameL
  rw [Bool.and_eq_true]
  constructor
  · rintro ⟨h1, h2⟩
    have := eq_of_beq h1
    exact (all2_iff hf (by omega)).1 h2
  · rintro rfl
    exact ⟨by simp, (all2_iff hf rfl).2 rfl⟩
theorem sameI_iff (a b : Iv) : sameI a b = true ↔ a = b := by
  unfold sameI
  rw [Bool.and_eq_true, sameD_iff, sameD_iff]
  cases a; cases b
  simp
theorem sameT_iff (a b : Tb) : sameT a b = true ↔ a = b := by
  have h1 : sameT a b = (sameL sameD a.at_ b.at_ && sameL sameI a.v b.v) := rfl
  rw [h1, Bool.and_eq_true, sameL_iff (fun x y => sameD_iff), sameL_iff sameI_iff]
  cases a; cases b
  simp
theorem sameRc_iff {a b : Rec} : sameRc a b = true ↔ a = b := by
  unfold sameRc
  simp only [Bool.and_eq_true]
  rw [sameL_iff (fun x y => sameL_iff sameI_iff), sameL_iff (fun x y => sameL_iff sameT_iff), sameD_iff, sameD_iff, beq_iff_eq, beq_iff_eq, beq_iff_eq]
  constructor
  · rintro ⟨h1, h2, h3, h4, h5, h6, h7⟩
    cases a; cases b
    simp_all
  · rintro rfl
    exact ⟨rfl, rfl, rfl, rfl, rfl, rfl, rfl⟩
theorem sameRc_self (a : Rec) : sameRc a a = true := sameRc_iff.2 rfl
theorem cut_k (cut : Int) (n : Nat) : ∃ K : Nat, K ≤ n ∧ Sx.Prim.ev (.bin .rem) [.int .u64 (IntKind.u64.wrap cut), .int .u64 ((n + 1 : Nat) : Int)] = some (.int .u64 ((K : Nat) : Int)) := by
  have h0 : 0 ≤ IntKind.u64.wrap cut := by rw [IntKind.wrap_u64]; omega
  obtain ⟨p, hp⟩ := Int.eq_ofNat_of_zero_le h0
  rw [hp]
  refine ⟨p % (n + 1), by have := Nat.mod_lt p (show n + 1 > 0 by omega); omega, ?_⟩
  show (if ((n + 1 : Nat) : Int) = 0 then none else some (Value.int .u64 (Int.tmod (p : Int) ((n + 1 : Nat) : Int)))) = _
  rw [if_neg (by omega), Int.tmod_eq_emod_of_nonneg (by omega), ← Int.natCast_emod]
namespace Sx
/-- A row that is built, as it reads. -/
theorem Gr.reads {α : Type} {k : Kind α} {w0 : Fr} {e : TypeId} {w : OW} {A : Option Addr} {n c : Nat} {l : List α} (h : Gr k w0 e w (.slice A n c) l) : Rows k (fun _ => True) w.toWorld A n c l := by
  obtain ⟨hk, xs, i1, i2⟩ := h
  rcases i1.row.2 with ⟨hv, hn⟩ | ⟨g, cap, cur, hv, hb, hg, hcap, hmax, _, _⟩
  · injection hv with v1 v2 v3
    subst v1 v2 v3
    obtain rfl : l = [] := List.eq_nil_of_length_eq_zero hn
    exact Rows.nil _ _ _
  · injection hv with v1 v2 v3
    subst v1 v2 v3
    refine ⟨rfl, hcap, hmax, fun ad h _ => by injection h with h; subst h; rfl, fun hn => ⟨g, 0, rfl, ?_, trivial, fun i x hx => ⟨_, k.mv (Mv.weak fun _ _ _ => trivial) (i2 i x hx), fun j u hu => ?_⟩⟩⟩
    · exact (Array.getElem?_eq_some_iff.1 hg).1
    · rw [List.getElem?_take] at hu
      split at hu
      · rw [List.getElem?_drop] at hu
        have := i1.row.cells (g := g) rfl _ _ hu
        rw [addr_at] at this
        rw [Nat.zero_add] at this ⊢
        exact this
      · cases hu
/-- An empty literal is built upon. -/
theorem sat_lit0 {α : Type} (k : Kind α) {w0 : Fr} {w : OW} {R : Value → World → Prop} {Pn : List PanicEntry → World → Prop} {Bk : Back} {ρ : List Value} {t : Tree} {e : TypeId} (hk : 0 < k.sz) (hn : w0.nk k.ik = true) (hr : w0.nk .u64 = false)
    (h : ∀ N ow, Le w0 w ow → Gr k w0 e ow (.slice (some ⟨N, 0, none⟩) 0 0) [] → satB Try.prog w0 R Pn Bk t (ρ ++ [.slice (some ⟨N, 0, none⟩) 0 0]) ow) : satB Try.prog w0 R Pn Bk (.row e [] 0 [] t) ρ w :=
  ⟨fun _ h => (by cases h), fun w' hl => .inr (h w'.heap.size _ (hl.trans (Le.newB hl.wf hl.b _)) (Gr.lit0 hk hl.wf hl.b hn hr))⟩
end Sx
end Go.Proofs.Ytpkfjfpknbhekaa
