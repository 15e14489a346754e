/- sluicewaylaw13.Few, told, by their trees. Printed by wip/mk_TbE.py. -/
import Derived.Test.YtbpfnooloemieaaGreatDoorTbAx
import Derived.Test.YtbpfnooloemieaaGreatDoorIvCx
namespace Go.Proofs.YtbpfnooloemieaaGreatDoor
open Go.RowKit Pl
open Sx (sat_call sat_chk sat_prim sat_ite sat_true sat_false sat_trueP sat_falseP sat_ret sat_row sat_callP sat_loop sat_back sat_idx sat_el sat_elf sat_elc sat_load sat_rowN sat_app sat_callB sat_alt rows_one rows_two all_nil all_cons okB okS okI)

theorem tk {p p' : List Dy} {q q' : List Iv} {x x' : Int} {r : Tb × Int} (k : Hid ((⟨p, q⟩, x) = r)) (e : r = (⟨p', q'⟩, x')) : p = p' ∧ q = q' ∧ x = x' := by
  have := k.out.trans e
  injection this with h1 h2
  injection h1 with h3 h4
  exact ⟨h3, h4, h2⟩
theorem cut_one {α : Type} {k : Sx.Kind α} {ok : Nat → Prop} {w : World} {A : Option Addr} {c i : Nat} {l : List α} {x : α} (h : Sx.Rows k ok w A l.length c l) (hx : l[i]? = some x) : ∃ B, Sx.cutV k.sz A c (i : Int) ((i + 1 : Nat) : Int) = some (.slice B 1 (c - i)) ∧ Sx.Rows k ok w B 1 (c - i) [x] := by
  obtain ⟨hi, he⟩ := List.getElem?_eq_some_iff.1 hx
  obtain ⟨B, h1, h2⟩ := h.cut (Nat.le_succ i) hi
  rw [show i + 1 - i = 1 by omega] at h1 h2
  have h3 : (l.take (i + 1)).drop i = [x] := by
    rw [List.take_succ_eq_append_getElem hi, he, List.drop_append_of_le_length (by rw [List.length_take]; omega), List.drop_of_length_le (by rw [List.length_take]; omega)]
    rfl
  rw [h3] at h2
  exact ⟨B, h1, h2⟩
theorem fewB_one (x : Iv) : fewB [x] = few6 x := by unfold fewB; simp
theorem fewT_1 {t : Tb} (h : decide ((12 : Int) < ((t.v.length : Nat) : Int)) = true) : false = fewT t := by unfold fewT; rw [h]; rfl
theorem fewT_2 {t : Tb} (h : decide ((14 : Int) < ((t.at_.length : Nat) : Int)) = true) : false = fewT t := by unfold fewT; rw [h]; simp
theorem fewT_is {t : Tb} (h : decide ((12 : Int) < ((t.v.length : Nat) : Int)) = false) (k : decide ((14 : Int) < ((t.at_.length : Nat) : Int)) = false) : fewT t = (t.at_.all fewD6 && t.v.all few6) := by unfold fewT; rw [h, k]; rfl
theorem fewD_cons {l : List Dy} {i : Nat} {x : Dy} (h : l[i]? = some x) : (l.drop i).all fewD6 = (fewD6 x && (l.drop (i + 1)).all fewD6) := by rw [drop_cons h]; rfl
theorem fewT_at {t : Tb} {i : Nat} {x : Dy} {r b c : Bool} (hm : r = ((t.at_.drop i).all fewD6 && b)) (hx : t.at_[i]? = some x) (h : decide ((6 : Int) < ((x.m.length : Nat) : Int)) = c) : r = (!c && ((t.at_.drop (i + 1)).all fewD6 && b)) := by
  rw [hm, fewD_cons hx, ← h, Bool.and_assoc]
  unfold fewD6
  by_cases h6 : x.m.length ≤ 6
  · rw [decide_eq_true h6, decide_eq_false (by omega)]; rfl
  · rw [decide_eq_false h6, decide_eq_true (by omega)]; rfl
structure FewT (t : Tb) : Prop where
  v : t.v.length ≤ 12
  at_ : t.at_.length ≤ 14
theorem FewT.of {t : Tb} (h : fewT t = true) : FewT t := by
  unfold fewT at h
  simp only [Bool.and_eq_true] at h
  have h1 : decide ((12 : Int) < ((t.v.length : Nat) : Int)) = false := by simpa using h.1
  have h2 : decide ((14 : Int) < ((t.at_.length : Nat) : Int)) = false := by simpa using h.2.1
  have h1 := of_decide_eq_false h1
  have h2 := of_decide_eq_false h2
  exact ⟨by omega, by omega⟩

def tr_few13 : Sx.Tree := .chk [.lf 0, .lf 1] (.prim .len [.lf 1] (.prim (.bin .gtr) [.lf 2, .num .i64 12] (.ite (.lf 3) (.ret (.one (.bit false))) (.prim .len [.lf 0] (.prim (.bin .gtr) [.lf 4, .num .i64 14] (.ite (.lf 5) (.ret (.one (.bit false))) (.loop 0 [.num .i64 0, .bit false] (.prim .len [.lf 0] (.prim (.bin .lss) [.lf 6, .lf 8] (.ite (.lf 9) (.prim (.idx 3) [.lf 0, .lf 6] (.prim (.fld 1) [.lf 10] (.load 28 (.lf 11) .one (.prim .len [.lf 12] (.prim (.bin .gtr) [.lf 13, .num .i64 6] (.ite (.lf 14) (.ret (.one (.bit false))) (.prim (.bin .add) [.lf 6, .num .i64 1] (.back 0 [.lf 15, .lf 7])))))))) (.loop 0 [.num .i64 0, .lf 7] (.prim .len [.lf 1] (.prim (.bin .lss) [.lf 10, .lf 12] (.ite (.lf 13) (.prim (.bin .add) [.lf 10, .num .i64 1] (.prim (.slc 6 true true) [.lf 1, .lf 10, .lf 14] (.call 5 [.one (.lf 15)] .one (.prim .not [.lf 16] (.ite (.lf 17) (.ret (.one (.bit false))) (.prim (.bin .add) [.lf 10, .num .i64 1] (.back 0 [.lf 18, .lf 11]))))))) (.ret (.one (.bit true)))))))))))))))))
theorem tr_few13_eq : Sx.treeAt Tryz.prog 25 [] [] [(true, 2)] = some tr_few13 := by kernel_rfl

theorem fewT_any (A_t : Option Addr) (c_t : Nat) (B_t : Option Addr) (d_t : Nat) (t : Tb) (w : World) (h_t1 : Sx.Rows Sx.kD (fun _ => True) w A_t t.at_.length c_t t.at_) (h_t2 : Sx.Rows Sx.kI (fun _ => True) w B_t t.v.length d_t t.v) :
    Calls Tryz.prog 25 #[.agg #[.slice A_t t.at_.length c_t, .slice B_t t.v.length d_t]] w fun e w' => e = .returned (.bool (fewT t)) ∧ Below w.heap.size w w' := by
  have F_t1 := h_t1.start
  have M_t1 := h_t1.le
  clear h_t1
  have F_t2 := h_t2.start
  have M_t2 := h_t2.le
  clear h_t2
  refine (Sx.runA [] [] (ls := [.slice A_t t.at_.length c_t, .slice B_t t.v.length d_t]) (shs := [(true, 2)]) (R := fun v _ => v = .bool (fewT t)) tr_few13_eq rfl (by decide) (fun q h => by cases h) ?_).mono (fun e w' ⟨v, he, hv, hb⟩ => ⟨by rw [he, hv], hb⟩)
  unfold tr_few13
  refine sat_chkB (by kernel_rfl) ?_
  refine sat_prim (v := .int .i64 ((t.v.length : Nat) : Int)) (by kernel_rfl) ?_
  refine sat_prim (v := .bool (decide ((12 : Int) < ((t.v.length : Nat) : Int)))) (by kernel_rfl) ?_
  cases h12 : (decide ((12 : Int) < ((t.v.length : Nat) : Int)))
  · refine sat_false (by kernel_rfl) ?_
    refine sat_prim (v := .int .i64 ((t.at_.length : Nat) : Int)) (by kernel_rfl) ?_
    refine sat_prim (v := .bool (decide ((14 : Int) < ((t.at_.length : Nat) : Int)))) (by kernel_rfl) ?_
    cases h14 : (decide ((14 : Int) < ((t.at_.length : Nat) : Int)))
    · refine sat_false (by kernel_rfl) ?_
      refine sat_loop (fun Kn vs W => ∃ (i : Nat), vs = [.int .i64 ((i : Nat) : Int), .bool false] ∧ Kn = t.at_.length - i ∧ i ≤ t.at_.length ∧ (fewT t = ((t.at_.drop i).all fewD6 && t.v.all few6))) [.int .i64 0, .bool false] (by kernel_rfl) (fun w1 h1 => ⟨_, 0, rfl, rfl, Nat.zero_le _, fewT_is h12 h14⟩) ?_
      rintro Kn vs w3 h3 ⟨i, rfl, rfl, h_i, hm⟩
      replace F_t1 := F_t1.mv h3.mv; replace F_t2 := F_t2.mv h3.mv
      clear h3
      refine sat_prim (v := .int .i64 ((t.at_.length : Nat) : Int)) (by kernel_rfl) ?_
      refine sat_prim (v := .bool (decide ((((i : Nat) : Int) : Int) < ((t.at_.length : Nat) : Int)))) (by kernel_rfl) ?_
      cases hlt : (decide ((((i : Nat) : Int) : Int) < ((t.at_.length : Nat) : Int)))
      · refine sat_false (by kernel_rfl) ?_
        have hm2 : fewT t = t.v.all few6 := by rw [hm, drop_end hlt]; rfl
        refine sat_loop (fun Kn vs W => ∃ (j : Nat), vs = [.int .i64 ((j : Nat) : Int), .bool false] ∧ Kn = t.v.length - j ∧ j ≤ t.v.length ∧ (fewT t = (t.v.drop j).all few6)) [.int .i64 0, .bool false] (by kernel_rfl) (fun w1 h1 => ⟨_, 0, rfl, rfl, Nat.zero_le _, hm2⟩) ?_
        rintro Kn vs w5 h5 ⟨j, rfl, rfl, h_j, hn⟩
        replace F_t1 := F_t1.mv h5.mv; replace F_t2 := F_t2.mv h5.mv
        clear h5
        refine sat_prim (v := .int .i64 ((t.v.length : Nat) : Int)) (by kernel_rfl) ?_
        refine sat_prim (v := .bool (decide ((((j : Nat) : Int) : Int) < ((t.v.length : Nat) : Int)))) (by kernel_rfl) ?_
        cases hlt2 : (decide ((((j : Nat) : Int) : Int) < ((t.v.length : Nat) : Int)))
        · refine sat_false (by kernel_rfl) ?_
          exact sat_ret (.bool true) (by kernel_rfl) fun w9 h9 => congrArg Value.bool (by rw [hn, drop_end hlt2]; rfl)
        · refine sat_true (by kernel_rfl) ?_
          refine sat_prim (v := .int .i64 (((j + 1 : Nat)) : Int)) (Eq.trans (b := some (.int .i64 (IntKind.i64.wrap ((((j) : Nat) : Int) + 1)))) (by kernel_rfl) (by rw [Sx.wrap_succ (n := t.v.length) (lt_of hlt2) M_t2])) ?_
          obtain ⟨x2, h_x2⟩ : ∃ x_, t.v[(j)]? = some x_ := ⟨_, List.getElem?_eq_getElem (lt_of hlt2)⟩
          obtain ⟨C_D1, e_D1, F_D1⟩ := cut_one F_t2 h_x2
          refine sat_prim (v := .slice C_D1 1 (d_t - j)) (Eq.trans (by kernel_rfl) e_D1) ?_
          refine sat_call #[.slice C_D1 1 (d_t - j)] (by kernel_rfl) fun w7 h7 => ?_
          refine (row8_any _ _ [x2] _ ((F_D1.mv h7.mv).any)).mono ?_
          rintro e v7 ⟨rfl, hb7⟩
          refine ⟨hb7, [.bool (fewB [x2])], _, rfl, by kernel_rfl, by kernel_rfl, fun g7 => ?_⟩
          replace F_t1 := F_t1.mv g7.mv; replace F_t2 := F_t2.mv g7.mv; replace F_D1 := F_D1.mv g7.mv
          clear h7 hb7
          refine sat_prim (v := .bool (!(fewB [x2]))) (by kernel_rfl) ?_
          cases hB : (fewB [x2])
          · refine sat_true (by kernel_rfl) ?_
            exact sat_ret (.bool false) (by kernel_rfl) fun w9 h9 => congrArg Value.bool (by rw [hn, few6_cons h_x2, ← fewB_one, hB]; rfl)
          · refine sat_false (by kernel_rfl) ?_
            refine sat_prim (v := .int .i64 (((j + 1 : Nat)) : Int)) (Eq.trans (b := some (.int .i64 (IntKind.i64.wrap ((((j) : Nat) : Int) + 1)))) (by kernel_rfl) (by rw [Sx.wrap_succ (n := t.v.length) (lt_of hlt2) M_t2])) ?_
            exact sat_back [.int .i64 (((j + 1 : Nat)) : Int), .bool false] (by kernel_rfl) fun w9 h9 => ⟨_, by have := lt_of hlt2; omega, j + 1, rfl, rfl, by have := lt_of hlt2; omega, by rw [hn, few6_cons h_x2, ← fewB_one, hB]; rfl⟩
      · refine sat_true (by kernel_rfl) ?_
        refine sat_idx (A := A_t) (c := c_t) (kk := .i64) (i) (by kernel_rfl) (by kernel_rfl) (lt_of hlt) F_t1.addr fun g5 o5 e5 => ?_
        refine sat_prim (v := .pointer (some ⟨g5, o5 + (i) * 3 + 1, none⟩)) (by kernel_rfl) ?_
        obtain ⟨x1, h_x1⟩ : ∃ x_, t.at_[(i)]? = some x_ := ⟨_, List.getElem?_eq_getElem (lt_of hlt)⟩
        refine sat_elc (d := 1) F_t1 e5 h_x1 rfl (by kernel_rfl) (by kernel_rfl) ?_
        rintro _ ⟨A_L2, n_L2, c_L2, rfl, r_L2l⟩
        obtain rfl := r_L2l.few
        refine ⟨_, rfl, ?_⟩
        clear r_L2l
        refine sat_prim (v := .int .i64 ((x1.m.length : Nat) : Int)) (by kernel_rfl) ?_
        refine sat_prim (v := .bool (decide ((6 : Int) < ((x1.m.length : Nat) : Int)))) (by kernel_rfl) ?_
        cases h6 : (decide ((6 : Int) < ((x1.m.length : Nat) : Int)))
        · refine sat_false (by kernel_rfl) ?_
          refine sat_prim (v := .int .i64 (((i + 1 : Nat)) : Int)) (Eq.trans (b := some (.int .i64 (IntKind.i64.wrap ((((i) : Nat) : Int) + 1)))) (by kernel_rfl) (by rw [Sx.wrap_succ (n := t.at_.length) (lt_of hlt) M_t1])) ?_
          exact sat_back [.int .i64 (((i + 1 : Nat)) : Int), .bool false] (by kernel_rfl) fun w9 h9 => ⟨_, by have := lt_of hlt; omega, i + 1, rfl, rfl, by have := lt_of hlt; omega, fewT_at hm h_x1 h6⟩
        · refine sat_true (by kernel_rfl) ?_
          exact sat_ret (.bool false) (by kernel_rfl) fun w9 h9 => congrArg Value.bool (fewT_at hm h_x1 h6).symm
    · refine sat_true (by kernel_rfl) ?_
      exact sat_ret (.bool false) (by kernel_rfl) fun w9 h9 => congrArg Value.bool (fewT_2 h14)
  · refine sat_true (by kernel_rfl) ?_
    exact sat_ret (.bool false) (by kernel_rfl) fun w9 h9 => congrArg Value.bool (fewT_1 h12)

def tr_told13 : Sx.Tree := .row 50 [.num .u64 1] 1 [] (.chk [.lf 0] (.row 50 [.num .u64 1] 1 [] (.chk [.lf 1] (.chk [.lf 0] (.chk [.lf 1] (.call 38 [.ag [.bit false, .lf 0, .num .i64 0]] (.ag 6) (.call 64 [.ag [.bit false, .nil, .num .i64 0], .ag [.bit false, .lf 0, .num .i64 0], .ag [.lf 2, .lf 3, .lf 4, .lf 5, .lf 6, .lf 7]] (.tup [(true, 2), (false, 1)]) (.chk [.lf 8, .lf 9] (.call 38 [.ag [.bit false, .lf 1, .num .i64 1]] (.ag 6) (.call 64 [.ag [.bit false, .lf 0, .num .i64 0], .ag [.bit false, .lf 1, .num .i64 1], .ag [.lf 11, .lf 12, .lf 13, .lf 14, .lf 15, .lf 16]] (.tup [(true, 2), (false, 1)]) (.chk [.lf 17, .lf 18] (.call 65 [.ag [.lf 8, .lf 9], .ag [.lf 17, .lf 18]] (.tup [(true, 2), (false, 1)]) (.chk [.lf 20, .lf 21] (.call 66 [.ag [.lf 20, .lf 21], .ag [.bit false, .lf 0, .num .i64 0]] (.tup [(true, 6), (false, 1)]) (.chk [.lf 23, .lf 24, .lf 25, .lf 26, .lf 27, .lf 28] (.row 50 [.num .u64 3] 1 [] (.chk [.lf 30] (.call 66 [.ag [.lf 20, .lf 21], .ag [.bit false, .lf 30, .num .i64 0]] (.tup [(true, 6), (false, 1)]) (.chk [.lf 31, .lf 32, .lf 33, .lf 34, .lf 35, .lf 36] (.call 27 [.ag [.lf 20, .lf 21]] (.tup [(true, 2), (false, 1)]) (.chk [.lf 38, .lf 39] (.call 38 [.ag [.bit false, .lf 0, .num .i64 0]] (.ag 6) (.call 64 [.ag [.bit false, .lf 0, .num .i64 0], .ag [.bit false, .lf 0, .num .i64 0], .ag [.lf 41, .lf 42, .lf 43, .lf 44, .lf 45, .lf 46]] (.tup [(true, 2), (false, 1)]) (.chk [.lf 47, .lf 48] (.prim (.bin .add) [.lf 10, .lf 19] (.prim (.bin .add) [.lf 50, .lf 22] (.prim (.bin .add) [.lf 51, .lf 29] (.prim (.bin .add) [.lf 52, .lf 40] (.prim (.bin .eql) [.lf 53, .num .i64 0] (.ite (.lf 54) (.call 39 [.ag [.lf 23, .lf 24, .lf 25], .ag [.bit false, .lf 0, .num .i64 0]] .one (.ite (.lf 55) (.call 39 [.ag [.lf 26, .lf 27, .lf 28], .ag [.bit false, .lf 1, .num .i64 1]] .one (.ite (.lf 56) (.prim (.bin .eql) [.lf 37, .num .i64 5] (.ite (.lf 57) (.prim .len [.lf 39] (.prim (.bin .eql) [.lf 58, .num .i64 4] (.ite (.lf 59) (.prim (.bin .eql) [.lf 49, .num .i64 1] (.ite (.lf 60) (.call 35 [.ag [.lf 20, .lf 21], .ag [.lf 38, .lf 39]] .one (.ite (.lf 61) (.call 35 [.ag [.lf 38, .lf 39], .ag [.lf 20, .lf 21]] .one (.ite (.lf 62) (.call 33 [.ag [.lf 20, .lf 21], .ag [.lf 38, .lf 39]] .one (.prim .not [.lf 63] (.ite (.lf 64) (.call 67 [.ag [.lf 20, .lf 21]] .one (.ite (.lf 65) (.call 67 [.ag [.nil, .nil]] .one (.prim .not [.lf 66] (.ret (.one (.lf 67))))) (.ret (.one (.bit false))))) (.ret (.one (.bit false)))))) (.ret (.one (.bit false))))) (.ret (.one (.bit false))))) (.ret (.one (.bit false))))) (.ret (.one (.bit false)))))) (.ret (.one (.bit false))))) (.ret (.one (.bit false))))) (.ret (.one (.bit false))))) (.ret (.one (.bit false)))))))))))))))))))))))))))))))))
theorem tr_told13_eq : Sx.treeAt Tryz.prog 26 [] [] [] = some tr_told13 := by kernel_rfl

set_option maxRecDepth 100000 in
set_option maxHeartbeats 4000000 in
theorem told13_any (w : World) (hT : TabAt w) :
    Calls Tryz.prog 26 #[] w fun e w' => e = .returned (.bool true) ∧ Below w.heap.size w w' := by
  have r_zz := RdD.zero w
  refine (Sx.runA [] [] (ls := []) (shs := []) (R := fun v w' => v = .bool true) tr_told13_eq rfl (by decide) (fun q h => by cases h) ?_).mono (fun e w' ⟨v, he, hv, hb⟩ => ⟨by rw [he, hv], hb⟩)
  unfold tr_told13
  refine sat_row [.int .u64 1] (by kernel_rfl) (by intro x hx; cases hx) fun u1 h1 B1 => ?_
  replace r_zz := h1.rdD r_zz
  have q_N1 := rdi1 (x := 1) B1.lt (B1.cell 0 rfl)
  generalize u1.heap.size = N1 at *
  generalize (u1.alloc _) = wN1 at *
  clear B1 h1
  refine sat_chkB (by kernel_rfl) ?_
  refine sat_row [.int .u64 1] (by kernel_rfl) (by intro x hx; cases hx) fun u1 h1 B1 => ?_
  replace r_zz := h1.rdD r_zz; replace q_N1 := h1.rd (by decide) q_N1
  have q_N2 := rdi1 (x := 1) B1.lt (B1.cell 0 rfl)
  generalize u1.heap.size = N2 at *
  generalize (u1.alloc _) = wN2 at *
  clear B1 h1
  refine sat_chkB (by kernel_rfl) ?_
  refine sat_chkB (by kernel_rfl) ?_
  refine sat_chkB (by kernel_rfl) ?_
  have r_yN1_0 : RdD _ (.agg #[.bool false, .slice (some ⟨N1, 0, none⟩) 1 1, .int .i64 (0)]) ⟨false, [1], 0⟩ := ⟨_, _, _, rfl, q_N1, Lim.cons (by unfold BB; omega) Lim.nil, by decide, by decide⟩
  refine sat_call #[.agg #[.bool false, .slice (some ⟨N1, 0, none⟩) 1 1, .int .i64 0]] (by kernel_rfl) fun w1 h1 => ?_
  refine (ofI_any _ ((⟨false, [1], 0⟩ : Dy)) _ (h1.rdD r_yN1_0)).mono ?_
  rintro e v1 ⟨⟨A_o3, n_o3, c_o3, rfl, r_o3⟩, hb1⟩
  refine ⟨hb1, [.bool (⟨false, [1], 0⟩ : Dy).neg, .slice A_o3 n_o3 c_o3, .int .i64 (⟨false, [1], 0⟩ : Dy).e, .bool (⟨false, [1], 0⟩ : Dy).neg, .slice A_o3 n_o3 c_o3, .int .i64 (⟨false, [1], 0⟩ : Dy).e], _, rfl, by kernel_rfl, by kernel_rfl, fun g1 => ?_⟩
  replace r_zz := g1.rdD r_zz; replace q_N1 := g1.rd (by decide) q_N1; replace q_N2 := g1.rd (by decide) q_N2; replace r_yN1_0 := g1.rdD r_yN1_0
  clear h1 hb1
  refine sat_call #[.agg #[.bool false, .slice none 0 0, .int .i64 0], .agg #[.bool false, .slice (some ⟨N1, 0, none⟩) 1 1, .int .i64 0], .agg #[.bool (⟨false, [1], 0⟩ : Dy).neg, .slice A_o3 n_o3 c_o3, .int .i64 (⟨false, [1], 0⟩ : Dy).e, .bool (⟨false, [1], 0⟩ : Dy).neg, .slice A_o3 n_o3 c_o3, .int .i64 (⟨false, [1], 0⟩ : Dy).e]] (by kernel_rfl) fun w2 h2 => ?_
  refine (makeT_any _ _ _ (Dy.zero) ((⟨false, [1], 0⟩ : Dy)) ⟨(⟨false, [1], 0⟩ : Dy), (⟨false, [1], 0⟩ : Dy)⟩ _ (h2.rdD r_zz) (h2.rdD r_yN1_0) (mkI (h2.rdD r_o3) (h2.rdD r_o3))).mono ?_
  rintro e v2 ⟨⟨p_t4, q_t4, x_t4, A_t4, c_t4, B_t4, d_t4, rfl, h_t4, F_t41, F_t42⟩, hb2⟩
  obtain ⟨rfl, rfl, rfl⟩ := tk h_t4 (show _ = ((⟨[Dy.zero, (⟨false, [1], 0⟩ : Dy)], [(⟨(⟨false, [1], 0⟩ : Dy), (⟨false, [1], 0⟩ : Dy)⟩ : Iv)]⟩ : Tb), (0 : Int)) by kernel_rfl)
  refine ⟨hb2, [.slice A_t4 ([Dy.zero, (⟨false, [1], 0⟩ : Dy)] : List Dy).length c_t4, .slice B_t4 ([(⟨(⟨false, [1], 0⟩ : Dy), (⟨false, [1], 0⟩ : Dy)⟩ : Iv)] : List Iv).length d_t4, .int .i64 0], _, rfl, by kernel_rfl, by kernel_rfl, fun g2 => ?_⟩
  replace r_zz := g2.rdD r_zz; replace q_N1 := g2.rd (by decide) q_N1; replace q_N2 := g2.rd (by decide) q_N2; replace r_yN1_0 := g2.rdD r_yN1_0; replace r_o3 := g2.rdD r_o3
  replace F_t41 := F_t41.mv (Sx.Mv.fresh h2.wf)
  replace F_t42 := F_t42.mv (Sx.Mv.fresh h2.wf)
  clear h2 hb2
  refine sat_chkB (by kernel_rfl) ?_
  have r_yN2_1 : RdD _ (.agg #[.bool false, .slice (some ⟨N2, 0, none⟩) 1 1, .int .i64 (1)]) ⟨false, [1], 1⟩ := ⟨_, _, _, rfl, q_N2, Lim.cons (by unfold BB; omega) Lim.nil, by decide, by decide⟩
  refine sat_call #[.agg #[.bool false, .slice (some ⟨N2, 0, none⟩) 1 1, .int .i64 1]] (by kernel_rfl) fun w3 h3 => ?_
  refine (ofI_any _ ((⟨false, [1], 1⟩ : Dy)) _ (h3.rdD r_yN2_1)).mono ?_
  rintro e v3 ⟨⟨A_o5, n_o5, c_o5, rfl, r_o5⟩, hb3⟩
  refine ⟨hb3, [.bool (⟨false, [1], 1⟩ : Dy).neg, .slice A_o5 n_o5 c_o5, .int .i64 (⟨false, [1], 1⟩ : Dy).e, .bool (⟨false, [1], 1⟩ : Dy).neg, .slice A_o5 n_o5 c_o5, .int .i64 (⟨false, [1], 1⟩ : Dy).e], _, rfl, by kernel_rfl, by kernel_rfl, fun g3 => ?_⟩
  replace r_zz := g3.rdD r_zz; replace q_N1 := g3.rd (by decide) q_N1; replace q_N2 := g3.rd (by decide) q_N2; replace r_yN1_0 := g3.rdD r_yN1_0; replace r_o3 := g3.rdD r_o3; replace F_t41 := F_t41.mv g3.mv; replace F_t42 := F_t42.mv g3.mv; replace r_yN2_1 := g3.rdD r_yN2_1
  clear h3 hb3
  refine sat_call #[.agg #[.bool false, .slice (some ⟨N1, 0, none⟩) 1 1, .int .i64 0], .agg #[.bool false, .slice (some ⟨N2, 0, none⟩) 1 1, .int .i64 1], .agg #[.bool (⟨false, [1], 1⟩ : Dy).neg, .slice A_o5 n_o5 c_o5, .int .i64 (⟨false, [1], 1⟩ : Dy).e, .bool (⟨false, [1], 1⟩ : Dy).neg, .slice A_o5 n_o5 c_o5, .int .i64 (⟨false, [1], 1⟩ : Dy).e]] (by kernel_rfl) fun w4 h4 => ?_
  refine (makeT_any _ _ _ ((⟨false, [1], 0⟩ : Dy)) ((⟨false, [1], 1⟩ : Dy)) ⟨(⟨false, [1], 1⟩ : Dy), (⟨false, [1], 1⟩ : Dy)⟩ _ (h4.rdD r_yN1_0) (h4.rdD r_yN2_1) (mkI (h4.rdD r_o5) (h4.rdD r_o5))).mono ?_
  rintro e v4 ⟨⟨p_t6, q_t6, x_t6, A_t6, c_t6, B_t6, d_t6, rfl, h_t6, F_t61, F_t62⟩, hb4⟩
  obtain ⟨rfl, rfl, rfl⟩ := tk h_t6 (show _ = ((⟨[(⟨false, [1], 0⟩ : Dy), (⟨false, [1], 1⟩ : Dy)], [(⟨(⟨false, [1], 1⟩ : Dy), (⟨false, [1], 1⟩ : Dy)⟩ : Iv)]⟩ : Tb), (0 : Int)) by kernel_rfl)
  refine ⟨hb4, [.slice A_t6 ([(⟨false, [1], 0⟩ : Dy), (⟨false, [1], 1⟩ : Dy)] : List Dy).length c_t6, .slice B_t6 ([(⟨(⟨false, [1], 1⟩ : Dy), (⟨false, [1], 1⟩ : Dy)⟩ : Iv)] : List Iv).length d_t6, .int .i64 0], _, rfl, by kernel_rfl, by kernel_rfl, fun g4 => ?_⟩
  replace r_zz := g4.rdD r_zz; replace q_N1 := g4.rd (by decide) q_N1; replace q_N2 := g4.rd (by decide) q_N2; replace r_yN1_0 := g4.rdD r_yN1_0; replace r_o3 := g4.rdD r_o3; replace F_t41 := F_t41.mv g4.mv; replace F_t42 := F_t42.mv g4.mv; replace r_yN2_1 := g4.rdD r_yN2_1; replace r_o5 := g4.rdD r_o5
  replace F_t61 := F_t61.mv (Sx.Mv.fresh h4.wf)
  replace F_t62 := F_t62.mv (Sx.Mv.fresh h4.wf)
  clear h4 hb4
  refine sat_chkB (by kernel_rfl) ?_
  refine sat_call #[.agg #[.slice A_t4 ([Dy.zero, (⟨false, [1], 0⟩ : Dy)] : List Dy).length c_t4, .slice B_t4 ([(⟨(⟨false, [1], 0⟩ : Dy), (⟨false, [1], 0⟩ : Dy)⟩ : Iv)] : List Iv).length d_t4], .agg #[.slice A_t6 ([(⟨false, [1], 0⟩ : Dy), (⟨false, [1], 1⟩ : Dy)] : List Dy).length c_t6, .slice B_t6 ([(⟨(⟨false, [1], 1⟩ : Dy), (⟨false, [1], 1⟩ : Dy)⟩ : Iv)] : List Iv).length d_t6]] (by kernel_rfl) fun w5 h5 => ?_
  refine (joinT_any _ _ _ _ _ _ _ _ (⟨([Dy.zero, (⟨false, [1], 0⟩ : Dy)] : List Dy), ([(⟨(⟨false, [1], 0⟩ : Dy), (⟨false, [1], 0⟩ : Dy)⟩ : Iv)] : List Iv)⟩ : Tb) (⟨([(⟨false, [1], 0⟩ : Dy), (⟨false, [1], 1⟩ : Dy)] : List Dy), ([(⟨(⟨false, [1], 1⟩ : Dy), (⟨false, [1], 1⟩ : Dy)⟩ : Iv)] : List Iv)⟩ : Tb) _ ((F_t41.mv h5.mv).any) ((F_t42.mv h5.mv).any) ((F_t61.mv h5.mv).any) ((F_t62.mv h5.mv).any)).mono ?_
  rintro e v5 ⟨⟨p_t7, q_t7, x_t7, A_t7, c_t7, B_t7, d_t7, rfl, h_t7, F_t71, F_t72⟩, hb5⟩
  obtain ⟨rfl, rfl, rfl⟩ := tk h_t7 (show _ = ((⟨[Dy.zero, (⟨false, [1], 0⟩ : Dy), (⟨false, [1], 1⟩ : Dy)], [(⟨(⟨false, [1], 0⟩ : Dy), (⟨false, [1], 0⟩ : Dy)⟩ : Iv), (⟨(⟨false, [1], 1⟩ : Dy), (⟨false, [1], 1⟩ : Dy)⟩ : Iv)]⟩ : Tb), (0 : Int)) by kernel_rfl)
  refine ⟨hb5, [.slice A_t7 ([Dy.zero, (⟨false, [1], 0⟩ : Dy), (⟨false, [1], 1⟩ : Dy)] : List Dy).length c_t7, .slice B_t7 ([(⟨(⟨false, [1], 0⟩ : Dy), (⟨false, [1], 0⟩ : Dy)⟩ : Iv), (⟨(⟨false, [1], 1⟩ : Dy), (⟨false, [1], 1⟩ : Dy)⟩ : Iv)] : List Iv).length d_t7, .int .i64 0], _, rfl, by kernel_rfl, by kernel_rfl, fun g5 => ?_⟩
  replace r_zz := g5.rdD r_zz; replace q_N1 := g5.rd (by decide) q_N1; replace q_N2 := g5.rd (by decide) q_N2; replace r_yN1_0 := g5.rdD r_yN1_0; replace r_o3 := g5.rdD r_o3; replace F_t41 := F_t41.mv g5.mv; replace F_t42 := F_t42.mv g5.mv; replace r_yN2_1 := g5.rdD r_yN2_1; replace r_o5 := g5.rdD r_o5; replace F_t61 := F_t61.mv g5.mv; replace F_t62 := F_t62.mv g5.mv
  replace F_t71 := F_t71.mv (Sx.Mv.fresh h5.wf)
  replace F_t72 := F_t72.mv (Sx.Mv.fresh h5.wf)
  clear h5 hb5
  refine sat_chkB (by kernel_rfl) ?_
  refine sat_call #[.agg #[.slice A_t7 ([Dy.zero, (⟨false, [1], 0⟩ : Dy), (⟨false, [1], 1⟩ : Dy)] : List Dy).length c_t7, .slice B_t7 ([(⟨(⟨false, [1], 0⟩ : Dy), (⟨false, [1], 0⟩ : Dy)⟩ : Iv), (⟨(⟨false, [1], 1⟩ : Dy), (⟨false, [1], 1⟩ : Dy)⟩ : Iv)] : List Iv).length d_t7], .agg #[.bool false, .slice (some ⟨N1, 0, none⟩) 1 1, .int .i64 0]] (by kernel_rfl) fun w6 h6 => ?_
  refine (atT_any _ _ _ _ _ (⟨([Dy.zero, (⟨false, [1], 0⟩ : Dy), (⟨false, [1], 1⟩ : Dy)] : List Dy), ([(⟨(⟨false, [1], 0⟩ : Dy), (⟨false, [1], 0⟩ : Dy)⟩ : Iv), (⟨(⟨false, [1], 1⟩ : Dy), (⟨false, [1], 1⟩ : Dy)⟩ : Iv)] : List Iv)⟩ : Tb) ((⟨false, [1], 0⟩ : Dy)) _ ((F_t71.mv h6.mv).any) ((F_t72.mv h6.mv).any) (h6.rdD r_yN1_0)).mono ?_
  rintro e v6 ⟨⟨l_o8, g_o8, x_o8, A_o8, n_o8, c_o8, B_o8, m_o8, k_o8, h_o8, rfl, r_o8l, r_o8h⟩, hb6⟩
  obtain ⟨rfl, rfl, rfl⟩ := iv3 h_o8 (show _ = ((⟨(⟨false, [1], 0⟩ : Dy), (⟨false, [1], 1⟩ : Dy)⟩ : Iv), (0 : Int)) by kernel_rfl)
  refine ⟨hb6, [.bool (⟨false, [1], 0⟩ : Dy).neg, .slice A_o8 n_o8 c_o8, .int .i64 (⟨false, [1], 0⟩ : Dy).e, .bool (⟨false, [1], 1⟩ : Dy).neg, .slice B_o8 m_o8 k_o8, .int .i64 (⟨false, [1], 1⟩ : Dy).e, .int .i64 0], _, rfl, by kernel_rfl, by kernel_rfl, fun g6 => ?_⟩
  replace r_zz := g6.rdD r_zz; replace q_N1 := g6.rd (by decide) q_N1; replace q_N2 := g6.rd (by decide) q_N2; replace r_yN1_0 := g6.rdD r_yN1_0; replace r_o3 := g6.rdD r_o3; replace F_t41 := F_t41.mv g6.mv; replace F_t42 := F_t42.mv g6.mv; replace r_yN2_1 := g6.rdD r_yN2_1; replace r_o5 := g6.rdD r_o5; replace F_t61 := F_t61.mv g6.mv; replace F_t62 := F_t62.mv g6.mv; replace F_t71 := F_t71.mv g6.mv; replace F_t72 := F_t72.mv g6.mv
  clear h6 hb6
  refine sat_chkB (by kernel_rfl) ?_
  refine sat_row [.int .u64 3] (by kernel_rfl) (by intro x hx; cases hx) fun u1 h1 B1 => ?_
  replace r_zz := h1.rdD r_zz; replace q_N1 := h1.rd (by decide) q_N1; replace q_N2 := h1.rd (by decide) q_N2; replace r_yN1_0 := h1.rdD r_yN1_0; replace r_o3 := h1.rdD r_o3; replace F_t41 := F_t41.mv h1.mv; replace F_t42 := F_t42.mv h1.mv; replace r_yN2_1 := h1.rdD r_yN2_1; replace r_o5 := h1.rdD r_o5; replace F_t61 := F_t61.mv h1.mv; replace F_t62 := F_t62.mv h1.mv; replace F_t71 := F_t71.mv h1.mv; replace F_t72 := F_t72.mv h1.mv; replace r_o8l := h1.rdD r_o8l; replace r_o8h := h1.rdD r_o8h
  have q_N9 := rdi1 (x := 3) B1.lt (B1.cell 0 rfl)
  generalize u1.heap.size = N9 at *
  generalize (u1.alloc _) = wN9 at *
  clear B1 h1
  refine sat_chkB (by kernel_rfl) ?_
  have r_yN9_0 : RdD _ (.agg #[.bool false, .slice (some ⟨N9, 0, none⟩) 1 1, .int .i64 (0)]) ⟨false, [3], 0⟩ := ⟨_, _, _, rfl, q_N9, Lim.cons (by unfold BB; omega) Lim.nil, by decide, by decide⟩
  refine sat_call #[.agg #[.slice A_t7 ([Dy.zero, (⟨false, [1], 0⟩ : Dy), (⟨false, [1], 1⟩ : Dy)] : List Dy).length c_t7, .slice B_t7 ([(⟨(⟨false, [1], 0⟩ : Dy), (⟨false, [1], 0⟩ : Dy)⟩ : Iv), (⟨(⟨false, [1], 1⟩ : Dy), (⟨false, [1], 1⟩ : Dy)⟩ : Iv)] : List Iv).length d_t7], .agg #[.bool false, .slice (some ⟨N9, 0, none⟩) 1 1, .int .i64 0]] (by kernel_rfl) fun w7 h7 => ?_
  refine (atT_any _ _ _ _ _ (⟨([Dy.zero, (⟨false, [1], 0⟩ : Dy), (⟨false, [1], 1⟩ : Dy)] : List Dy), ([(⟨(⟨false, [1], 0⟩ : Dy), (⟨false, [1], 0⟩ : Dy)⟩ : Iv), (⟨(⟨false, [1], 1⟩ : Dy), (⟨false, [1], 1⟩ : Dy)⟩ : Iv)] : List Iv)⟩ : Tb) ((⟨false, [3], 0⟩ : Dy)) _ ((F_t71.mv h7.mv).any) ((F_t72.mv h7.mv).any) (h7.rdD r_yN9_0)).mono ?_
  rintro e v7 ⟨⟨l_o10, g_o10, x_o10, A_o10, n_o10, c_o10, B_o10, m_o10, k_o10, h_o10, rfl, r_o10l, r_o10h⟩, hb7⟩
  obtain ⟨rfl, rfl, rfl⟩ := iv3 h_o10 (show _ = ((⟨Dy.zero, Dy.zero⟩ : Iv), (5 : Int)) by kernel_rfl)
  refine ⟨hb7, [.bool Dy.zero.neg, .slice A_o10 n_o10 c_o10, .int .i64 Dy.zero.e, .bool Dy.zero.neg, .slice B_o10 m_o10 k_o10, .int .i64 Dy.zero.e, .int .i64 5], _, rfl, by kernel_rfl, by kernel_rfl, fun g7 => ?_⟩
  replace r_zz := g7.rdD r_zz; replace q_N1 := g7.rd (by decide) q_N1; replace q_N2 := g7.rd (by decide) q_N2; replace r_yN1_0 := g7.rdD r_yN1_0; replace r_o3 := g7.rdD r_o3; replace F_t41 := F_t41.mv g7.mv; replace F_t42 := F_t42.mv g7.mv; replace r_yN2_1 := g7.rdD r_yN2_1; replace r_o5 := g7.rdD r_o5; replace F_t61 := F_t61.mv g7.mv; replace F_t62 := F_t62.mv g7.mv; replace F_t71 := F_t71.mv g7.mv; replace F_t72 := F_t72.mv g7.mv; replace r_o8l := g7.rdD r_o8l; replace r_o8h := g7.rdD r_o8h; replace q_N9 := g7.rd (by decide) q_N9; replace r_yN9_0 := g7.rdD r_yN9_0
  clear h7 hb7
  refine sat_chkB (by kernel_rfl) ?_
  refine sat_call #[.agg #[.slice A_t7 ([Dy.zero, (⟨false, [1], 0⟩ : Dy), (⟨false, [1], 1⟩ : Dy)] : List Dy).length c_t7, .slice B_t7 ([(⟨(⟨false, [1], 0⟩ : Dy), (⟨false, [1], 0⟩ : Dy)⟩ : Iv), (⟨(⟨false, [1], 1⟩ : Dy), (⟨false, [1], 1⟩ : Dy)⟩ : Iv)] : List Iv).length d_t7]] (by kernel_rfl) fun w8 h8 => ?_
  refine (halveT_any _ _ _ _ (⟨([Dy.zero, (⟨false, [1], 0⟩ : Dy), (⟨false, [1], 1⟩ : Dy)] : List Dy), ([(⟨(⟨false, [1], 0⟩ : Dy), (⟨false, [1], 0⟩ : Dy)⟩ : Iv), (⟨(⟨false, [1], 1⟩ : Dy), (⟨false, [1], 1⟩ : Dy)⟩ : Iv)] : List Iv)⟩ : Tb) _ ((F_t71.mv h8.mv).any) ((F_t72.mv h8.mv).any) (h8.tab hT)).mono ?_
  rintro e v8 ⟨⟨p_t11, q_t11, x_t11, A_t11, c_t11, B_t11, d_t11, rfl, h_t11, F_t111, F_t112⟩, hb8⟩
  obtain ⟨rfl, rfl, rfl⟩ := tk h_t11 (show _ = ((⟨[Dy.zero, (⟨false, [1], -1⟩ : Dy), (⟨false, [1], 0⟩ : Dy), (⟨false, [3], -1⟩ : Dy), (⟨false, [1], 1⟩ : Dy)], [(⟨(⟨false, [1], 0⟩ : Dy), (⟨false, [1], 0⟩ : Dy)⟩ : Iv), (⟨(⟨false, [1], 0⟩ : Dy), (⟨false, [1], 0⟩ : Dy)⟩ : Iv), (⟨(⟨false, [1], 1⟩ : Dy), (⟨false, [1], 1⟩ : Dy)⟩ : Iv), (⟨(⟨false, [1], 1⟩ : Dy), (⟨false, [1], 1⟩ : Dy)⟩ : Iv)]⟩ : Tb), (0 : Int)) by kernel_rfl)
  refine ⟨hb8, [.slice A_t11 ([Dy.zero, (⟨false, [1], -1⟩ : Dy), (⟨false, [1], 0⟩ : Dy), (⟨false, [3], -1⟩ : Dy), (⟨false, [1], 1⟩ : Dy)] : List Dy).length c_t11, .slice B_t11 ([(⟨(⟨false, [1], 0⟩ : Dy), (⟨false, [1], 0⟩ : Dy)⟩ : Iv), (⟨(⟨false, [1], 0⟩ : Dy), (⟨false, [1], 0⟩ : Dy)⟩ : Iv), (⟨(⟨false, [1], 1⟩ : Dy), (⟨false, [1], 1⟩ : Dy)⟩ : Iv), (⟨(⟨false, [1], 1⟩ : Dy), (⟨false, [1], 1⟩ : Dy)⟩ : Iv)] : List Iv).length d_t11, .int .i64 0], _, rfl, by kernel_rfl, by kernel_rfl, fun g8 => ?_⟩
  replace r_zz := g8.rdD r_zz; replace q_N1 := g8.rd (by decide) q_N1; replace q_N2 := g8.rd (by decide) q_N2; replace r_yN1_0 := g8.rdD r_yN1_0; replace r_o3 := g8.rdD r_o3; replace F_t41 := F_t41.mv g8.mv; replace F_t42 := F_t42.mv g8.mv; replace r_yN2_1 := g8.rdD r_yN2_1; replace r_o5 := g8.rdD r_o5; replace F_t61 := F_t61.mv g8.mv; replace F_t62 := F_t62.mv g8.mv; replace F_t71 := F_t71.mv g8.mv; replace F_t72 := F_t72.mv g8.mv; replace r_o8l := g8.rdD r_o8l; replace r_o8h := g8.rdD r_o8h; replace q_N9 := g8.rd (by decide) q_N9; replace r_yN9_0 := g8.rdD r_yN9_0; replace r_o10l := g8.rdD r_o10l; replace r_o10h := g8.rdD r_o10h
  replace F_t111 := F_t111.mv (Sx.Mv.fresh h8.wf)
  replace F_t112 := F_t112.mv (Sx.Mv.fresh h8.wf)
  clear h8 hb8
  refine sat_chkB (by kernel_rfl) ?_
  refine sat_call #[.agg #[.bool false, .slice (some ⟨N1, 0, none⟩) 1 1, .int .i64 0]] (by kernel_rfl) fun w9 h9 => ?_
  refine (ofI_any _ ((⟨false, [1], 0⟩ : Dy)) _ (h9.rdD r_yN1_0)).mono ?_
  rintro e v9 ⟨⟨A_o12, n_o12, c_o12, rfl, r_o12⟩, hb9⟩
  refine ⟨hb9, [.bool (⟨false, [1], 0⟩ : Dy).neg, .slice A_o12 n_o12 c_o12, .int .i64 (⟨false, [1], 0⟩ : Dy).e, .bool (⟨false, [1], 0⟩ : Dy).neg, .slice A_o12 n_o12 c_o12, .int .i64 (⟨false, [1], 0⟩ : Dy).e], _, rfl, by kernel_rfl, by kernel_rfl, fun g9 => ?_⟩
  replace r_zz := g9.rdD r_zz; replace q_N1 := g9.rd (by decide) q_N1; replace q_N2 := g9.rd (by decide) q_N2; replace r_yN1_0 := g9.rdD r_yN1_0; replace r_o3 := g9.rdD r_o3; replace F_t41 := F_t41.mv g9.mv; replace F_t42 := F_t42.mv g9.mv; replace r_yN2_1 := g9.rdD r_yN2_1; replace r_o5 := g9.rdD r_o5; replace F_t61 := F_t61.mv g9.mv; replace F_t62 := F_t62.mv g9.mv; replace F_t71 := F_t71.mv g9.mv; replace F_t72 := F_t72.mv g9.mv; replace r_o8l := g9.rdD r_o8l; replace r_o8h := g9.rdD r_o8h; replace q_N9 := g9.rd (by decide) q_N9; replace r_yN9_0 := g9.rdD r_yN9_0; replace r_o10l := g9.rdD r_o10l; replace r_o10h := g9.rdD r_o10h; replace F_t111 := F_t111.mv g9.mv; replace F_t112 := F_t112.mv g9.mv
  clear h9 hb9
  refine sat_call #[.agg #[.bool false, .slice (some ⟨N1, 0, none⟩) 1 1, .int .i64 0], .agg #[.bool false, .slice (some ⟨N1, 0, none⟩) 1 1, .int .i64 0], .agg #[.bool (⟨false, [1], 0⟩ : Dy).neg, .slice A_o12 n_o12 c_o12, .int .i64 (⟨false, [1], 0⟩ : Dy).e, .bool (⟨false, [1], 0⟩ : Dy).neg, .slice A_o12 n_o12 c_o12, .int .i64 (⟨false, [1], 0⟩ : Dy).e]] (by kernel_rfl) fun w10 h10 => ?_
  refine (makeT_any _ _ _ ((⟨false, [1], 0⟩ : Dy)) ((⟨false, [1], 0⟩ : Dy)) ⟨(⟨false, [1], 0⟩ : Dy), (⟨false, [1], 0⟩ : Dy)⟩ _ (h10.rdD r_yN1_0) (h10.rdD r_yN1_0) (mkI (h10.rdD r_o12) (h10.rdD r_o12))).mono ?_
  rintro e v10 ⟨⟨p_t13, q_t13, x_t13, A_t13, c_t13, B_t13, d_t13, rfl, h_t13, F_t131, F_t132⟩, hb10⟩
  obtain ⟨rfl, rfl, rfl⟩ := tk h_t13 (show _ = ((⟨[], []⟩ : Tb), (1 : Int)) by kernel_rfl)
  refine ⟨hb10, [.slice A_t13 ([] : List Dy).length c_t13, .slice B_t13 ([] : List Iv).length d_t13, .int .i64 1], _, rfl, by kernel_rfl, by kernel_rfl, fun g10 => ?_⟩
  replace r_zz := g10.rdD r_zz; replace q_N1 := g10.rd (by decide) q_N1; replace q_N2 := g10.rd (by decide) q_N2; replace r_yN1_0 := g10.rdD r_yN1_0; replace r_o3 := g10.rdD r_o3; replace F_t41 := F_t41.mv g10.mv; replace F_t42 := F_t42.mv g10.mv; replace r_yN2_1 := g10.rdD r_yN2_1; replace r_o5 := g10.rdD r_o5; replace F_t61 := F_t61.mv g10.mv; replace F_t62 := F_t62.mv g10.mv; replace F_t71 := F_t71.mv g10.mv; replace F_t72 := F_t72.mv g10.mv; replace r_o8l := g10.rdD r_o8l; replace r_o8h := g10.rdD r_o8h; replace q_N9 := g10.rd (by decide) q_N9; replace r_yN9_0 := g10.rdD r_yN9_0; replace r_o10l := g10.rdD r_o10l; replace r_o10h := g10.rdD r_o10h; replace F_t111 := F_t111.mv g10.mv; replace F_t112 := F_t112.mv g10.mv; replace r_o12 := g10.rdD r_o12
  replace F_t131 := F_t131.mv (Sx.Mv.fresh h10.wf)
  replace F_t132 := F_t132.mv (Sx.Mv.fresh h10.wf)
  clear h10 hb10
  refine sat_chkB (by kernel_rfl) ?_
  refine sat_prim (v := .int .i64 0) (by kernel_rfl) ?_
  refine sat_prim (v := .int .i64 0) (by kernel_rfl) ?_
  refine sat_prim (v := .int .i64 0) (by kernel_rfl) ?_
  refine sat_prim (v := .int .i64 0) (by kernel_rfl) ?_
  refine sat_prim (v := .bool true) (by kernel_rfl) ?_
  refine sat_true (by kernel_rfl) ?_
  refine sat_call #[.agg #[.bool (⟨false, [1], 0⟩ : Dy).neg, .slice A_o8 n_o8 c_o8, .int .i64 (⟨false, [1], 0⟩ : Dy).e], .agg #[.bool false, .slice (some ⟨N1, 0, none⟩) 1 1, .int .i64 0]] (by kernel_rfl) fun w11 h11 => ?_
  refine (sameD_any _ _ ((⟨false, [1], 0⟩ : Dy)) ((⟨false, [1], 0⟩ : Dy)) _ (h11.rdD r_o8l) (h11.rdD r_yN1_0)).mono ?_
  rintro e v11 ⟨rfl, hb11⟩
  refine ⟨hb11, [.bool (sameD (⟨false, [1], 0⟩ : Dy) (⟨false, [1], 0⟩ : Dy))], _, rfl, by kernel_rfl, by kernel_rfl, fun g11 => ?_⟩
  replace r_zz := g11.rdD r_zz; replace q_N1 := g11.rd (by decide) q_N1; replace q_N2 := g11.rd (by decide) q_N2; replace r_yN1_0 := g11.rdD r_yN1_0; replace r_o3 := g11.rdD r_o3; replace F_t41 := F_t41.mv g11.mv; replace F_t42 := F_t42.mv g11.mv; replace r_yN2_1 := g11.rdD r_yN2_1; replace r_o5 := g11.rdD r_o5; replace F_t61 := F_t61.mv g11.mv; replace F_t62 := F_t62.mv g11.mv; replace F_t71 := F_t71.mv g11.mv; replace F_t72 := F_t72.mv g11.mv; replace r_o8l := g11.rdD r_o8l; replace r_o8h := g11.rdD r_o8h; replace q_N9 := g11.rd (by decide) q_N9; replace r_yN9_0 := g11.rdD r_yN9_0; replace r_o10l := g11.rdD r_o10l; replace r_o10h := g11.rdD r_o10h; replace F_t111 := F_t111.mv g11.mv; replace F_t112 := F_t112.mv g11.mv; replace r_o12 := g11.rdD r_o12; replace F_t131 := F_t131.mv g11.mv; replace F_t132 := F_t132.mv g11.mv
  clear h11 hb11
  refine sat_trueP (b := (sameD (⟨false, [1], 0⟩ : Dy) (⟨false, [1], 0⟩ : Dy))) (by kernel_rfl) (sameD_self _) ?_
  refine sat_call #[.agg #[.bool (⟨false, [1], 1⟩ : Dy).neg, .slice B_o8 m_o8 k_o8, .int .i64 (⟨false, [1], 1⟩ : Dy).e], .agg #[.bool false, .slice (some ⟨N2, 0, none⟩) 1 1, .int .i64 1]] (by kernel_rfl) fun w12 h12 => ?_
  refine (sameD_any _ _ ((⟨false, [1], 1⟩ : Dy)) ((⟨false, [1], 1⟩ : Dy)) _ (h12.rdD r_o8h) (h12.rdD r_yN2_1)).mono ?_
  rintro e v12 ⟨rfl, hb12⟩
  refine ⟨hb12, [.bool (sameD (⟨false, [1], 1⟩ : Dy) (⟨false, [1], 1⟩ : Dy))], _, rfl, by kernel_rfl, by kernel_rfl, fun g12 => ?_⟩
  replace r_zz := g12.rdD r_zz; replace q_N1 := g12.rd (by decide) q_N1; replace q_N2 := g12.rd (by decide) q_N2; replace r_yN1_0 := g12.rdD r_yN1_0; replace r_o3 := g12.rdD r_o3; replace F_t41 := F_t41.mv g12.mv; replace F_t42 := F_t42.mv g12.mv; replace r_yN2_1 := g12.rdD r_yN2_1; replace r_o5 := g12.rdD r_o5; replace F_t61 := F_t61.mv g12.mv; replace F_t62 := F_t62.mv g12.mv; replace F_t71 := F_t71.mv g12.mv; replace F_t72 := F_t72.mv g12.mv; replace r_o8l := g12.rdD r_o8l; replace r_o8h := g12.rdD r_o8h; replace q_N9 := g12.rd (by decide) q_N9; replace r_yN9_0 := g12.rdD r_yN9_0; replace r_o10l := g12.rdD r_o10l; replace r_o10h := g12.rdD r_o10h; replace F_t111 := F_t111.mv g12.mv; replace F_t112 := F_t112.mv g12.mv; replace r_o12 := g12.rdD r_o12; replace F_t131 := F_t131.mv g12.mv; replace F_t132 := F_t132.mv g12.mv
  clear h12 hb12
  refine sat_trueP (b := (sameD (⟨false, [1], 1⟩ : Dy) (⟨false, [1], 1⟩ : Dy))) (by kernel_rfl) (sameD_self _) ?_
  refine sat_prim (v := .bool true) (by kernel_rfl) ?_
  refine sat_true (by kernel_rfl) ?_
  refine sat_prim (v := .int .i64 4) (by kernel_rfl) ?_
  refine sat_prim (v := .bool true) (by kernel_rfl) ?_
  refine sat_true (by kernel_rfl) ?_
  refine sat_prim (v := .bool true) (by kernel_rfl) ?_
  refine sat_true (by kernel_rfl) ?_
  refine sat_call #[.agg #[.slice A_t7 ([Dy.zero, (⟨false, [1], 0⟩ : Dy), (⟨false, [1], 1⟩ : Dy)] : List Dy).length c_t7, .slice B_t7 ([(⟨(⟨false, [1], 0⟩ : Dy), (⟨false, [1], 0⟩ : Dy)⟩ : Iv), (⟨(⟨false, [1], 1⟩ : Dy), (⟨false, [1], 1⟩ : Dy)⟩ : Iv)] : List Iv).length d_t7], .agg #[.slice A_t11 ([Dy.zero, (⟨false, [1], -1⟩ : Dy), (⟨false, [1], 0⟩ : Dy), (⟨false, [3], -1⟩ : Dy), (⟨false, [1], 1⟩ : Dy)] : List Dy).length c_t11, .slice B_t11 ([(⟨(⟨false, [1], 0⟩ : Dy), (⟨false, [1], 0⟩ : Dy)⟩ : Iv), (⟨(⟨false, [1], 0⟩ : Dy), (⟨false, [1], 0⟩ : Dy)⟩ : Iv), (⟨(⟨false, [1], 1⟩ : Dy), (⟨false, [1], 1⟩ : Dy)⟩ : Iv), (⟨(⟨false, [1], 1⟩ : Dy), (⟨false, [1], 1⟩ : Dy)⟩ : Iv)] : List Iv).length d_t11]] (by kernel_rfl) fun w13 h13 => ?_
  refine (withinT_any _ _ _ _ _ _ _ _ (⟨([Dy.zero, (⟨false, [1], 0⟩ : Dy), (⟨false, [1], 1⟩ : Dy)] : List Dy), ([(⟨(⟨false, [1], 0⟩ : Dy), (⟨false, [1], 0⟩ : Dy)⟩ : Iv), (⟨(⟨false, [1], 1⟩ : Dy), (⟨false, [1], 1⟩ : Dy)⟩ : Iv)] : List Iv)⟩ : Tb) (⟨([Dy.zero, (⟨false, [1], -1⟩ : Dy), (⟨false, [1], 0⟩ : Dy), (⟨false, [3], -1⟩ : Dy), (⟨false, [1], 1⟩ : Dy)] : List Dy), ([(⟨(⟨false, [1], 0⟩ : Dy), (⟨false, [1], 0⟩ : Dy)⟩ : Iv), (⟨(⟨false, [1], 0⟩ : Dy), (⟨false, [1], 0⟩ : Dy)⟩ : Iv), (⟨(⟨false, [1], 1⟩ : Dy), (⟨false, [1], 1⟩ : Dy)⟩ : Iv), (⟨(⟨false, [1], 1⟩ : Dy), (⟨false, [1], 1⟩ : Dy)⟩ : Iv)] : List Iv)⟩ : Tb) _ ((F_t71.mv h13.mv).any) ((F_t72.mv h13.mv).any) ((F_t111.mv h13.mv).any) ((F_t112.mv h13.mv).any)).mono ?_
  rintro e v13 ⟨rfl, hb13⟩
  refine ⟨hb13, [.bool (besideT withinI (⟨([Dy.zero, (⟨false, [1], 0⟩ : Dy), (⟨false, [1], 1⟩ : Dy)] : List Dy), ([(⟨(⟨false, [1], 0⟩ : Dy), (⟨false, [1], 0⟩ : Dy)⟩ : Iv), (⟨(⟨false, [1], 1⟩ : Dy), (⟨false, [1], 1⟩ : Dy)⟩ : Iv)] : List Iv)⟩ : Tb) (⟨([Dy.zero, (⟨false, [1], -1⟩ : Dy), (⟨false, [1], 0⟩ : Dy), (⟨false, [3], -1⟩ : Dy), (⟨false, [1], 1⟩ : Dy)] : List Dy), ([(⟨(⟨false, [1], 0⟩ : Dy), (⟨false, [1], 0⟩ : Dy)⟩ : Iv), (⟨(⟨false, [1], 0⟩ : Dy), (⟨false, [1], 0⟩ : Dy)⟩ : Iv), (⟨(⟨false, [1], 1⟩ : Dy), (⟨false, [1], 1⟩ : Dy)⟩ : Iv), (⟨(⟨false, [1], 1⟩ : Dy), (⟨false, [1], 1⟩ : Dy)⟩ : Iv)] : List Iv)⟩ : Tb))], _, rfl, by kernel_rfl, by kernel_rfl, fun g13 => ?_⟩
  replace r_zz := g13.rdD r_zz; replace q_N1 := g13.rd (by decide) q_N1; replace q_N2 := g13.rd (by decide) q_N2; replace r_yN1_0 := g13.rdD r_yN1_0; replace r_o3 := g13.rdD r_o3; replace F_t41 := F_t41.mv g13.mv; replace F_t42 := F_t42.mv g13.mv; replace r_yN2_1 := g13.rdD r_yN2_1; replace r_o5 := g13.rdD r_o5; replace F_t61 := F_t61.mv g13.mv; replace F_t62 := F_t62.mv g13.mv; replace F_t71 := F_t71.mv g13.mv; replace F_t72 := F_t72.mv g13.mv; replace r_o8l := g13.rdD r_o8l; replace r_o8h := g13.rdD r_o8h; replace q_N9 := g13.rd (by decide) q_N9; replace r_yN9_0 := g13.rdD r_yN9_0; replace r_o10l := g13.rdD r_o10l; replace r_o10h := g13.rdD r_o10h; replace F_t111 := F_t111.mv g13.mv; replace F_t112 := F_t112.mv g13.mv; replace r_o12 := g13.rdD r_o12; replace F_t131 := F_t131.mv g13.mv; replace F_t132 := F_t132.mv g13.mv
  clear h13 hb13
  refine sat_trueP (b := (besideT withinI (⟨([Dy.zero, (⟨false, [1], 0⟩ : Dy), (⟨false, [1], 1⟩ : Dy)] : List Dy), ([(⟨(⟨false, [1], 0⟩ : Dy), (⟨false, [1], 0⟩ : Dy)⟩ : Iv), (⟨(⟨false, [1], 1⟩ : Dy), (⟨false, [1], 1⟩ : Dy)⟩ : Iv)] : List Iv)⟩ : Tb) (⟨([Dy.zero, (⟨false, [1], -1⟩ : Dy), (⟨false, [1], 0⟩ : Dy), (⟨false, [3], -1⟩ : Dy), (⟨false, [1], 1⟩ : Dy)] : List Dy), ([(⟨(⟨false, [1], 0⟩ : Dy), (⟨false, [1], 0⟩ : Dy)⟩ : Iv), (⟨(⟨false, [1], 0⟩ : Dy), (⟨false, [1], 0⟩ : Dy)⟩ : Iv), (⟨(⟨false, [1], 1⟩ : Dy), (⟨false, [1], 1⟩ : Dy)⟩ : Iv), (⟨(⟨false, [1], 1⟩ : Dy), (⟨false, [1], 1⟩ : Dy)⟩ : Iv)] : List Iv)⟩ : Tb))) (by kernel_rfl) (by kernel_rfl) ?_
  refine sat_call #[.agg #[.slice A_t11 ([Dy.zero, (⟨false, [1], -1⟩ : Dy), (⟨false, [1], 0⟩ : Dy), (⟨false, [3], -1⟩ : Dy), (⟨false, [1], 1⟩ : Dy)] : List Dy).length c_t11, .slice B_t11 ([(⟨(⟨false, [1], 0⟩ : Dy), (⟨false, [1], 0⟩ : Dy)⟩ : Iv), (⟨(⟨false, [1], 0⟩ : Dy), (⟨false, [1], 0⟩ : Dy)⟩ : Iv), (⟨(⟨false, [1], 1⟩ : Dy), (⟨false, [1], 1⟩ : Dy)⟩ : Iv), (⟨(⟨false, [1], 1⟩ : Dy), (⟨false, [1], 1⟩ : Dy)⟩ : Iv)] : List Iv).length d_t11], .agg #[.slice A_t7 ([Dy.zero, (⟨false, [1], 0⟩ : Dy), (⟨false, [1], 1⟩ : Dy)] : List Dy).length c_t7, .slice B_t7 ([(⟨(⟨false, [1], 0⟩ : Dy), (⟨false, [1], 0⟩ : Dy)⟩ : Iv), (⟨(⟨false, [1], 1⟩ : Dy), (⟨false, [1], 1⟩ : Dy)⟩ : Iv)] : List Iv).length d_t7]] (by kernel_rfl) fun w14 h14 => ?_
  refine (withinT_any _ _ _ _ _ _ _ _ (⟨([Dy.zero, (⟨false, [1], -1⟩ : Dy), (⟨false, [1], 0⟩ : Dy), (⟨false, [3], -1⟩ : Dy), (⟨false, [1], 1⟩ : Dy)] : List Dy), ([(⟨(⟨false, [1], 0⟩ : Dy), (⟨false, [1], 0⟩ : Dy)⟩ : Iv), (⟨(⟨false, [1], 0⟩ : Dy), (⟨false, [1], 0⟩ : Dy)⟩ : Iv), (⟨(⟨false, [1], 1⟩ : Dy), (⟨false, [1], 1⟩ : Dy)⟩ : Iv), (⟨(⟨false, [1], 1⟩ : Dy), (⟨false, [1], 1⟩ : Dy)⟩ : Iv)] : List Iv)⟩ : Tb) (⟨([Dy.zero, (⟨false, [1], 0⟩ : Dy), (⟨false, [1], 1⟩ : Dy)] : List Dy), ([(⟨(⟨false, [1], 0⟩ : Dy), (⟨false, [1], 0⟩ : Dy)⟩ : Iv), (⟨(⟨false, [1], 1⟩ : Dy), (⟨false, [1], 1⟩ : Dy)⟩ : Iv)] : List Iv)⟩ : Tb) _ ((F_t111.mv h14.mv).any) ((F_t112.mv h14.mv).any) ((F_t71.mv h14.mv).any) ((F_t72.mv h14.mv).any)).mono ?_
  rintro e v14 ⟨rfl, hb14⟩
  refine ⟨hb14, [.bool (besideT withinI (⟨([Dy.zero, (⟨false, [1], -1⟩ : Dy), (⟨false, [1], 0⟩ : Dy), (⟨false, [3], -1⟩ : Dy), (⟨false, [1], 1⟩ : Dy)] : List Dy), ([(⟨(⟨false, [1], 0⟩ : Dy), (⟨false, [1], 0⟩ : Dy)⟩ : Iv), (⟨(⟨false, [1], 0⟩ : Dy), (⟨false, [1], 0⟩ : Dy)⟩ : Iv), (⟨(⟨false, [1], 1⟩ : Dy), (⟨false, [1], 1⟩ : Dy)⟩ : Iv), (⟨(⟨false, [1], 1⟩ : Dy), (⟨false, [1], 1⟩ : Dy)⟩ : Iv)] : List Iv)⟩ : Tb) (⟨([Dy.zero, (⟨false, [1], 0⟩ : Dy), (⟨false, [1], 1⟩ : Dy)] : List Dy), ([(⟨(⟨false, [1], 0⟩ : Dy), (⟨false, [1], 0⟩ : Dy)⟩ : Iv), (⟨(⟨false, [1], 1⟩ : Dy), (⟨false, [1], 1⟩ : Dy)⟩ : Iv)] : List Iv)⟩ : Tb))], _, rfl, by kernel_rfl, by kernel_rfl, fun g14 => ?_⟩
  replace r_zz := g14.rdD r_zz; replace q_N1 := g14.rd (by decide) q_N1; replace q_N2 := g14.rd (by decide) q_N2; replace r_yN1_0 := g14.rdD r_yN1_0; replace r_o3 := g14.rdD r_o3; replace F_t41 := F_t41.mv g14.mv; replace F_t42 := F_t42.mv g14.mv; replace r_yN2_1 := g14.rdD r_yN2_1; replace r_o5 := g14.rdD r_o5; replace F_t61 := F_t61.mv g14.mv; replace F_t62 := F_t62.mv g14.mv; replace F_t71 := F_t71.mv g14.mv; replace F_t72 := F_t72.mv g14.mv; replace r_o8l := g14.rdD r_o8l; replace r_o8h := g14.rdD r_o8h; replace q_N9 := g14.rd (by decide) q_N9; replace r_yN9_0 := g14.rdD r_yN9_0; replace r_o10l := g14.rdD r_o10l; replace r_o10h := g14.rdD r_o10h; replace F_t111 := F_t111.mv g14.mv; replace F_t112 := F_t112.mv g14.mv; replace r_o12 := g14.rdD r_o12; replace F_t131 := F_t131.mv g14.mv; replace F_t132 := F_t132.mv g14.mv
  clear h14 hb14
  refine sat_trueP (b := (besideT withinI (⟨([Dy.zero, (⟨false, [1], -1⟩ : Dy), (⟨false, [1], 0⟩ : Dy), (⟨false, [3], -1⟩ : Dy), (⟨false, [1], 1⟩ : Dy)] : List Dy), ([(⟨(⟨false, [1], 0⟩ : Dy), (⟨false, [1], 0⟩ : Dy)⟩ : Iv), (⟨(⟨false, [1], 0⟩ : Dy), (⟨false, [1], 0⟩ : Dy)⟩ : Iv), (⟨(⟨false, [1], 1⟩ : Dy), (⟨false, [1], 1⟩ : Dy)⟩ : Iv), (⟨(⟨false, [1], 1⟩ : Dy), (⟨false, [1], 1⟩ : Dy)⟩ : Iv)] : List Iv)⟩ : Tb) (⟨([Dy.zero, (⟨false, [1], 0⟩ : Dy), (⟨false, [1], 1⟩ : Dy)] : List Dy), ([(⟨(⟨false, [1], 0⟩ : Dy), (⟨false, [1], 0⟩ : Dy)⟩ : Iv), (⟨(⟨false, [1], 1⟩ : Dy), (⟨false, [1], 1⟩ : Dy)⟩ : Iv)] : List Iv)⟩ : Tb))) (by kernel_rfl) (by kernel_rfl) ?_
  refine sat_call #[.agg #[.slice A_t7 ([Dy.zero, (⟨false, [1], 0⟩ : Dy), (⟨false, [1], 1⟩ : Dy)] : List Dy).length c_t7, .slice B_t7 ([(⟨(⟨false, [1], 0⟩ : Dy), (⟨false, [1], 0⟩ : Dy)⟩ : Iv), (⟨(⟨false, [1], 1⟩ : Dy), (⟨false, [1], 1⟩ : Dy)⟩ : Iv)] : List Iv).length d_t7], .agg #[.slice A_t11 ([Dy.zero, (⟨false, [1], -1⟩ : Dy), (⟨false, [1], 0⟩ : Dy), (⟨false, [3], -1⟩ : Dy), (⟨false, [1], 1⟩ : Dy)] : List Dy).length c_t11, .slice B_t11 ([(⟨(⟨false, [1], 0⟩ : Dy), (⟨false, [1], 0⟩ : Dy)⟩ : Iv), (⟨(⟨false, [1], 0⟩ : Dy), (⟨false, [1], 0⟩ : Dy)⟩ : Iv), (⟨(⟨false, [1], 1⟩ : Dy), (⟨false, [1], 1⟩ : Dy)⟩ : Iv), (⟨(⟨false, [1], 1⟩ : Dy), (⟨false, [1], 1⟩ : Dy)⟩ : Iv)] : List Iv).length d_t11]] (by kernel_rfl) fun w15 h15 => ?_
  refine (insideT_any _ _ _ _ _ _ _ _ (⟨([Dy.zero, (⟨false, [1], 0⟩ : Dy), (⟨false, [1], 1⟩ : Dy)] : List Dy), ([(⟨(⟨false, [1], 0⟩ : Dy), (⟨false, [1], 0⟩ : Dy)⟩ : Iv), (⟨(⟨false, [1], 1⟩ : Dy), (⟨false, [1], 1⟩ : Dy)⟩ : Iv)] : List Iv)⟩ : Tb) (⟨([Dy.zero, (⟨false, [1], -1⟩ : Dy), (⟨false, [1], 0⟩ : Dy), (⟨false, [3], -1⟩ : Dy), (⟨false, [1], 1⟩ : Dy)] : List Dy), ([(⟨(⟨false, [1], 0⟩ : Dy), (⟨false, [1], 0⟩ : Dy)⟩ : Iv), (⟨(⟨false, [1], 0⟩ : Dy), (⟨false, [1], 0⟩ : Dy)⟩ : Iv), (⟨(⟨false, [1], 1⟩ : Dy), (⟨false, [1], 1⟩ : Dy)⟩ : Iv), (⟨(⟨false, [1], 1⟩ : Dy), (⟨false, [1], 1⟩ : Dy)⟩ : Iv)] : List Iv)⟩ : Tb) _ ((F_t71.mv h15.mv).any) ((F_t72.mv h15.mv).any) ((F_t111.mv h15.mv).any) ((F_t112.mv h15.mv).any)).mono ?_
  rintro e v15 ⟨rfl, hb15⟩
  refine ⟨hb15, [.bool (besideT insideI (⟨([Dy.zero, (⟨false, [1], 0⟩ : Dy), (⟨false, [1], 1⟩ : Dy)] : List Dy), ([(⟨(⟨false, [1], 0⟩ : Dy), (⟨false, [1], 0⟩ : Dy)⟩ : Iv), (⟨(⟨false, [1], 1⟩ : Dy), (⟨false, [1], 1⟩ : Dy)⟩ : Iv)] : List Iv)⟩ : Tb) (⟨([Dy.zero, (⟨false, [1], -1⟩ : Dy), (⟨false, [1], 0⟩ : Dy), (⟨false, [3], -1⟩ : Dy), (⟨false, [1], 1⟩ : Dy)] : List Dy), ([(⟨(⟨false, [1], 0⟩ : Dy), (⟨false, [1], 0⟩ : Dy)⟩ : Iv), (⟨(⟨false, [1], 0⟩ : Dy), (⟨false, [1], 0⟩ : Dy)⟩ : Iv), (⟨(⟨false, [1], 1⟩ : Dy), (⟨false, [1], 1⟩ : Dy)⟩ : Iv), (⟨(⟨false, [1], 1⟩ : Dy), (⟨false, [1], 1⟩ : Dy)⟩ : Iv)] : List Iv)⟩ : Tb))], _, rfl, by kernel_rfl, by kernel_rfl, fun g15 => ?_⟩
  replace r_zz := g15.rdD r_zz; replace q_N1 := g15.rd (by decide) q_N1; replace q_N2 := g15.rd (by decide) q_N2; replace r_yN1_0 := g15.rdD r_yN1_0; replace r_o3 := g15.rdD r_o3; replace F_t41 := F_t41.mv g15.mv; replace F_t42 := F_t42.mv g15.mv; replace r_yN2_1 := g15.rdD r_yN2_1; replace r_o5 := g15.rdD r_o5; replace F_t61 := F_t61.mv g15.mv; replace F_t62 := F_t62.mv g15.mv; replace F_t71 := F_t71.mv g15.mv; replace F_t72 := F_t72.mv g15.mv; replace r_o8l := g15.rdD r_o8l; replace r_o8h := g15.rdD r_o8h; replace q_N9 := g15.rd (by decide) q_N9; replace r_yN9_0 := g15.rdD r_yN9_0; replace r_o10l := g15.rdD r_o10l; replace r_o10h := g15.rdD r_o10h; replace F_t111 := F_t111.mv g15.mv; replace F_t112 := F_t112.mv g15.mv; replace r_o12 := g15.rdD r_o12; replace F_t131 := F_t131.mv g15.mv; replace F_t132 := F_t132.mv g15.mv
  clear h15 hb15
  refine sat_prim (v := .bool (!(besideT insideI (⟨([Dy.zero, (⟨false, [1], 0⟩ : Dy), (⟨false, [1], 1⟩ : Dy)] : List Dy), ([(⟨(⟨false, [1], 0⟩ : Dy), (⟨false, [1], 0⟩ : Dy)⟩ : Iv), (⟨(⟨false, [1], 1⟩ : Dy), (⟨false, [1], 1⟩ : Dy)⟩ : Iv)] : List Iv)⟩ : Tb) (⟨([Dy.zero, (⟨false, [1], -1⟩ : Dy), (⟨false, [1], 0⟩ : Dy), (⟨false, [3], -1⟩ : Dy), (⟨false, [1], 1⟩ : Dy)] : List Dy), ([(⟨(⟨false, [1], 0⟩ : Dy), (⟨false, [1], 0⟩ : Dy)⟩ : Iv), (⟨(⟨false, [1], 0⟩ : Dy), (⟨false, [1], 0⟩ : Dy)⟩ : Iv), (⟨(⟨false, [1], 1⟩ : Dy), (⟨false, [1], 1⟩ : Dy)⟩ : Iv), (⟨(⟨false, [1], 1⟩ : Dy), (⟨false, [1], 1⟩ : Dy)⟩ : Iv)] : List Iv)⟩ : Tb)))) (by kernel_rfl) ?_
  refine sat_trueP (b := (!(besideT insideI (⟨([Dy.zero, (⟨false, [1], 0⟩ : Dy), (⟨false, [1], 1⟩ : Dy)] : List Dy), ([(⟨(⟨false, [1], 0⟩ : Dy), (⟨false, [1], 0⟩ : Dy)⟩ : Iv), (⟨(⟨false, [1], 1⟩ : Dy), (⟨false, [1], 1⟩ : Dy)⟩ : Iv)] : List Iv)⟩ : Tb) (⟨([Dy.zero, (⟨false, [1], -1⟩ : Dy), (⟨false, [1], 0⟩ : Dy), (⟨false, [3], -1⟩ : Dy), (⟨false, [1], 1⟩ : Dy)] : List Dy), ([(⟨(⟨false, [1], 0⟩ : Dy), (⟨false, [1], 0⟩ : Dy)⟩ : Iv), (⟨(⟨false, [1], 0⟩ : Dy), (⟨false, [1], 0⟩ : Dy)⟩ : Iv), (⟨(⟨false, [1], 1⟩ : Dy), (⟨false, [1], 1⟩ : Dy)⟩ : Iv), (⟨(⟨false, [1], 1⟩ : Dy), (⟨false, [1], 1⟩ : Dy)⟩ : Iv)] : List Iv)⟩ : Tb)))) (by kernel_rfl) (by rw [show (besideT insideI (⟨([Dy.zero, (⟨false, [1], 0⟩ : Dy), (⟨false, [1], 1⟩ : Dy)] : List Dy), ([(⟨(⟨false, [1], 0⟩ : Dy), (⟨false, [1], 0⟩ : Dy)⟩ : Iv), (⟨(⟨false, [1], 1⟩ : Dy), (⟨false, [1], 1⟩ : Dy)⟩ : Iv)] : List Iv)⟩ : Tb) (⟨([Dy.zero, (⟨false, [1], -1⟩ : Dy), (⟨false, [1], 0⟩ : Dy), (⟨false, [3], -1⟩ : Dy), (⟨false, [1], 1⟩ : Dy)] : List Dy), ([(⟨(⟨false, [1], 0⟩ : Dy), (⟨false, [1], 0⟩ : Dy)⟩ : Iv), (⟨(⟨false, [1], 0⟩ : Dy), (⟨false, [1], 0⟩ : Dy)⟩ : Iv), (⟨(⟨false, [1], 1⟩ : Dy), (⟨false, [1], 1⟩ : Dy)⟩ : Iv), (⟨(⟨false, [1], 1⟩ : Dy), (⟨false, [1], 1⟩ : Dy)⟩ : Iv)] : List Iv)⟩ : Tb)) = false from by kernel_rfl]; rfl) ?_
  refine sat_call #[.agg #[.slice A_t7 ([Dy.zero, (⟨false, [1], 0⟩ : Dy), (⟨false, [1], 1⟩ : Dy)] : List Dy).length c_t7, .slice B_t7 ([(⟨(⟨false, [1], 0⟩ : Dy), (⟨false, [1], 0⟩ : Dy)⟩ : Iv), (⟨(⟨false, [1], 1⟩ : Dy), (⟨false, [1], 1⟩ : Dy)⟩ : Iv)] : List Iv).length d_t7]] (by kernel_rfl) fun w16 h16 => ?_
  refine (mayT_any _ _ _ _ (⟨([Dy.zero, (⟨false, [1], 0⟩ : Dy), (⟨false, [1], 1⟩ : Dy)] : List Dy), ([(⟨(⟨false, [1], 0⟩ : Dy), (⟨false, [1], 0⟩ : Dy)⟩ : Iv), (⟨(⟨false, [1], 1⟩ : Dy), (⟨false, [1], 1⟩ : Dy)⟩ : Iv)] : List Iv)⟩ : Tb) _ ((F_t71.mv h16.mv).any) ((F_t72.mv h16.mv).any)).mono ?_
  rintro e v16 ⟨rfl, hb16⟩
  refine ⟨hb16, [.bool (mayT (⟨([Dy.zero, (⟨false, [1], 0⟩ : Dy), (⟨false, [1], 1⟩ : Dy)] : List Dy), ([(⟨(⟨false, [1], 0⟩ : Dy), (⟨false, [1], 0⟩ : Dy)⟩ : Iv), (⟨(⟨false, [1], 1⟩ : Dy), (⟨false, [1], 1⟩ : Dy)⟩ : Iv)] : List Iv)⟩ : Tb))], _, rfl, by kernel_rfl, by kernel_rfl, fun g16 => ?_⟩
  replace r_zz := g16.rdD r_zz; replace q_N1 := g16.rd (by decide) q_N1; replace q_N2 := g16.rd (by decide) q_N2; replace r_yN1_0 := g16.rdD r_yN1_0; replace r_o3 := g16.rdD r_o3; replace F_t41 := F_t41.mv g16.mv; replace F_t42 := F_t42.mv g16.mv; replace r_yN2_1 := g16.rdD r_yN2_1; replace r_o5 := g16.rdD r_o5; replace F_t61 := F_t61.mv g16.mv; replace F_t62 := F_t62.mv g16.mv; replace F_t71 := F_t71.mv g16.mv; replace F_t72 := F_t72.mv g16.mv; replace r_o8l := g16.rdD r_o8l; replace r_o8h := g16.rdD r_o8h; replace q_N9 := g16.rd (by decide) q_N9; replace r_yN9_0 := g16.rdD r_yN9_0; replace r_o10l := g16.rdD r_o10l; replace r_o10h := g16.rdD r_o10h; replace F_t111 := F_t111.mv g16.mv; replace F_t112 := F_t112.mv g16.mv; replace r_o12 := g16.rdD r_o12; replace F_t131 := F_t131.mv g16.mv; replace F_t132 := F_t132.mv g16.mv
  clear h16 hb16
  refine sat_trueP (b := (mayT (⟨([Dy.zero, (⟨false, [1], 0⟩ : Dy), (⟨false, [1], 1⟩ : Dy)] : List Dy), ([(⟨(⟨false, [1], 0⟩ : Dy), (⟨false, [1], 0⟩ : Dy)⟩ : Iv), (⟨(⟨false, [1], 1⟩ : Dy), (⟨false, [1], 1⟩ : Dy)⟩ : Iv)] : List Iv)⟩ : Tb))) (by kernel_rfl) (by kernel_rfl) ?_
  refine sat_call #[.agg #[.slice none 0 0, .slice none 0 0]] (by kernel_rfl) fun w17 h17 => ?_
  refine (mayT_any _ _ _ _ nilT _ (Sx.Rows.nil _ _ _) (Sx.Rows.nil _ _ _)).mono ?_
  rintro e v17 ⟨rfl, hb17⟩
  refine ⟨hb17, [.bool (mayT nilT)], _, rfl, by kernel_rfl, by kernel_rfl, fun g17 => ?_⟩
  replace r_zz := g17.rdD r_zz; replace q_N1 := g17.rd (by decide) q_N1; replace q_N2 := g17.rd (by decide) q_N2; replace r_yN1_0 := g17.rdD r_yN1_0; replace r_o3 := g17.rdD r_o3; replace F_t41 := F_t41.mv g17.mv; replace F_t42 := F_t42.mv g17.mv; replace r_yN2_1 := g17.rdD r_yN2_1; replace r_o5 := g17.rdD r_o5; replace F_t61 := F_t61.mv g17.mv; replace F_t62 := F_t62.mv g17.mv; replace F_t71 := F_t71.mv g17.mv; replace F_t72 := F_t72.mv g17.mv; replace r_o8l := g17.rdD r_o8l; replace r_o8h := g17.rdD r_o8h; replace q_N9 := g17.rd (by decide) q_N9; replace r_yN9_0 := g17.rdD r_yN9_0; replace r_o10l := g17.rdD r_o10l; replace r_o10h := g17.rdD r_o10h; replace F_t111 := F_t111.mv g17.mv; replace F_t112 := F_t112.mv g17.mv; replace r_o12 := g17.rdD r_o12; replace F_t131 := F_t131.mv g17.mv; replace F_t132 := F_t132.mv g17.mv
  clear h17 hb17
  refine sat_prim (v := .bool (!(mayT nilT))) (by kernel_rfl) ?_
  exact sat_ret (.bool (!(mayT nilT))) (by kernel_rfl) fun w9 h9 => congrArg Value.bool (by kernel_rfl)

end Go.Proofs.YtbpfnooloemieaaGreatDoor
