/- ledger.Put, by its tree. Printed by wip/mk_WrC.py. -/
import Derived.Test.YtpkfjfpknbhekaaWrBx
import Derived.Test.YtpkfjfpknbhekaaWrMx
namespace Go.Proofs.Ytpkfjfpknbhekaa
open Go.RowKit Pl
open Sx (sat_call sat_chk sat_prim sat_ite sat_true sat_false sat_trueP sat_falseP sat_ret sat_row sat_callP sat_loop sat_back sat_idx sat_el sat_elf sat_elc sat_load sat_rowN sat_app sat_callB sat_alt rows_one rows_two all_nil all_cons okB okS okI)

/-- What Put gives. -/
def PutTup (w0 w : World) (e : Ending) (r : Rec) : Prop := ∃ (A : Option Addr) (c : Nat), e = .returned (.tuple #[.slice A (putB r).length c, .int .i64 (putE r)]) ∧ Sx.Rows Sx.kB (fun g => w0.heap.size ≤ g) w A (putB r).length c (putB r)
theorem putB_yes {r : Rec} (h : mayR r = true) : putB r = recB r := by unfold putB; rw [h]; rfl
theorem putE_yes {r : Rec} (h : mayR r = true) : putE r = 0 := by unfold putE; rw [h]; rfl
theorem putB_no {r : Rec} (h : mayR r = false) : putB r = [] := by unfold putB; rw [h]; rfl
theorem putE_no {r : Rec} (h : mayR r = false) : putE r = 1 := by unfold putE; rw [h]; rfl
namespace Sx
theorem BxS.outW {w0 : Fr} {w w' : OW} {g p : Nat} {v : Value} {vs : List Value} {ty : TypeId} (h : BxS w g v p vs ty) (hl : Le w0 w w') : Box w'.toWorld p vs ty ∧ p ∉ wb g v ∧ p < w'.heap.size := by
  have hb : Box w'.toWorld p vs ty := by unfold Box; rw [hl.keepB p h.bp]; exact h.box
  exact ⟨hb, fun e => (mem_wb.1 e).elim h.ne h.nb, hb.lt⟩
theorem BelowF.plain {w0 : Fr} {w : World} (h : BelowF w0 w) (hf : w0.fr = []) : Below w0.heap.size w0.toWorld w := ⟨h.os, h.tape, h.output, h.size, fun k hk => h.block k hk (by rw [hf]; simp)⟩
/-- The bytes that a call has made. -/
theorem WrS.bytes {w : World} {ow : OW} {g : Nat} {A : Option Addr} {n c : Nat} {l : List Nat} {wty : TypeId} (h : WrS wty (wfr w []) ow g (.slice A n c) l) (hwf : WF (wfr w []) ow) : Rows kB (fun g => w.heap.size ≤ g) ow.toWorld A n c l := by
  have R := h.row.done (fun {w' cs x} q => q)
  refine ⟨R.len, R.cap, R.max, R.pl, fun hn => ?_⟩
  obtain ⟨b, off, rfl, h2, _, h4⟩ := R.at_ hn
  refine ⟨b, off, rfl, h2, ?_, h4⟩
  rcases (hwf.bld b (h.row.blk rfl).1).1 with e | e
  · cases e
  · exact e
end Sx

def tr_lput : Sx.Tree := .chk [.lf 0, .lf 1, .lf 2, .lf 3, .lf 4, .lf 5, .lf 6, .lf 7, .lf 8, .lf 9, .lf 10] (.call 10 [.ag [.lf 0, .lf 1, .lf 2, .lf 3, .lf 4, .lf 5, .lf 6, .lf 7, .lf 8, .lf 9, .lf 10]] .one (.prim .not [.lf 11] (.ite (.lf 12) (.ret (.tup [(false, [.nil]), (false, [.num .i64 1])])) (.newf 55 [.nil] (.newf 53 [.nilp] (.fst 53 (.lf 14) (.one (.lf 13)) (.loadm 53 (.lf 14) .one (.call 22 [.one (.lf 15), .one (.lf 0)] (.tup []) (.loadm 53 (.lf 14) .one (.call 22 [.one (.lf 16), .one (.lf 1)] (.tup []) (.loadm 53 (.lf 14) .one (.call 22 [.one (.lf 17), .one (.lf 2)] (.tup []) (.loadm 53 (.lf 14) .one (.call 23 [.one (.lf 18), .ag [.lf 3, .lf 4, .lf 5]] (.tup []) (.loadm 53 (.lf 14) .one (.call 23 [.one (.lf 19), .ag [.lf 6, .lf 7, .lf 8]] (.tup []) (.loadm 53 (.lf 14) .one (.prim (.clo 25 0) [.lf 14] (.call 24 [.one (.lf 20), .one (.lf 9), .one (.lf 21)] (.tup []) (.loadm 53 (.lf 14) .one (.prim (.clo 29 0) [.lf 14] (.call 28 [.one (.lf 22), .one (.lf 10), .one (.lf 23)] (.tup []) (.loadm 53 (.lf 14) .one (.prim .nchk [.lf 24] (.prim (.fld 0) [.lf 25] (.loadm 29 (.lf 26) .one (.ret (.tup [(false, [.lf 27]), (false, [.num .i64 0])]))))))))))))))))))))))))))))
theorem tr_lput_eq : Sx.treeEs Try.prog 9 [] [] [9, 4, 999999] [(true, 11)] = some tr_lput := by kernel_rfl

theorem putR_any (v_r : Value) (r : Rec) (w : World) (h_r : RcAt (fun _ => True) w v_r r) :
    Calls Try.prog 9 #[v_r] w fun e w' => PutTup w w' e r ∧ Below w.heap.size w w' := by
  obtain ⟨A_r1, n_r1, c_r1, A_r2, n_r2, c_r2, X_r, x_r, Y_r, y_r, rfl, r_r1, r_r2, F_r3, F_r4⟩ := h_r
  replace F_r3 := F_r3.start
  replace F_r4 := F_r4.start
  have M_r3 := F_r3.le
  have M_r4 := F_r4.le
  refine (Sx.runE (w0 := Sx.wfr w []) rfl (fun q h => by cases h) [] [] [9, 4, 999999] (ls := [.int .i64 r.kind, .int .i64 r.epoch, .int .i64 r.code, .bool r.t.neg, .slice A_r1 n_r1 c_r1, .int .i64 r.t.e, .bool r.h.neg, .slice A_r2 n_r2 c_r2, .int .i64 r.h.e, .slice X_r r.boxes.length x_r, .slice Y_r r.sigs.length y_r]) (shs := [(true, 11)]) (R := fun x w' => Below w.heap.size w w' ∧ ∃ A c, x = .tuple #[.slice A (putB r).length c, .int .i64 (putE r)] ∧ Sx.Rows Sx.kB (fun g => w.heap.size ≤ g) w' A (putB r).length c (putB r)) (Pn := fun _ _ => False) tr_lput_eq rfl (by decide) (fun q h => by cases h) ?_).mono (by
    rintro e w' ⟨_, h⟩
    rcases h with ⟨x, rfl, hb, A, c, rfl, hR⟩ | ⟨_, _, hf⟩
    · exact ⟨⟨A, c, rfl, hR⟩, hb⟩
    · exact hf.elim)
  unfold tr_lput
  have fW := Sx.Wf.wfr w []
  refine sat_chkB (by kernel_rfl) ?_
  refine sat_call #[.agg #[.int .i64 r.kind, .int .i64 r.epoch, .int .i64 r.code, .bool r.t.neg, .slice A_r1 n_r1 c_r1, .int .i64 r.t.e, .bool r.h.neg, .slice A_r2 n_r2 c_r2, .int .i64 r.h.e, .slice X_r r.boxes.length x_r, .slice Y_r r.sigs.length y_r]] (by kernel_rfl) fun w1 h1 => ?_
  refine (mayRc_any _ r _ (mkRc (h1.rdD r_r1) (h1.rdD r_r2) ((F_r3.mv h1.mv).any) ((F_r4.mv h1.mv).any))).mono ?_
  rintro e v1 ⟨rfl, hb1⟩
  refine ⟨hb1, [.bool (mayR r)], _, rfl, by kernel_rfl, by kernel_rfl, fun g1 => ?_⟩
  replace r_r1 := g1.rdD r_r1; replace r_r2 := g1.rdD r_r2; replace F_r3 := F_r3.mv g1.mv; replace F_r4 := F_r4.mv g1.mv
  clear h1 hb1
  refine sat_prim (v := .bool (!(mayR r))) (by kernel_rfl) ?_
  cases hm : mayR r
  · refine sat_true (by kernel_rfl) ?_
    exact sat_ret (.tuple #[.slice none 0 0, .int .i64 1]) (by kernel_rfl) fun w9 h9 => ⟨h9.b.plain rfl, none, 0, by rw [putB_no hm, putE_no hm]; rfl, by rw [putB_no hm]; exact Sx.Rows.nil _ _ _⟩
  · refine sat_false (by kernel_rfl) ?_
    have mr := MayR.of hm
    refine Sx.sat_newf [.slice none 0 0] (by kernel_rfl) fun w2 h2 n2 B2 d2 s2 => ?_
    replace r_r1 := n2.rdD r_r1; replace r_r2 := n2.rdD r_r2; replace F_r3 := F_r3.mv n2.mv; replace F_r4 := F_r4.mv n2.mv
    have hg2 : w2.heap.size ∈ w2.heap.size :: w2.bld := List.mem_cons_self ..
    have S0 := Sx.WrS.new (w := ⟨w2.alloc (.cells [Value.slice none 0 0].toArray 55), w2.own, w2.heap.size :: w2.bld⟩) fW B2 hg2
    generalize (⟨w2.alloc _, w2.own, w2.heap.size :: w2.bld⟩ : Sx.OW) = ow0 at *
    generalize w2.heap.size = g at *
    clear h2 n2 B2 d2 s2 hg2
    refine Sx.sat_newf [.pointer none] (by kernel_rfl) fun w3 h3 n3 B3 d3 s3 => ?_
    replace r_r1 := n3.rdD r_r1; replace r_r2 := n3.rdD r_r2; replace F_r3 := F_r3.mv n3.mv; replace F_r4 := F_r4.mv n3.mv
    have S1 := S0.le h3
    have hne : w3.heap.size ≠ g := fun e => d3 g S1.bg e.symm
    replace S0 := S0.le n3
    have hp : w3.heap.size ∈ (⟨w3.alloc (.cells [Value.pointer none].toArray 53), w3.own, w3.heap.size :: w3.bld⟩ : Sx.OW).bld := List.mem_cons_self ..
    replace B3 : Box (⟨w3.alloc (.cells [Value.pointer none].toArray 53), w3.own, w3.heap.size :: w3.bld⟩ : Sx.OW).toWorld w3.heap.size [.pointer none] 53 := B3
    generalize (⟨w3.alloc (.cells [Value.pointer none].toArray 53), w3.own, w3.heap.size :: w3.bld⟩ : Sx.OW) = ow1 at *
    generalize w3.heap.size = p at *
    clear h3 n3 s3 d3 S1
    refine Sx.sat_fst1 (.pointer (some ⟨g, 0, none⟩)) B3 hp (by kernel_rfl) (by kernel_rfl) ⟨rfl, fun K x e => by cases e⟩ rfl rfl (by kernel_rfl) fun ow2 l4 B9 keep bl => ?_
    replace r_r1 := l4.rdD r_r1; replace r_r2 := l4.rdD r_r2; replace F_r3 := F_r3.mv l4.mv; replace F_r4 := F_r4.mv l4.mv
    replace S0 := S0.other (w' := ow2) fW fun q hq => (by
    have hq' : q = g := (Sx.mem_wb.1 hq).elim id (fun e => by cases e)
    subst hq'
    exact ⟨keep q S0.bg (Ne.symm hne), bl q S0.bg⟩)
    have F_p : Sx.BxS ow2 g (.slice none 0 0) p [.pointer (some ⟨g, 0, none⟩)] 53 := ⟨B9, bl p hp, hne, fun e => by cases e⟩
    clear l4 keep bl B9 hp hne B3
    refine Sx.sat_bload (off := 0) (.pointer (some ⟨g, 0, none⟩)) F_p.box F_p.bp (by kernel_rfl) rfl (by kernel_rfl) ?_
    refine Sx.sat_wcall (l' := ([] ++ numB r.kind.toNat)) fW S0 #[.pointer (some ⟨g, 0, none⟩), .int .i64 ((r.kind.toNat : Nat) : Int)] (Eq.trans (b := #[.pointer (some ⟨g, 0, none⟩), .int .i64 r.kind]) (by kernel_rfl) (by rw [Int.toNat_of_nonneg (by have := mr.k1; have := mr.e0; have := mr.c0; omega)])) (fun w5 h5 W5 => wnum_any g _ _ (r.kind.toNat) _ W5 (by have := recB_len hm; unfold recB at this; simp only [List.length_append, List.length_nil] at this ⊢; omega)) fun o5 v5 g5 q5 S5 => ?_
    replace r_r1 := g5.rdD r_r1; replace r_r2 := g5.rdD r_r2; replace F_r3 := F_r3.mv g5.mv; replace F_r4 := F_r4.mv g5.mv
    replace F_p := Sx.keepBox F_p q5
    clear g5 q5
    refine Sx.sat_bload (off := 0) (.pointer (some ⟨g, 0, none⟩)) F_p.box F_p.bp (by kernel_rfl) rfl (by kernel_rfl) ?_
    refine Sx.sat_wcall (l' := (([] ++ numB r.kind.toNat) ++ numB r.epoch.toNat)) fW S5 #[.pointer (some ⟨g, 0, none⟩), .int .i64 ((r.epoch.toNat : Nat) : Int)] (Eq.trans (b := #[.pointer (some ⟨g, 0, none⟩), .int .i64 r.epoch]) (by kernel_rfl) (by rw [Int.toNat_of_nonneg (by have := mr.k1; have := mr.e0; have := mr.c0; omega)])) (fun w6 h6 W6 => wnum_any g _ _ (r.epoch.toNat) _ W6 (by have := recB_len hm; unfold recB at this; simp only [List.length_append, List.length_nil] at this ⊢; omega)) fun o6 v6 g6 q6 S6 => ?_
    replace r_r1 := g6.rdD r_r1; replace r_r2 := g6.rdD r_r2; replace F_r3 := F_r3.mv g6.mv; replace F_r4 := F_r4.mv g6.mv
    replace F_p := Sx.keepBox F_p q6
    clear g6 q6
    refine Sx.sat_bload (off := 0) (.pointer (some ⟨g, 0, none⟩)) F_p.box F_p.bp (by kernel_rfl) rfl (by kernel_rfl) ?_
    refine Sx.sat_wcall (l' := ((([] ++ numB r.kind.toNat) ++ numB r.epoch.toNat) ++ numB r.code.toNat)) fW S6 #[.pointer (some ⟨g, 0, none⟩), .int .i64 ((r.code.toNat : Nat) : Int)] (Eq.trans (b := #[.pointer (some ⟨g, 0, none⟩), .int .i64 r.code]) (by kernel_rfl) (by rw [Int.toNat_of_nonneg (by have := mr.k1; have := mr.e0; have := mr.c0; omega)])) (fun w7 h7 W7 => wnum_any g _ _ (r.code.toNat) _ W7 (by have := recB_len hm; unfold recB at this; simp only [List.length_append, List.length_nil] at this ⊢; omega)) fun o7 v7 g7 q7 S7 => ?_
    replace r_r1 := g7.rdD r_r1; replace r_r2 := g7.rdD r_r2; replace F_r3 := F_r3.mv g7.mv; replace F_r4 := F_r4.mv g7.mv
    replace F_p := Sx.keepBox F_p q7
    clear g7 q7
    refine Sx.sat_bload (off := 0) (.pointer (some ⟨g, 0, none⟩)) F_p.box F_p.bp (by kernel_rfl) rfl (by kernel_rfl) ?_
    refine Sx.sat_wcall (l' := (((([] ++ numB r.kind.toNat) ++ numB r.epoch.toNat) ++ numB r.code.toNat) ++ dyB r.t)) fW S7 #[.pointer (some ⟨g, 0, none⟩), .agg #[.bool r.t.neg, .slice A_r1 n_r1 c_r1, .int .i64 r.t.e]] (by kernel_rfl) (fun w8 h8 W8 => wdyad_any g _ _ _ (r.t) _ W8 (h8.rdD r_r1) (mr.t) (by have := recB_len hm; unfold recB at this; simp only [List.length_append, List.length_nil] at this ⊢; omega)) fun o8 v8 g8 q8 S8 => ?_
    replace r_r1 := g8.rdD r_r1; replace r_r2 := g8.rdD r_r2; replace F_r3 := F_r3.mv g8.mv; replace F_r4 := F_r4.mv g8.mv
    replace F_p := Sx.keepBox F_p q8
    clear g8 q8
    refine Sx.sat_bload (off := 0) (.pointer (some ⟨g, 0, none⟩)) F_p.box F_p.bp (by kernel_rfl) rfl (by kernel_rfl) ?_
    refine Sx.sat_wcall (l' := ((((([] ++ numB r.kind.toNat) ++ numB r.epoch.toNat) ++ numB r.code.toNat) ++ dyB r.t) ++ dyB r.h)) fW S8 #[.pointer (some ⟨g, 0, none⟩), .agg #[.bool r.h.neg, .slice A_r2 n_r2 c_r2, .int .i64 r.h.e]] (by kernel_rfl) (fun w9 h9 W9 => wdyad_any g _ _ _ (r.h) _ W9 (h9.rdD r_r2) (mr.h) (by have := recB_len hm; unfold recB at this; simp only [List.length_append, List.length_nil] at this ⊢; omega)) fun o9 v9 g9 q9 S9 => ?_
    replace r_r1 := g9.rdD r_r1; replace r_r2 := g9.rdD r_r2; replace F_r3 := F_r3.mv g9.mv; replace F_r4 := F_r4.mv g9.mv
    replace F_p := Sx.keepBox F_p q9
    clear g9 q9
    refine Sx.sat_bload (off := 0) (.pointer (some ⟨g, 0, none⟩)) F_p.box F_p.bp (by kernel_rfl) rfl (by kernel_rfl) ?_
    refine sat_prim (v := .func (.func 25) #[] #[.pointer (some ⟨p, 0, none⟩)]) (by kernel_rfl) ?_
    refine Sx.sat_wcall (l' := (((((([] ++ numB r.kind.toNat) ++ numB r.epoch.toNat) ++ numB r.code.toNat) ++ dyB r.t) ++ dyB r.h) ++ rowB (rowB ivB) r.boxes)) fW S9 #[.pointer (some ⟨g, 0, none⟩), .slice X_r r.boxes.length x_r, .func (.func 25) #[] #[.pointer (some ⟨p, 0, none⟩)]] (by kernel_rfl) (fun w10 h10 W10 => wrowLI_any g _ _ _ _ r.boxes p _ W10 ((F_r3.mv h10.mv).out (S9.le h10)) (F_p.outW h10) (fun l hl a ha => mayI_dys ((mr.bx l hl).2 a ha)) (by have := recB_len hm; unfold recB at this; simp only [List.length_append, List.length_nil] at this ⊢; omega)) fun o10 v10 g10 q10 S10 => ?_
    replace r_r1 := g10.rdD r_r1; replace r_r2 := g10.rdD r_r2; replace F_r3 := F_r3.mv g10.mv; replace F_r4 := F_r4.mv g10.mv
    replace F_p := Sx.keepBox F_p q10
    clear g10 q10
    refine Sx.sat_bload (off := 0) (.pointer (some ⟨g, 0, none⟩)) F_p.box F_p.bp (by kernel_rfl) rfl (by kernel_rfl) ?_
    refine sat_prim (v := .func (.func 29) #[] #[.pointer (some ⟨p, 0, none⟩)]) (by kernel_rfl) ?_
    refine Sx.sat_wcall (l' := ((((((([] ++ numB r.kind.toNat) ++ numB r.epoch.toNat) ++ numB r.code.toNat) ++ dyB r.t) ++ dyB r.h) ++ rowB (rowB ivB) r.boxes) ++ rowB (rowB tbB) r.sigs)) fW S10 #[.pointer (some ⟨g, 0, none⟩), .slice Y_r r.sigs.length y_r, .func (.func 29) #[] #[.pointer (some ⟨p, 0, none⟩)]] (by kernel_rfl) (fun w11 h11 W11 => wrowLT_any g _ _ _ _ r.sigs p _ W11 ((F_r4.mv h11.mv).out (S10.le h11)) (F_p.outW h11) (fun l hl t ht => MayT.dys ((mr.sg l hl).2 t ht)) (by have := recB_len hm; unfold recB at this; simp only [List.length_append, List.length_nil] at this ⊢; omega)) fun o11 v11 g11 q11 S11 => ?_
    replace r_r1 := g11.rdD r_r1; replace r_r2 := g11.rdD r_r2; replace F_r3 := F_r3.mv g11.mv; replace F_r4 := F_r4.mv g11.mv
    replace F_p := Sx.keepBox F_p q11
    clear g11 q11
    refine Sx.sat_bload (off := 0) (.pointer (some ⟨g, 0, none⟩)) F_p.box F_p.bp (by kernel_rfl) rfl (by kernel_rfl) ?_
    refine sat_prim (v := .pointer (some ⟨g, 0, none⟩)) (by kernel_rfl) ?_
    refine sat_prim (v := .pointer (some ⟨g, 0 + 0, none⟩)) (by kernel_rfl) ?_
    obtain ⟨A_v, c_v, rfl⟩ := S11.row.len
    refine Sx.sat_bload (off := 0) (.slice A_v (((((((([] ++ numB r.kind.toNat) ++ numB r.epoch.toNat) ++ numB r.code.toNat) ++ dyB r.t) ++ dyB r.h) ++ rowB (rowB ivB) r.boxes) ++ rowB (rowB tbB) r.sigs)).length c_v) S11.box S11.bg (by kernel_rfl) rfl (by kernel_rfl) ?_
    have hl : ((((((([] ++ numB r.kind.toNat) ++ numB r.epoch.toNat) ++ numB r.code.toNat) ++ dyB r.t) ++ dyB r.h) ++ rowB (rowB ivB) r.boxes) ++ rowB (rowB tbB) r.sigs) = recB r := by unfold recB; simp only [List.nil_append, List.append_assoc]
    rw [hl] at S11 ⊢
    exact sat_ret (.tuple #[.slice A_v (recB r).length c_v, .int .i64 0]) (by kernel_rfl) fun w9 h9 => ⟨h9.b.plain rfl, A_v, c_v, by rw [putB_yes hm, putE_yes hm], by rw [putB_yes hm]; exact (S11.le h9).bytes h9.wf⟩

end Go.Proofs.Ytpkfjfpknbhekaa
