/- The walk of LedgerBack. Printed by wip/mk_WrDD.py. -/
import Derived.Test.YtpkfjfpknbhekaaWrCCx
import Derived.Test.YtpkfjfpknbhekaaWrXx
namespace Go.Proofs.Ytpkfjfpknbhekaa
open Go.RowKit Pl
open Sx (sat_call sat_chk sat_prim sat_ite sat_true sat_false sat_trueP sat_falseP sat_ret all_nil all_cons okB okS okI)
theorem recB_len9 {r : Rec} (h : mayR r = true) : (recB r).length ≤ 1000000000 := by
  have m := MayR.of h
  unfold recB
  simp only [List.length_append]
  have a1 := numB_len9 (n := r.kind.toNat) (by have := m.k3; omega)
  have a2 := numB_len9 (n := r.epoch.toNat) (by have := m.e1; omega)
  have a3 := numB_len9 (n := r.code.toNat) (by have := m.c1; omega)
  have a4 := dyB_len m.t
  have a5 := dyB_len m.h
  have a6 := rowB_len (enc := rowB ivB) (n := 16) (m := 9 + 64 * 1062) m.nb (by omega) fun l hl => rowB_len (m.bx l hl).1 (by omega) fun a ha => ivB_len (mayI_dys ((m.bx l hl).2 a ha))
  have a7 := rowB_len (enc := rowB tbB) (n := 16) (m := 9 + 64 * 500000) m.ns (by omega) fun l hl => rowB_len (m.sg l hl).1 (by omega) fun a ha => tbB_len ((m.sg l hl).2 a ha)
  omega
theorem recB_pos (r : Rec) : 0 < (recB r).length := by
  have := numB_pos r.kind.toNat
  unfold recB
  rw [List.length_append]
  omega
theorem cvt_big {n : Nat} (h : n ≤ 1000000000) : Sx.Prim.ev (.cvt .u64) [.int .i64 (n : Int)] = some (.int .u64 (n : Int)) := by
  show some (Value.int .u64 (IntKind.u64.wrap (n : Int))) = _
  rw [IntKind.wrap_u64, Int.emod_eq_of_lt (by omega) (by omega)]
theorem rem_k (at_ : Int) {n : Nat} (h : 0 < n) : ∃ K : Nat, K < n ∧ Sx.Prim.ev (.bin .rem) [.int .u64 (IntKind.u64.wrap at_), .int .u64 ((n : Nat) : Int)] = some (.int .u64 ((K : Nat) : Int)) := by
  obtain ⟨K, h1, h2⟩ := cut_k at_ (n - 1)
  rw [show n - 1 + 1 = n by omega] at h2
  exact ⟨K, by omega, h2⟩
theorem rows_mem {α : Type} {k : Sx.Kind α} {ok : Nat → Prop} {w : World} {A : Option Addr} {n c : Nat} {l : List α} (h : Sx.Rows k ok w A n c l) {x : α} (hx : x ∈ l) : ∃ cs, k.El ok w cs x := by
  obtain ⟨i, hi⟩ := List.getElem?_of_mem hx
  have hl := h.len
  have hlt := (List.getElem?_eq_some_iff.1 hi).1
  obtain ⟨_, _, _, _, _, h4⟩ := h.at_ (by omega)
  obtain ⟨cs, h5, _⟩ := h4 i x hi
  exact ⟨cs, h5⟩
theorem limI_el {ok : Nat → Prop} {w : World} {cs : List Value} {a : Iv} (h : Sx.kI.El ok w cs a) : LimI a := by
  obtain ⟨_, _, _, _, _, _, _, h1, h2⟩ := h
  exact ⟨h1.lim, h2.lim⟩
theorem limT_el {ok : Nat → Prop} {w : World} {cs : List Value} {t : Tb} (h : Sx.kT.El ok w cs t) : LimT' t := by
  obtain ⟨_, _, _, _, _, _, _, h1, h2⟩ := h
  refine ⟨fun d hd => ?_, fun x hx => ?_⟩
  · obtain ⟨cs, _, _, _, _, h3⟩ := rows_mem h1 hd
    exact h3.lim
  · obtain ⟨cs, h3⟩ := rows_mem h2 hx
    exact limI_el h3
theorem limR_of {ok : Nat → Prop} {w : World} {r : Rec} {u1 u2 : Value} {X Y : Option Addr} {n m x y : Nat} (h1 : RdD w u1 r.t) (h2 : RdD w u2 r.h) (h3 : Sx.Rows (Sx.kL Sx.kI) ok w X n x r.boxes) (h4 : Sx.Rows (Sx.kL Sx.kT) ok w Y m y r.sigs) : LimR r := by
  refine ⟨h1.lim, h2.lim, fun l hl a ha => ?_, fun l hl a ha => ?_⟩
  · obtain ⟨_, _, _, _, h5⟩ := rows_mem h3 hl
    obtain ⟨_, h6⟩ := rows_mem h5 ha
    exact limI_el h6
  · obtain ⟨_, _, _, _, h5⟩ := rows_mem h4 hl
    obtain ⟨_, h6⟩ := rows_mem h5 ha
    exact limT_el h6
theorem lim_nth {b : List Nat} (h : Byt b) {k : Nat} (hk : k < b.length) : nth b k < 256 := by
  unfold nth
  rw [List.getD_eq_getElem?_getD, List.getElem?_eq_getElem hk]
  exact h _ (List.getElem_mem hk)
theorem xor_all : ((List.range 256).all fun x => (List.range 256).all fun c => decide (bits .xor .u8 ((x : Nat) : Int) ((c : Nat) : Int) = (((x ^^^ c) : Nat) : Int))) = true := by kernel_rfl
theorem xor_b {x c : Nat} (hx : x < 256) (hc : c < 256) : ∃ z : Nat, z < 256 ∧ Sx.Prim.ev (.bin .xor) [.int .u8 ((x : Nat) : Int), .int .u8 ((c : Nat) : Int)] = some (.int .u8 ((z : Nat) : Int)) ∧ (z = x ↔ c = 0) := by
  refine ⟨x ^^^ c, Nat.xor_lt_two_pow (n := 8) hx hc, ?_, ?_⟩
  · have h := of_decide_eq_true (List.all_eq_true.1 (List.all_eq_true.1 xor_all x (List.mem_range.2 hx)) c (List.mem_range.2 hc))
    show some (Value.int .u8 (bits .xor .u8 ((x : Nat) : Int) ((c : Nat) : Int))) = _
    rw [h]
  · constructor
    · intro h
      have h1 := congrArg (fun q => x ^^^ q) h
      simpa [← Nat.xor_assoc] using h1
    · rintro rfl
      simp
theorem set_iff {b : List Nat} {K z c : Nat} (hK : K < b.length) (h : z = nth b K ↔ c = 0) : b.set K z = b ↔ c = 0 := by
  rw [← h]
  have e : nth b K = b[K] := by unfold nth; rw [List.getD_eq_getElem?_getD, List.getElem?_eq_getElem hK]; rfl
  rw [e]
  constructor
  · intro h1
    have h2 := congrArg (fun q => q[K]?) h1
    simp only [List.getElem?_set_self hK, List.getElem?_eq_getElem hK] at h2
    injection h2
  · rintro rfl
    exact List.set_getElem_self hK
namespace Sx
theorem sat_appk {w0 : Fr} {w : OW} {R : Value → World → Prop} {Pn : List PanicEntry → World → Prop} {Bk : Back} {ρ : List Value} {t : Tree} {ik : IntKind} {e : TypeId} {sz by' : Nat} {s x : At} (vs vx : Value) (hs : s.den ρ [] = vs) (hx : x.den ρ [] = vx) (hk : w0.nk ik = true) (h : ∀ w1 : OW, Le w0 w w1 → AppOk w0 e sz by' vs vx w1 fun s' w2 => satB Try.prog w0 R Pn Bk t (ρ ++ [s']) w2) : satB Try.prog w0 R Pn Bk (.appk ik e sz by' s x t) ρ w := by
  refine ⟨hk, fun w1 h1 => ?_⟩
  rw [hs, hx]
  exact h w1 h1
end Sx
def tr_lback : Sx.Tree := .chk [.lf 0, .lf 1, .lf 2, .lf 3, .lf 4, .lf 5, .lf 6, .lf 7, .lf 8, .lf 9, .lf 10] (.call 6 [.ag [.lf 0, .lf 1, .lf 2, .lf 3, .lf 4, .lf 5, .lf 6, .lf 7, .lf 8, .lf 9, .lf 10]] .one (.prim .not [.lf 13] (.ite (.lf 14) (.call 7 [] .one (.ret (.one (.lf 15)))) (.call 10 [.ag [.lf 0, .lf 1, .lf 2, .lf 3, .lf 4, .lf 5, .lf 6, .lf 7, .lf 8, .lf 9, .lf 10]] .one (.prim .not [.lf 15] (.ite (.lf 16) (.call 7 [] .one (.ret (.one (.lf 17)))) (.call 9 [.ag [.lf 0, .lf 1, .lf 2, .lf 3, .lf 4, .lf 5, .lf 6, .lf 7, .lf 8, .lf 9, .lf 10]] (.tup [(false, 1), (false, 1)]) (.prim (.bin .neq) [.lf 18, .num .i64 0] (.ite (.lf 19) (.ret (.one (.bit false))) (.prim .len [.lf 17] (.prim (.bin .eql) [.lf 20, .num .i64 0] (.ite (.lf 21) (.ret (.one (.bit false))) (.call 12 [.one (.lf 17)] (.tup [(true, 11), (false, 1)]) (.chk [.lf 22, .lf 23, .lf 24, .lf 25, .lf 26, .lf 27, .lf 28, .lf 29, .lf 30, .lf 31, .lf 32] (.prim (.cvt .u64) [.lf 11] (.prim .len [.lf 17] (.prim (.cvt .u64) [.lf 35] (.prim (.bin .rem) [.lf 34, .lf 36] (.prim (.cvt .i64) [.lf 37] (.prim (.slc 1 false true) [.lf 17, .lf 38] (.call 12 [.one (.lf 39)] (.tup [(true, 11), (false, 1)]) (.chk [.lf 40, .lf 41, .lf 42, .lf 43, .lf 44, .lf 45, .lf 46, .lf 47, .lf 48, .lf 49, .lf 50] (.row 5 [] 0 [] (.appk .u8 5 1 1 (.lf 52) (.lf 17) (.row 5 [.lf 12] 1 [.lf 12] (.appk .u8 5 1 1 (.lf 53) (.lf 54) (.call 12 [.one (.lf 55)] (.tup [(true, 11), (false, 1)]) (.chk [.lf 56, .lf 57, .lf 58, .lf 59, .lf 60, .lf 61, .lf 62, .lf 63, .lf 64, .lf 65, .lf 66] (.prim (.bin .neq) [.lf 33, .num .i64 0] (.ite (.lf 68) (.ret (.one (.bit false))) (.call 15 [.ag [.lf 22, .lf 23, .lf 24, .lf 25, .lf 26, .lf 27, .lf 28, .lf 29, .lf 30, .lf 31, .lf 32], .ag [.lf 0, .lf 1, .lf 2, .lf 3, .lf 4, .lf 5, .lf 6, .lf 7, .lf 8, .lf 9, .lf 10]] .one (.prim .not [.lf 69] (.ite (.lf 70) (.ret (.one (.bit false))) (.prim (.bin .neq) [.lf 51, .num .i64 9] (.ite (.lf 71) (.ret (.one (.bit false))) (.prim (.bin .neq) [.lf 67, .num .i64 9] (.ite (.lf 72) (.ret (.one (.bit false))) (.row 5 [] 0 [] (.appk .u8 5 1 1 (.lf 73) (.lf 17) (.prim (.idx 1) [.lf 74, .lf 38] (.loadm 5 (.lf 75) .one (.prim (.bin .xor) [.lf 76, .lf 12] (.prim (.idx 1) [.lf 74, .lf 38] (.fst 5 (.lf 78) (.one (.lf 77)) (.call 12 [.one (.lf 74)] (.tup [(true, 11), (false, 1)]) (.chk [.lf 79, .lf 80, .lf 81, .lf 82, .lf 83, .lf 84, .lf 85, .lf 86, .lf 87, .lf 88, .lf 89] (.prim (.bin .neq) [.lf 90, .num .i64 0] (.ite (.lf 91) (.call 7 [] .one (.ite (.lf 92) (.prim (.bin .eql) [.lf 90, .num .i64 9] (.ite (.lf 93) (.prim (.bin .neq) [.lf 12, .num .u8 0] (.ret (.one (.lf 94)))) (.ret (.one (.bit false))))) (.ret (.one (.bit false))))) (.call 9 [.ag [.lf 79, .lf 80, .lf 81, .lf 82, .lf 83, .lf 84, .lf 85, .lf 86, .lf 87, .lf 88, .lf 89]] (.tup [(false, 1), (false, 1)]) (.call 7 [] .one (.ite (.lf 94) (.prim (.bin .eql) [.lf 93, .num .i64 0] (.ite (.lf 95) (.convm 29 9 (.lf 92) (.convm 29 9 (.lf 74) (.prim (.seq false) [.lf 96, .lf 97] (.ite (.lf 98) (.call 15 [.ag [.lf 79, .lf 80, .lf 81, .lf 82, .lf 83, .lf 84, .lf 85, .lf 86, .lf 87, .lf 88, .lf 89], .ag [.lf 0, .lf 1, .lf 2, .lf 3, .lf 4, .lf 5, .lf 6, .lf 7, .lf 8, .lf 9, .lf 10]] .one (.prim (.bin .eql) [.lf 12, .num .u8 0] (.prim (.bbin .eql) [.lf 99, .lf 100] (.ret (.one (.lf 101)))))) (.ret (.one (.bit false))))))) (.ret (.one (.bit false))))) (.ret (.one (.bit false))))))))))))))))))))))))))))))))))))))))))))))))))))))
theorem tr_lback_eq : Sx.treeEs Try.prog 4 [] [] [999999] [(true, 11), (false, 1), (false, 1)] = some tr_lback := by kernel_rfl

set_option maxHeartbeats 1000000 in
theorem ledgerBack_any (v_r : Value) (r : Rec) (at_ : Int) (c : Nat) (w : World) (h_r : RcAt (fun _ => True) w v_r r) (hc : c < 256) :
    Calls Try.prog 4 #[v_r, .int .i64 at_, .int .u8 ((c : Nat) : Int)] w fun e w' => e = .returned (.bool true) ∧ Below w.heap.size w w' := by
  obtain ⟨A_r1, n_r1, c_r1, A_r2, n_r2, c_r2, X_r, x_r, Y_r, y_r, rfl, r_r1, r_r2, F_r3, F_r4⟩ := h_r
  replace F_r3 := F_r3.start
  replace F_r4 := F_r4.start
  refine (Sx.runE (w0 := Sx.wfr w []) rfl (fun q h => by cases h) [] [] [999999] (ls := [.int .i64 r.kind, .int .i64 r.epoch, .int .i64 r.code, .bool r.t.neg, .slice A_r1 n_r1 c_r1, .int .i64 r.t.e, .bool r.h.neg, .slice A_r2 n_r2 c_r2, .int .i64 r.h.e, .slice X_r r.boxes.length x_r, .slice Y_r r.sigs.length y_r, .int .i64 at_, .int .u8 ((c : Nat) : Int)]) (shs := [(true, 11), (false, 1), (false, 1)]) (R := fun x _ => x = .bool true) (Pn := fun _ _ => False) tr_lback_eq rfl (by decide) (fun q h => by cases h) ?_).mono (by
    rintro e w' ⟨hb, h⟩
    rcases h with ⟨x, rfl, rfl⟩ | ⟨_, _, hf⟩
    · exact ⟨rfl, hb.plain rfl⟩
    · exact hf.elim)
  unfold tr_lback
  have fW := Sx.Wf.wfr w []
  refine sat_chkB (by kernel_rfl) ?_
  refine sat_call #[.agg #[.int .i64 r.kind, .int .i64 r.epoch, .int .i64 r.code, .bool r.t.neg, .slice A_r1 n_r1 c_r1, .int .i64 r.t.e, .bool r.h.neg, .slice A_r2 n_r2 c_r2, .int .i64 r.h.e, .slice X_r r.boxes.length x_r, .slice Y_r r.sigs.length y_r]] (by kernel_rfl) fun w1 h1 => ?_
  refine (fewR_any _ r _ (mkRc (h1.rdD r_r1) (h1.rdD r_r2) ((F_r3.mv h1.mv).any) ((F_r4.mv h1.mv).any))).mono ?_
  rintro e v1 ⟨⟨q1, rfl⟩, hb1⟩
  refine ⟨hb1, [.bool q1], _, rfl, by kernel_rfl, by kernel_rfl, fun g1 => ?_⟩
  replace r_r1 := g1.rdD r_r1; replace r_r2 := g1.rdD r_r2; replace F_r3 := F_r3.mv g1.mv; replace F_r4 := F_r4.mv g1.mv
  clear h1 hb1
  refine sat_prim (v := .bool (!q1)) (by kernel_rfl) ?_
  cases hE2 : (q1)
  · refine sat_true (by kernel_rfl) ?_
    refine sat_call #[] (by kernel_rfl) fun w2 h2 => ?_
    refine (told21_any _).mono ?_
    rintro e v2 ⟨rfl, hb2⟩
    refine ⟨hb2, [.bool true], _, rfl, by kernel_rfl, by kernel_rfl, fun g2 => ?_⟩
    replace r_r1 := g2.rdD r_r1; replace r_r2 := g2.rdD r_r2; replace F_r3 := F_r3.mv g2.mv; replace F_r4 := F_r4.mv g2.mv
    clear h2 hb2
    exact sat_ret (.bool true) (by kernel_rfl) fun w9 h9 => rfl
  · refine sat_false (by kernel_rfl) ?_
    refine sat_call #[.agg #[.int .i64 r.kind, .int .i64 r.epoch, .int .i64 r.code, .bool r.t.neg, .slice A_r1 n_r1 c_r1, .int .i64 r.t.e, .bool r.h.neg, .slice A_r2 n_r2 c_r2, .int .i64 r.h.e, .slice X_r r.boxes.length x_r, .slice Y_r r.sigs.length y_r]] (by kernel_rfl) fun w2 h2 => ?_
    refine (mayRc_any _ r _ (mkRc (h2.rdD r_r1) (h2.rdD r_r2) ((F_r3.mv h2.mv).any) ((F_r4.mv h2.mv).any))).mono ?_
    rintro e v2 ⟨rfl, hb2⟩
    refine ⟨hb2, [.bool (mayR r)], _, rfl, by kernel_rfl, by kernel_rfl, fun g2 => ?_⟩
    replace r_r1 := g2.rdD r_r1; replace r_r2 := g2.rdD r_r2; replace F_r3 := F_r3.mv g2.mv; replace F_r4 := F_r4.mv g2.mv
    clear h2 hb2
    refine sat_prim (v := .bool (!(mayR r))) (by kernel_rfl) ?_
    cases hm : mayR r
    · refine sat_true (by kernel_rfl) ?_
      refine sat_call #[] (by kernel_rfl) fun w3 h3 => ?_
      refine (told21_any _).mono ?_
      rintro e v3 ⟨rfl, hb3⟩
      refine ⟨hb3, [.bool true], _, rfl, by kernel_rfl, by kernel_rfl, fun g3 => ?_⟩
      replace r_r1 := g3.rdD r_r1; replace r_r2 := g3.rdD r_r2; replace F_r3 := F_r3.mv g3.mv; replace F_r4 := F_r4.mv g3.mv
      clear h3 hb3
      exact sat_ret (.bool true) (by kernel_rfl) fun w9 h9 => rfl
    · refine sat_false (by kernel_rfl) ?_
      have hpos : 0 < (recB r).length := recB_pos r
      have hmx := recB_len9 hm
      have lim := byt_rec r
      have hlr : LimR r := limR_of r_r1 r_r2 F_r3 F_r4
      refine sat_call #[.agg #[.int .i64 r.kind, .int .i64 r.epoch, .int .i64 r.code, .bool r.t.neg, .slice A_r1 n_r1 c_r1, .int .i64 r.t.e, .bool r.h.neg, .slice A_r2 n_r2 c_r2, .int .i64 r.h.e, .slice X_r r.boxes.length x_r, .slice Y_r r.sigs.length y_r]] (by kernel_rfl) fun w3 h3 => ?_
      refine (putR_any _ r _ (mkRc (h3.rdD r_r1) (h3.rdD r_r2) ((F_r3.mv h3.mv).any) ((F_r4.mv h3.mv).any))).mono ?_
      rintro e v3 ⟨⟨A, c_b, rfl, FB⟩, hb3⟩
      rw [putB_yes hm] at FB
      rw [putB_yes hm, putE_yes hm]
      refine ⟨hb3, [.slice A (recB r).length c_b, .int .i64 0], _, rfl, by kernel_rfl, by kernel_rfl, fun g3 => ?_⟩
      replace r_r1 := g3.rdD r_r1; replace r_r2 := g3.rdD r_r2; replace F_r3 := F_r3.mv g3.mv; replace F_r4 := F_r4.mv g3.mv
      replace FB := FB.mv (Sx.Mv.fresh h3.wf)
      clear h3 hb3
      refine sat_prim (v := .bool false) (by kernel_rfl) ?_
      refine sat_false (by kernel_rfl) ?_
      refine sat_prim (v := .int .i64 (((recB r).length : Nat) : Int)) (by kernel_rfl) ?_
      refine sat_prim (v := .bool ((((recB r).length : Nat) : Int) == 0)) (by kernel_rfl) ?_
      refine sat_falseP (b := (((recB r).length : Nat) : Int) == 0) (by kernel_rfl) (beq_false_of_ne (by omega)) ?_
      refine sat_call #[.slice A (recB r).length c_b] (by kernel_rfl) fun w4 h4 => ?_
      refine (getR_any A c_b (recB r) _ (FB.mv h4.mv).rdn lim).mono ?_
      rintro e v4 ⟨⟨_, rfl, hA⟩, hb4⟩
      rw [getS_rec hm hlr] at hA
      obtain ⟨A_x1, n_x1, c_x1, A_x2, n_x2, c_x2, X_x, x_x, Y_x, y_x, rfl, r_x1, r_x2, F_x3, F_x4⟩ := hA
      rw [getS_rec hm hlr]
      refine ⟨hb4, [.int .i64 r.kind, .int .i64 r.epoch, .int .i64 r.code, .bool r.t.neg, .slice A_x1 n_x1 c_x1, .int .i64 r.t.e, .bool r.h.neg, .slice A_x2 n_x2 c_x2, .int .i64 r.h.e, .slice X_x r.boxes.length x_x, .slice Y_x r.sigs.length y_x, .int .i64 0], _, rfl, by kernel_rfl, by kernel_rfl, fun g4 => ?_⟩
      replace r_r1 := g4.rdD r_r1; replace r_r2 := g4.rdD r_r2; replace F_r3 := F_r3.mv g4.mv; replace F_r4 := F_r4.mv g4.mv; replace FB := FB.mv g4.mv
      replace F_x3 := F_x3.mv (Sx.Mv.fresh h4.wf); replace F_x4 := F_x4.mv (Sx.Mv.fresh h4.wf)
      clear h4 hb4
      refine sat_chkB (by kernel_rfl) ?_
      refine sat_prim (v := .int .u64 (IntKind.u64.wrap at_)) (by kernel_rfl) ?_
      refine sat_prim (v := .int .i64 (((recB r).length : Nat) : Int)) (by kernel_rfl) ?_
      refine sat_prim (v := .int .u64 (((recB r).length : Nat) : Int)) (Eq.trans (by kernel_rfl) (cvt_big hmx)) ?_
      obtain ⟨K, hK, eK⟩ := rem_k at_ hpos
      refine sat_prim (v := .int .u64 ((K : Nat) : Int)) (Eq.trans (by kernel_rfl) eK) ?_
      refine sat_prim (v := .int .i64 ((K : Nat) : Int)) (Eq.trans (b := some (.int .i64 (IntKind.i64.wrap ((K : Nat) : Int)))) (by kernel_rfl) (sml rfl (by omega))) ?_
      obtain ⟨C_D, c_D, e_D, F_D⟩ := cut0 (n := K) FB (Nat.le_of_lt hK)
      refine sat_prim (v := .slice C_D ((recB r).take K).length c_D) (Eq.trans (by kernel_rfl) e_D) ?_
      refine sat_call #[.slice C_D ((recB r).take K).length c_D] (by kernel_rfl) fun w5 h5 => ?_
      refine (getR_any C_D c_D ((recB r).take K) _ (F_D.mv h5.mv).rdn (fun y hy => lim y (List.mem_of_mem_take hy))).mono ?_
      rintro e v5 ⟨⟨_, rfl, hA⟩, hb5⟩
      rw [getS_cut hm hlr hK] at hA
      obtain ⟨A_y1, n_y1, c_y1, A_y2, n_y2, c_y2, X_y, x_y, Y_y, y_y, rfl, r_y1, r_y2, F_y3, F_y4⟩ := hA
      rw [getS_cut hm hlr hK]
      refine ⟨hb5, [.int .i64 zeroR.kind, .int .i64 zeroR.epoch, .int .i64 zeroR.code, .bool zeroR.t.neg, .slice A_y1 n_y1 c_y1, .int .i64 zeroR.t.e, .bool zeroR.h.neg, .slice A_y2 n_y2 c_y2, .int .i64 zeroR.h.e, .slice X_y zeroR.boxes.length x_y, .slice Y_y zeroR.sigs.length y_y, .int .i64 9], _, rfl, by kernel_rfl, by kernel_rfl, fun g5 => ?_⟩
      replace r_r1 := g5.rdD r_r1; replace r_r2 := g5.rdD r_r2; replace F_r3 := F_r3.mv g5.mv; replace F_r4 := F_r4.mv g5.mv; replace FB := FB.mv g5.mv; replace r_x1 := g5.rdD r_x1; replace r_x2 := g5.rdD r_x2; replace F_x3 := F_x3.mv g5.mv; replace F_x4 := F_x4.mv g5.mv; replace F_D := F_D.mv g5.mv
      replace F_y3 := F_y3.mv (Sx.Mv.fresh h5.wf); replace F_y4 := F_y4.mv (Sx.Mv.fresh h5.wf)
      clear h5 hb5
      refine sat_chkB (by kernel_rfl) ?_
      clear r_y1 r_y2 F_y3 F_y4
      clear F_D e_D
      refine Sx.sat_lit0 Sx.kB (Nat.succ_pos _) rfl rfl fun N6 w6 h6 G1 => ?_
      replace r_r1 := h6.rdD r_r1; replace r_r2 := h6.rdD r_r2; replace F_r3 := F_r3.mv h6.mv; replace F_r4 := F_r4.mv h6.mv; replace FB := FB.mv h6.mv; replace r_x1 := h6.rdD r_x1; replace r_x2 := h6.rdD r_x2; replace F_x3 := F_x3.mv h6.mv; replace F_x4 := F_x4.mv h6.mv
      clear h6
      refine Sx.sat_appk (.slice (some ⟨N6, 0, none⟩) 0 0) (.slice A (recB r).length c_b) (by kernel_rfl) (by kernel_rfl) fW.u8 fun w7 h7 => ?_
      refine Sx.Gr.appN (l := []) (G1.le h7) (l' := (recB r)) (FB.mv h7.mv) (by simp only [List.length_append, List.length_cons, List.length_nil, maxLen]; omega) (by simp only [List.length_append, List.length_cons, List.length_nil]; omega) fun A_G2 c_G2 v7 a7 G2' => ?_
      replace r_r1 := h7.rdD r_r1; replace r_r2 := h7.rdD r_r2; replace F_r3 := F_r3.mv h7.mv; replace F_r4 := F_r4.mv h7.mv; replace FB := FB.mv h7.mv; replace r_x1 := h7.rdD r_x1; replace r_x2 := h7.rdD r_x2; replace F_x3 := F_x3.mv h7.mv; replace F_x4 := F_x4.mv h7.mv
      replace r_r1 := a7.toLf.rdD r_r1; replace r_r2 := a7.toLf.rdD r_r2; replace F_r3 := F_r3.mv a7.toLf.mv; replace F_r4 := F_r4.mv a7.toLf.mv; replace FB := FB.mv a7.toLf.mv; replace r_x1 := a7.toLf.rdD r_x1; replace r_x2 := a7.toLf.rdD r_x2; replace F_x3 := F_x3.mv a7.toLf.mv; replace F_x4 := F_x4.mv a7.toLf.mv
      rw [List.nil_append] at G2' ⊢
      clear G1
      have G2 := G2'
      clear G2' h7 a7
      refine Sx.sat_pushB (l := recB r) (v := .slice A_G2 (recB r).length c_G2) c fW G2 (by kernel_rfl) (fun _ => by kernel_rfl) (by kernel_rfl) (fun y hy => by obtain rfl := List.mem_singleton.1 hy; kernel_rfl) (by unfold MX; omega) fun r8 A3 c3 w8 h8 G3 => ?_
      clear G2
      replace r_r1 := h8.rdD r_r1; replace r_r2 := h8.rdD r_r2; replace F_r3 := F_r3.mv h8.mv; replace F_r4 := F_r4.mv h8.mv; replace FB := FB.mv h8.mv; replace r_x1 := h8.rdD r_x1; replace r_x2 := h8.rdD r_x2; replace F_x3 := F_x3.mv h8.mv; replace F_x4 := F_x4.mv h8.mv
      clear h8
      refine sat_call #[.slice A3 (recB r ++ [c]).length c3] (by kernel_rfl) fun w9 h9 => ?_
      refine (getR_any A3 c3 (recB r ++ [c]) _ (G3.le h9).reads.rdn (lim.app (Byt.one hc))).mono ?_
      rintro e v9 ⟨⟨_, rfl, hA⟩, hb9⟩
      rw [getS_more hm hlr hc] at hA
      obtain ⟨A_y1, n_y1, c_y1, A_y2, n_y2, c_y2, X_y, x_y, Y_y, y_y, rfl, r_y1, r_y2, F_y3, F_y4⟩ := hA
      rw [getS_more hm hlr hc]
      refine ⟨hb9, [.int .i64 zeroR.kind, .int .i64 zeroR.epoch, .int .i64 zeroR.code, .bool zeroR.t.neg, .slice A_y1 n_y1 c_y1, .int .i64 zeroR.t.e, .bool zeroR.h.neg, .slice A_y2 n_y2 c_y2, .int .i64 zeroR.h.e, .slice X_y zeroR.boxes.length x_y, .slice Y_y zeroR.sigs.length y_y, .int .i64 9], _, rfl, by kernel_rfl, by kernel_rfl, fun g9 => ?_⟩
      replace r_r1 := g9.rdD r_r1; replace r_r2 := g9.rdD r_r2; replace F_r3 := F_r3.mv g9.mv; replace F_r4 := F_r4.mv g9.mv; replace FB := FB.mv g9.mv; replace r_x1 := g9.rdD r_x1; replace r_x2 := g9.rdD r_x2; replace F_x3 := F_x3.mv g9.mv; replace F_x4 := F_x4.mv g9.mv; replace G3 := G3.le g9
      replace F_y3 := F_y3.mv (Sx.Mv.fresh h9.wf); replace F_y4 := F_y4.mv (Sx.Mv.fresh h9.wf)
      clear h9 hb9
      refine sat_chkB (by kernel_rfl) ?_
      clear r_y1 r_y2 F_y3 F_y4
      clear G3
      refine sat_prim (v := .bool false) (by kernel_rfl) ?_
      refine sat_false (by kernel_rfl) ?_
      refine sat_call #[.agg #[.int .i64 r.kind, .int .i64 r.epoch, .int .i64 r.code, .bool r.t.neg, .slice A_x1 n_x1 c_x1, .int .i64 r.t.e, .bool r.h.neg, .slice A_x2 n_x2 c_x2, .int .i64 r.h.e, .slice X_x r.boxes.length x_x, .slice Y_x r.sigs.length y_x], .agg #[.int .i64 r.kind, .int .i64 r.epoch, .int .i64 r.code, .bool r.t.neg, .slice A_r1 n_r1 c_r1, .int .i64 r.t.e, .bool r.h.neg, .slice A_r2 n_r2 c_r2, .int .i64 r.h.e, .slice X_r r.boxes.length x_r, .slice Y_r r.sigs.length y_r]] (by kernel_rfl) fun w10 h10 => ?_
      refine (sameR_any _ _ r r _ (mkRc (h10.rdD r_x1) (h10.rdD r_x2) ((F_x3.mv h10.mv).any) ((F_x4.mv h10.mv).any)) (mkRc (h10.rdD r_r1) (h10.rdD r_r2) ((F_r3.mv h10.mv).any) ((F_r4.mv h10.mv).any))).mono ?_
      rintro e v10 ⟨rfl, hb10⟩
      rw [sameRc_self]
      refine ⟨hb10, [.bool true], _, rfl, by kernel_rfl, by kernel_rfl, fun g10 => ?_⟩
      replace r_r1 := g10.rdD r_r1; replace r_r2 := g10.rdD r_r2; replace F_r3 := F_r3.mv g10.mv; replace F_r4 := F_r4.mv g10.mv; replace FB := FB.mv g10.mv; replace r_x1 := g10.rdD r_x1; replace r_x2 := g10.rdD r_x2; replace F_x3 := F_x3.mv g10.mv; replace F_x4 := F_x4.mv g10.mv
      clear h10 hb10
      refine sat_prim (v := .bool false) (by kernel_rfl) ?_
      refine sat_false (by kernel_rfl) ?_
      refine sat_prim (v := .bool false) (by kernel_rfl) ?_
      refine sat_false (by kernel_rfl) ?_
      refine sat_prim (v := .bool false) (by kernel_rfl) ?_
      refine sat_false (by kernel_rfl) ?_
      clear r_x1 r_x2 F_x3 F_x4
      refine Sx.sat_lit0 Sx.kB (Nat.succ_pos _) rfl rfl fun N11 w11 h11 G4 => ?_
      replace r_r1 := h11.rdD r_r1; replace r_r2 := h11.rdD r_r2; replace F_r3 := F_r3.mv h11.mv; replace F_r4 := F_r4.mv h11.mv; replace FB := FB.mv h11.mv
      clear h11
      refine Sx.sat_appk (.slice (some ⟨N11, 0, none⟩) 0 0) (.slice A (recB r).length c_b) (by kernel_rfl) (by kernel_rfl) fW.u8 fun w12 h12 => ?_
      refine Sx.Gr.appN (l := []) (G4.le h12) (l' := (recB r)) (FB.mv h12.mv) (by simp only [List.length_append, List.length_cons, List.length_nil, maxLen]; omega) (by simp only [List.length_append, List.length_cons, List.length_nil]; omega) fun A_G5 c_G5 v12 a12 G5' => ?_
      replace r_r1 := h12.rdD r_r1; replace r_r2 := h12.rdD r_r2; replace F_r3 := F_r3.mv h12.mv; replace F_r4 := F_r4.mv h12.mv; replace FB := FB.mv h12.mv
      replace r_r1 := a12.toLf.rdD r_r1; replace r_r2 := a12.toLf.rdD r_r2; replace F_r3 := F_r3.mv a12.toLf.mv; replace F_r4 := F_r4.mv a12.toLf.mv; replace FB := FB.mv a12.toLf.mv
      rw [List.nil_append] at G5' ⊢
      clear G4
      have G5 := G5'
      clear G5' h12 a12
      refine Sx.sat_getB (kk := .i64) K G5 (by kernel_rfl) (by kernel_rfl) (by kernel_rfl) hK (by kernel_rfl) fun r13 => ?_
      obtain ⟨z, hz, ez, hz0⟩ := xor_b (lim_nth lim hK) hc
      refine sat_prim (v := .int .u8 ((z : Nat) : Int)) (Eq.trans (by kernel_rfl) ez) ?_
      refine Sx.sat_setB (kk := .i64) K z G5 (by kernel_rfl) (by kernel_rfl) (by kernel_rfl) hK (by kernel_rfl) (fun _ => by kernel_rfl) fun r14 w14 h14 G6 => ?_
      clear G5
      replace r_r1 := h14.rdD r_r1; replace r_r2 := h14.rdD r_r2; replace F_r3 := F_r3.mv h14.mv; replace F_r4 := F_r4.mv h14.mv; replace FB := FB.mv h14.mv
      clear h14
      have hlen : (recB r).length = ((recB r).set K z).length := by rw [List.length_set]
      have limT : Byt ((recB r).set K z) := fun y hy => (List.mem_or_eq_of_mem_set hy).elim (lim y) (fun e => e ▸ hz)
      have hiff := set_iff (c := c) hK hz0
      rcases getS_turn hm hlr limT with ⟨eg, hne⟩ | ⟨y, eg, hmy, hby, hyr⟩
      · have hc0 : ((c : Nat) : Int) != 0 := by have := mt hiff.2 hne; simpa using this
        generalize hT : (recB r).set K z = T at *
        rw [hlen] at G6
        refine sat_call #[.slice A_G5 (recB r).length c_G5] (by kernel_rfl) fun w15 h15 => ?_
        rw [hlen]
        refine (getR_any A_G5 c_G5 T _ (G6.le h15).reads.rdn limT).mono ?_
        rintro e v15 ⟨⟨_, rfl, hA⟩, hb15⟩
        rw [eg] at hA
        obtain ⟨A_y1, n_y1, c_y1, A_y2, n_y2, c_y2, X_y, x_y, Y_y, y_y, rfl, r_y1, r_y2, F_y3, F_y4⟩ := hA
        rw [eg]
        refine ⟨hb15, [.int .i64 zeroR.kind, .int .i64 zeroR.epoch, .int .i64 zeroR.code, .bool zeroR.t.neg, .slice A_y1 n_y1 c_y1, .int .i64 zeroR.t.e, .bool zeroR.h.neg, .slice A_y2 n_y2 c_y2, .int .i64 zeroR.h.e, .slice X_y zeroR.boxes.length x_y, .slice Y_y zeroR.sigs.length y_y, .int .i64 9], _, rfl, by kernel_rfl, by kernel_rfl, fun g15 => ?_⟩
        replace r_r1 := g15.rdD r_r1; replace r_r2 := g15.rdD r_r2; replace F_r3 := F_r3.mv g15.mv; replace F_r4 := F_r4.mv g15.mv; replace FB := FB.mv g15.mv; replace G6 := G6.le g15
        replace F_y3 := F_y3.mv (Sx.Mv.fresh h15.wf); replace F_y4 := F_y4.mv (Sx.Mv.fresh h15.wf)
        clear h15 hb15
        refine sat_chkB (by kernel_rfl) ?_
        refine sat_prim (v := .bool true) (by kernel_rfl) ?_
        refine sat_true (by kernel_rfl) ?_
        refine sat_call #[] (by kernel_rfl) fun w16 h16 => ?_
        refine (told21_any _).mono ?_
        rintro e v16 ⟨rfl, hb16⟩
        refine ⟨hb16, [.bool true], _, rfl, by kernel_rfl, by kernel_rfl, fun g16 => ?_⟩
        replace r_r1 := g16.rdD r_r1; replace r_r2 := g16.rdD r_r2; replace F_r3 := F_r3.mv g16.mv; replace F_r4 := F_r4.mv g16.mv; replace FB := FB.mv g16.mv; replace G6 := G6.le g16; replace r_y1 := g16.rdD r_y1; replace r_y2 := g16.rdD r_y2; replace F_y3 := F_y3.mv g16.mv; replace F_y4 := F_y4.mv g16.mv
        clear h16 hb16
        refine sat_true (by kernel_rfl) ?_
        refine sat_prim (v := .bool true) (by kernel_rfl) ?_
        refine sat_true (by kernel_rfl) ?_
        refine sat_prim (v := .bool (((c : Nat) : Int) != 0)) (by kernel_rfl) ?_
        exact sat_ret (.bool (((c : Nat) : Int) != 0)) (by kernel_rfl) fun w9 h9 => by rw [hc0]
      · have hc0 : sameRc y r = (((c : Nat) : Int) == 0) := by rw [Bool.eq_iff_iff, sameRc_iff, hyr, hiff, beq_iff_eq]; omega
        generalize hT : (recB r).set K z = T at *
        rw [hlen] at G6
        refine sat_call #[.slice A_G5 (recB r).length c_G5] (by kernel_rfl) fun w15 h15 => ?_
        rw [hlen]
        refine (getR_any A_G5 c_G5 T _ (G6.le h15).reads.rdn limT).mono ?_
        rintro e v15 ⟨⟨_, rfl, hA⟩, hb15⟩
        rw [eg] at hA
        obtain ⟨A_y1, n_y1, c_y1, A_y2, n_y2, c_y2, X_y, x_y, Y_y, y_y, rfl, r_y1, r_y2, F_y3, F_y4⟩ := hA
        rw [eg]
        refine ⟨hb15, [.int .i64 y.kind, .int .i64 y.epoch, .int .i64 y.code, .bool y.t.neg, .slice A_y1 n_y1 c_y1, .int .i64 y.t.e, .bool y.h.neg, .slice A_y2 n_y2 c_y2, .int .i64 y.h.e, .slice X_y y.boxes.length x_y, .slice Y_y y.sigs.length y_y, .int .i64 0], _, rfl, by kernel_rfl, by kernel_rfl, fun g15 => ?_⟩
        replace r_r1 := g15.rdD r_r1; replace r_r2 := g15.rdD r_r2; replace F_r3 := F_r3.mv g15.mv; replace F_r4 := F_r4.mv g15.mv; replace FB := FB.mv g15.mv; replace G6 := G6.le g15
        replace F_y3 := F_y3.mv (Sx.Mv.fresh h15.wf); replace F_y4 := F_y4.mv (Sx.Mv.fresh h15.wf)
        clear h15 hb15
        refine sat_chkB (by kernel_rfl) ?_
        refine sat_prim (v := .bool false) (by kernel_rfl) ?_
        refine sat_false (by kernel_rfl) ?_
        refine sat_call #[.agg #[.int .i64 y.kind, .int .i64 y.epoch, .int .i64 y.code, .bool y.t.neg, .slice A_y1 n_y1 c_y1, .int .i64 y.t.e, .bool y.h.neg, .slice A_y2 n_y2 c_y2, .int .i64 y.h.e, .slice X_y y.boxes.length x_y, .slice Y_y y.sigs.length y_y]] (by kernel_rfl) fun w16 h16 => ?_
        refine (putR_any _ y _ (mkRc (h16.rdD r_y1) (h16.rdD r_y2) ((F_y3.mv h16.mv).any) ((F_y4.mv h16.mv).any))).mono ?_
        rintro e v16 ⟨⟨A7, c7, rfl, F7⟩, hb16⟩
        rw [putB_yes hmy, hby] at F7
        rw [putB_yes hmy, putE_yes hmy, hby]
        refine ⟨hb16, [.slice A7 T.length c7, .int .i64 0], _, rfl, by kernel_rfl, by kernel_rfl, fun g16 => ?_⟩
        replace r_r1 := g16.rdD r_r1; replace r_r2 := g16.rdD r_r2; replace F_r3 := F_r3.mv g16.mv; replace F_r4 := F_r4.mv g16.mv; replace FB := FB.mv g16.mv; replace G6 := G6.le g16; replace r_y1 := g16.rdD r_y1; replace r_y2 := g16.rdD r_y2; replace F_y3 := F_y3.mv g16.mv; replace F_y4 := F_y4.mv g16.mv
        replace F7 := F7.mv (Sx.Mv.fresh h16.wf)
        clear h16 hb16
        refine sat_call #[] (by kernel_rfl) fun w17 h17 => ?_
        refine (told21_any _).mono ?_
        rintro e v17 ⟨rfl, hb17⟩
        refine ⟨hb17, [.bool true], _, rfl, by kernel_rfl, by kernel_rfl, fun g17 => ?_⟩
        replace r_r1 := g17.rdD r_r1; replace r_r2 := g17.rdD r_r2; replace F_r3 := F_r3.mv g17.mv; replace F_r4 := F_r4.mv g17.mv; replace FB := FB.mv g17.mv; replace G6 := G6.le g17; replace r_y1 := g17.rdD r_y1; replace r_y2 := g17.rdD r_y2; replace F_y3 := F_y3.mv g17.mv; replace F_y4 := F_y4.mv g17.mv; replace F7 := F7.mv g17.mv
        clear h17 hb17
        refine sat_true (by kernel_rfl) ?_
        refine sat_prim (v := .bool true) (by kernel_rfl) ?_
        refine sat_true (by kernel_rfl) ?_
        refine Sx.sat_convR F7 (by kernel_rfl) Try.underlying29 Try.underlying5 Try.underlying9 fW.u64 ?_
        refine Sx.sat_convG G6 (by kernel_rfl) Try.underlying29 Try.underlying5 Try.underlying9 ?_
        refine sat_prim (v := .bool (((Sx.strB T).toList == (Sx.strB T).toList) != false)) (by kernel_rfl) ?_
        refine sat_trueP (b := ((Sx.strB T).toList == (Sx.strB T).toList) != false) (by kernel_rfl) (by simp) ?_
        refine sat_call #[.agg #[.int .i64 y.kind, .int .i64 y.epoch, .int .i64 y.code, .bool y.t.neg, .slice A_y1 n_y1 c_y1, .int .i64 y.t.e, .bool y.h.neg, .slice A_y2 n_y2 c_y2, .int .i64 y.h.e, .slice X_y y.boxes.length x_y, .slice Y_y y.sigs.length y_y], .agg #[.int .i64 r.kind, .int .i64 r.epoch, .int .i64 r.code, .bool r.t.neg, .slice A_r1 n_r1 c_r1, .int .i64 r.t.e, .bool r.h.neg, .slice A_r2 n_r2 c_r2, .int .i64 r.h.e, .slice X_r r.boxes.length x_r, .slice Y_r r.sigs.length y_r]] (by kernel_rfl) fun w18 h18 => ?_
        refine (sameR_any _ _ y r _ (mkRc (h18.rdD r_y1) (h18.rdD r_y2) ((F_y3.mv h18.mv).any) ((F_y4.mv h18.mv).any)) (mkRc (h18.rdD r_r1) (h18.rdD r_r2) ((F_r3.mv h18.mv).any) ((F_r4.mv h18.mv).any))).mono ?_
        rintro e v18 ⟨rfl, hb18⟩
        refine ⟨hb18, [.bool (sameRc y r)], _, rfl, by kernel_rfl, by kernel_rfl, fun g18 => ?_⟩
        replace r_r1 := g18.rdD r_r1; replace r_r2 := g18.rdD r_r2; replace F_r3 := F_r3.mv g18.mv; replace F_r4 := F_r4.mv g18.mv; replace FB := FB.mv g18.mv; replace G6 := G6.le g18; replace r_y1 := g18.rdD r_y1; replace r_y2 := g18.rdD r_y2; replace F_y3 := F_y3.mv g18.mv; replace F_y4 := F_y4.mv g18.mv; replace F7 := F7.mv g18.mv
        clear h18 hb18
        refine sat_prim (v := .bool (((c : Nat) : Int) == 0)) (by kernel_rfl) ?_
        refine sat_prim (v := .bool (sameRc y r == (((c : Nat) : Int) == 0))) (by kernel_rfl) ?_
        exact sat_ret (.bool (sameRc y r == (((c : Nat) : Int) == 0))) (by kernel_rfl) fun w9 h9 => by rw [hc0]; simp
end Go.Proofs.Ytpkfjfpknbhekaa
