/- What is read back from bytes, plainly. What is read has limbs that are limbs, plainly. A record's bytes cut off, with a byte behind, turned: plainly. sluicewayref21.May, by its tree. Printed by wip/mk_WrAA.py. Rows of bytes that a call builds. -/
import Derived.Test.YtpkfjfpknbhekaaWrLx
import Derived.Test.YtpkfjfpknbhekaaWrRx
namespace Go.Proofs.Ytpkfjfpknbhekaa
open Go.RowKit Pl
theorem getS_ok {b : List Nat} {x : Rec} (h : getS b = (x, 0)) : (∃ t, prec b = some (x, t)) ∧ mayR x = true ∧ recB x = b := by
  unfold getS at h
  cases hp : prec b with
  | none => rw [hp] at h; cases h
  | some q =>
    obtain ⟨y, t⟩ := q
    rw [hp] at h
    simp only at h
    cases hm : mayR y && decide (recB y = b)
    · rw [hm] at h
      cases h
    · rw [hm] at h
      rw [Bool.and_eq_true, decide_eq_true_eq] at hm
      injection h with h1 h2
      subst h1
      exact ⟨⟨t, rfl⟩, hm⟩
theorem getS_two (b : List Nat) : (getS b).2 = 0 ∨ getS b = (zeroR, 9) := by
  unfold getS
  cases prec b with
  | none => exact .inr rfl
  | some q =>
    obtain ⟨y, t⟩ := q
    simp only
    cases mayR y && decide (recB y = b)
    · exact .inr rfl
    · exact .inl rfl
theorem getS_rec {r : Rec} (h : mayR r = true) (l : LimR r) : getS (recB r) = (r, 0) := by
  have hp := prec_back (rest := []) h l
  rw [List.append_nil] at hp
  unfold getS
  rw [hp]
  simp only [h, decide_true, Bool.and_self, cond_true]
end Go.Proofs.Ytpkfjfpknbhekaa
namespace Go.Proofs.Ytpkfjfpknbhekaa
open Go.RowKit Pl
def Byt (b : List Nat) : Prop := ∀ y ∈ b, y < 256
def GoodP {α : Type} (p : List Nat → Option (α × List Nat)) (P : α → Prop) : Prop := ∀ b x t, Byt b → p b = some (x, t) → P x ∧ Byt t
theorem andP_inv {α β : Type} {o : Option (α × List Nat)} {f : α → List Nat → Option β} {z : β} (h : andP o f = some z) : ∃ x b, o = some (x, b) ∧ f x b = some z := by
  cases o with
  | none => cases h
  | some q => exact ⟨q.1, q.2, rfl, h⟩
theorem Byt.tail {c : Nat} {b : List Nat} (h : Byt (c :: b)) : Byt b := fun y hy => h y (List.mem_cons_of_mem _ hy)
theorem good_pnumF (most : Nat) : ∀ (b : List Nat) (n j : Nat) (x : Nat) (t : List Nat), Byt b → pnumF most n j b = some (x, t) → Byt t
  | [], _, _, _, _, _, h => by cases h
  | c :: b, n, j, x, t, hb, h => by
    have h : (bif decide (most < n + c % 128 * 2 ^ (7 * j)) || decide (5 < j) then none else bif decide (c < 128) then some (n + c % 128 * 2 ^ (7 * j), b) else pnumF most (n + c % 128 * 2 ^ (7 * j)) (j + 1) b) = some (x, t) := h
    cases h1 : decide (most < n + c % 128 * 2 ^ (7 * j)) || decide (5 < j)
    · rw [h1, cond_false] at h
      cases h2 : decide (c < 128)
      · rw [h2, cond_false] at h
        exact good_pnumF most b _ _ x t hb.tail h
      · rw [h2, cond_true] at h
        injection h with h
        injection h with _ h
        rw [← h]
        exact hb.tail
    · rw [h1] at h
      cases h
theorem good_pnum (most : Nat) : GoodP (pnum most) (fun _ => True) := fun b x t hb h => ⟨trivial, good_pnumF most b 0 0 x t hb h⟩
theorem good_pbyte : GoodP pbyte (fun x => x < 256) := fun b x t hb h => by
  cases b with
  | nil => cases h
  | cons c b =>
    injection h with h
    injection h with h1 h2
    subst h1 h2
    exact ⟨hb _ (List.mem_cons_self ..), hb.tail⟩
theorem good_plimbF : ∀ (k : Nat) (m : Nat) (b : List Nat) (x : Nat) (t : List Nat), k ≤ 8 → m < 256 ^ (8 - k) → Byt b → plimbF k m b = some (x, t) → x < 256 ^ 8 ∧ Byt t
  | 0, m, b, x, t, _, hm, hb, h => by
    injection h with h
    injection h with h1 h2
    subst h1 h2
    exact ⟨hm, hb⟩
  | _ + 1, _, [], _, _, _, _, _, h => by cases h
  | k + 1, m, c :: b, x, t, hk, hm, hb, h => by
    have hs := lt_step (x := c) hm (hb _ (List.mem_cons_self ..))
    refine good_plimbF k (m + c * 256 ^ (7 - k)) b x t (by omega) ?_ hb.tail h
    rw [show 8 - (k + 1) = 7 - k by omega] at hs
    rw [show 8 - k = 7 - k + 1 by omega]
    exact hs
theorem good_plimb : GoodP plimb (fun x => x < BB) := fun b x t hb h => good_plimbF 8 0 b x t (Nat.le_refl _) (by decide) hb h
theorem good_prep {α : Type} {p : List Nat → Option (α × List Nat)} {P : α → Prop} (hp : GoodP p P) : ∀ (n : Nat) (acc : List α) (b : List Nat) (l : List α) (t : List Nat), (∀ x ∈ acc, P x) → Byt b → prep p n acc b = some (l, t) → (∀ x ∈ l, P x) ∧ Byt t
  | 0, acc, b, l, t, ha, hb, h => by
    injection h with h
    injection h with h1 h2
    subst h1 h2
    exact ⟨ha, hb⟩
  | n + 1, acc, b, l, t, ha, hb, h => by
    obtain ⟨x, b1, h1, h2⟩ := andP_inv h
    obtain ⟨q1, q2⟩ := hp b x b1 hb h1
    refine good_prep hp n (acc ++ [x]) b1 l t (fun y hy => ?_) q2 h2
    rcases List.mem_append.1 hy with hy | hy
    · exact ha y hy
    · obtain rfl := List.mem_singleton.1 hy
      exact q1
theorem good_prow {α : Type} {most : Nat} {p : List Nat → Option (α × List Nat)} {P : α → Prop} (hp : GoodP p P) : GoodP (prow most p) (fun l => ∀ x ∈ l, P x) := fun b l t hb h => by
  obtain ⟨n, b1, h1, h2⟩ := andP_inv h
  exact good_prep hp n [] b1 l t (fun _ h => by cases h) (good_pnum _ b n b1 hb h1).2 h2
theorem good_pdy : GoodP pdy LimD := fun b d t hb h => by
  obtain ⟨n, b1, h1, h2⟩ := andP_inv h
  have g1 := (good_pnum _ b n b1 hb h1).2
  obtain ⟨m, b2, h3, h4⟩ := andP_inv h2
  have g2 := good_prep good_plimb n [] b1 m b2 (fun _ h => by cases h) g1 h3
  obtain ⟨c, b3, h5, h6⟩ := andP_inv h4
  have g3 := (good_pbyte b2 c b3 g2.2 h5).2
  obtain ⟨e, b4, h7, h8⟩ := andP_inv h6
  have g4 := (good_pnum _ b3 e b4 g3 h7).2
  injection h8 with h8
  injection h8 with h9 h10
  subst h9 h10
  exact ⟨g2.1, g4⟩
theorem good_piv : GoodP piv LimI := fun b a t hb h => by
  obtain ⟨x, b1, h1, h2⟩ := andP_inv h
  obtain ⟨l1, g1⟩ := good_pdy b x b1 hb h1
  obtain ⟨y, b2, h3, h4⟩ := andP_inv h2
  obtain ⟨l2, g2⟩ := good_pdy b1 y b2 g1 h3
  injection h4 with h4
  injection h4 with h5 h6
  subst h5 h6
  exact ⟨⟨l1, l2⟩, g2⟩
theorem good_ptb : GoodP ptb LimT' := fun b a t hb h => by
  obtain ⟨n, b1, h1, h2⟩ := andP_inv h
  have g1 := (good_pnum _ b n b1 hb h1).2
  obtain ⟨p, b2, h3, h4⟩ := andP_inv h2
  obtain ⟨l2, g2⟩ := good_prep good_pdy (n + 1) [] b1 p b2 (fun _ h => by cases h) g1 h3
  obtain ⟨q, b3, h5, h6⟩ := andP_inv h4
  obtain ⟨l3, g3⟩ := good_prep good_piv n [] b2 q b3 (fun _ h => by cases h) g2 h5
  injection h6 with h6
  injection h6 with h7 h8
  subst h7 h8
  exact ⟨⟨l2, l3⟩, g3⟩
theorem good_prec : GoodP prec LimR := fun b r t hb h => by
  obtain ⟨k, b1, h1, h2⟩ := andP_inv h
  have g1 := (good_pnum _ b k b1 hb h1).2
  obtain ⟨e, b2, h3, h4⟩ := andP_inv h2
  have g2 := (good_pnum _ b1 e b2 g1 h3).2
  obtain ⟨c, b3, h5, h6⟩ := andP_inv h4
  have g3 := (good_pnum _ b2 c b3 g2 h5).2
  obtain ⟨x, b4, h7, h8⟩ := andP_inv h6
  obtain ⟨l4, g4⟩ := good_pdy b3 x b4 g3 h7
  obtain ⟨y, b5, h9, h10⟩ := andP_inv h8
  obtain ⟨l5, g5⟩ := good_pdy b4 y b5 g4 h9
  obtain ⟨bx, b6, h11, h12⟩ := andP_inv h10
  obtain ⟨l6, g6⟩ := good_prow (good_prow good_piv) b5 bx b6 g5 h11
  obtain ⟨sg, b7, h13, h14⟩ := andP_inv h12
  obtain ⟨l7, g7⟩ := good_prow (good_prow good_ptb) b6 sg b7 g6 h13
  injection h14 with h14
  injection h14 with h15 h16
  subst h15 h16
  exact ⟨⟨l4, l5, l6, l7⟩, g7⟩
end Go.Proofs.Ytpkfjfpknbhekaa
namespace Go.Proofs.Ytpkfjfpknbhekaa
open Go.RowKit Pl
theorem Byt.app {a b : List Nat} (ha : Byt a) (hb : Byt b) : Byt (a ++ b) := fun y hy => (List.mem_append.1 hy).elim (ha y) (hb y)
theorem Byt.one {x : Nat} (h : x < 256) : Byt [x] := fun y hy => by obtain rfl := List.mem_singleton.1 hy; exact h
/-- What Get takes is a record's bytes. -/
theorem getS_is {b : List Nat} {x : Rec} (hb : Byt b) (h : getS b = (x, 0)) : mayR x = true ∧ LimR x ∧ recB x = b := by
  obtain ⟨⟨t, h1⟩, h2, h3⟩ := getS_ok h
  exact ⟨h2, (good_prec b x t hb h1).1, h3⟩
end Go.Proofs.Ytpkfjfpknbhekaa
namespace Go.Proofs.Ytpkfjfpknbhekaa
open Go.RowKit Pl
open Sx (sat_call sat_chk sat_prim sat_ite sat_true sat_false sat_trueP sat_falseP sat_ret sat_row sat_callP sat_loop sat_back sat_idx sat_el sat_elf sat_elc sat_load sat_rowN sat_app sat_callB sat_alt rows_one rows_two all_nil all_cons okB okS okI)

def tr_rmay21 : Sx.Tree := .chk [.lf 0, .lf 1, .lf 2, .lf 3, .lf 4, .lf 5, .lf 6, .lf 7, .lf 8, .lf 9, .lf 10] (.prim (.bin .lss) [.lf 0, .num .i64 1] (.ite (.lf 11) (.ret (.one (.bit false))) (.prim (.bin .gtr) [.lf 0, .num .i64 3] (.ite (.lf 12) (.ret (.one (.bit false))) (.prim (.bin .lss) [.lf 1, .num .i64 0] (.ite (.lf 13) (.ret (.one (.bit false))) (.prim (.bin .gtr) [.lf 1, .num .i64 1073741824] (.ite (.lf 14) (.ret (.one (.bit false))) (.prim (.bin .lss) [.lf 2, .num .i64 0] (.ite (.lf 15) (.ret (.one (.bit false))) (.prim (.bin .gtr) [.lf 2, .num .i64 200] (.ite (.lf 16) (.ret (.one (.bit false))) (.call 19 [.ag [.lf 3, .lf 4, .lf 5]] .one (.prim .not [.lf 17] (.ite (.lf 18) (.ret (.one (.bit false))) (.call 19 [.ag [.lf 6, .lf 7, .lf 8]] .one (.prim .not [.lf 19] (.ite (.lf 20) (.ret (.one (.bit false))) (.prim .len [.lf 9] (.prim (.bin .gtr) [.lf 21, .num .i64 16] (.ite (.lf 22) (.ret (.one (.bit false))) (.prim .len [.lf 10] (.prim (.bin .gtr) [.lf 23, .num .i64 16] (.ite (.lf 24) (.ret (.one (.bit false))) (.loop 0 [.num .i64 0, .bit false] (.prim .len [.lf 9] (.prim (.bin .lss) [.lf 25, .lf 27] (.ite (.lf 28) (.prim (.idx 1) [.lf 9, .lf 25] (.load 45 (.lf 29) .one (.prim .len [.lf 30] (.prim (.bin .gtr) [.lf 31, .num .i64 64] (.ite (.lf 32) (.ret (.one (.bit false))) (.prim (.idx 1) [.lf 9, .lf 25] (.load 45 (.lf 33) .one (.call 20 [.one (.lf 34)] .one (.prim .not [.lf 35] (.ite (.lf 36) (.ret (.one (.bit false))) (.prim (.bin .add) [.lf 25, .num .i64 1] (.back 0 [.lf 37, .lf 26])))))))))))) (.loop 0 [.num .i64 0, .lf 26] (.prim .len [.lf 10] (.prim (.bin .lss) [.lf 29, .lf 31] (.ite (.lf 32) (.prim (.idx 1) [.lf 10, .lf 29] (.load 46 (.lf 33) .one (.prim .len [.lf 34] (.prim (.bin .gtr) [.lf 35, .num .i64 64] (.ite (.lf 36) (.ret (.one (.bit false))) (.loop 1 [.num .i64 0, .lf 30] (.prim (.idx 1) [.lf 10, .lf 29] (.load 46 (.lf 39) .one (.prim .len [.lf 40] (.prim (.bin .lss) [.lf 37, .lf 41] (.ite (.lf 42) (.prim (.idx 1) [.lf 10, .lf 29] (.load 46 (.lf 43) .one (.prim (.idx 2) [.lf 44, .lf 37] (.load 50 (.lf 45) (.ag 2) (.call 21 [.ag [.lf 46, .lf 47]] .one (.prim .not [.lf 48] (.ite (.lf 49) (.ret (.one (.bit false))) (.prim (.bin .add) [.lf 37, .num .i64 1] (.back 1 [.lf 50, .lf 38]))))))))) (.prim (.bin .add) [.lf 29, .num .i64 1] (.back 0 [.lf 43, .lf 38]))))))))))))) (.ret (.one (.bit true)))))))))))))))))))))))))))))))))))
theorem tr_rmay21_eq : Sx.treeAt Try.prog 8 [] [] [(true, 11)] = some tr_rmay21 := by kernel_rfl

theorem rmayRc_any (v_r : Value) (r : Rec) (w : World) (h_r : RcAt (fun _ => True) w v_r r) :
    Calls Try.prog 8 #[v_r] w fun e w' => e = .returned (.bool (mayR r)) ∧ Below w.heap.size w w' := by
  obtain ⟨A_r1, n_r1, c_r1, A_r2, n_r2, c_r2, X_r, x_r, Y_r, y_r, rfl, r_r1, r_r2, F_r3, F_r4⟩ := h_r
  replace F_r3 := F_r3.start
  replace F_r4 := F_r4.start
  have M_r3 := F_r3.le
  have M_r4 := F_r4.le
  refine (Sx.runA [] [] (ls := [.int .i64 r.kind, .int .i64 r.epoch, .int .i64 r.code, .bool r.t.neg, .slice A_r1 n_r1 c_r1, .int .i64 r.t.e, .bool r.h.neg, .slice A_r2 n_r2 c_r2, .int .i64 r.h.e, .slice X_r r.boxes.length x_r, .slice Y_r r.sigs.length y_r]) (shs := [(true, 11)]) (R := fun v _ => v = .bool (mayR r)) tr_rmay21_eq rfl (by decide) (fun q h => by cases h) ?_).mono (fun e w' ⟨v, he, hv, hb⟩ => ⟨by rw [he, hv], hb⟩)
  unfold tr_rmay21
  refine sat_chkB (by kernel_rfl) ?_
  refine sat_prim (v := .bool (decide ((r.kind : Int) < 1))) (by kernel_rfl) ?_
  cases hE1 : (decide ((r.kind : Int) < 1))
  · refine sat_false (by kernel_rfl) ?_
    refine sat_prim (v := .bool (decide ((3 : Int) < r.kind))) (by kernel_rfl) ?_
    cases hE2 : (decide ((3 : Int) < r.kind))
    · refine sat_false (by kernel_rfl) ?_
      refine sat_prim (v := .bool (decide ((r.epoch : Int) < 0))) (by kernel_rfl) ?_
      cases hE3 : (decide ((r.epoch : Int) < 0))
      · refine sat_false (by kernel_rfl) ?_
        refine sat_prim (v := .bool (decide ((1073741824 : Int) < r.epoch))) (by kernel_rfl) ?_
        cases hE4 : (decide ((1073741824 : Int) < r.epoch))
        · refine sat_false (by kernel_rfl) ?_
          refine sat_prim (v := .bool (decide ((r.code : Int) < 0))) (by kernel_rfl) ?_
          cases hE5 : (decide ((r.code : Int) < 0))
          · refine sat_false (by kernel_rfl) ?_
            refine sat_prim (v := .bool (decide ((200 : Int) < r.code))) (by kernel_rfl) ?_
            cases hE6 : (decide ((200 : Int) < r.code))
            · refine sat_false (by kernel_rfl) ?_
              refine sat_call #[.agg #[.bool r.t.neg, .slice A_r1 n_r1 c_r1, .int .i64 r.t.e]] (by kernel_rfl) fun w7 h7 => ?_
              refine (rmayD_any _ (r.t) _ (h7.rdD r_r1)).mono ?_
              rintro e v7 ⟨rfl, hb7⟩
              refine ⟨hb7, [.bool (mayD r.t)], _, rfl, by kernel_rfl, by kernel_rfl, fun g7 => ?_⟩
              replace r_r1 := g7.rdD r_r1; replace r_r2 := g7.rdD r_r2; replace F_r3 := F_r3.mv g7.mv; replace F_r4 := F_r4.mv g7.mv
              clear h7 hb7
              refine sat_prim (v := .bool (!(mayD r.t))) (by kernel_rfl) ?_
              cases hE8 : (mayD r.t)
              · refine sat_true (by kernel_rfl) ?_
                exact sat_ret (.bool false) (by kernel_rfl) fun w9 h9 => congrArg Value.bool (by unfold mayR; rw [hE1, hE2, hE3, hE4, hE5, hE6, hE8]; rfl)
              · refine sat_false (by kernel_rfl) ?_
                refine sat_call #[.agg #[.bool r.h.neg, .slice A_r2 n_r2 c_r2, .int .i64 r.h.e]] (by kernel_rfl) fun w9 h9 => ?_
                refine (rmayD_any _ (r.h) _ (h9.rdD r_r2)).mono ?_
                rintro e v9 ⟨rfl, hb9⟩
                refine ⟨hb9, [.bool (mayD r.h)], _, rfl, by kernel_rfl, by kernel_rfl, fun g9 => ?_⟩
                replace r_r1 := g9.rdD r_r1; replace r_r2 := g9.rdD r_r2; replace F_r3 := F_r3.mv g9.mv; replace F_r4 := F_r4.mv g9.mv
                clear h9 hb9
                refine sat_prim (v := .bool (!(mayD r.h))) (by kernel_rfl) ?_
                cases hE10 : (mayD r.h)
                · refine sat_true (by kernel_rfl) ?_
                  exact sat_ret (.bool false) (by kernel_rfl) fun w9 h9 => congrArg Value.bool (by unfold mayR; rw [hE1, hE2, hE3, hE4, hE5, hE6, hE8, hE10]; rfl)
                · refine sat_false (by kernel_rfl) ?_
                  refine sat_prim (v := .int .i64 ((r.boxes.length : Nat) : Int)) (by kernel_rfl) ?_
                  refine sat_prim (v := .bool (decide ((16 : Int) < ((r.boxes.length : Nat) : Int)))) (by kernel_rfl) ?_
                  cases hE11 : (decide ((16 : Int) < ((r.boxes.length : Nat) : Int)))
                  · refine sat_false (by kernel_rfl) ?_
                    refine sat_prim (v := .int .i64 ((r.sigs.length : Nat) : Int)) (by kernel_rfl) ?_
                    refine sat_prim (v := .bool (decide ((16 : Int) < ((r.sigs.length : Nat) : Int)))) (by kernel_rfl) ?_
                    cases hE12 : (decide ((16 : Int) < ((r.sigs.length : Nat) : Int)))
                    · refine sat_false (by kernel_rfl) ?_
                      refine sat_loop (fun Kn vs W => ∃ (i : Nat), vs = [.int .i64 ((i : Nat) : Int), .bool false] ∧ Kn = r.boxes.length - i ∧ i ≤ r.boxes.length ∧ (r.boxes.all okLI = (r.boxes.drop i).all okLI)) [.int .i64 0, .bool false] (by kernel_rfl) (fun w1 h1 => ⟨_, 0, rfl, rfl, Nat.zero_le _, rfl⟩) ?_
                      rintro Kn vs w13 h13 ⟨i, rfl, rfl, h_i, hm1⟩
                      replace r_r1 := h13.rdD r_r1; replace r_r2 := h13.rdD r_r2; replace F_r3 := F_r3.mv h13.mv; replace F_r4 := F_r4.mv h13.mv
                      clear h13
                      refine sat_prim (v := .int .i64 ((r.boxes.length : Nat) : Int)) (by kernel_rfl) ?_
                      refine sat_prim (v := .bool (decide ((((i : Nat) : Int) : Int) < ((r.boxes.length : Nat) : Int)))) (by kernel_rfl) ?_
                      cases hi : (decide ((((i : Nat) : Int) : Int) < ((r.boxes.length : Nat) : Int)))
                      · refine sat_false (by kernel_rfl) ?_
                        refine sat_loop (fun Kn vs W => ∃ (j : Nat), vs = [.int .i64 ((j : Nat) : Int), .bool false] ∧ Kn = r.sigs.length - j ∧ j ≤ r.sigs.length ∧ (r.sigs.all okLT = (r.sigs.drop j).all okLT)) [.int .i64 0, .bool false] (by kernel_rfl) (fun w1 h1 => ⟨_, 0, rfl, rfl, Nat.zero_le _, rfl⟩) ?_
                        rintro Kn vs w15 h15 ⟨j, rfl, rfl, h_j, hm2⟩
                        replace r_r1 := h15.rdD r_r1; replace r_r2 := h15.rdD r_r2; replace F_r3 := F_r3.mv h15.mv; replace F_r4 := F_r4.mv h15.mv
                        clear h15
                        refine sat_prim (v := .int .i64 ((r.sigs.length : Nat) : Int)) (by kernel_rfl) ?_
                        refine sat_prim (v := .bool (decide ((((j : Nat) : Int) : Int) < ((r.sigs.length : Nat) : Int)))) (by kernel_rfl) ?_
                        cases hj : (decide ((((j : Nat) : Int) : Int) < ((r.sigs.length : Nat) : Int)))
                        · refine sat_false (by kernel_rfl) ?_
                          exact sat_ret (.bool true) (by kernel_rfl) fun w9 h9 => congrArg Value.bool (by unfold mayR; rw [hE1, hE2, hE3, hE4, hE5, hE6, hE8, hE10, hE11, hE12, allp_end hm1 hi, allp_end hm2 hj]; rfl)
                        · refine sat_true (by kernel_rfl) ?_
                          refine sat_idx (A := Y_r) (c := y_r) (kk := .i64) (j) (by kernel_rfl) (by kernel_rfl) (lt_of hj) F_r4.addr fun g17 o17 e17 => ?_
                          obtain ⟨x1, h_x1⟩ : ∃ x_, r.sigs[(j)]? = some x_ := ⟨_, List.getElem?_eq_getElem (lt_of hj)⟩
                          refine sat_elc (d := 0) F_r4 e17 h_x1 rfl (by kernel_rfl) (by kernel_rfl) ?_
                          rintro _ ⟨A_L2, c_L2, rfl, F_L2⟩
                          refine ⟨_, rfl, ?_⟩
                          refine sat_prim (v := .int .i64 ((x1.length : Nat) : Int)) (by kernel_rfl) ?_
                          refine sat_prim (v := .bool (decide ((64 : Int) < ((x1.length : Nat) : Int)))) (by kernel_rfl) ?_
                          cases hn2 : (decide ((64 : Int) < ((x1.length : Nat) : Int)))
                          · refine sat_false (by kernel_rfl) ?_
                            have M_x := F_L2.le
                            refine sat_loop (fun Kn vs W => ∃ (k : Nat), vs = [.int .i64 ((k : Nat) : Int), .bool false] ∧ Kn = x1.length - k ∧ k ≤ x1.length ∧ (x1.all mayT = (x1.drop k).all mayT)) [.int .i64 0, .bool false] (by kernel_rfl) (fun w1 h1 => ⟨_, 0, rfl, rfl, Nat.zero_le _, rfl⟩) ?_
                            rintro Kn vs w19 h19 ⟨k, rfl, rfl, h_k, hm3⟩
                            replace r_r1 := h19.rdD r_r1; replace r_r2 := h19.rdD r_r2; replace F_r3 := F_r3.mv h19.mv; replace F_r4 := F_r4.mv h19.mv; replace F_L2 := F_L2.mv h19.mv
                            clear h19
                            refine sat_idx (A := Y_r) (c := y_r) (kk := .i64) (j) (by kernel_rfl) (by kernel_rfl) (lt_of hj) F_r4.addr fun g20 o20 e20 => ?_
                            refine sat_elc (d := 0) F_r4 e20 h_x1 rfl (by kernel_rfl) (by kernel_rfl) ?_
                            rintro _ ⟨A_L3, c_L3, rfl, F_L3⟩
                            refine ⟨_, rfl, ?_⟩
                            refine sat_prim (v := .int .i64 ((x1.length : Nat) : Int)) (by kernel_rfl) ?_
                            refine sat_prim (v := .bool (decide ((((k : Nat) : Int) : Int) < ((x1.length : Nat) : Int)))) (by kernel_rfl) ?_
                            cases hk : (decide ((((k : Nat) : Int) : Int) < ((x1.length : Nat) : Int)))
                            · refine sat_false (by kernel_rfl) ?_
                              refine sat_prim (v := .int .i64 (((j + 1 : Nat)) : Int)) (Eq.trans (b := some (.int .i64 (IntKind.i64.wrap (((j : Nat) : Int) + 1)))) (by kernel_rfl) (by rw [Sx.wrap_succ (n := r.sigs.length) (lt_of hj) M_r4])) ?_
                              exact Sx.sat_backO (d := 0) (d' := 1) rfl [.int .i64 (((j + 1 : Nat)) : Int), .bool false] (by kernel_rfl) fun w9 h9 => ⟨_, by have := lt_of hj; omega, j + 1, rfl, rfl, by have := lt_of hj; omega, allp_step hm2 h_x1 (by unfold okLT; rw [hn2, allp_end hm3 hk]; rfl)⟩
                            · refine sat_true (by kernel_rfl) ?_
                              refine sat_idx (A := Y_r) (c := y_r) (kk := .i64) (j) (by kernel_rfl) (by kernel_rfl) (lt_of hj) F_r4.addr fun g22 o22 e22 => ?_
                              refine sat_elc (d := 0) F_r4 e22 h_x1 rfl (by kernel_rfl) (by kernel_rfl) ?_
                              rintro _ ⟨A_L4, c_L4, rfl, F_L4⟩
                              refine ⟨_, rfl, ?_⟩
                              refine sat_idx (A := A_L4) (c := c_L4) (kk := .i64) (k) (by kernel_rfl) (by kernel_rfl) (lt_of hk) F_L4.addr fun g23 o23 e23 => ?_
                              obtain ⟨x5, h_x5⟩ : ∃ x_, x1[(k)]? = some x_ := ⟨_, List.getElem?_eq_getElem (lt_of hk)⟩
                              refine sat_el F_L4 e23 h_x5 rfl (by kernel_rfl) (by kernel_rfl) (by kernel_rfl) ?_
                              rintro _ ⟨A_L6, _, c_L6, B_L6, _, d_L6, rfl, F_L61, F_L62⟩
                              obtain rfl := F_L61.len
                              obtain rfl := F_L62.len
                              refine sat_call #[.agg #[.slice A_L6 x5.at_.length c_L6, .slice B_L6 x5.v.length d_L6]] (by kernel_rfl) fun w24 h24 => ?_
                              refine (rmayT_any _ _ _ _ x5 _ ((F_L61.mv h24.mv).any) ((F_L62.mv h24.mv).any)).mono ?_
                              rintro e v24 ⟨rfl, hb24⟩
                              refine ⟨hb24, [.bool (mayT x5)], _, rfl, by kernel_rfl, by kernel_rfl, fun g24 => ?_⟩
                              replace r_r1 := g24.rdD r_r1; replace r_r2 := g24.rdD r_r2; replace F_r3 := F_r3.mv g24.mv; replace F_r4 := F_r4.mv g24.mv; replace F_L2 := F_L2.mv g24.mv; replace F_L3 := F_L3.mv g24.mv; replace F_L4 := F_L4.mv g24.mv; replace F_L61 := F_L61.mv g24.mv; replace F_L62 := F_L62.mv g24.mv
                              clear h24 hb24
                              refine sat_prim (v := .bool (!(mayT x5))) (by kernel_rfl) ?_
                              cases hT : (mayT x5)
                              · refine sat_true (by kernel_rfl) ?_
                                exact sat_ret (.bool false) (by kernel_rfl) fun w9 h9 => congrArg Value.bool (by unfold mayR; rw [hE1, hE2, hE3, hE4, hE5, hE6, hE8, hE10, hE11, hE12, allp_end hm1 hi, allp_no hm2 h_x1 (by unfold okLT; rw [hn2, allp_no hm3 h_x5 hT]; rfl)]; rfl)
                              · refine sat_false (by kernel_rfl) ?_
                                refine sat_prim (v := .int .i64 (((k + 1 : Nat)) : Int)) (Eq.trans (b := some (.int .i64 (IntKind.i64.wrap (((k : Nat) : Int) + 1)))) (by kernel_rfl) (by rw [Sx.wrap_succ (n := x1.length) (lt_of hk) M_x])) ?_
                                exact sat_back [.int .i64 (((k + 1 : Nat)) : Int), .bool false] (by kernel_rfl) fun w9 h9 => ⟨_, by have := lt_of hk; omega, k + 1, rfl, rfl, by have := lt_of hk; omega, allp_step hm3 h_x5 hT⟩
                          · refine sat_true (by kernel_rfl) ?_
                            exact sat_ret (.bool false) (by kernel_rfl) fun w9 h9 => congrArg Value.bool (by unfold mayR; rw [hE1, hE2, hE3, hE4, hE5, hE6, hE8, hE10, hE11, hE12, allp_end hm1 hi, allp_no hm2 h_x1 (by unfold okLT; rw [hn2]; rfl)]; rfl)
                      · refine sat_true (by kernel_rfl) ?_
                        refine sat_idx (A := X_r) (c := x_r) (kk := .i64) (i) (by kernel_rfl) (by kernel_rfl) (lt_of hi) F_r3.addr fun g15 o15 e15 => ?_
                        obtain ⟨x1, h_x1⟩ : ∃ x_, r.boxes[(i)]? = some x_ := ⟨_, List.getElem?_eq_getElem (lt_of hi)⟩
                        refine sat_elc (d := 0) F_r3 e15 h_x1 rfl (by kernel_rfl) (by kernel_rfl) ?_
                        rintro _ ⟨A_L2, c_L2, rfl, F_L2⟩
                        refine ⟨_, rfl, ?_⟩
                        refine sat_prim (v := .int .i64 ((x1.length : Nat) : Int)) (by kernel_rfl) ?_
                        refine sat_prim (v := .bool (decide ((64 : Int) < ((x1.length : Nat) : Int)))) (by kernel_rfl) ?_
                        cases hn1 : (decide ((64 : Int) < ((x1.length : Nat) : Int)))
                        · refine sat_false (by kernel_rfl) ?_
                          refine sat_idx (A := X_r) (c := x_r) (kk := .i64) (i) (by kernel_rfl) (by kernel_rfl) (lt_of hi) F_r3.addr fun g17 o17 e17 => ?_
                          refine sat_elc (d := 0) F_r3 e17 h_x1 rfl (by kernel_rfl) (by kernel_rfl) ?_
                          rintro _ ⟨A_L3, c_L3, rfl, F_L3⟩
                          refine ⟨_, rfl, ?_⟩
                          refine sat_call #[.slice A_L3 x1.length c_L3] (by kernel_rfl) fun w18 h18 => ?_
                          refine (rmayB_any _ _ x1 _ ((F_L3.mv h18.mv).any)).mono ?_
                          rintro e v18 ⟨rfl, hb18⟩
                          refine ⟨hb18, [.bool (mayB x1)], _, rfl, by kernel_rfl, by kernel_rfl, fun g18 => ?_⟩
                          replace r_r1 := g18.rdD r_r1; replace r_r2 := g18.rdD r_r2; replace F_r3 := F_r3.mv g18.mv; replace F_r4 := F_r4.mv g18.mv; replace F_L2 := F_L2.mv g18.mv; replace F_L3 := F_L3.mv g18.mv
                          clear h18 hb18
                          refine sat_prim (v := .bool (!(mayB x1))) (by kernel_rfl) ?_
                          cases hq : (mayB x1)
                          · refine sat_true (by kernel_rfl) ?_
                            exact sat_ret (.bool false) (by kernel_rfl) fun w9 h9 => congrArg Value.bool (by unfold mayR; rw [hE1, hE2, hE3, hE4, hE5, hE6, hE8, hE10, hE11, hE12, allp_no hm1 h_x1 (by unfold okLI; rw [hn1]; exact hq)]; rfl)
                          · refine sat_false (by kernel_rfl) ?_
                            refine sat_prim (v := .int .i64 (((i + 1 : Nat)) : Int)) (Eq.trans (b := some (.int .i64 (IntKind.i64.wrap (((i : Nat) : Int) + 1)))) (by kernel_rfl) (by rw [Sx.wrap_succ (n := r.boxes.length) (lt_of hi) M_r3])) ?_
                            exact sat_back [.int .i64 (((i + 1 : Nat)) : Int), .bool false] (by kernel_rfl) fun w9 h9 => ⟨_, by have := lt_of hi; omega, i + 1, rfl, rfl, by have := lt_of hi; omega, allp_step hm1 h_x1 (by unfold okLI; rw [hn1]; exact hq)⟩
                        · refine sat_true (by kernel_rfl) ?_
                          exact sat_ret (.bool false) (by kernel_rfl) fun w9 h9 => congrArg Value.bool (by unfold mayR; rw [hE1, hE2, hE3, hE4, hE5, hE6, hE8, hE10, hE11, hE12, allp_no hm1 h_x1 (by unfold okLI; rw [hn1]; rfl)]; rfl)
                    · refine sat_true (by kernel_rfl) ?_
                      exact sat_ret (.bool false) (by kernel_rfl) fun w9 h9 => congrArg Value.bool (by unfold mayR; rw [hE1, hE2, hE3, hE4, hE5, hE6, hE8, hE10, hE11, hE12]; rfl)
                  · refine sat_true (by kernel_rfl) ?_
                    exact sat_ret (.bool false) (by kernel_rfl) fun w9 h9 => congrArg Value.bool (by unfold mayR; rw [hE1, hE2, hE3, hE4, hE5, hE6, hE8, hE10, hE11]; rfl)
            · refine sat_true (by kernel_rfl) ?_
              exact sat_ret (.bool false) (by kernel_rfl) fun w9 h9 => congrArg Value.bool (by unfold mayR; rw [hE1, hE2, hE3, hE4, hE5, hE6]; rfl)
          · refine sat_true (by kernel_rfl) ?_
            exact sat_ret (.bool false) (by kernel_rfl) fun w9 h9 => congrArg Value.bool (by unfold mayR; rw [hE1, hE2, hE3, hE4, hE5]; rfl)
        · refine sat_true (by kernel_rfl) ?_
          exact sat_ret (.bool false) (by kernel_rfl) fun w9 h9 => congrArg Value.bool (by unfold mayR; rw [hE1, hE2, hE3, hE4]; rfl)
      · refine sat_true (by kernel_rfl) ?_
        exact sat_ret (.bool false) (by kernel_rfl) fun w9 h9 => congrArg Value.bool (by unfold mayR; rw [hE1, hE2, hE3]; rfl)
    · refine sat_true (by kernel_rfl) ?_
      exact sat_ret (.bool false) (by kernel_rfl) fun w9 h9 => congrArg Value.bool (by unfold mayR; rw [hE1, hE2]; rfl)
  · refine sat_true (by kernel_rfl) ?_
    exact sat_ret (.bool false) (by kernel_rfl) fun w9 h9 => congrArg Value.bool (by unfold mayR; rw [hE1]; rfl)

end Go.Proofs.Ytpkfjfpknbhekaa
namespace Go.Proofs.Ytpkfjfpknbhekaa
open Go.RowKit Pl
namespace Sx
/-- A byte is appended to a row that the call builds. -/
theorem sat_pushB {w0 : Fr} {w : OW} {R : Value → World → Prop} {Pn : List PanicEntry → World → Prop} {Bk : Back} {ρ : List Value} {t : Tree} {c s : At} {k : List At} {j : Nat} {v : Value} {l : List Nat} (x : Nat) (fW : Wf w0) (G : Gr kB w0 5 w v l) (hj : j = ρ.length) (hs : ∀ r, s.den (ρ ++ [r]) [] = v) (hc : c.den ρ [] = .int .u8 (x : Int)) (hk : ∀ y ∈ k, (y.den ρ []).oneCell' = true) (hlen : l.length + 1 ≤ MX)
    (K : ∀ r A c' ow, Lf w0 w ow → Gr kB w0 5 ow (.slice A (l ++ [x]).length c') (l ++ [x]) → satB Try.prog w0 R Pn Bk t (ρ ++ [r] ++ [.slice A (l ++ [x]).length c']) ow) :
    satB Try.prog w0 R Pn Bk (.row 5 [c] 1 k (.appk .u8 5 1 1 s (.lf j) t)) ρ w := by
  subst hj
  refine ⟨hk, fun w1 h1 => .inl ?_⟩
  have hcs : denL ρ [] [c] = [.int .u8 (x : Int)] := by simp [denL, hc]
  rw [hcs]
  have hB := Box.new w1.toWorld [.int .u8 (x : Int)] 5
  have hL1 : Le w0 w1 ⟨w1.alloc (.cells [.int .u8 (x : Int)].toArray 5), w1.own, w1.bld⟩ := Le.of h1.wf h1.b (by go_grown)
  have hNB : NB ⟨w1.alloc (.cells [.int .u8 (x : Int)].toArray 5), w1.own, w1.bld⟩ w1.heap.size := ⟨fun e => by have := (h1.wf.own _ e).2; omega, fun e => by have := (h1.wf.bld _ e).2.1; omega⟩
  have hR : Rows kB (NB ⟨w1.alloc (.cells [.int .u8 (x : Int)].toArray 5), w1.own, w1.bld⟩) (OW.mk (w1.alloc (.cells [.int .u8 (x : Int)].toArray 5)) w1.own w1.bld).toWorld (some ⟨w1.heap.size, 0, none⟩) 1 1 [x] := rows_one (k := kB) hB hNB rfl
  generalize w1.heap.size = N at *
  generalize (⟨w1.alloc (.cells [.int .u8 (x : Int)].toArray 5), w1.own, w1.bld⟩ : OW) = wa at *
  have hL := h1.trans hL1
  refine ⟨fW.u8, fun w2 h2 => ?_⟩
  have G2 := (G.le hL).le h2
  have hR2 := hR.mv (h2.toLf.mv fW.u64)
  rw [hs]
  have hden : (At.lf ρ.length).den (ρ ++ [Value.slice (some ⟨N, 0, none⟩) 1 1]) [] = .slice (some ⟨N, 0, none⟩) 1 1 := by simp [At.den]
  rw [hden]
  refine G2.app (l' := [x]) hR2 (by unfold MX at hlen; simp only [List.length_cons, List.length_nil, maxLen]; omega) (by unfold MX at hlen; simp only [List.length_cons, List.length_nil]; omega) fun A c' w3 hA hG => ?_
  exact K _ A c' w3 (hL.toLf.trans (h2.toLf.trans hA.toLf)) hG
/-- The bytes that a call has made. -/
theorem Gr.bytes {w : World} {ow : OW} {A : Option Addr} {n c : Nat} {l : List Nat} (h : Gr kB (wfr w []) 5 ow (.slice A n c) l) (hwf : WF (wfr w []) ow) : Rows kB (fun g => w.heap.size ≤ g) ow.toWorld A n c l := by
  have R := h.done (fun {w' cs x} q => q)
  refine ⟨R.len, R.cap, R.max, R.pl, fun hn => ?_⟩
  obtain ⟨b, off, rfl, h2, _, h4⟩ := R.at_ hn
  refine ⟨b, off, rfl, h2, ?_, h4⟩
  rcases (hwf.bld b (h.blk rfl).1).1 with e | e
  · cases e
  · exact e
end Sx
end Go.Proofs.Ytpkfjfpknbhekaa
