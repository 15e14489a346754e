/- round.cut, by its tree. Printed by wip/mk_RnB.py. -/
import Derived.Test.YteodljieiloebaaDoorRnAx
import Derived.Test.YteodljieiloebaaDoorSxGx
import Derived.Test.YteodljieiloebaaDoorInnx
import Derived.Test.YteodljieiloebaaDoorL2Ax
namespace Go.Proofs.YteodljieiloebaaDoor
open Go.RowKit Pl
open Sx (sat_call sat_chk sat_prim sat_ite sat_true sat_false sat_trueP sat_falseP sat_ret sat_row sat_callP all_nil all_cons okB okS okI)

/-- The call by its tree, where it may panic. -/
theorem runP {f : FuncId} {ls : List Value} {shs : List (Bool × Nat)} {t : Sx.Tree} {w : World} {R : Value → World → Prop} {Pn : List PanicEntry → World → Prop} (hsh : Sx.shsOf Tryd.prog f = some shs) (ht : Sx.treeOf Tryd.prog f = some t) (hl : ls.length = (shs.map (·.2)).sum) (h1 : (shs.all fun c => c.1 || c.2 == 1) = true)
    (hs : Sx.sat Tryd.prog w R Pn t ls ⟨w, [], []⟩) : Calls Tryd.prog f (Sx.tupV ls shs).toArray w fun e w' => Below w.heap.size w w' ∧ ((∃ v, e = .returned v ∧ R v w') ∨ ∃ c, e = .panicked c ∧ Pn c w') := by
  refine (Sx.sx_calls Sx.mixed hsh ht hl (fun c hc hf => ?_) (fun q h => by cases h) hs).mono fun e w' h => ?_
  · have := List.all_eq_true.1 h1 c hc
    simpa [hf] using this
  · cases e with
    | returned v => exact ⟨h.2, .inl ⟨v, rfl, h.1⟩⟩
    | panicked c => exact ⟨h.2, .inr ⟨c, rfl, h.1⟩⟩
    | outgrown => exact h.elim
/-- round.cut. -/
def cutS (neg : Bool) (X : Nat) (e : Int) (rest : Bool) (p : Nat) (up : Bool) : Dy × Int :=
  fitS neg (X / 2 ^ (blen X - p) + (bif (rest || decide (X % 2 ^ (blen X - p) ≠ 0)) && (!(up == neg)) then 1 else 0)) (e + ((blen X - p : Nat) : Int))
theorem fitS_err {neg : Bool} {n : Nat} {e : Int} (h : (fitS neg n e).2 ≠ 0) : (fitS neg n e).1 = Dy.zero := by
  unfold fitS at *
  split <;> simp_all
  split <;> simp_all
  split <;> simp_all
  split <;> simp_all
theorem row_one {w : World} {b : Nat} {t : TypeId} (h : Box w b [.int .u64 1] t) : R64 w (.slice (some ⟨b, 0, none⟩) 1 1) 1 :=
  ⟨_, _, _, rfl, by
    rw [limb1 (by omega) BB_gt1]
    exact ⟨rfl, Nat.le_refl _, by decide, fun _ => ⟨b, 0, rfl, h.lt, fun k hk => by
      obtain rfl : k = 0 := by omega
      exact h.cell 0 rfl⟩⟩⟩
theorem fitX (neg : Bool) (u : Value) (X : Nat) (e : Int) (w : World) (h : R64 w u X) (hX : blen X ≤ 500000) (he1 : -9223372036854775808 ≤ e) (he2 : e ≤ 9223372036854775807) (hT : TabAt w) :
    Calls Tryd.prog 104 #[.bool neg, u, .int .i64 e] w fun x w' => DyTup w' x (fitS neg X e) ∧ Below w.heap.size w w' := by
  obtain ⟨A, n, c, rfl, hr, hn⟩ := h.limb
  have h1 := fitF_any neg A n c _ e w hr (limbs_lim BB_gt1 X) (limbs_can BB_gt1 X) (by have := limb_len (show blen X ≤ 64 * 8000 by omega); omega) he1 he2 hT
  rw [limbs_val BB_gt1] at h1
  exact h1.mono fun _ _ h => h.tup

theorem slc {w : World} {e : Ending} {Y : Nat} (h : ∃ z, e = .returned z ∧ R64 w z Y) : ∃ A n c, e = .returned (.slice A n c) ∧ R64 w (.slice A n c) Y := by
  obtain ⟨z, he, hz⟩ := h
  have h2 := hz
  obtain ⟨A, n, c, rfl, _⟩ := hz
  exact ⟨A, n, c, he, h2⟩
theorem must_yesB (k : Int) (w : World) : Calls Tryd.prog 65 #[.bool true, .int .i64 k] w fun e w' => e = .returned (.tuple #[]) ∧ Below w.heap.size w w' := (must_yesR k w).mono fun _ _ ⟨e, h⟩ => ⟨e, h ▸ Below.refl _ _⟩
theorem sizeB {u : Value} {X : Nat} {w : World} (h : R64 w u X) (hX : blen X ≤ 500000) : Calls Tryd.prog 53 #[u] w fun e w' => e = .returned (.int .i64 (blen X : Nat)) ∧ Below w.heap.size w w' := (sizeI u X w h (by omega)).mono fun _ _ ⟨e, h⟩ => ⟨e, h ▸ Below.refl _ _⟩
theorem zerosB {u : Value} {X : Nat} {w : World} (h : R64 w u X) (hX : blen X ≤ 500000) (hT : TabAt w) (h0 : X ≠ 0) : Calls Tryd.prog 102 #[u] w fun e w' => e = .returned (.int .i64 (tz X : Nat)) ∧ Below w.heap.size w w' := (zerosI u X w h (by omega) hT h0).mono fun _ _ ⟨e, h⟩ => ⟨e, h ▸ Below.refl _ _⟩
theorem cut_eq {neg rest up : Bool} {X p N : Nat} {e : Int} (hN : N = blen X - p) (b : Bool) (hb : ((rest || decide (X % 2 ^ N ≠ 0)) && (!(up == neg))) = b) : fitS neg (X / 2 ^ N + (bif b then 1 else 0)) (e + (N : Int)) = cutS neg X e rest p up := by
  unfold cutS; rw [← hN, hb]
theorem cut_eq0 {neg rest up : Bool} {X p : Nat} {e : Int} (hN : 0 = blen X - p) (b : Bool) (hb : (rest && (!(up == neg))) = b) : fitS neg (X + (bif b then 1 else 0)) e = cutS neg X e rest p up := by
  have := cut_eq (neg := neg) (rest := rest) (up := up) (e := e) hN b (by rw [Nat.pow_zero, Nat.mod_one]; simpa using hb)
  rw [Nat.pow_zero, Nat.div_one] at this
  simpa using this
theorem div_blen {X N : Nat} : blen (X / 2 ^ N) ≤ blen X := blen_mono (Nat.div_le_self _ _)
theorem blen_one {Y k : Nat} (h : blen Y ≤ k) : blen (Y + 1) ≤ k + 1 := by
  have := blen_le.1 h
  refine blen_le.2 ?_
  rw [Nat.pow_succ]
  have := Nat.two_pow_pos k
  omega

def tr_rcut : Sx.Tree := .call 53 [.one (.lf 1)] .one (.prim (.bin .sub) [.lf 6, .lf 4] (.prim (.bin .gtr) [.lf 7, .num .i64 0] (.ite (.lf 8) (.ite (.lf 3) (.call 101 [.one (.lf 1), .one (.lf 7)] .one (.prim (.bin .add) [.lf 2, .lf 7] (.prim (.bbin .neq) [.lf 5, .lf 0] (.ite (.lf 11) (.row 58 [.num .u64 1] 1 [] (.call 103 [.one (.lf 9), .one (.lf 12)] .one (.call 104 [.one (.lf 0), .one (.lf 13), .one (.lf 10)] (.tup [(true, 3), (false, 1)]) (.chk [.lf 14, .lf 15, .lf 16] (.prim (.bin .eql) [.lf 17, .num .i64 0] (.call 65 [.one (.lf 18), .one (.lf 17)] (.tup []) (.chk [.lf 14, .lf 15, .lf 16] (.ret (.ag [.lf 14, .lf 15, .lf 16]))))))))) (.call 104 [.one (.lf 0), .one (.lf 9), .one (.lf 10)] (.tup [(true, 3), (false, 1)]) (.chk [.lf 12, .lf 13, .lf 14] (.prim (.bin .eql) [.lf 15, .num .i64 0] (.call 65 [.one (.lf 16), .one (.lf 15)] (.tup []) (.chk [.lf 12, .lf 13, .lf 14] (.ret (.ag [.lf 12, .lf 13, .lf 14]))))))))))) (.call 102 [.one (.lf 1)] .one (.prim (.bin .lss) [.lf 9, .lf 7] (.call 101 [.one (.lf 1), .one (.lf 7)] .one (.prim (.bin .add) [.lf 2, .lf 7] (.ite (.lf 10) (.prim (.bbin .neq) [.lf 5, .lf 0] (.ite (.lf 13) (.row 58 [.num .u64 1] 1 [] (.call 103 [.one (.lf 11), .one (.lf 14)] .one (.call 104 [.one (.lf 0), .one (.lf 15), .one (.lf 12)] (.tup [(true, 3), (false, 1)]) (.chk [.lf 16, .lf 17, .lf 18] (.prim (.bin .eql) [.lf 19, .num .i64 0] (.call 65 [.one (.lf 20), .one (.lf 19)] (.tup []) (.chk [.lf 16, .lf 17, .lf 18] (.ret (.ag [.lf 16, .lf 17, .lf 18]))))))))) (.call 104 [.one (.lf 0), .one (.lf 11), .one (.lf 12)] (.tup [(true, 3), (false, 1)]) (.chk [.lf 14, .lf 15, .lf 16] (.prim (.bin .eql) [.lf 17, .num .i64 0] (.call 65 [.one (.lf 18), .one (.lf 17)] (.tup []) (.chk [.lf 14, .lf 15, .lf 16] (.ret (.ag [.lf 14, .lf 15, .lf 16]))))))))) (.call 104 [.one (.lf 0), .one (.lf 11), .one (.lf 12)] (.tup [(true, 3), (false, 1)]) (.chk [.lf 13, .lf 14, .lf 15] (.prim (.bin .eql) [.lf 16, .num .i64 0] (.call 65 [.one (.lf 17), .one (.lf 16)] (.tup []) (.chk [.lf 13, .lf 14, .lf 15] (.ret (.ag [.lf 13, .lf 14, .lf 15]))))))))))))) (.ite (.lf 3) (.prim (.bbin .neq) [.lf 5, .lf 0] (.ite (.lf 9) (.row 58 [.num .u64 1] 1 [] (.call 103 [.one (.lf 1), .one (.lf 10)] .one (.call 104 [.one (.lf 0), .one (.lf 11), .one (.lf 2)] (.tup [(true, 3), (false, 1)]) (.chk [.lf 12, .lf 13, .lf 14] (.prim (.bin .eql) [.lf 15, .num .i64 0] (.call 65 [.one (.lf 16), .one (.lf 15)] (.tup []) (.chk [.lf 12, .lf 13, .lf 14] (.ret (.ag [.lf 12, .lf 13, .lf 14]))))))))) (.call 104 [.one (.lf 0), .one (.lf 1), .one (.lf 2)] (.tup [(true, 3), (false, 1)]) (.chk [.lf 10, .lf 11, .lf 12] (.prim (.bin .eql) [.lf 13, .num .i64 0] (.call 65 [.one (.lf 14), .one (.lf 13)] (.tup []) (.chk [.lf 10, .lf 11, .lf 12] (.ret (.ag [.lf 10, .lf 11, .lf 12]))))))))) (.call 104 [.one (.lf 0), .one (.lf 1), .one (.lf 2)] (.tup [(true, 3), (false, 1)]) (.chk [.lf 9, .lf 10, .lf 11] (.prim (.bin .eql) [.lf 12, .num .i64 0] (.call 65 [.one (.lf 13), .one (.lf 12)] (.tup []) (.chk [.lf 9, .lf 10, .lf 11] (.ret (.ag [.lf 9, .lf 10, .lf 11])))))))))))
theorem tr_rcut_eq : Sx.treeOf Tryd.prog 68 = some tr_rcut := by kernel_rfl

set_option maxRecDepth 100000 in
set_option maxHeartbeats 4000000 in
theorem cut_any (neg : Bool) (u : Value) (X : Nat) (e : Int) (rest : Bool) (p : Nat) (up : Bool) (w : World) (h : R64 w u X) (hX : blen X ≤ 400000) (hp : p ≤ 100000) (he1 : -1000000000000 ≤ e) (he2 : e ≤ 1000000000000) (hT : TabAt w) :
    Calls Tryd.prog 68 #[.bool neg, u, .int .i64 e, .bool rest, .int .i64 (p : Int), .bool up] w (FitPostR w (cutS neg X e rest p up)) := by
  have r_m := h
  obtain ⟨A_m, n_m, c_m, rfl, _⟩ := h
  replace hX : blen X ≤ 490000 := by omega
  have fin : ∀ (x : Ending) (w' : World), (Below w.heap.size w w' ∧ ((∃ v, x = .returned v ∧ ((cutS neg X e rest p up).2 = 0 ∧ RdD w' v (cutS neg X e rest p up).1)) ∨ ∃ c, x = .panicked c ∧ ((cutS neg X e rest p up).2 ≠ 0 ∧ c = failDR (cutS neg X e rest p up).2))) → FitPostR w (cutS neg X e rest p up) x w' := by
    rintro x w' ⟨hb, ⟨v, rfl, h1, h2⟩ | ⟨c, rfl, h1, rfl⟩⟩
    · exact ⟨hb, .inl ⟨h1, v, rfl, h2⟩⟩
    · exact ⟨hb, .inr ⟨h1, fitS_err h1, rfl⟩⟩
  by_cases hc : p < blen X
  · obtain ⟨N, hN⟩ : ∃ N, N = blen X - p := ⟨_, rfl⟩
    have hX0 : X ≠ 0 := by rintro rfl; simp [blen] at hc
    have hw1 : IntKind.i64.wrap (((blen X : Nat) : Int) - (p : Int)) = (N : Int) := by rw [IntWalk.i64_in _ (by omega)]; omega
    have hw2 : IntKind.i64.wrap (e + (N : Int)) = e + (N : Int) := IntWalk.i64_in _ (by omega)
    have hzr : decide (X % 2 ^ N ≠ 0) = decide (((tz X : Nat) : Int) < (N : Int)) := by rw [Bool.eq_iff_iff, decide_eq_true_eq, decide_eq_true_eq, ne_eq, ← tz_ge_iff hX0]; omega
    refine (runP (ls := [.bool neg, .slice A_m n_m c_m, .int .i64 e, .bool rest, .int .i64 (p : Int), .bool up]) (shs := [(false, 1), (false, 1), (false, 1), (false, 1), (false, 1), (false, 1)]) (R := fun v w' => (cutS neg X e rest p up).2 = 0 ∧ RdD w' v (cutS neg X e rest p up).1) (Pn := fun c _ => (cutS neg X e rest p up).2 ≠ 0 ∧ c = failDR (cutS neg X e rest p up).2) (by kernel_rfl) tr_rcut_eq rfl (by decide) ?_).mono fin
    clear fin
    unfold tr_rcut
    refine sat_call #[.slice A_m n_m c_m] (by kernel_rfl) fun w1 h1 => ?_
    refine (sizeB (h1.r64 r_m) (by omega)).mono ?_
    rintro e v1 ⟨rfl, hb1⟩
    refine ⟨hb1, [.int .i64 ((blen X : Nat) : Int)], _, rfl, by kernel_rfl, by kernel_rfl, fun g1 => ?_⟩
    replace r_m := g1.r64 r_m
    clear h1 hb1
    refine sat_prim (v := .int .i64 (N : Int)) (Eq.trans (b := some (.int .i64 (IntKind.i64.wrap (((blen X : Nat) : Int) - (p : Int))))) (by kernel_rfl) (by rw [hw1])) ?_
    refine sat_prim (v := .bool true) (Eq.trans (b := some (.bool (decide ((0 : Int) < (N : Int))))) (by kernel_rfl) (by rw [decide_eq_true (by omega)])) ?_
    refine sat_true (by kernel_rfl) ?_
    cases hr : (rest)
    · refine sat_false (by kernel_rfl) ?_
      refine sat_call #[.slice A_m n_m c_m] (by kernel_rfl) fun w3 h3 => ?_
      refine (zerosB (h3.r64 r_m) (by omega) (h3.tab hT) hX0).mono ?_
      rintro e v3 ⟨rfl, hb3⟩
      refine ⟨hb3, [.int .i64 ((tz X : Nat) : Int)], _, rfl, by kernel_rfl, by kernel_rfl, fun g3 => ?_⟩
      replace r_m := g3.r64 r_m
      clear h3 hb3
      refine sat_prim (v := .bool (decide (((tz X : Nat) : Int) < (N : Int)))) (by kernel_rfl) ?_
      refine sat_call #[.slice A_m n_m c_m, .int .i64 (N : Int)] (by kernel_rfl) fun w4 h4 => ?_
      refine (((rightI _ X _ (h4.r64 r_m) (by omega) N (by omega)).mono fun _ _ h => And.intro (slc h.1) h.2)).mono ?_
      rintro e v4 ⟨⟨A_q, n_q, c_q, rfl, r_q⟩, hb4⟩
      refine ⟨hb4, [.slice A_q n_q c_q], _, rfl, by kernel_rfl, by kernel_rfl, fun g4 => ?_⟩
      replace r_m := g4.r64 r_m
      clear h4 hb4
      refine sat_prim (v := .int .i64 (e + (N : Int))) (Eq.trans (b := some (.int .i64 (IntKind.i64.wrap (e + (N : Int))))) (by kernel_rfl) (by rw [hw2])) ?_
      cases hZ : (decide (((tz X : Nat) : Int) < (N : Int)))
      · refine sat_false (by kernel_rfl) ?_
        refine sat_call #[.bool neg, .slice A_q n_q c_q, .int .i64 (e + (N : Int))] (by kernel_rfl) fun w6 h6 => ?_
        refine (fitX neg _ (X / 2 ^ N) (e + (N : Int)) _ (h6.r64 r_q) (by have := Nat.le_trans (div_blen (X := X) (N := N)) hX; omega) (by omega) (by omega) (h6.tab hT)).mono ?_
        rintro e v6 ⟨⟨d_f, x_f, A_f, n_f, c_f, h_f, rfl, r_f⟩, hb6⟩
        refine ⟨hb6, [.bool d_f.neg, .slice A_f n_f c_f, .int .i64 d_f.e, .int .i64 x_f], _, rfl, by kernel_rfl, by kernel_rfl, fun g6 => ?_⟩
        replace r_m := g6.r64 r_m; replace r_q := g6.r64 r_q
        clear h6 hb6
        have K := h_f.out.trans (cut_eq (neg := neg) (rest := false) (up := up) (X := X) (p := p) (e := e) hN false (by rw [hzr, hZ]; rfl))
        replace h_f := hide K
        clear K
        refine sat_chkB (by kernel_rfl) ?_
        refine sat_prim (v := .bool ((x_f : Int) == 0)) (by kernel_rfl) ?_
        cases hx : ((x_f : Int) == 0)
        · refine sat_callP #[.bool false, .int .i64 x_f] (by kernel_rfl) fun w1 h1 => ?_
          exact (must_noR _ _).mono fun e w2 ⟨he, hw⟩ => ⟨_, he, hw ▸ Below.refl _ _, by rw [← h_f.out]; exact ⟨by simpa using hx, rfl⟩⟩
        · refine sat_call #[.bool true, .int .i64 x_f] (by kernel_rfl) fun w7 h7 => ?_
          refine (must_yesB _ _).mono ?_
          rintro e v7 ⟨rfl, hb7⟩
          refine ⟨hb7, [], _, rfl, by kernel_rfl, by kernel_rfl, fun g7 => ?_⟩
          replace r_m := g7.r64 r_m; replace r_q := g7.r64 r_q; replace r_f := g7.rdD r_f
          clear h7 hb7
          refine sat_chkB (by kernel_rfl) ?_
          exact sat_ret (.agg #[.bool d_f.neg, .slice A_f n_f c_f, .int .i64 d_f.e]) (by kernel_rfl) fun w9 h9 => ⟨by rw [← h_f.out]; simpa using hx, by rw [← h_f.out]; exact h9.rdD r_f⟩
      · refine sat_true (by kernel_rfl) ?_
        refine sat_prim (v := .bool (!(up == neg))) (by kernel_rfl) ?_
        cases hU : (up == neg)
        · refine sat_true (by kernel_rfl) ?_
          refine sat_row [.int .u64 1] (by kernel_rfl) (by intro x hx; cases hx) fun u1 h1 B1 => ?_
          replace r_m := h1.r64 r_m; replace r_q := h1.r64 r_q
          have r_1 := row_one B1
          generalize u1.heap.size = NR at *
          generalize (u1.alloc _) = wR at *
          clear B1 h1
          refine sat_call #[.slice A_q n_q c_q, .slice (some ⟨NR, 0, none⟩) 1 1] (by kernel_rfl) fun w7 h7 => ?_
          refine (((plusI _ _ (X / 2 ^ N) 1 _ (h7.r64 r_q) (h7.r64 r_1) (by have := Nat.le_trans (div_blen (X := X) (N := N)) hX; omega) (by decide)).mono fun _ _ h => And.intro (slc h.1) h.2)).mono ?_
          rintro e v7 ⟨⟨A_s, n_s, c_s, rfl, r_s⟩, hb7⟩
          refine ⟨hb7, [.slice A_s n_s c_s], _, rfl, by kernel_rfl, by kernel_rfl, fun g7 => ?_⟩
          replace r_m := g7.r64 r_m; replace r_q := g7.r64 r_q; replace r_1 := g7.r64 r_1
          clear h7 hb7
          refine sat_call #[.bool neg, .slice A_s n_s c_s, .int .i64 (e + (N : Int))] (by kernel_rfl) fun w8 h8 => ?_
          refine (fitX neg _ (X / 2 ^ N + 1) (e + (N : Int)) _ (h8.r64 r_s) (by have := blen_one (Nat.le_trans (div_blen (X := X) (N := N)) hX); omega) (by omega) (by omega) (h8.tab hT)).mono ?_
          rintro e v8 ⟨⟨d_f, x_f, A_f, n_f, c_f, h_f, rfl, r_f⟩, hb8⟩
          refine ⟨hb8, [.bool d_f.neg, .slice A_f n_f c_f, .int .i64 d_f.e, .int .i64 x_f], _, rfl, by kernel_rfl, by kernel_rfl, fun g8 => ?_⟩
          replace r_m := g8.r64 r_m; replace r_q := g8.r64 r_q; replace r_1 := g8.r64 r_1; replace r_s := g8.r64 r_s
          clear h8 hb8
          have K := h_f.out.trans (cut_eq (neg := neg) (rest := false) (up := up) (X := X) (p := p) (e := e) hN true (by rw [hzr, hZ, hU]; rfl))
          replace h_f := hide K
          clear K
          refine sat_chkB (by kernel_rfl) ?_
          refine sat_prim (v := .bool ((x_f : Int) == 0)) (by kernel_rfl) ?_
          cases hx : ((x_f : Int) == 0)
          · refine sat_callP #[.bool false, .int .i64 x_f] (by kernel_rfl) fun w1 h1 => ?_
            exact (must_noR _ _).mono fun e w2 ⟨he, hw⟩ => ⟨_, he, hw ▸ Below.refl _ _, by rw [← h_f.out]; exact ⟨by simpa using hx, rfl⟩⟩
          · refine sat_call #[.bool true, .int .i64 x_f] (by kernel_rfl) fun w9 h9 => ?_
            refine (must_yesB _ _).mono ?_
            rintro e v9 ⟨rfl, hb9⟩
            refine ⟨hb9, [], _, rfl, by kernel_rfl, by kernel_rfl, fun g9 => ?_⟩
            replace r_m := g9.r64 r_m; replace r_q := g9.r64 r_q; replace r_1 := g9.r64 r_1; replace r_s := g9.r64 r_s; replace r_f := g9.rdD r_f
            clear h9 hb9
            refine sat_chkB (by kernel_rfl) ?_
            exact sat_ret (.agg #[.bool d_f.neg, .slice A_f n_f c_f, .int .i64 d_f.e]) (by kernel_rfl) fun w9 h9 => ⟨by rw [← h_f.out]; simpa using hx, by rw [← h_f.out]; exact h9.rdD r_f⟩
        · refine sat_false (by kernel_rfl) ?_
          refine sat_call #[.bool neg, .slice A_q n_q c_q, .int .i64 (e + (N : Int))] (by kernel_rfl) fun w7 h7 => ?_
          refine (fitX neg _ (X / 2 ^ N) (e + (N : Int)) _ (h7.r64 r_q) (by have := Nat.le_trans (div_blen (X := X) (N := N)) hX; omega) (by omega) (by omega) (h7.tab hT)).mono ?_
          rintro e v7 ⟨⟨d_f, x_f, A_f, n_f, c_f, h_f, rfl, r_f⟩, hb7⟩
          refine ⟨hb7, [.bool d_f.neg, .slice A_f n_f c_f, .int .i64 d_f.e, .int .i64 x_f], _, rfl, by kernel_rfl, by kernel_rfl, fun g7 => ?_⟩
          replace r_m := g7.r64 r_m; replace r_q := g7.r64 r_q
          clear h7 hb7
          have K := h_f.out.trans (cut_eq (neg := neg) (rest := false) (up := up) (X := X) (p := p) (e := e) hN false (by rw [hzr, hZ, hU]; rfl))
          replace h_f := hide K
          clear K
          refine sat_chkB (by kernel_rfl) ?_
          refine sat_prim (v := .bool ((x_f : Int) == 0)) (by kernel_rfl) ?_
          cases hx : ((x_f : Int) == 0)
          · refine sat_callP #[.bool false, .int .i64 x_f] (by kernel_rfl) fun w1 h1 => ?_
            exact (must_noR _ _).mono fun e w2 ⟨he, hw⟩ => ⟨_, he, hw ▸ Below.refl _ _, by rw [← h_f.out]; exact ⟨by simpa using hx, rfl⟩⟩
          · refine sat_call #[.bool true, .int .i64 x_f] (by kernel_rfl) fun w8 h8 => ?_
            refine (must_yesB _ _).mono ?_
            rintro e v8 ⟨rfl, hb8⟩
            refine ⟨hb8, [], _, rfl, by kernel_rfl, by kernel_rfl, fun g8 => ?_⟩
            replace r_m := g8.r64 r_m; replace r_q := g8.r64 r_q; replace r_f := g8.rdD r_f
            clear h8 hb8
            refine sat_chkB (by kernel_rfl) ?_
            exact sat_ret (.agg #[.bool d_f.neg, .slice A_f n_f c_f, .int .i64 d_f.e]) (by kernel_rfl) fun w9 h9 => ⟨by rw [← h_f.out]; simpa using hx, by rw [← h_f.out]; exact h9.rdD r_f⟩
    · refine sat_true (by kernel_rfl) ?_
      refine sat_call #[.slice A_m n_m c_m, .int .i64 (N : Int)] (by kernel_rfl) fun w3 h3 => ?_
      refine (((rightI _ X _ (h3.r64 r_m) (by omega) N (by omega)).mono fun _ _ h => And.intro (slc h.1) h.2)).mono ?_
      rintro e v3 ⟨⟨A_q, n_q, c_q, rfl, r_q⟩, hb3⟩
      refine ⟨hb3, [.slice A_q n_q c_q], _, rfl, by kernel_rfl, by kernel_rfl, fun g3 => ?_⟩
      replace r_m := g3.r64 r_m
      clear h3 hb3
      refine sat_prim (v := .int .i64 (e + (N : Int))) (Eq.trans (b := some (.int .i64 (IntKind.i64.wrap (e + (N : Int))))) (by kernel_rfl) (by rw [hw2])) ?_
      refine sat_prim (v := .bool (!(up == neg))) (by kernel_rfl) ?_
      cases hU : (up == neg)
      · refine sat_true (by kernel_rfl) ?_
        refine sat_row [.int .u64 1] (by kernel_rfl) (by intro x hx; cases hx) fun u1 h1 B1 => ?_
        replace r_m := h1.r64 r_m; replace r_q := h1.r64 r_q
        have r_1 := row_one B1
        generalize u1.heap.size = NR at *
        generalize (u1.alloc _) = wR at *
        clear B1 h1
        refine sat_call #[.slice A_q n_q c_q, .slice (some ⟨NR, 0, none⟩) 1 1] (by kernel_rfl) fun w5 h5 => ?_
        refine (((plusI _ _ (X / 2 ^ N) 1 _ (h5.r64 r_q) (h5.r64 r_1) (by have := Nat.le_trans (div_blen (X := X) (N := N)) hX; omega) (by decide)).mono fun _ _ h => And.intro (slc h.1) h.2)).mono ?_
        rintro e v5 ⟨⟨A_s, n_s, c_s, rfl, r_s⟩, hb5⟩
        refine ⟨hb5, [.slice A_s n_s c_s], _, rfl, by kernel_rfl, by kernel_rfl, fun g5 => ?_⟩
        replace r_m := g5.r64 r_m; replace r_q := g5.r64 r_q; replace r_1 := g5.r64 r_1
        clear h5 hb5
        refine sat_call #[.bool neg, .slice A_s n_s c_s, .int .i64 (e + (N : Int))] (by kernel_rfl) fun w6 h6 => ?_
        refine (fitX neg _ (X / 2 ^ N + 1) (e + (N : Int)) _ (h6.r64 r_s) (by have := blen_one (Nat.le_trans (div_blen (X := X) (N := N)) hX); omega) (by omega) (by omega) (h6.tab hT)).mono ?_
        rintro e v6 ⟨⟨d_f, x_f, A_f, n_f, c_f, h_f, rfl, r_f⟩, hb6⟩
        refine ⟨hb6, [.bool d_f.neg, .slice A_f n_f c_f, .int .i64 d_f.e, .int .i64 x_f], _, rfl, by kernel_rfl, by kernel_rfl, fun g6 => ?_⟩
        replace r_m := g6.r64 r_m; replace r_q := g6.r64 r_q; replace r_1 := g6.r64 r_1; replace r_s := g6.r64 r_s
        clear h6 hb6
        have K := h_f.out.trans (cut_eq (neg := neg) (rest := true) (up := up) (X := X) (p := p) (e := e) hN true (by rw [hU]; rfl))
        replace h_f := hide K
        clear K
        refine sat_chkB (by kernel_rfl) ?_
        refine sat_prim (v := .bool ((x_f : Int) == 0)) (by kernel_rfl) ?_
        cases hx : ((x_f : Int) == 0)
        · refine sat_callP #[.bool false, .int .i64 x_f] (by kernel_rfl) fun w1 h1 => ?_
          exact (must_noR _ _).mono fun e w2 ⟨he, hw⟩ => ⟨_, he, hw ▸ Below.refl _ _, by rw [← h_f.out]; exact ⟨by simpa using hx, rfl⟩⟩
        · refine sat_call #[.bool true, .int .i64 x_f] (by kernel_rfl) fun w7 h7 => ?_
          refine (must_yesB _ _).mono ?_
          rintro e v7 ⟨rfl, hb7⟩
          refine ⟨hb7, [], _, rfl, by kernel_rfl, by kernel_rfl, fun g7 => ?_⟩
          replace r_m := g7.r64 r_m; replace r_q := g7.r64 r_q; replace r_1 := g7.r64 r_1; replace r_s := g7.r64 r_s; replace r_f := g7.rdD r_f
          clear h7 hb7
          refine sat_chkB (by kernel_rfl) ?_
          exact sat_ret (.agg #[.bool d_f.neg, .slice A_f n_f c_f, .int .i64 d_f.e]) (by kernel_rfl) fun w9 h9 => ⟨by rw [← h_f.out]; simpa using hx, by rw [← h_f.out]; exact h9.rdD r_f⟩
      · refine sat_false (by kernel_rfl) ?_
        refine sat_call #[.bool neg, .slice A_q n_q c_q, .int .i64 (e + (N : Int))] (by kernel_rfl) fun w5 h5 => ?_
        refine (fitX neg _ (X / 2 ^ N) (e + (N : Int)) _ (h5.r64 r_q) (by have := Nat.le_trans (div_blen (X := X) (N := N)) hX; omega) (by omega) (by omega) (h5.tab hT)).mono ?_
        rintro e v5 ⟨⟨d_f, x_f, A_f, n_f, c_f, h_f, rfl, r_f⟩, hb5⟩
        refine ⟨hb5, [.bool d_f.neg, .slice A_f n_f c_f, .int .i64 d_f.e, .int .i64 x_f], _, rfl, by kernel_rfl, by kernel_rfl, fun g5 => ?_⟩
        replace r_m := g5.r64 r_m; replace r_q := g5.r64 r_q
        clear h5 hb5
        have K := h_f.out.trans (cut_eq (neg := neg) (rest := true) (up := up) (X := X) (p := p) (e := e) hN false (by rw [hU]; rfl))
        replace h_f := hide K
        clear K
        refine sat_chkB (by kernel_rfl) ?_
        refine sat_prim (v := .bool ((x_f : Int) == 0)) (by kernel_rfl) ?_
        cases hx : ((x_f : Int) == 0)
        · refine sat_callP #[.bool false, .int .i64 x_f] (by kernel_rfl) fun w1 h1 => ?_
          exact (must_noR _ _).mono fun e w2 ⟨he, hw⟩ => ⟨_, he, hw ▸ Below.refl _ _, by rw [← h_f.out]; exact ⟨by simpa using hx, rfl⟩⟩
        · refine sat_call #[.bool true, .int .i64 x_f] (by kernel_rfl) fun w6 h6 => ?_
          refine (must_yesB _ _).mono ?_
          rintro e v6 ⟨rfl, hb6⟩
          refine ⟨hb6, [], _, rfl, by kernel_rfl, by kernel_rfl, fun g6 => ?_⟩
          replace r_m := g6.r64 r_m; replace r_q := g6.r64 r_q; replace r_f := g6.rdD r_f
          clear h6 hb6
          refine sat_chkB (by kernel_rfl) ?_
          exact sat_ret (.agg #[.bool d_f.neg, .slice A_f n_f c_f, .int .i64 d_f.e]) (by kernel_rfl) fun w9 h9 => ⟨by rw [← h_f.out]; simpa using hx, by rw [← h_f.out]; exact h9.rdD r_f⟩
  · have hN : 0 = blen X - p := by omega
    have hw1 : IntKind.i64.wrap (((blen X : Nat) : Int) - (p : Int)) = ((blen X : Nat) : Int) - (p : Int) := IntWalk.i64_in _ (by omega)
    refine (runP (ls := [.bool neg, .slice A_m n_m c_m, .int .i64 e, .bool rest, .int .i64 (p : Int), .bool up]) (shs := [(false, 1), (false, 1), (false, 1), (false, 1), (false, 1), (false, 1)]) (R := fun v w' => (cutS neg X e rest p up).2 = 0 ∧ RdD w' v (cutS neg X e rest p up).1) (Pn := fun c _ => (cutS neg X e rest p up).2 ≠ 0 ∧ c = failDR (cutS neg X e rest p up).2) (by kernel_rfl) tr_rcut_eq rfl (by decide) ?_).mono fin
    clear fin
    unfold tr_rcut
    refine sat_call #[.slice A_m n_m c_m] (by kernel_rfl) fun w1 h1 => ?_
    refine (sizeB (h1.r64 r_m) (by omega)).mono ?_
    rintro e v1 ⟨rfl, hb1⟩
    refine ⟨hb1, [.int .i64 ((blen X : Nat) : Int)], _, rfl, by kernel_rfl, by kernel_rfl, fun g1 => ?_⟩
    replace r_m := g1.r64 r_m
    clear h1 hb1
    refine sat_prim (v := .int .i64 (((blen X : Nat) : Int) - (p : Int))) (Eq.trans (b := some (.int .i64 (IntKind.i64.wrap (((blen X : Nat) : Int) - (p : Int))))) (by kernel_rfl) (by rw [hw1])) ?_
    refine sat_prim (v := .bool false) (Eq.trans (b := some (.bool (decide ((0 : Int) < (((blen X : Nat) : Int) - (p : Int)))))) (by kernel_rfl) (by rw [decide_eq_false (by omega)])) ?_
    refine sat_false (by kernel_rfl) ?_
    cases hr : (rest)
    · refine sat_false (by kernel_rfl) ?_
      refine sat_call #[.bool neg, .slice A_m n_m c_m, .int .i64 e] (by kernel_rfl) fun w3 h3 => ?_
      refine (fitX neg _ (X) (e) _ (h3.r64 r_m) (by have := hX; omega) (by omega) (by omega) (h3.tab hT)).mono ?_
      rintro e v3 ⟨⟨d_f, x_f, A_f, n_f, c_f, h_f, rfl, r_f⟩, hb3⟩
      refine ⟨hb3, [.bool d_f.neg, .slice A_f n_f c_f, .int .i64 d_f.e, .int .i64 x_f], _, rfl, by kernel_rfl, by kernel_rfl, fun g3 => ?_⟩
      replace r_m := g3.r64 r_m
      clear h3 hb3
      have K := h_f.out.trans (cut_eq0 (neg := neg) (rest := false) (up := up) (X := X) (p := p) (e := e) hN false (by rfl))
      replace h_f := hide K
      clear K
      refine sat_chkB (by kernel_rfl) ?_
      refine sat_prim (v := .bool ((x_f : Int) == 0)) (by kernel_rfl) ?_
      cases hx : ((x_f : Int) == 0)
      · refine sat_callP #[.bool false, .int .i64 x_f] (by kernel_rfl) fun w1 h1 => ?_
        exact (must_noR _ _).mono fun e w2 ⟨he, hw⟩ => ⟨_, he, hw ▸ Below.refl _ _, by rw [← h_f.out]; exact ⟨by simpa using hx, rfl⟩⟩
      · refine sat_call #[.bool true, .int .i64 x_f] (by kernel_rfl) fun w4 h4 => ?_
        refine (must_yesB _ _).mono ?_
        rintro e v4 ⟨rfl, hb4⟩
        refine ⟨hb4, [], _, rfl, by kernel_rfl, by kernel_rfl, fun g4 => ?_⟩
        replace r_m := g4.r64 r_m; replace r_f := g4.rdD r_f
        clear h4 hb4
        refine sat_chkB (by kernel_rfl) ?_
        exact sat_ret (.agg #[.bool d_f.neg, .slice A_f n_f c_f, .int .i64 d_f.e]) (by kernel_rfl) fun w9 h9 => ⟨by rw [← h_f.out]; simpa using hx, by rw [← h_f.out]; exact h9.rdD r_f⟩
    · refine sat_true (by kernel_rfl) ?_
      refine sat_prim (v := .bool (!(up == neg))) (by kernel_rfl) ?_
      cases hU : (up == neg)
      · refine sat_true (by kernel_rfl) ?_
        refine sat_row [.int .u64 1] (by kernel_rfl) (by intro x hx; cases hx) fun u1 h1 B1 => ?_
        replace r_m := h1.r64 r_m
        have r_1 := row_one B1
        generalize u1.heap.size = NR at *
        generalize (u1.alloc _) = wR at *
        clear B1 h1
        refine sat_call #[.slice A_m n_m c_m, .slice (some ⟨NR, 0, none⟩) 1 1] (by kernel_rfl) fun w4 h4 => ?_
        refine (((plusI _ _ (X) 1 _ (h4.r64 r_m) (h4.r64 r_1) (by have := hX; omega) (by decide)).mono fun _ _ h => And.intro (slc h.1) h.2)).mono ?_
        rintro e v4 ⟨⟨A_s, n_s, c_s, rfl, r_s⟩, hb4⟩
        refine ⟨hb4, [.slice A_s n_s c_s], _, rfl, by kernel_rfl, by kernel_rfl, fun g4 => ?_⟩
        replace r_m := g4.r64 r_m; replace r_1 := g4.r64 r_1
        clear h4 hb4
        refine sat_call #[.bool neg, .slice A_s n_s c_s, .int .i64 e] (by kernel_rfl) fun w5 h5 => ?_
        refine (fitX neg _ (X + 1) (e) _ (h5.r64 r_s) (by have := blen_one (hX); omega) (by omega) (by omega) (h5.tab hT)).mono ?_
        rintro e v5 ⟨⟨d_f, x_f, A_f, n_f, c_f, h_f, rfl, r_f⟩, hb5⟩
        refine ⟨hb5, [.bool d_f.neg, .slice A_f n_f c_f, .int .i64 d_f.e, .int .i64 x_f], _, rfl, by kernel_rfl, by kernel_rfl, fun g5 => ?_⟩
        replace r_m := g5.r64 r_m; replace r_1 := g5.r64 r_1; replace r_s := g5.r64 r_s
        clear h5 hb5
        have K := h_f.out.trans (cut_eq0 (neg := neg) (rest := true) (up := up) (X := X) (p := p) (e := e) hN true (by rw [hU]; rfl))
        replace h_f := hide K
        clear K
        refine sat_chkB (by kernel_rfl) ?_
        refine sat_prim (v := .bool ((x_f : Int) == 0)) (by kernel_rfl) ?_
        cases hx : ((x_f : Int) == 0)
        · refine sat_callP #[.bool false, .int .i64 x_f] (by kernel_rfl) fun w1 h1 => ?_
          exact (must_noR _ _).mono fun e w2 ⟨he, hw⟩ => ⟨_, he, hw ▸ Below.refl _ _, by rw [← h_f.out]; exact ⟨by simpa using hx, rfl⟩⟩
        · refine sat_call #[.bool true, .int .i64 x_f] (by kernel_rfl) fun w6 h6 => ?_
          refine (must_yesB _ _).mono ?_
          rintro e v6 ⟨rfl, hb6⟩
          refine ⟨hb6, [], _, rfl, by kernel_rfl, by kernel_rfl, fun g6 => ?_⟩
          replace r_m := g6.r64 r_m; replace r_1 := g6.r64 r_1; replace r_s := g6.r64 r_s; replace r_f := g6.rdD r_f
          clear h6 hb6
          refine sat_chkB (by kernel_rfl) ?_
          exact sat_ret (.agg #[.bool d_f.neg, .slice A_f n_f c_f, .int .i64 d_f.e]) (by kernel_rfl) fun w9 h9 => ⟨by rw [← h_f.out]; simpa using hx, by rw [← h_f.out]; exact h9.rdD r_f⟩
      · refine sat_false (by kernel_rfl) ?_
        refine sat_call #[.bool neg, .slice A_m n_m c_m, .int .i64 e] (by kernel_rfl) fun w4 h4 => ?_
        refine (fitX neg _ (X) (e) _ (h4.r64 r_m) (by have := hX; omega) (by omega) (by omega) (h4.tab hT)).mono ?_
        rintro e v4 ⟨⟨d_f, x_f, A_f, n_f, c_f, h_f, rfl, r_f⟩, hb4⟩
        refine ⟨hb4, [.bool d_f.neg, .slice A_f n_f c_f, .int .i64 d_f.e, .int .i64 x_f], _, rfl, by kernel_rfl, by kernel_rfl, fun g4 => ?_⟩
        replace r_m := g4.r64 r_m
        clear h4 hb4
        have K := h_f.out.trans (cut_eq0 (neg := neg) (rest := true) (up := up) (X := X) (p := p) (e := e) hN false (by rw [hU]; rfl))
        replace h_f := hide K
        clear K
        refine sat_chkB (by kernel_rfl) ?_
        refine sat_prim (v := .bool ((x_f : Int) == 0)) (by kernel_rfl) ?_
        cases hx : ((x_f : Int) == 0)
        · refine sat_callP #[.bool false, .int .i64 x_f] (by kernel_rfl) fun w1 h1 => ?_
          exact (must_noR _ _).mono fun e w2 ⟨he, hw⟩ => ⟨_, he, hw ▸ Below.refl _ _, by rw [← h_f.out]; exact ⟨by simpa using hx, rfl⟩⟩
        · refine sat_call #[.bool true, .int .i64 x_f] (by kernel_rfl) fun w5 h5 => ?_
          refine (must_yesB _ _).mono ?_
          rintro e v5 ⟨rfl, hb5⟩
          refine ⟨hb5, [], _, rfl, by kernel_rfl, by kernel_rfl, fun g5 => ?_⟩
          replace r_m := g5.r64 r_m; replace r_f := g5.rdD r_f
          clear h5 hb5
          refine sat_chkB (by kernel_rfl) ?_
          exact sat_ret (.agg #[.bool d_f.neg, .slice A_f n_f c_f, .int .i64 d_f.e]) (by kernel_rfl) fun w9 h9 => ⟨by rw [← h_f.out]; simpa using hx, by rw [← h_f.out]; exact h9.rdD r_f⟩

end Go.Proofs.YteodljieiloebaaDoor
