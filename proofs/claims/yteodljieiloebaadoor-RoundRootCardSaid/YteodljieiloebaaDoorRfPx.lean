/- sluicewayref1: Cut, Parted, wide, Round, Quot, Sqrt, by their trees. Printed by wip/mk_RfP.py. Plain law: quotients and roots are what the document says. -/
import Derived.Test.YteodljieiloebaaDoorRfKx
import Derived.Test.YteodljieiloebaaDoorRfMx
import Derived.Test.YteodljieiloebaaDoorRfLx
import Derived.Test.YteodljieiloebaaDoorSxGx
import Derived.Test.YteodljieiloebaaDoorRnEx
namespace Go.Proofs.YteodljieiloebaaDoor
open Go.RowKit Pl
open Sx (sat_call sat_chk sat_prim sat_ite sat_true sat_false sat_trueP sat_falseP sat_ret sat_row sat_callP all_nil all_cons okB okS okI)

section
variable {u v : Value} {X Y : Nat} {w : World} (h : R16 w u X) (k : R16 w v Y) (hX : blen X ≤ 1500000) (hY : blen Y ≤ 1500000)
theorem sl16 {w : World} {e : Ending} {Y : Nat} (h : ∃ z, e = .returned z ∧ R16 w z Y) : ∃ A n c, e = .returned (.slice A n c) ∧ R16 w (.slice A n c) Y := by
  obtain ⟨z, he, hz⟩ := h
  have h2 := hz
  obtain ⟨A, n, c, rfl, _⟩ := hz
  exact ⟨A, n, c, he, h2⟩
include h hX in
theorem rbitsB : Calls Tryd.prog 29 #[u] w fun e w' => e = .returned (.int .i64 ((blen X : Nat) : Int)) ∧ Below w.heap.size w w' := (rbitsR u X w h hX).mono fun _ _ ⟨e, h⟩ => ⟨e, h ▸ Below.refl _ _⟩
include h hX in
theorem rshlB (j : Nat) (hj : j ≤ 1000000) : Calls Tryd.prog 75 #[u, .int .i64 (j : Int)] w fun e w' => (∃ A n c, e = .returned (.slice A n c) ∧ R16 w' (.slice A n c) (X * 2 ^ j)) ∧ Below w.heap.size w w' := (rshlR u X w h hX j hj).mono fun _ _ ⟨e, h⟩ => ⟨sl16 e, h⟩
include h hX in
theorem rshrB (j : Nat) (hj : j ≤ 1000000) : Calls Tryd.prog 92 #[u, .int .i64 (j : Int)] w fun e w' => (∃ A n c, e = .returned (.slice A n c) ∧ R16 w' (.slice A n c) (X / 2 ^ j)) ∧ Below w.heap.size w w' := (rshrR u X w h hX j hj).mono fun _ _ ⟨e, h⟩ => ⟨sl16 e, h⟩
include h k hX hY in
theorem raddB : Calls Tryd.prog 79 #[u, v] w fun e w' => (∃ A n c, e = .returned (.slice A n c) ∧ R16 w' (.slice A n c) (X + Y)) ∧ Below w.heap.size w w' := (radd_any u v X Y w h k hX hY).mono fun _ _ ⟨z, e, h, hb⟩ => ⟨sl16 ⟨z, e, h⟩, hb⟩
include h k hX hY in
theorem rmulB : Calls Tryd.prog 78 #[u, v] w fun e w' => (∃ A n c, e = .returned (.slice A n c) ∧ R16 w' (.slice A n c) (X * Y)) ∧ Below w.heap.size w w' := (rmul_any u v X Y w h k hX hY).mono fun _ _ ⟨z, e, h, hb⟩ => ⟨sl16 ⟨z, e, h⟩, hb⟩
include h in
theorem rrootB (hX : blen X ≤ 400000) : Calls Tryd.prog 76 #[u] w fun e w' => (∃ A n c, e = .returned (.slice A n c) ∧ R16 w' (.slice A n c) (nroot X)) ∧ Below w.heap.size w w' := (rroot_any u X w h hX).mono fun _ _ ⟨e, h⟩ => ⟨sl16 e, h⟩
include h k in
theorem rdivB (hX : blen X ≤ 900000) (hY : blen Y ≤ 900000) (h0 : 0 < Y) : Calls Tryd.prog 105 #[u, v] w fun e w' => (∃ A n c B m d, e = .returned (.tuple #[.slice A n c, .slice B m d]) ∧ R16 w' (.slice A n c) (X / Y) ∧ R16 w' (.slice B m d) (X % Y)) ∧ Below w.heap.size w w' :=
  (rdiv_any u v X Y w h k hX hY h0).mono fun _ _ ⟨⟨p, q, e, h1, h2⟩, hb⟩ => by
    have k1 := h1
    have k2 := h2
    obtain ⟨A, n, c, rfl, _⟩ := h1
    obtain ⟨B, m, d, rfl, _⟩ := h2
    exact ⟨⟨A, n, c, B, m, d, e, k1, k2⟩, hb⟩
include h in
theorem rlowB (h0 : X ≠ 0) (hX : blen X ≤ 1000000) : Calls Tryd.prog 91 #[u] w fun e w' => e = .returned (.int .i64 ((tz X : Nat) : Int)) ∧ Below w.heap.size w w' := (rlowX u X w h h0 hX).mono fun _ _ ⟨e, h⟩ => ⟨e, h ▸ Below.refl _ _⟩
end
theorem R16.len {w : World} {A : Option Addr} {n c X : Nat} (h : R16 w (.slice A n c) X) : (limbs DD X).length = n := by
  obtain ⟨A', n', c', e, hr⟩ := h
  injection e with e1 e2 e3
  subst e1 e2 e3
  exact hr.len
theorem R16.nil_iff {w : World} {A : Option Addr} {n c X : Nat} (h : R16 w (.slice A n c) X) : n = 0 ↔ X = 0 := by
  rw [← h.len]
  constructor
  · intro h0
    rw [← limbs_val DD_gt1 X, List.length_eq_zero_iff.1 h0]
    rfl
  · intro h0
    rw [h0, limbs_zero]
    rfl
theorem R16.dec {w : World} {A : Option Addr} {n c X : Nat} (h : R16 w (.slice A n c) X) : ((n : Int) == 0) = decide (X = 0) := by
  have := h.nil_iff
  rcases Nat.eq_zero_or_pos n with h0 | h0
  · rw [show decide (X = 0) = true by simpa using this.1 h0, h0]; rfl
  · rw [show decide (X = 0) = false by simpa using fun e => absurd (this.2 e) (by omega)]
    simp
    omega
/-- Cut: the number. -/
def cutM (neg : Bool) (X p : Nat) (up : Bool) : Nat := X / 2 ^ (blen X - p) + (bif (!(up == neg)) && decide (X / 2 ^ (blen X - p) * 2 ^ (blen X - p) ≠ X) then 1 else 0)
theorem cutM_S {neg : Bool} {X : Nat} {e : Int} {p : Nat} {up : Bool} : fitS neg (cutM neg X p up) (e + ((blen X - p : Nat) : Int)) = cutS neg X e false p up := by
  unfold cutS cutM
  have h : decide (X / 2 ^ (blen X - p) * 2 ^ (blen X - p) ≠ X) = decide (X % 2 ^ (blen X - p) ≠ 0) := by
    rw [decide_eq_decide]
    have := Nat.div_add_mod X (2 ^ (blen X - p))
    rw [Nat.mul_comm] at this
    omega
  rw [h, Bool.false_or, Bool.and_comm]
theorem cutM_blen {neg : Bool} {X p : Nat} {up : Bool} {k : Nat} (h : blen X ≤ k) : blen (cutM neg X p up) ≤ k + 1 := by
  unfold cutM
  have h1 : blen (X / 2 ^ (blen X - p)) ≤ k := Nat.le_trans (blen_mono (Nat.div_le_self _ _)) h
  cases (!(up == neg)) && decide (X / 2 ^ (blen X - p) * 2 ^ (blen X - p) ≠ X) with
  | true => exact blen_one h1
  | false => simp only [cond_false, Nat.add_zero]; omega
/-- A number of the document's answer, as a function returns it. -/
def RTup (w : World) (e : Ending) (neg : Bool) (X : Nat) (f : Int) : Prop := ∃ A n c, e = .returned (.agg #[.bool neg, .slice A n c, .int .i64 f]) ∧ R16 w (.slice A n c) X
theorem ofB {v : Value} {d : Dy} {w : World} (h : RdD w v d) (hn : d.m.length ≤ 100000) : Calls Tryd.prog 58 #[v] w fun e w' => RTup w' e d.neg (val BB d.m) d.e ∧ Below w.heap.size w w' :=
  (of_any v d w h hn).mono fun e w' ⟨u, he, ⟨A, n, c, hu, hr⟩, hb⟩ => ⟨⟨A, n, c, by rw [he, hu], ⟨A, n, c, rfl, hr⟩⟩, hb⟩

def tr_rcutm : Sx.Tree := .chk [.lf 0, .lf 1, .lf 2] (.call 29 [.one (.lf 1)] .one (.prim (.bin .sub) [.lf 5, .lf 3] (.prim (.bin .leq) [.lf 6, .num .i64 0] (.ite (.lf 7) (.chk [.lf 0, .lf 1, .lf 2] (.ret (.ag [.lf 0, .lf 1, .lf 2]))) (.call 92 [.one (.lf 1), .one (.lf 6)] .one (.prim (.bbin .neq) [.lf 4, .lf 0] (.ite (.lf 9) (.call 75 [.one (.lf 8), .one (.lf 6)] .one (.call 77 [.one (.lf 10), .one (.lf 1)] .one (.prim (.bin .neq) [.lf 11, .num .i64 0] (.ite (.lf 12) (.row 75 [.num .u32 1] 1 [] (.call 79 [.one (.lf 8), .one (.lf 13)] .one (.prim (.bin .add) [.lf 2, .lf 6] (.chk [.lf 0, .lf 14, .lf 15] (.chk [.lf 0, .lf 14, .lf 15] (.ret (.ag [.lf 0, .lf 14, .lf 15]))))))) (.prim (.bin .add) [.lf 2, .lf 6] (.chk [.lf 0, .lf 8, .lf 13] (.chk [.lf 0, .lf 8, .lf 13] (.ret (.ag [.lf 0, .lf 8, .lf 13]))))))))) (.prim (.bin .add) [.lf 2, .lf 6] (.chk [.lf 0, .lf 8, .lf 10] (.chk [.lf 0, .lf 8, .lf 10] (.ret (.ag [.lf 0, .lf 8, .lf 10]))))))))))))
theorem tr_rcutm_eq : Sx.treeAt Tryd.prog 57 [] [] [(true, 3), (false, 1), (false, 1)] = some tr_rcutm := by kernel_rfl

set_option maxRecDepth 100000 in
set_option maxHeartbeats 4000000 in
theorem rcut_any (neg : Bool) (A_x : Option Addr) (n_x c_x : Nat) (X : Nat) (e : Int) (p : Nat) (up : Bool) (w : World) (r_x : R16 w (.slice A_x n_x c_x) X) (hX : blen X ≤ 500000) (hp : p ≤ 100000) (he1 : -1000000000000 ≤ e) (he2 : e ≤ 1000000000000) :
    Calls Tryd.prog 57 #[.agg #[.bool neg, .slice A_x n_x c_x, .int .i64 e], .int .i64 ((p : Nat) : Int), .bool up] w fun x w' => RTup w' x neg (cutM neg X p up) (e + ((blen X - p : Nat) : Int)) ∧ Below w.heap.size w w' := by
  by_cases hc : p < blen X
  · obtain ⟨N, hN⟩ : ∃ N, N = blen X - p := ⟨_, rfl⟩
    have hw1 : IntKind.i64.wrap (((blen (X) : Nat) : Int) - (p : Int)) = ((N : Nat) : Int) := by rw [IntWalk.i64_in _ (by omega)]; omega
    have hw2 : IntKind.i64.wrap (e + ((N : Nat) : Int)) = e + ((N : Nat) : Int) := IntWalk.i64_in _ (by omega)
    rw [← hN]
    refine (Sx.runA [] [] (ls := [.bool neg, .slice A_x n_x c_x, .int .i64 e, .int .i64 ((p : Nat) : Int), .bool up]) (shs := [(true, 3), (false, 1), (false, 1)]) (R := fun v w' => RTup w' (.returned v) neg (cutM neg X p up) (e + ((N : Nat) : Int))) tr_rcutm_eq rfl (by decide) (fun q h => by cases h) ?_).mono (fun e w' ⟨v, he, hv, hb⟩ => ⟨by rw [he]; exact hv, hb⟩)
    unfold tr_rcutm
    refine sat_chkB (by kernel_rfl) ?_
    refine sat_call #[.slice A_x n_x c_x] (by kernel_rfl) fun w1 h1 => ?_
    refine (rbitsB (h1.r16 r_x) (by omega)).mono ?_
    rintro e v1 ⟨rfl, hb1⟩
    refine ⟨hb1, [.int .i64 ((blen (X) : Nat) : Int)], _, rfl, by kernel_rfl, by kernel_rfl, fun g1 => ?_⟩
    replace r_x := g1.r16 r_x
    clear h1 hb1
    refine sat_prim (v := .int .i64 ((N : Nat) : Int)) (Eq.trans (b := some (.int .i64 (IntKind.i64.wrap (((blen (X) : Nat) : Int) - (p : Int))))) (by kernel_rfl) (by rw [hw1])) ?_
    refine sat_prim (v := .bool false) (Eq.trans (b := some (.bool (decide (((N : Nat) : Int) ≤ (0 : Int))))) (by kernel_rfl) (by rw [decide_eq_false (by omega)])) ?_
    refine sat_false (by kernel_rfl) ?_
    refine sat_call #[.slice A_x n_x c_x, .int .i64 ((N : Nat) : Int)] (by kernel_rfl) fun w2 h2 => ?_
    refine (rshrB (h2.r16 r_x) (by omega) (N) (by omega)).mono ?_
    rintro e v2 ⟨⟨A_s1, n_s1, c_s1, rfl, r_s1⟩, hb2⟩
    refine ⟨hb2, [.slice A_s1 n_s1 c_s1], _, rfl, by kernel_rfl, by kernel_rfl, fun g2 => ?_⟩
    replace r_x := g2.r16 r_x
    clear h2 hb2
    refine sat_prim (v := .bool (!(up == neg))) (by kernel_rfl) ?_
    cases hU : (up == neg)
    · refine sat_true (by kernel_rfl) ?_
      refine sat_call #[.slice A_s1 n_s1 c_s1, .int .i64 ((N : Nat) : Int)] (by kernel_rfl) fun w4 h4 => ?_
      refine (rshlB (h4.r16 r_s1) (Nat.le_trans (blen_mono (Nat.div_le_self _ _)) (by omega)) (N) (by omega)).mono ?_
      rintro e v4 ⟨⟨A_s2, n_s2, c_s2, rfl, r_s2⟩, hb4⟩
      refine ⟨hb4, [.slice A_s2 n_s2 c_s2], _, rfl, by kernel_rfl, by kernel_rfl, fun g4 => ?_⟩
      replace r_x := g4.r16 r_x; replace r_s1 := g4.r16 r_s1
      clear h4 hb4
      refine sat_call #[.slice A_s2 n_s2 c_s2, .slice A_x n_x c_x] (by kernel_rfl) fun w5 h5 => ?_
      refine (rcmpR _ _ (((X) / 2 ^ (N)) * 2 ^ (N)) (X) _ (h5.r16 r_s2) (h5.r16 r_x)).mono ?_
      rintro e v5 ⟨rfl, hb5⟩
      refine ⟨hb5, [.int .i64 (cmpN (((X) / 2 ^ (N)) * 2 ^ (N)) (X))], _, rfl, by kernel_rfl, by kernel_rfl, fun g5 => ?_⟩
      replace r_x := g5.r16 r_x; replace r_s1 := g5.r16 r_s1; replace r_s2 := g5.r16 r_s2
      clear h5 hb5
      refine sat_prim (v := .bool (decide ((X) / 2 ^ N * 2 ^ N ≠ X))) (Eq.trans (b := some (.bool ((cmpN (((X) / 2 ^ (N)) * 2 ^ (N)) (X)) != 0))) (by kernel_rfl) (by rw [cmpN_ne])) ?_
      cases hZ : (decide ((X) / 2 ^ N * 2 ^ N ≠ X))
      · refine sat_false (by kernel_rfl) ?_
        refine sat_prim (v := .int .i64 (e + ((N : Nat) : Int))) (Eq.trans (b := some (.int .i64 (IntKind.i64.wrap (e + ((N : Nat) : Int))))) (by kernel_rfl) (by rw [hw2])) ?_
        refine sat_chkB (by kernel_rfl) ?_
        refine sat_chkB (by kernel_rfl) ?_
        exact sat_ret (.agg #[.bool neg, .slice A_s1 n_s1 c_s1, .int .i64 (e + ((N : Nat) : Int))]) (by kernel_rfl) fun w9 h9 => ⟨_, _, _, rfl, by rw [show cutM neg X p up = (X) / 2 ^ (N) by unfold cutM; rw [← hN, hU, hZ]; rfl]; exact h9.r16 r_s1⟩
      · refine sat_true (by kernel_rfl) ?_
        refine sat_row [.int .u32 1] (by kernel_rfl) (by intro x hx; cases hx) fun u1 h1 B1 => ?_
        replace r_x := h1.r16 r_x; replace r_s1 := h1.r16 r_s1; replace r_s2 := h1.r16 r_s2
        have r_1 := rd1u 1 B1 (by omega) (by decide)
        generalize u1.heap.size = NR at *
        generalize (u1.alloc _) = wR at *
        clear B1 h1
        refine sat_call #[.slice A_s1 n_s1 c_s1, .slice (some ⟨NR, 0, none⟩) 1 1] (by kernel_rfl) fun w7 h7 => ?_
        refine (raddB (h7.r16 r_s1) (h7.r16 r_1) (Nat.le_trans (blen_mono (Nat.div_le_self _ _)) (by omega)) (by decide)).mono ?_
        rintro e v7 ⟨⟨A_a3, n_a3, c_a3, rfl, r_a3⟩, hb7⟩
        refine ⟨hb7, [.slice A_a3 n_a3 c_a3], _, rfl, by kernel_rfl, by kernel_rfl, fun g7 => ?_⟩
        replace r_x := g7.r16 r_x; replace r_s1 := g7.r16 r_s1; replace r_s2 := g7.r16 r_s2; replace r_1 := g7.r16 r_1
        clear h7 hb7
        refine sat_prim (v := .int .i64 (e + ((N : Nat) : Int))) (Eq.trans (b := some (.int .i64 (IntKind.i64.wrap (e + ((N : Nat) : Int))))) (by kernel_rfl) (by rw [hw2])) ?_
        refine sat_chkB (by kernel_rfl) ?_
        refine sat_chkB (by kernel_rfl) ?_
        exact sat_ret (.agg #[.bool neg, .slice A_a3 n_a3 c_a3, .int .i64 (e + ((N : Nat) : Int))]) (by kernel_rfl) fun w9 h9 => ⟨_, _, _, rfl, by rw [show cutM neg X p up = (X) / 2 ^ (N) + 1 by unfold cutM; rw [← hN, hU, hZ]; rfl]; exact h9.r16 r_a3⟩
    · refine sat_false (by kernel_rfl) ?_
      refine sat_prim (v := .int .i64 (e + ((N : Nat) : Int))) (Eq.trans (b := some (.int .i64 (IntKind.i64.wrap (e + ((N : Nat) : Int))))) (by kernel_rfl) (by rw [hw2])) ?_
      refine sat_chkB (by kernel_rfl) ?_
      refine sat_chkB (by kernel_rfl) ?_
      exact sat_ret (.agg #[.bool neg, .slice A_s1 n_s1 c_s1, .int .i64 (e + ((N : Nat) : Int))]) (by kernel_rfl) fun w9 h9 => ⟨_, _, _, rfl, by rw [show cutM neg X p up = (X) / 2 ^ (N) by unfold cutM; rw [← hN, hU]; rfl]; exact h9.r16 r_s1⟩
  · have hw1 : IntKind.i64.wrap (((blen (X) : Nat) : Int) - (p : Int)) = ((blen (X) : Nat) : Int) - (p : Int) := IntWalk.i64_in _ (by omega)
    have h0 : blen X - p = 0 := by omega
    have hE : cutM neg X p up = X := by unfold cutM; rw [h0]; simp
    have hE2 : e + ((blen X - p : Nat) : Int) = e := by rw [h0]; simp
    refine (Sx.runA [] [] (ls := [.bool neg, .slice A_x n_x c_x, .int .i64 e, .int .i64 ((p : Nat) : Int), .bool up]) (shs := [(true, 3), (false, 1), (false, 1)]) (R := fun v w' => RTup w' (.returned v) neg (cutM neg X p up) (e + ((blen X - p : Nat) : Int))) tr_rcutm_eq rfl (by decide) (fun q h => by cases h) ?_).mono (fun e w' ⟨v, he, hv, hb⟩ => ⟨by rw [he]; exact hv, hb⟩)
    unfold tr_rcutm
    refine sat_chkB (by kernel_rfl) ?_
    refine sat_call #[.slice A_x n_x c_x] (by kernel_rfl) fun w1 h1 => ?_
    refine (rbitsB (h1.r16 r_x) (by omega)).mono ?_
    rintro e v1 ⟨rfl, hb1⟩
    refine ⟨hb1, [.int .i64 ((blen (X) : Nat) : Int)], _, rfl, by kernel_rfl, by kernel_rfl, fun g1 => ?_⟩
    replace r_x := g1.r16 r_x
    clear h1 hb1
    refine sat_prim (v := .int .i64 (((blen (X) : Nat) : Int) - (p : Int))) (Eq.trans (b := some (.int .i64 (IntKind.i64.wrap (((blen (X) : Nat) : Int) - (p : Int))))) (by kernel_rfl) (by rw [hw1])) ?_
    refine sat_prim (v := .bool true) (Eq.trans (b := some (.bool (decide ((((blen (X) : Nat) : Int) - (p : Int)) ≤ (0 : Int))))) (by kernel_rfl) (by rw [decide_eq_true (by omega)])) ?_
    refine sat_true (by kernel_rfl) ?_
    refine sat_chkB (by kernel_rfl) ?_
    exact sat_ret (.agg #[.bool neg, .slice A_x n_x c_x, .int .i64 e]) (by kernel_rfl) fun w9 h9 => ⟨_, _, _, by rw [hE2], by rw [hE]; exact h9.r16 r_x⟩

theorem wide_S {neg : Bool} {X : Nat} {e : Int} (h : X ≠ 0) : normR neg (X / 2 ^ tz X) (e + ((tz X : Nat) : Int)) = fitS neg X e := by
  obtain ⟨m, hm, ho⟩ := tz_spec h
  have hd : X / 2 ^ tz X = m := Nat.div_eq_of_eq_mul_right (Nat.two_pow_pos _) hm
  rw [hd, normR_S (.inl (by rw [tz_odd ho]; omega))]
  have h2 := fitS_shift neg m (tz X) (e + ((tz X : Nat) : Int))
  rw [show e + ((tz X : Nat) : Int) - ((tz X : Nat) : Int) = e by omega, Nat.mul_comm, ← hm] at h2
  exact h2.symm

def tr_rwide : Sx.Tree := .chk [.lf 0, .lf 1, .lf 2] (.prim .len [.lf 1] (.prim (.bin .eql) [.lf 3, .num .i64 0] (.ite (.lf 4) (.ret (.tup [(true, [.bit false, .nil, .num .i64 0]), (false, [.num .i64 0])])) (.call 91 [.one (.lf 1)] .one (.prim (.bin .add) [.lf 2, .lf 5] (.call 92 [.one (.lf 1), .one (.lf 5)] .one (.chk [.lf 0, .lf 7, .lf 6] (.call 56 [.ag [.lf 0, .lf 7, .lf 6]] (.tup [(true, 3), (false, 1)]) (.chk [.lf 8, .lf 9, .lf 10] (.ret (.tup [(true, [.lf 8, .lf 9, .lf 10]), (false, [.lf 11])])))))))))))
theorem tr_rwide_eq : Sx.treeAt Tryd.prog 69 [] [] [(true, 3)] = some tr_rwide := by kernel_rfl

set_option maxRecDepth 100000 in
set_option maxHeartbeats 4000000 in
theorem rwide_any (neg : Bool) (A_x : Option Addr) (n_x c_x : Nat) (X : Nat) (e : Int) (w : World) (r_x : R16 w (.slice A_x n_x c_x) X) (hX : blen X ≤ 500000) (he1 : -1000000000000 ≤ e) (he2 : e ≤ 1000000000000) :
    Calls Tryd.prog 69 #[.agg #[.bool neg, .slice A_x n_x c_x, .int .i64 e]] w fun x w' => DyTup w' x (fitS neg X e) ∧ Below w.heap.size w w' := by
  refine (Sx.runA [] [] (ls := [.bool neg, .slice A_x n_x c_x, .int .i64 e]) (shs := [(true, 3)]) (R := fun v w' => DyTup w' (.returned v) (fitS neg X e)) tr_rwide_eq rfl (by decide) (fun q h => by cases h) ?_).mono (fun e w' ⟨v, he, hv, hb⟩ => ⟨by rw [he]; exact hv, hb⟩)
  unfold tr_rwide
  refine sat_chkB (by kernel_rfl) ?_
  refine sat_prim (v := .int .i64 ((n_x : Nat) : Int)) (by kernel_rfl) ?_
  refine sat_prim (v := .bool (decide (X = 0))) (Eq.trans (b := some (.bool (((n_x : Nat) : Int) == 0))) (by kernel_rfl) (by rw [r_x.dec])) ?_
  cases h0 : (decide (X = 0))
  · refine sat_false (by kernel_rfl) ?_
    have hX0 := of_decide_eq_false h0
    have htz := tz_lt_blen hX0
    refine sat_call #[.slice A_x n_x c_x] (by kernel_rfl) fun w2 h2 => ?_
    refine (rlowB (h2.r16 r_x) hX0 (by omega)).mono ?_
    rintro e v2 ⟨rfl, hb2⟩
    refine ⟨hb2, [.int .i64 ((tz X : Nat) : Int)], _, rfl, by kernel_rfl, by kernel_rfl, fun g2 => ?_⟩
    replace r_x := g2.r16 r_x
    clear h2 hb2
    refine sat_prim (v := .int .i64 (e + ((tz X : Nat) : Int))) (Eq.trans (b := some (.int .i64 (IntKind.i64.wrap (e + ((tz X : Nat) : Int))))) (by kernel_rfl) (by rw [IntWalk.i64_in _ (by omega)])) ?_
    refine sat_call #[.slice A_x n_x c_x, .int .i64 ((tz X : Nat) : Int)] (by kernel_rfl) fun w3 h3 => ?_
    refine (rshrB (h3.r16 r_x) (by omega) (tz X) (by omega)).mono ?_
    rintro e v3 ⟨⟨A_s1, n_s1, c_s1, rfl, r_s1⟩, hb3⟩
    refine ⟨hb3, [.slice A_s1 n_s1 c_s1], _, rfl, by kernel_rfl, by kernel_rfl, fun g3 => ?_⟩
    replace r_x := g3.r16 r_x
    clear h3 hb3
    refine sat_chkB (by kernel_rfl) ?_
    refine sat_call #[.agg #[.bool neg, .slice A_s1 n_s1 c_s1, .int .i64 (e + ((tz X : Nat) : Int))]] (by kernel_rfl) fun w4 h4 => ?_
    refine (rnorm_any neg _ (X / 2 ^ tz X) (e + ((tz X : Nat) : Int)) _ (h4.r16 r_s1) (Nat.le_trans (blen_mono (Nat.div_le_self _ _)) (by omega)) (by omega) (by omega)).mono ?_
    rintro e v4 ⟨⟨d_z, x_z, A_z, n_z, c_z, h_z, rfl, r_z⟩, hb4⟩
    refine ⟨hb4, [.bool d_z.neg, .slice A_z n_z c_z, .int .i64 d_z.e, .int .i64 x_z], _, rfl, by kernel_rfl, by kernel_rfl, fun g4 => ?_⟩
    replace r_x := g4.r16 r_x; replace r_s1 := g4.r16 r_s1
    clear h4 hb4
    refine sat_chkB (by kernel_rfl) ?_
    exact sat_ret (.tuple #[.agg #[.bool d_z.neg, .slice A_z n_z c_z, .int .i64 d_z.e], .int .i64 x_z]) (by kernel_rfl) fun w9 h9 => ⟨d_z, x_z, A_z, n_z, c_z, hide (h_z.out.trans (wide_S hX0)), rfl, h9.rdD r_z⟩
  · refine sat_true (by kernel_rfl) ?_
    exact sat_ret (.tuple #[.agg #[.bool false, .slice none 0 0, .int .i64 0], .int .i64 0]) (by kernel_rfl) fun w9 h9 => ⟨Dy.zero, 0, none, 0, 0, hide (by rw [of_decide_eq_true h0, fitS_zero]), rfl, RdD.zero _⟩

/-- The number that Parted cuts. -/
def partM (X Y p : Nat) : Nat := X * 2 ^ (p + 3 + blen Y - blen X) / Y * 2 ^ 1 + (bif decide (X * 2 ^ (p + 3 + blen Y - blen X) % Y = 0) then 0 else 1)
def partE (X Y p : Nat) (e f : Int) : Int := e - f - ((p + 3 + blen Y - blen X : Nat) : Int) - 1
theorem blen_q {X Y s : Nat} (h : blen X ≤ 4096) (hs : s ≤ 20000) : blen (X * 2 ^ s / Y) ≤ 24096 := Nat.le_trans (blen_mono (Nat.div_le_self _ _)) (blen_shift h hs)
theorem blen_q2 {X Y s : Nat} (h : blen X ≤ 4096) (hs : s ≤ 20000) : blen (X * 2 ^ s / Y * 2 ^ 1) ≤ 24097 := by
  have h1 := blen_q (Y := Y) h hs
  rcases Nat.eq_zero_or_pos (X * 2 ^ s / Y) with h0 | h0
  · rw [h0, Nat.zero_mul, blen_zero]; omega
  · rw [blen_mul_pow (by omega)]; omega
theorem blen_p1 {X k : Nat} (h : blen X ≤ k) : blen (X + 1) ≤ k + 1 := blen_one h

theorem R16.decP {w : World} {A : Option Addr} {n c X : Nat} (h : R16 w (.slice A n c) X) : decide ((0 : Int) < (n : Int)) = !(decide (X = 0)) := by
  have := h.nil_iff
  rcases Nat.eq_zero_or_pos n with h0 | h0
  · rw [show decide (X = 0) = true by simpa using this.1 h0, h0]; rfl
  · rw [show decide (X = 0) = false by simpa using fun e => absurd (this.2 e) (by omega)]
    simp
    omega

def tr_rparted : Sx.Tree := .chk [.lf 0, .lf 1, .lf 2] (.chk [.lf 3, .lf 4, .lf 5] (.prim .len [.lf 1] (.prim (.bin .eql) [.lf 8, .num .i64 0] (.ite (.lf 9) (.ret (.ag [.bit false, .nil, .num .i64 0])) (.prim (.bin .add) [.lf 6, .num .i64 3] (.call 29 [.one (.lf 4)] .one (.prim (.bin .add) [.lf 10, .lf 11] (.call 29 [.one (.lf 1)] .one (.prim (.bin .sub) [.lf 12, .lf 13] (.prim .max [.num .i64 0, .lf 14] (.call 75 [.one (.lf 1), .one (.lf 15)] .one (.call 105 [.one (.lf 16), .one (.lf 4)] (.tup [(false, 1), (false, 1)]) (.call 75 [.one (.lf 17), .one (.num .i64 1)] .one (.prim .len [.lf 18] (.prim (.bin .gtr) [.lf 20, .num .i64 0] (.ite (.lf 21) (.row 75 [.num .u32 1] 1 [] (.call 79 [.one (.lf 19), .one (.lf 22)] .one (.prim (.bbin .neq) [.lf 0, .lf 3] (.prim (.bin .sub) [.lf 2, .lf 5] (.prim (.bin .sub) [.lf 25, .lf 15] (.prim (.bin .sub) [.lf 26, .num .i64 1] (.chk [.lf 24, .lf 23, .lf 27] (.call 57 [.ag [.lf 24, .lf 23, .lf 27], .one (.lf 6), .one (.lf 7)] (.ag 3) (.chk [.lf 28, .lf 29, .lf 30] (.ret (.ag [.lf 28, .lf 29, .lf 30]))))))))))) (.prim (.bbin .neq) [.lf 0, .lf 3] (.prim (.bin .sub) [.lf 2, .lf 5] (.prim (.bin .sub) [.lf 23, .lf 15] (.prim (.bin .sub) [.lf 24, .num .i64 1] (.chk [.lf 22, .lf 19, .lf 25] (.call 57 [.ag [.lf 22, .lf 19, .lf 25], .one (.lf 6), .one (.lf 7)] (.ag 3) (.chk [.lf 26, .lf 27, .lf 28] (.ret (.ag [.lf 26, .lf 27, .lf 28])))))))))))))))))))))))))
theorem tr_rparted_eq : Sx.treeAt Tryd.prog 70 [] [] [(true, 3), (true, 3), (false, 1), (false, 1)] = some tr_rparted := by kernel_rfl

set_option maxRecDepth 100000 in
set_option maxHeartbeats 4000000 in
theorem rparted_any (na : Bool) (A_x : Option Addr) (n_x c_x : Nat) (X : Nat) (e : Int) (nb : Bool) (A_y : Option Addr) (n_y c_y : Nat) (Y : Nat) (f : Int) (p : Nat) (up : Bool) (w : World) (r_x : R16 w (.slice A_x n_x c_x) X) (r_y : R16 w (.slice A_y n_y c_y) Y) (hX : blen X ≤ 4096) (hY : blen Y ≤ 4096) (hY0 : 0 < Y) (hp : p ≤ 2000) (he1 : -1048576 ≤ e) (he2 : e ≤ 1048576) (hf1 : -1048576 ≤ f) (hf2 : f ≤ 1048576) :
    Calls Tryd.prog 70 #[.agg #[.bool na, .slice A_x n_x c_x, .int .i64 e], .agg #[.bool nb, .slice A_y n_y c_y, .int .i64 f], .int .i64 ((p : Nat) : Int), .bool up] w fun x w' => ((X = 0 ∧ x = .returned (.agg #[.bool false, .slice none 0 0, .int .i64 0])) ∨ (X ≠ 0 ∧ RTup w' x (!(na == nb)) (cutM (!(na == nb)) (partM X Y p) p up) (partE X Y p e f + ((blen (partM X Y p) - p : Nat) : Int)))) ∧ Below w.heap.size w w' := by
  obtain ⟨s, hs⟩ : ∃ s, s = p + 3 + blen Y - blen X := ⟨_, rfl⟩
  have hs2 : s ≤ 20000 := by omega
  refine (Sx.runA [] [] (ls := [.bool na, .slice A_x n_x c_x, .int .i64 e, .bool nb, .slice A_y n_y c_y, .int .i64 f, .int .i64 ((p : Nat) : Int), .bool up]) (shs := [(true, 3), (true, 3), (false, 1), (false, 1)]) (R := fun v w' => (X = 0 ∧ v = .agg #[.bool false, .slice none 0 0, .int .i64 0]) ∨ (X ≠ 0 ∧ RTup w' (.returned v) (!(na == nb)) (cutM (!(na == nb)) (partM X Y p) p up) (partE X Y p e f + ((blen (partM X Y p) - p : Nat) : Int)))) tr_rparted_eq rfl (by decide) (fun q h => by cases h) ?_).mono (fun e w' ⟨v, he, hv, hb⟩ => ⟨hv.elim (fun hv => .inl ⟨hv.1, by rw [he, hv.2]⟩) (fun hv => .inr ⟨hv.1, by rw [he]; exact hv.2⟩), hb⟩)
  unfold tr_rparted
  refine sat_chkB (by kernel_rfl) ?_
  refine sat_chkB (by kernel_rfl) ?_
  refine sat_prim (v := .int .i64 ((n_x : Nat) : Int)) (by kernel_rfl) ?_
  refine sat_prim (v := .bool (decide (X = 0))) (Eq.trans (b := some (.bool (((n_x : Nat) : Int) == 0))) (by kernel_rfl) (by rw [r_x.dec])) ?_
  cases hx0 : (decide (X = 0))
  · refine sat_false (by kernel_rfl) ?_
    refine sat_prim (v := .int .i64 (((p : Nat) : Int) + 3)) (Eq.trans (b := some (.int .i64 (IntKind.i64.wrap ((((p : Nat) : Int) + 3))))) (by kernel_rfl) (by rw [IntWalk.i64_in _ (by omega)])) ?_
    refine sat_call #[.slice A_y n_y c_y] (by kernel_rfl) fun w2 h2 => ?_
    refine (rbitsB (h2.r16 r_y) (by omega)).mono ?_
    rintro e v2 ⟨rfl, hb2⟩
    refine ⟨hb2, [.int .i64 ((blen (Y) : Nat) : Int)], _, rfl, by kernel_rfl, by kernel_rfl, fun g2 => ?_⟩
    replace r_x := g2.r16 r_x; replace r_y := g2.r16 r_y
    clear h2 hb2
    refine sat_prim (v := .int .i64 ((((p : Nat) : Int) + 3) + ((blen (Y) : Nat) : Int))) (Eq.trans (b := some (.int .i64 (IntKind.i64.wrap (((((p : Nat) : Int) + 3) + ((blen (Y) : Nat) : Int)))))) (by kernel_rfl) (by rw [IntWalk.i64_in _ (by omega)])) ?_
    refine sat_call #[.slice A_x n_x c_x] (by kernel_rfl) fun w3 h3 => ?_
    refine (rbitsB (h3.r16 r_x) (by omega)).mono ?_
    rintro e v3 ⟨rfl, hb3⟩
    refine ⟨hb3, [.int .i64 ((blen (X) : Nat) : Int)], _, rfl, by kernel_rfl, by kernel_rfl, fun g3 => ?_⟩
    replace r_x := g3.r16 r_x; replace r_y := g3.r16 r_y
    clear h3 hb3
    refine sat_prim (v := .int .i64 (((((p : Nat) : Int) + 3) + ((blen (Y) : Nat) : Int)) - ((blen (X) : Nat) : Int))) (Eq.trans (b := some (.int .i64 (IntKind.i64.wrap ((((((p : Nat) : Int) + 3) + ((blen (Y) : Nat) : Int)) - ((blen (X) : Nat) : Int)))))) (by kernel_rfl) (by rw [IntWalk.i64_in _ (by omega)])) ?_
    refine sat_prim (v := .int .i64 ((s : Nat) : Int)) (Eq.trans (b := some (.int .i64 (if (0 : Int) < (((((p : Nat) : Int) + 3) + ((blen (Y) : Nat) : Int)) - ((blen (X) : Nat) : Int)) then (((((p : Nat) : Int) + 3) + ((blen (Y) : Nat) : Int)) - ((blen (X) : Nat) : Int)) else 0))) (by kernel_rfl) (by rw [hs]; split <;> congr 2 <;> omega)) ?_
    refine sat_call #[.slice A_x n_x c_x, .int .i64 ((s : Nat) : Int)] (by kernel_rfl) fun w4 h4 => ?_
    refine (rshlB (h4.r16 r_x) (by omega) (s) (by omega)).mono ?_
    rintro e v4 ⟨⟨A_s1, n_s1, c_s1, rfl, r_s1⟩, hb4⟩
    refine ⟨hb4, [.slice A_s1 n_s1 c_s1], _, rfl, by kernel_rfl, by kernel_rfl, fun g4 => ?_⟩
    replace r_x := g4.r16 r_x; replace r_y := g4.r16 r_y
    clear h4 hb4
    refine sat_call #[.slice A_s1 n_s1 c_s1, .slice A_y n_y c_y] (by kernel_rfl) fun w5 h5 => ?_
    refine (rdivB (h5.r16 r_s1) (h5.r16 r_y) (Nat.le_trans (blen_shift hX hs2) (by omega)) (by omega) hY0).mono ?_
    rintro e v5 ⟨⟨A_q, n_q, c_q, A_r, n_r, c_r, rfl, r_q, r_r⟩, hb5⟩
    refine ⟨hb5, [.slice A_q n_q c_q, .slice A_r n_r c_r], _, rfl, by kernel_rfl, by kernel_rfl, fun g5 => ?_⟩
    replace r_x := g5.r16 r_x; replace r_y := g5.r16 r_y; replace r_s1 := g5.r16 r_s1
    clear h5 hb5
    refine sat_call #[.slice A_q n_q c_q, .int .i64 1] (by kernel_rfl) fun w6 h6 => ?_
    refine (rshlB (h6.r16 r_q) (Nat.le_trans (blen_q hX hs2) (by omega)) 1 (by omega)).mono ?_
    rintro e v6 ⟨⟨A_s2, n_s2, c_s2, rfl, r_s2⟩, hb6⟩
    refine ⟨hb6, [.slice A_s2 n_s2 c_s2], _, rfl, by kernel_rfl, by kernel_rfl, fun g6 => ?_⟩
    replace r_x := g6.r16 r_x; replace r_y := g6.r16 r_y; replace r_s1 := g6.r16 r_s1; replace r_q := g6.r16 r_q; replace r_r := g6.r16 r_r
    clear h6 hb6
    refine sat_prim (v := .int .i64 ((n_r : Nat) : Int)) (by kernel_rfl) ?_
    refine sat_prim (v := .bool (!(decide (X * 2 ^ s % Y = 0)))) (Eq.trans (b := some (.bool (decide ((0 : Int) < ((n_r : Nat) : Int))))) (by kernel_rfl) (by rw [r_r.decP])) ?_
    cases hr0 : (decide (X * 2 ^ s % Y = 0))
    · refine sat_true (by kernel_rfl) ?_
      refine sat_row [.int .u32 1] (by kernel_rfl) (by intro x hx; cases hx) fun u1 h1 B1 => ?_
      replace r_x := h1.r16 r_x; replace r_y := h1.r16 r_y; replace r_s1 := h1.r16 r_s1; replace r_q := h1.r16 r_q; replace r_r := h1.r16 r_r; replace r_s2 := h1.r16 r_s2
      have r_1 := rd1u 1 B1 (by omega) (by decide)
      generalize u1.heap.size = NR at *
      generalize (u1.alloc _) = wR at *
      clear B1 h1
      refine sat_call #[.slice A_s2 n_s2 c_s2, .slice (some ⟨NR, 0, none⟩) 1 1] (by kernel_rfl) fun w8 h8 => ?_
      refine (raddB (h8.r16 r_s2) (h8.r16 r_1) (Nat.le_trans (blen_q2 hX hs2) (by omega)) (by decide)).mono ?_
      rintro e v8 ⟨⟨A_a3, n_a3, c_a3, rfl, r_a3⟩, hb8⟩
      refine ⟨hb8, [.slice A_a3 n_a3 c_a3], _, rfl, by kernel_rfl, by kernel_rfl, fun g8 => ?_⟩
      replace r_x := g8.r16 r_x; replace r_y := g8.r16 r_y; replace r_s1 := g8.r16 r_s1; replace r_q := g8.r16 r_q; replace r_r := g8.r16 r_r; replace r_s2 := g8.r16 r_s2; replace r_1 := g8.r16 r_1
      clear h8 hb8
      refine sat_prim (v := .bool (!(na == nb))) (by kernel_rfl) ?_
      refine sat_prim (v := .int .i64 (e - f)) (Eq.trans (b := some (.int .i64 (IntKind.i64.wrap ((e - f))))) (by kernel_rfl) (by rw [IntWalk.i64_in _ (by omega)])) ?_
      refine sat_prim (v := .int .i64 ((e - f) - ((s : Nat) : Int))) (Eq.trans (b := some (.int .i64 (IntKind.i64.wrap (((e - f) - ((s : Nat) : Int)))))) (by kernel_rfl) (by rw [IntWalk.i64_in _ (by omega)])) ?_
      refine sat_prim (v := .int .i64 (((e - f) - ((s : Nat) : Int)) - 1)) (Eq.trans (b := some (.int .i64 (IntKind.i64.wrap ((((e - f) - ((s : Nat) : Int)) - 1))))) (by kernel_rfl) (by rw [IntWalk.i64_in _ (by omega)])) ?_
      refine sat_chkB (by kernel_rfl) ?_
      refine sat_call #[.agg #[.bool (!(na == nb)), .slice A_a3 n_a3 c_a3, .int .i64 (((e - f) - ((s : Nat) : Int)) - 1)], .int .i64 ((p : Nat) : Int), .bool up] (by kernel_rfl) fun w9 h9 => ?_
      refine (rcut_any (!(na == nb)) _ _ _ ((((X) * 2 ^ (s)) / (Y)) * 2 ^ 1 + 1) ((((e - f) - ((s : Nat) : Int)) - 1)) p up _ (h9.r16 r_a3) (Nat.le_trans (blen_p1 (blen_q2 hX hs2)) (by omega)) (by omega) (by omega) (by omega)).mono ?_
      rintro e v9 ⟨⟨A_z, n_z, c_z, rfl, r_z⟩, hb9⟩
      refine ⟨hb9, [.bool (!(na == nb)), .slice A_z n_z c_z, .int .i64 ((((e - f) - ((s : Nat) : Int)) - 1) + ((blen ((((X) * 2 ^ (s)) / (Y)) * 2 ^ 1 + 1) - p : Nat) : Int))], _, rfl, by kernel_rfl, by kernel_rfl, fun g9 => ?_⟩
      replace r_x := g9.r16 r_x; replace r_y := g9.r16 r_y; replace r_s1 := g9.r16 r_s1; replace r_q := g9.r16 r_q; replace r_r := g9.r16 r_r; replace r_s2 := g9.r16 r_s2; replace r_1 := g9.r16 r_1; replace r_a3 := g9.r16 r_a3
      clear h9 hb9
      refine sat_chkB (by kernel_rfl) ?_
      have hM : partM X Y p = (((X) * 2 ^ (s)) / (Y)) * 2 ^ 1 + 1 := by unfold partM; rw [← hs, hr0]; rfl
      have hE : partE X Y p e f = e - f - ((s : Nat) : Int) - 1 := by unfold partE; rw [← hs]
      exact sat_ret (.agg #[.bool (!(na == nb)), .slice A_z n_z c_z, .int .i64 ((((e - f) - ((s : Nat) : Int)) - 1) + ((blen ((((X) * 2 ^ (s)) / (Y)) * 2 ^ 1 + 1) - p : Nat) : Int))]) (by kernel_rfl) fun w9 h9 => .inr ⟨of_decide_eq_false hx0, by rw [hM, hE]; exact ⟨_, _, _, rfl, h9.r16 r_z⟩⟩
    · refine sat_false (by kernel_rfl) ?_
      refine sat_prim (v := .bool (!(na == nb))) (by kernel_rfl) ?_
      refine sat_prim (v := .int .i64 (e - f)) (Eq.trans (b := some (.int .i64 (IntKind.i64.wrap ((e - f))))) (by kernel_rfl) (by rw [IntWalk.i64_in _ (by omega)])) ?_
      refine sat_prim (v := .int .i64 ((e - f) - ((s : Nat) : Int))) (Eq.trans (b := some (.int .i64 (IntKind.i64.wrap (((e - f) - ((s : Nat) : Int)))))) (by kernel_rfl) (by rw [IntWalk.i64_in _ (by omega)])) ?_
      refine sat_prim (v := .int .i64 (((e - f) - ((s : Nat) : Int)) - 1)) (Eq.trans (b := some (.int .i64 (IntKind.i64.wrap ((((e - f) - ((s : Nat) : Int)) - 1))))) (by kernel_rfl) (by rw [IntWalk.i64_in _ (by omega)])) ?_
      refine sat_chkB (by kernel_rfl) ?_
      refine sat_call #[.agg #[.bool (!(na == nb)), .slice A_s2 n_s2 c_s2, .int .i64 (((e - f) - ((s : Nat) : Int)) - 1)], .int .i64 ((p : Nat) : Int), .bool up] (by kernel_rfl) fun w8 h8 => ?_
      refine (rcut_any (!(na == nb)) _ _ _ ((((X) * 2 ^ (s)) / (Y)) * 2 ^ 1) ((((e - f) - ((s : Nat) : Int)) - 1)) p up _ (h8.r16 r_s2) (Nat.le_trans (blen_q2 hX hs2) (by omega)) (by omega) (by omega) (by omega)).mono ?_
      rintro e v8 ⟨⟨A_z, n_z, c_z, rfl, r_z⟩, hb8⟩
      refine ⟨hb8, [.bool (!(na == nb)), .slice A_z n_z c_z, .int .i64 ((((e - f) - ((s : Nat) : Int)) - 1) + ((blen ((((X) * 2 ^ (s)) / (Y)) * 2 ^ 1) - p : Nat) : Int))], _, rfl, by kernel_rfl, by kernel_rfl, fun g8 => ?_⟩
      replace r_x := g8.r16 r_x; replace r_y := g8.r16 r_y; replace r_s1 := g8.r16 r_s1; replace r_q := g8.r16 r_q; replace r_r := g8.r16 r_r; replace r_s2 := g8.r16 r_s2
      clear h8 hb8
      refine sat_chkB (by kernel_rfl) ?_
      have hM : partM X Y p = (((X) * 2 ^ (s)) / (Y)) * 2 ^ 1 := by unfold partM; rw [← hs, hr0]; rfl
      have hE : partE X Y p e f = e - f - ((s : Nat) : Int) - 1 := by unfold partE; rw [← hs]
      exact sat_ret (.agg #[.bool (!(na == nb)), .slice A_z n_z c_z, .int .i64 ((((e - f) - ((s : Nat) : Int)) - 1) + ((blen ((((X) * 2 ^ (s)) / (Y)) * 2 ^ 1) - p : Nat) : Int))]) (by kernel_rfl) fun w9 h9 => .inr ⟨of_decide_eq_false hx0, by rw [hM, hE]; exact ⟨_, _, _, rfl, h9.r16 r_z⟩⟩
  · refine sat_true (by kernel_rfl) ?_
    exact sat_ret (.agg #[.bool false, .slice none 0 0, .int .i64 0]) (by kernel_rfl) fun w9 h9 => .inl ⟨of_decide_eq_true hx0, rfl⟩

def roundR (d : Dy) (p : Int) (up : Bool) : Dy × Int := bif mayS p [d] then cutS d.neg (val BB d.m) d.e false p.toNat up else (Dy.zero, 1)
theorem mayS_no1 {p : Int} {l : List Dy} (h : decide (p < (1 : Int)) = true) : mayS p l = false := by
  unfold mayS; rw [show decide ((1 : Int) ≤ p) = false by have := of_decide_eq_true h; simp; omega]; rfl
theorem mayS_no2 {p : Int} {l : List Dy} (h : decide ((2000 : Int) < p) = true) : mayS p l = false := by
  unfold mayS; rw [show decide (p ≤ (2000 : Int)) = false by have := of_decide_eq_true h; simp; omega, Bool.and_false]; rfl
theorem mayS_no3 {p : Int} {l : List Dy} {d : Dy} (hd : d ∈ l) (h : mayD d = false) : mayS p l = false := by
  unfold mayS; rw [show l.all mayD = false by rw [List.all_eq_false]; exact ⟨d, hd, by simp [h]⟩, Bool.and_false]
theorem mayS_y {p : Int} {l : List Dy} (h1 : decide (p < (1 : Int)) = false) (h2 : decide ((2000 : Int) < p) = false) (h : l.all mayD = true) : mayS p l = true := by
  have := of_decide_eq_false h1
  have := of_decide_eq_false h2
  unfold mayS; rw [h, show decide ((1 : Int) ≤ p) = true by simp; omega, show decide (p ≤ (2000 : Int)) = true by simp; omega]; rfl
theorem DyTup.zero {w : World} {k : Int} {r : Dy × Int} (h : (Dy.zero, k) = r) : DyTup w (.returned (.tuple #[.agg #[.bool false, .slice none 0 0, .int .i64 0], .int .i64 k])) r := ⟨Dy.zero, k, none, 0, 0, hide h, rfl, RdD.zero _⟩

def tr_rround : Sx.Tree := .chk [.lf 0, .lf 1, .lf 2] (.call 28 [.ag [.lf 0, .lf 1, .lf 2]] .one (.prim .not [.lf 5] (.ite (.lf 6) (.ret (.tup [(true, [.bit false, .nil, .num .i64 0]), (false, [.num .i64 1])])) (.prim (.bin .lss) [.lf 3, .num .i64 1] (.ite (.lf 7) (.ret (.tup [(true, [.bit false, .nil, .num .i64 0]), (false, [.num .i64 1])])) (.prim (.bin .gtr) [.lf 3, .num .i64 2000] (.ite (.lf 8) (.ret (.tup [(true, [.bit false, .nil, .num .i64 0]), (false, [.num .i64 1])])) (.call 58 [.ag [.lf 0, .lf 1, .lf 2]] (.ag 3) (.call 57 [.ag [.lf 9, .lf 10, .lf 11], .one (.lf 3), .one (.lf 4)] (.ag 3) (.call 56 [.ag [.lf 12, .lf 13, .lf 14]] (.tup [(true, 3), (false, 1)]) (.chk [.lf 15, .lf 16, .lf 17] (.ret (.tup [(true, [.lf 15, .lf 16, .lf 17]), (false, [.lf 18])])))))))))))))
theorem tr_rround_eq : Sx.treeAt Tryd.prog 27 [] [] [(true, 3), (false, 1), (false, 1)] = some tr_rround := by kernel_rfl

set_option maxRecDepth 100000 in
set_option maxHeartbeats 4000000 in
theorem rround_any (v_d : Value) (d : Dy) (p : Int) (up : Bool) (w : World) (h_d : RdD w v_d d) :
    Calls Tryd.prog 27 #[v_d, .int .i64 p, .bool up] w fun e w' => DyTup w' e (roundR d p up) ∧ Below w.heap.size w w' := by
  have r_d := h_d
  obtain ⟨A_d, n_d, c_d, rfl, _⟩ := h_d
  refine (Sx.runA [] [] (ls := [.bool d.neg, .slice A_d n_d c_d, .int .i64 d.e, .int .i64 p, .bool up]) (shs := [(true, 3), (false, 1), (false, 1)]) (R := fun v w' => DyTup w' (.returned v) (roundR d p up)) tr_rround_eq rfl (by decide) (fun q h => by cases h) ?_).mono (fun e w' ⟨v, he, hv, hb⟩ => ⟨by rw [he]; exact hv, hb⟩)
  unfold tr_rround
  refine sat_chkB (by kernel_rfl) ?_
  refine sat_call #[.agg #[.bool d.neg, .slice A_d n_d c_d, .int .i64 d.e]] (by kernel_rfl) fun w1 h1 => ?_
  refine (rmayD_any _ (d) _ (h1.rdD r_d)).mono ?_
  rintro e v1 ⟨rfl, hb1⟩
  refine ⟨hb1, [.bool (mayD d)], _, rfl, by kernel_rfl, by kernel_rfl, fun g1 => ?_⟩
  replace r_d := g1.rdD r_d
  clear h1 hb1
  refine sat_prim (v := .bool (!(mayD d))) (by kernel_rfl) ?_
  cases hd : (mayD d)
  · refine sat_true (by kernel_rfl) ?_
    exact sat_ret (.tuple #[.agg #[.bool false, .slice none 0 0, .int .i64 0], .int .i64 1]) (by kernel_rfl) fun w9 h9 => DyTup.zero (by unfold roundR; rw [mayS_no3 (by simp) hd]; rfl)
  · refine sat_false (by kernel_rfl) ?_
    refine sat_prim (v := .bool (decide ((p : Int) < 1))) (by kernel_rfl) ?_
    cases hp1 : (decide ((p : Int) < 1))
    · refine sat_false (by kernel_rfl) ?_
      refine sat_prim (v := .bool (decide ((2000 : Int) < p))) (by kernel_rfl) ?_
      cases hp2 : (decide ((2000 : Int) < p))
      · refine sat_false (by kernel_rfl) ?_
        have hm : mayS p [d] = true := mayS_y hp1 hp2 (by simp [hd])
        obtain ⟨q, rfl, hq1, hq2⟩ := mayS_nat hm
        have hm_d := mayS_all hm d (by simp)
        refine sat_call #[.agg #[.bool d.neg, .slice A_d n_d c_d, .int .i64 d.e]] (by kernel_rfl) fun w5 h5 => ?_
        refine (ofB (h5.rdD r_d) (by have := (mayD_limbs hm_d).2.1; omega)).mono ?_
        rintro e v5 ⟨⟨A_od, n_od, c_od, rfl, r_od⟩, hb5⟩
        refine ⟨hb5, [.bool d.neg, .slice A_od n_od c_od, .int .i64 d.e], _, rfl, by kernel_rfl, by kernel_rfl, fun g5 => ?_⟩
        replace r_d := g5.rdD r_d
        clear h5 hb5
        have hb_d : blen (val BB d.m) ≤ 4096 := mayD_blen r_d.lim hm_d
        have he_d := (mayD_limbs hm_d).2.2
        refine sat_call #[.agg #[.bool d.neg, .slice A_od n_od c_od, .int .i64 d.e], .int .i64 ((q : Nat) : Int), .bool up] (by kernel_rfl) fun w6 h6 => ?_
        refine (rcut_any d.neg _ _ _ (val BB d.m) (d.e) q up _ (h6.r16 r_od) (by omega) (by omega) (by omega) (by omega)).mono ?_
        rintro e v6 ⟨⟨A_z, n_z, c_z, rfl, r_z⟩, hb6⟩
        refine ⟨hb6, [.bool d.neg, .slice A_z n_z c_z, .int .i64 (d.e + ((blen (val BB d.m) - q : Nat) : Int))], _, rfl, by kernel_rfl, by kernel_rfl, fun g6 => ?_⟩
        replace r_d := g6.rdD r_d; replace r_od := g6.r16 r_od
        clear h6 hb6
        have hbz : blen (val BB d.m) ≤ 400000 := (by omega)
        refine sat_call #[.agg #[.bool d.neg, .slice A_z n_z c_z, .int .i64 (d.e + ((blen (val BB d.m) - q : Nat) : Int))]] (by kernel_rfl) fun w7 h7 => ?_
        refine (rnorm_any d.neg _ (cutM d.neg (val BB d.m) q up) (d.e + ((blen (val BB d.m) - q : Nat) : Int)) _ (h7.r16 r_z) (Nat.le_trans (cutM_blen hbz) (by omega)) (by omega) (by omega)).mono ?_
        rintro e v7 ⟨⟨d_f, x_f, A_f, n_f, c_f, h_f, rfl, r_f⟩, hb7⟩
        refine ⟨hb7, [.bool d_f.neg, .slice A_f n_f c_f, .int .i64 d_f.e, .int .i64 x_f], _, rfl, by kernel_rfl, by kernel_rfl, fun g7 => ?_⟩
        replace r_d := g7.rdD r_d; replace r_od := g7.r16 r_od; replace r_z := g7.r16 r_z
        clear h7 hb7
        refine sat_chkB (by kernel_rfl) ?_
        exact sat_ret (.tuple #[.agg #[.bool d_f.neg, .slice A_f n_f c_f, .int .i64 d_f.e], .int .i64 x_f]) (by kernel_rfl) fun w9 h9 => ⟨d_f, x_f, A_f, n_f, c_f, hide (h_f.out.trans (by rw [normR_S (.inr (by omega)), cutM_S]; unfold roundR; rw [hm]; rfl)), rfl, h9.rdD r_f⟩
      · refine sat_true (by kernel_rfl) ?_
        exact sat_ret (.tuple #[.agg #[.bool false, .slice none 0 0, .int .i64 0], .int .i64 1]) (by kernel_rfl) fun w9 h9 => DyTup.zero (by unfold roundR; rw [mayS_no2 hp2]; rfl)
    · refine sat_true (by kernel_rfl) ?_
      exact sat_ret (.tuple #[.agg #[.bool false, .slice none 0 0, .int .i64 0], .int .i64 1]) (by kernel_rfl) fun w9 h9 => DyTup.zero (by unfold roundR; rw [mayS_no1 hp1]; rfl)

def quotR (a b : Dy) (p : Int) (up : Bool) : Dy × Int :=
  bif mayS p [a, b] then (bif decide ((0 : Int) < (b.m.length : Int)) then (if val BB a.m = 0 then (Dy.zero, 0) else
    cutS (!(a.neg == b.neg)) (partM (val BB a.m) (val BB b.m) p.toNat) (partE (val BB a.m) (val BB b.m) p.toNat a.e b.e) false p.toNat up) else (Dy.zero, 4)) else (Dy.zero, 1)
theorem eq0_dec {n : Nat} {b : Bool} (h : ((n : Int) == 0) = b) : decide ((0 : Int) < (n : Int)) = !b := by
  subst h
  rcases Nat.eq_zero_or_pos n with h0 | h0
  · rw [h0]; rfl
  · have e : ((n : Int) == 0) = false := by simp; omega
    rw [e]; simp; omega

theorem partM_blen {X Y p : Nat} (h : blen X ≤ 4096) (hs : p + 3 + blen Y - blen X ≤ 20000) : blen (partM X Y p) ≤ 24098 := by
  unfold partM
  have h1 := blen_q2 (Y := Y) h hs
  cases decide (X * 2 ^ (p + 3 + blen Y - blen X) % Y = 0) with
  | true => simp only [cond_true, Nat.add_zero]; omega
  | false => exact blen_p1 h1

def tr_rquot : Sx.Tree := .chk [.lf 0, .lf 1, .lf 2] (.chk [.lf 3, .lf 4, .lf 5] (.call 28 [.ag [.lf 0, .lf 1, .lf 2]] .one (.prim .not [.lf 8] (.ite (.lf 9) (.ret (.tup [(true, [.bit false, .nil, .num .i64 0]), (false, [.num .i64 1])])) (.call 28 [.ag [.lf 3, .lf 4, .lf 5]] .one (.prim .not [.lf 10] (.ite (.lf 11) (.ret (.tup [(true, [.bit false, .nil, .num .i64 0]), (false, [.num .i64 1])])) (.prim (.bin .lss) [.lf 6, .num .i64 1] (.ite (.lf 12) (.ret (.tup [(true, [.bit false, .nil, .num .i64 0]), (false, [.num .i64 1])])) (.prim (.bin .gtr) [.lf 6, .num .i64 2000] (.ite (.lf 13) (.ret (.tup [(true, [.bit false, .nil, .num .i64 0]), (false, [.num .i64 1])])) (.prim .len [.lf 4] (.prim (.bin .eql) [.lf 14, .num .i64 0] (.ite (.lf 15) (.ret (.tup [(true, [.bit false, .nil, .num .i64 0]), (false, [.num .i64 4])])) (.call 58 [.ag [.lf 0, .lf 1, .lf 2]] (.ag 3) (.call 58 [.ag [.lf 3, .lf 4, .lf 5]] (.ag 3) (.call 70 [.ag [.lf 16, .lf 17, .lf 18], .ag [.lf 19, .lf 20, .lf 21], .one (.lf 6), .one (.lf 7)] (.ag 3) (.call 69 [.ag [.lf 22, .lf 23, .lf 24]] (.tup [(true, 3), (false, 1)]) (.chk [.lf 25, .lf 26, .lf 27] (.ret (.tup [(true, [.lf 25, .lf 26, .lf 27]), (false, [.lf 28])])))))))))))))))))))))
theorem tr_rquot_eq : Sx.treeAt Tryd.prog 33 [] [] [(true, 3), (true, 3), (false, 1), (false, 1)] = some tr_rquot := by kernel_rfl

set_option maxRecDepth 100000 in
set_option maxHeartbeats 4000000 in
theorem rquot_any (v_a : Value) (v_b : Value) (a : Dy) (b : Dy) (p : Int) (up : Bool) (w : World) (h_a : RdD w v_a a) (h_b : RdD w v_b b) :
    Calls Tryd.prog 33 #[v_a, v_b, .int .i64 p, .bool up] w fun e w' => DyTup w' e (quotR a b p up) ∧ Below w.heap.size w w' := by
  have r_a := h_a
  obtain ⟨A_a, n_a, c_a, rfl, _⟩ := h_a
  have r_b := h_b
  obtain ⟨A_b, n_b, c_b, rfl, _⟩ := h_b
  obtain ⟨nb, hnb⟩ : ∃ nb, n_b = nb := ⟨_, rfl⟩
  refine (Sx.runA [] [] (ls := [.bool a.neg, .slice A_a n_a c_a, .int .i64 a.e, .bool b.neg, .slice A_b n_b c_b, .int .i64 b.e, .int .i64 p, .bool up]) (shs := [(true, 3), (true, 3), (false, 1), (false, 1)]) (R := fun v w' => DyTup w' (.returned v) (quotR a b p up)) tr_rquot_eq rfl (by decide) (fun q h => by cases h) ?_).mono (fun e w' ⟨v, he, hv, hb⟩ => ⟨by rw [he]; exact hv, hb⟩)
  unfold tr_rquot
  refine sat_chkB (by kernel_rfl) ?_
  refine sat_chkB (by kernel_rfl) ?_
  refine sat_call #[.agg #[.bool a.neg, .slice A_a n_a c_a, .int .i64 a.e]] (by kernel_rfl) fun w1 h1 => ?_
  refine (rmayD_any _ (a) _ (h1.rdD r_a)).mono ?_
  rintro e v1 ⟨rfl, hb1⟩
  refine ⟨hb1, [.bool (mayD a)], _, rfl, by kernel_rfl, by kernel_rfl, fun g1 => ?_⟩
  replace r_a := g1.rdD r_a; replace r_b := g1.rdD r_b
  clear h1 hb1
  refine sat_prim (v := .bool (!(mayD a))) (by kernel_rfl) ?_
  cases ha : (mayD a)
  · refine sat_true (by kernel_rfl) ?_
    exact sat_ret (.tuple #[.agg #[.bool false, .slice none 0 0, .int .i64 0], .int .i64 1]) (by kernel_rfl) fun w9 h9 => DyTup.zero (by unfold quotR; rw [mayS_no3 (by simp) ha]; rfl)
  · refine sat_false (by kernel_rfl) ?_
    refine sat_call #[.agg #[.bool b.neg, .slice A_b n_b c_b, .int .i64 b.e]] (by kernel_rfl) fun w3 h3 => ?_
    refine (rmayD_any _ (b) _ (h3.rdD r_b)).mono ?_
    rintro e v3 ⟨rfl, hb3⟩
    refine ⟨hb3, [.bool (mayD b)], _, rfl, by kernel_rfl, by kernel_rfl, fun g3 => ?_⟩
    replace r_a := g3.rdD r_a; replace r_b := g3.rdD r_b
    clear h3 hb3
    refine sat_prim (v := .bool (!(mayD b))) (by kernel_rfl) ?_
    cases hb : (mayD b)
    · refine sat_true (by kernel_rfl) ?_
      exact sat_ret (.tuple #[.agg #[.bool false, .slice none 0 0, .int .i64 0], .int .i64 1]) (by kernel_rfl) fun w9 h9 => DyTup.zero (by unfold quotR; rw [mayS_no3 (by simp) hb]; rfl)
    · refine sat_false (by kernel_rfl) ?_
      refine sat_prim (v := .bool (decide ((p : Int) < 1))) (by kernel_rfl) ?_
      cases hp1 : (decide ((p : Int) < 1))
      · refine sat_false (by kernel_rfl) ?_
        refine sat_prim (v := .bool (decide ((2000 : Int) < p))) (by kernel_rfl) ?_
        cases hp2 : (decide ((2000 : Int) < p))
        · refine sat_false (by kernel_rfl) ?_
          refine sat_prim (v := .int .i64 ((nb : Nat) : Int)) (Eq.trans (b := some (.int .i64 ((n_b : Nat) : Int))) (by kernel_rfl) (by rw [hnb])) ?_
          refine sat_prim (v := .bool ((((nb : Nat) : Int) : Int) == 0)) (by kernel_rfl) ?_
          cases hb0 : ((((nb : Nat) : Int) : Int) == 0)
          · refine sat_false (by kernel_rfl) ?_
            have hm : mayS p [a, b] = true := mayS_y hp1 hp2 (by simp [ha, hb])
            obtain ⟨q, rfl, hq1, hq2⟩ := mayS_nat hm
            have hm_a := mayS_all hm a (by simp)
            refine sat_call #[.agg #[.bool a.neg, .slice A_a n_a c_a, .int .i64 a.e]] (by kernel_rfl) fun w8 h8 => ?_
            refine (ofB (h8.rdD r_a) (by have := (mayD_limbs hm_a).2.1; omega)).mono ?_
            rintro e v8 ⟨⟨A_oa, n_oa, c_oa, rfl, r_oa⟩, hb8⟩
            refine ⟨hb8, [.bool a.neg, .slice A_oa n_oa c_oa, .int .i64 a.e], _, rfl, by kernel_rfl, by kernel_rfl, fun g8 => ?_⟩
            replace r_a := g8.rdD r_a; replace r_b := g8.rdD r_b
            clear h8 hb8
            have hb_a : blen (val BB a.m) ≤ 4096 := mayD_blen r_a.lim hm_a
            have he_a := (mayD_limbs hm_a).2.2
            have hm_b := mayS_all hm b (by simp)
            refine sat_call #[.agg #[.bool b.neg, .slice A_b n_b c_b, .int .i64 b.e]] (by kernel_rfl) fun w9 h9 => ?_
            refine (ofB (h9.rdD r_b) (by have := (mayD_limbs hm_b).2.1; omega)).mono ?_
            rintro e v9 ⟨⟨A_ob, n_ob, c_ob, rfl, r_ob⟩, hb9⟩
            refine ⟨hb9, [.bool b.neg, .slice A_ob n_ob c_ob, .int .i64 b.e], _, rfl, by kernel_rfl, by kernel_rfl, fun g9 => ?_⟩
            replace r_a := g9.rdD r_a; replace r_b := g9.rdD r_b; replace r_oa := g9.r16 r_oa
            clear h9 hb9
            have hb_b : blen (val BB b.m) ≤ 4096 := mayD_blen r_b.lim hm_b
            have he_b := (mayD_limbs hm_b).2.2
            have hY0 := val_pos r_b.lim hm_b (by rw [r_b.length.1, hnb]; exact eq0_dec hb0)
            refine sat_call #[.agg #[.bool a.neg, .slice A_oa n_oa c_oa, .int .i64 a.e], .agg #[.bool b.neg, .slice A_ob n_ob c_ob, .int .i64 b.e], .int .i64 ((q : Nat) : Int), .bool up] (by kernel_rfl) fun w10 h10 => ?_
            refine (rparted_any a.neg _ _ _ (val BB a.m) a.e b.neg _ _ _ (val BB b.m) b.e q up _ (h10.r16 r_oa) (h10.r16 r_ob) hb_a hb_b hY0 hq2 he_a.1 he_a.2 he_b.1 he_b.2).mono ?_
            rintro e v10 ⟨⟨hx0, rfl⟩ | ⟨hx0, ⟨A_z, n_z, c_z, rfl, r_z⟩⟩, hb10⟩
            · refine ⟨hb10, [.bool false, .slice none 0 0, .int .i64 0], _, rfl, by kernel_rfl, by kernel_rfl, fun g10 => ?_⟩
              replace r_a := g10.rdD r_a; replace r_b := g10.rdD r_b; replace r_oa := g10.r16 r_oa; replace r_ob := g10.r16 r_ob
              clear h10
              refine sat_call #[.agg #[.bool false, .slice none 0 0, .int .i64 0]] (by kernel_rfl) fun w11 h11 => ?_
              refine (rwide_any false none 0 0 0 0 _ (R16.nil _) (by decide) (by omega) (by omega)).mono ?_
              rintro e v11 ⟨⟨d_f, x_f, A_f, n_f, c_f, h_f, rfl, r_f⟩, hb11⟩
              refine ⟨hb11, [.bool d_f.neg, .slice A_f n_f c_f, .int .i64 d_f.e, .int .i64 x_f], _, rfl, by kernel_rfl, by kernel_rfl, fun g11 => ?_⟩
              replace r_a := g11.rdD r_a; replace r_b := g11.rdD r_b; replace r_oa := g11.r16 r_oa; replace r_ob := g11.r16 r_ob
              clear h11 hb11
              refine sat_chkB (by kernel_rfl) ?_
              exact sat_ret (.tuple #[.agg #[.bool d_f.neg, .slice A_f n_f c_f, .int .i64 d_f.e], .int .i64 x_f]) (by kernel_rfl) fun w9 h9 => ⟨d_f, x_f, A_f, n_f, c_f, hide (h_f.out.trans (by unfold quotR; rw [hm, r_b.length.1, hnb, eq0_dec hb0]; simp only [Bool.not_false, cond_true]; rw [if_pos hx0, fitS_zero])), rfl, h9.rdD r_f⟩
            · refine ⟨hb10, [.bool (!(a.neg == b.neg)), .slice A_z n_z c_z, .int .i64 (partE (val BB a.m) (val BB b.m) q a.e b.e + ((blen (partM (val BB a.m) (val BB b.m) q) - q : Nat) : Int))], _, rfl, by kernel_rfl, by kernel_rfl, fun g10 => ?_⟩
              replace r_a := g10.rdD r_a; replace r_b := g10.rdD r_b; replace r_oa := g10.r16 r_oa; replace r_ob := g10.r16 r_ob
              clear h10
              have hpe : -4000000 ≤ partE (val BB a.m) (val BB b.m) q a.e b.e ∧ partE (val BB a.m) (val BB b.m) q a.e b.e ≤ 4000000 := by unfold partE; omega
              have hbz : blen (partM (val BB a.m) (val BB b.m) q) ≤ 400000 := Nat.le_trans (partM_blen hb_a (by omega)) (by omega)
              refine sat_call #[.agg #[.bool (!(a.neg == b.neg)), .slice A_z n_z c_z, .int .i64 (partE (val BB a.m) (val BB b.m) q a.e b.e + ((blen (partM (val BB a.m) (val BB b.m) q) - q : Nat) : Int))]] (by kernel_rfl) fun w11 h11 => ?_
              refine (rwide_any (!(a.neg == b.neg)) _ _ _ (cutM (!(a.neg == b.neg)) (partM (val BB a.m) (val BB b.m) q) q up) (partE (val BB a.m) (val BB b.m) q a.e b.e + ((blen (partM (val BB a.m) (val BB b.m) q) - q : Nat) : Int)) _ (h11.r16 r_z) (Nat.le_trans (cutM_blen hbz) (by omega)) (by omega) (by omega)).mono ?_
              rintro e v11 ⟨⟨d_f, x_f, A_f, n_f, c_f, h_f, rfl, r_f⟩, hb11⟩
              refine ⟨hb11, [.bool d_f.neg, .slice A_f n_f c_f, .int .i64 d_f.e, .int .i64 x_f], _, rfl, by kernel_rfl, by kernel_rfl, fun g11 => ?_⟩
              replace r_a := g11.rdD r_a; replace r_b := g11.rdD r_b; replace r_oa := g11.r16 r_oa; replace r_ob := g11.r16 r_ob; replace r_z := g11.r16 r_z
              clear h11 hb11
              refine sat_chkB (by kernel_rfl) ?_
              exact sat_ret (.tuple #[.agg #[.bool d_f.neg, .slice A_f n_f c_f, .int .i64 d_f.e], .int .i64 x_f]) (by kernel_rfl) fun w9 h9 => ⟨d_f, x_f, A_f, n_f, c_f, hide (h_f.out.trans (by unfold quotR; rw [hm, r_b.length.1, hnb, eq0_dec hb0]; simp only [Bool.not_false, cond_true]; rw [if_neg hx0, cutM_S]; rfl)), rfl, h9.rdD r_f⟩
          · refine sat_true (by kernel_rfl) ?_
            exact sat_ret (.tuple #[.agg #[.bool false, .slice none 0 0, .int .i64 0], .int .i64 4]) (by kernel_rfl) fun w9 h9 => DyTup.zero (by unfold quotR; rw [mayS_y hp1 hp2 (by simp [ha, hb]), r_b.length.1, hnb, eq0_dec hb0]; rfl)
        · refine sat_true (by kernel_rfl) ?_
          exact sat_ret (.tuple #[.agg #[.bool false, .slice none 0 0, .int .i64 0], .int .i64 1]) (by kernel_rfl) fun w9 h9 => DyTup.zero (by unfold quotR; rw [mayS_no2 hp2]; rfl)
      · refine sat_true (by kernel_rfl) ?_
        exact sat_ret (.tuple #[.agg #[.bool false, .slice none 0 0, .int .i64 0], .int .i64 1]) (by kernel_rfl) fun w9 h9 => DyTup.zero (by unfold quotR; rw [mayS_no1 hp1]; rfl)

theorem i64_and1 (n : Int) : bits .and .i64 n 1 = n % 2 := by
  have h1 : (BitVec.ofInt 64 1).toNat = 2 ^ 1 - 1 := by decide
  have key : (BitVec.ofInt 64 n &&& BitVec.ofInt 64 1).toNat = (n % ((2 ^ 64 : Nat) : Int)).toNat % 2 ^ 1 := by
    rw [BitVec.toNat_and, BitVec.toNat_ofInt, h1, Nat.and_two_pow_sub_one_eq_mod]
  show IntKind.i64.wrap ((BitVec.ofInt 64 n &&& BitVec.ofInt 64 1).toNat : Nat) = n % 2
  rw [key, IntKind.wrap_i64]
  omega
def sqK (X p : Nat) (e : Int) : Nat := (2 * p + 6 - blen X) + (bif decide ((e - ((2 * p + 6 - blen X : Nat) : Int)) % 2 ≠ 0) then 1 else 0)
def sqM (X p : Nat) (e : Int) : Nat := nroot (X * 2 ^ sqK X p e) * 2 ^ 1 + (bif decide (nroot (X * 2 ^ sqK X p e) * nroot (X * 2 ^ sqK X p e) = X * 2 ^ sqK X p e) then 0 else 1)
def sqE (X p : Nat) (e : Int) : Int := (e - ((sqK X p e : Nat) : Int)).tdiv 2 - 1
def sqrtR (d : Dy) (p : Int) (up : Bool) : Dy × Int :=
  bif mayS p [d] then (bif d.neg then (Dy.zero, 4) else (if d.m.length = 0 then (d, 0) else
    cutS false (sqM (val BB d.m) p.toNat d.e) (sqE (val BB d.m) p.toNat d.e) false p.toNat up)) else (Dy.zero, 1)
theorem cmpN_eq (X Y : Nat) : (cmpN X Y == 0) = decide (X = Y) := by
  unfold cmpN
  repeat' split
  all_goals simp_all <;> omega
theorem blen_r2 {X k : Nat} (h : blen X ≤ 4096) (hk : k ≤ 20000) : blen (nroot (X * 2 ^ k) * 2 ^ 1) ≤ 24097 := by
  have h1 := blen_root h hk
  rcases Nat.eq_zero_or_pos (nroot (X * 2 ^ k)) with h0 | h0
  · rw [h0, Nat.zero_mul, blen_zero]; omega
  · rw [blen_mul_pow (by omega)]; omega

def tr_rsqrt : Sx.Tree := .chk [.lf 0, .lf 1, .lf 2] (.call 28 [.ag [.lf 0, .lf 1, .lf 2]] .one (.prim .not [.lf 5] (.ite (.lf 6) (.ret (.tup [(true, [.bit false, .nil, .num .i64 0]), (false, [.num .i64 1])])) (.prim (.bin .lss) [.lf 3, .num .i64 1] (.ite (.lf 7) (.ret (.tup [(true, [.bit false, .nil, .num .i64 0]), (false, [.num .i64 1])])) (.prim (.bin .gtr) [.lf 3, .num .i64 2000] (.ite (.lf 8) (.ret (.tup [(true, [.bit false, .nil, .num .i64 0]), (false, [.num .i64 1])])) (.ite (.lf 0) (.ret (.tup [(true, [.bit false, .nil, .num .i64 0]), (false, [.num .i64 4])])) (.prim .len [.lf 1] (.prim (.bin .eql) [.lf 9, .num .i64 0] (.ite (.lf 10) (.chk [.lf 0, .lf 1, .lf 2] (.ret (.tup [(true, [.lf 0, .lf 1, .lf 2]), (false, [.num .i64 0])]))) (.call 58 [.ag [.lf 0, .lf 1, .lf 2]] (.ag 3) (.chk [.lf 11, .lf 12, .lf 13] (.prim (.bin .mul) [.num .i64 2, .lf 3] (.prim (.bin .add) [.lf 14, .num .i64 6] (.call 29 [.one (.lf 12)] .one (.prim (.bin .sub) [.lf 15, .lf 16] (.prim .max [.num .i64 0, .lf 17] (.prim (.bin .sub) [.lf 13, .lf 18] (.prim (.bin .and) [.lf 19, .num .i64 1] (.prim (.bin .neq) [.lf 20, .num .i64 0] (.ite (.lf 21) (.prim (.bin .add) [.lf 18, .num .i64 1] (.call 75 [.one (.lf 12), .one (.lf 22)] .one (.call 76 [.one (.lf 23)] .one (.call 78 [.one (.lf 24), .one (.lf 24)] .one (.call 77 [.one (.lf 25), .one (.lf 23)] .one (.prim (.bin .eql) [.lf 26, .num .i64 0] (.call 75 [.one (.lf 24), .one (.num .i64 1)] .one (.prim .not [.lf 27] (.ite (.lf 29) (.row 75 [.num .u32 1] 1 [] (.call 79 [.one (.lf 28), .one (.lf 30)] .one (.prim (.bin .sub) [.lf 13, .lf 22] (.prim (.bin .quo) [.lf 32, .num .i64 2] (.prim (.bin .sub) [.lf 33, .num .i64 1] (.chk [.lf 31, .lf 34] (.call 57 [.ag [.bit false, .lf 31, .lf 34], .one (.lf 3), .one (.lf 4)] (.ag 3) (.call 69 [.ag [.lf 35, .lf 36, .lf 37]] (.tup [(true, 3), (false, 1)]) (.chk [.lf 38, .lf 39, .lf 40] (.ret (.tup [(true, [.lf 38, .lf 39, .lf 40]), (false, [.lf 41])]))))))))))) (.prim (.bin .sub) [.lf 13, .lf 22] (.prim (.bin .quo) [.lf 30, .num .i64 2] (.prim (.bin .sub) [.lf 31, .num .i64 1] (.chk [.lf 28, .lf 32] (.call 57 [.ag [.bit false, .lf 28, .lf 32], .one (.lf 3), .one (.lf 4)] (.ag 3) (.call 69 [.ag [.lf 33, .lf 34, .lf 35]] (.tup [(true, 3), (false, 1)]) (.chk [.lf 36, .lf 37, .lf 38] (.ret (.tup [(true, [.lf 36, .lf 37, .lf 38]), (false, [.lf 39])])))))))))))))))))) (.call 75 [.one (.lf 12), .one (.lf 18)] .one (.call 76 [.one (.lf 22)] .one (.call 78 [.one (.lf 23), .one (.lf 23)] .one (.call 77 [.one (.lf 24), .one (.lf 22)] .one (.prim (.bin .eql) [.lf 25, .num .i64 0] (.call 75 [.one (.lf 23), .one (.num .i64 1)] .one (.prim .not [.lf 26] (.ite (.lf 28) (.row 75 [.num .u32 1] 1 [] (.call 79 [.one (.lf 27), .one (.lf 29)] .one (.prim (.bin .sub) [.lf 13, .lf 18] (.prim (.bin .quo) [.lf 31, .num .i64 2] (.prim (.bin .sub) [.lf 32, .num .i64 1] (.chk [.lf 30, .lf 33] (.call 57 [.ag [.bit false, .lf 30, .lf 33], .one (.lf 3), .one (.lf 4)] (.ag 3) (.call 69 [.ag [.lf 34, .lf 35, .lf 36]] (.tup [(true, 3), (false, 1)]) (.chk [.lf 37, .lf 38, .lf 39] (.ret (.tup [(true, [.lf 37, .lf 38, .lf 39]), (false, [.lf 40])]))))))))))) (.prim (.bin .sub) [.lf 13, .lf 18] (.prim (.bin .quo) [.lf 29, .num .i64 2] (.prim (.bin .sub) [.lf 30, .num .i64 1] (.chk [.lf 27, .lf 31] (.call 57 [.ag [.bit false, .lf 27, .lf 31], .one (.lf 3), .one (.lf 4)] (.ag 3) (.call 69 [.ag [.lf 32, .lf 33, .lf 34]] (.tup [(true, 3), (false, 1)]) (.chk [.lf 35, .lf 36, .lf 37] (.ret (.tup [(true, [.lf 35, .lf 36, .lf 37]), (false, [.lf 38])])))))))))))))))))))))))))))))))))))))))
theorem tr_rsqrt_eq : Sx.treeAt Tryd.prog 35 [] [] [(true, 3), (false, 1), (false, 1)] = some tr_rsqrt := by kernel_rfl

set_option maxRecDepth 100000 in
set_option maxHeartbeats 4000000 in
theorem rsqrt_any (v_d : Value) (d : Dy) (p : Int) (up : Bool) (w : World) (h_d : RdD w v_d d) :
    Calls Tryd.prog 35 #[v_d, .int .i64 p, .bool up] w fun e w' => DyTup w' e (sqrtR d p up) ∧ Below w.heap.size w w' := by
  have r_d := h_d
  obtain ⟨A_d, n_d, c_d, rfl, _⟩ := h_d
  obtain ⟨nd, hnd⟩ : ∃ nd, n_d = nd := ⟨_, rfl⟩
  refine (Sx.runA [] [] (ls := [.bool d.neg, .slice A_d n_d c_d, .int .i64 d.e, .int .i64 p, .bool up]) (shs := [(true, 3), (false, 1), (false, 1)]) (R := fun v w' => DyTup w' (.returned v) (sqrtR d p up)) tr_rsqrt_eq rfl (by decide) (fun q h => by cases h) ?_).mono (fun e w' ⟨v, he, hv, hb⟩ => ⟨by rw [he]; exact hv, hb⟩)
  unfold tr_rsqrt
  refine sat_chkB (by kernel_rfl) ?_
  refine sat_call #[.agg #[.bool d.neg, .slice A_d n_d c_d, .int .i64 d.e]] (by kernel_rfl) fun w1 h1 => ?_
  refine (rmayD_any _ (d) _ (h1.rdD r_d)).mono ?_
  rintro e v1 ⟨rfl, hb1⟩
  refine ⟨hb1, [.bool (mayD d)], _, rfl, by kernel_rfl, by kernel_rfl, fun g1 => ?_⟩
  replace r_d := g1.rdD r_d
  clear h1 hb1
  refine sat_prim (v := .bool (!(mayD d))) (by kernel_rfl) ?_
  cases hd : (mayD d)
  · refine sat_true (by kernel_rfl) ?_
    exact sat_ret (.tuple #[.agg #[.bool false, .slice none 0 0, .int .i64 0], .int .i64 1]) (by kernel_rfl) fun w9 h9 => DyTup.zero (by unfold sqrtR; rw [mayS_no3 (by simp) hd]; rfl)
  · refine sat_false (by kernel_rfl) ?_
    refine sat_prim (v := .bool (decide ((p : Int) < 1))) (by kernel_rfl) ?_
    cases hp1 : (decide ((p : Int) < 1))
    · refine sat_false (by kernel_rfl) ?_
      refine sat_prim (v := .bool (decide ((2000 : Int) < p))) (by kernel_rfl) ?_
      cases hp2 : (decide ((2000 : Int) < p))
      · refine sat_false (by kernel_rfl) ?_
        rcases Bool.eq_false_or_eq_true d.neg with hneg | hneg
        · refine sat_trueP (b := d.neg) (by kernel_rfl) hneg ?_
          exact sat_ret (.tuple #[.agg #[.bool false, .slice none 0 0, .int .i64 0], .int .i64 4]) (by kernel_rfl) fun w9 h9 => DyTup.zero (by unfold sqrtR; rw [mayS_y hp1 hp2 (by simp [hd]), hneg]; rfl)
        · refine sat_falseP (b := d.neg) (by kernel_rfl) hneg ?_
          refine sat_prim (v := .int .i64 ((nd : Nat) : Int)) (Eq.trans (b := some (.int .i64 ((n_d : Nat) : Int))) (by kernel_rfl) (by rw [hnd])) ?_
          refine sat_prim (v := .bool ((((nd : Nat) : Int) : Int) == 0)) (by kernel_rfl) ?_
          cases hd0 : ((((nd : Nat) : Int) : Int) == 0)
          · refine sat_false (by kernel_rfl) ?_
            have hm : mayS p [d] = true := mayS_y hp1 hp2 (by simp [hd])
            obtain ⟨q, rfl, hq1, hq2⟩ := mayS_nat hm
            have hm_d := mayS_all hm d (by simp)
            refine sat_call #[.agg #[.bool d.neg, .slice A_d n_d c_d, .int .i64 d.e]] (by kernel_rfl) fun w6 h6 => ?_
            refine (ofB (h6.rdD r_d) (by have := (mayD_limbs hm_d).2.1; omega)).mono ?_
            rintro e v6 ⟨⟨A_od, n_od, c_od, rfl, r_od⟩, hb6⟩
            refine ⟨hb6, [.bool d.neg, .slice A_od n_od c_od, .int .i64 d.e], _, rfl, by kernel_rfl, by kernel_rfl, fun g6 => ?_⟩
            replace r_d := g6.rdD r_d
            clear h6 hb6
            have hb_d : blen (val BB d.m) ≤ 4096 := mayD_blen r_d.lim hm_d
            have he_d := (mayD_limbs hm_d).2.2
            obtain ⟨k0, hk0⟩ : ∃ k0, k0 = 2 * q + 6 - blen (val BB d.m) := ⟨_, rfl⟩
            obtain ⟨k1, hk1⟩ : ∃ k1, k1 = k0 + 1 := ⟨_, rfl⟩
            refine sat_chkB (by kernel_rfl) ?_
            refine sat_prim (v := .int .i64 (2 * ((q : Nat) : Int))) (Eq.trans (b := some (.int .i64 (IntKind.i64.wrap ((2 * ((q : Nat) : Int)))))) (by kernel_rfl) (by rw [IntWalk.i64_in _ (by omega)])) ?_
            refine sat_prim (v := .int .i64 ((2 * ((q : Nat) : Int)) + 6)) (Eq.trans (b := some (.int .i64 (IntKind.i64.wrap (((2 * ((q : Nat) : Int)) + 6))))) (by kernel_rfl) (by rw [IntWalk.i64_in _ (by omega)])) ?_
            refine sat_call #[.slice A_od n_od c_od] (by kernel_rfl) fun w7 h7 => ?_
            refine (rbitsB (h7.r16 r_od) (by omega)).mono ?_
            rintro e v7 ⟨rfl, hb7⟩
            refine ⟨hb7, [.int .i64 ((blen (val BB d.m) : Nat) : Int)], _, rfl, by kernel_rfl, by kernel_rfl, fun g7 => ?_⟩
            replace r_d := g7.rdD r_d; replace r_od := g7.r16 r_od
            clear h7 hb7
            refine sat_prim (v := .int .i64 (((2 * ((q : Nat) : Int)) + 6) - ((blen (val BB d.m) : Nat) : Int))) (Eq.trans (b := some (.int .i64 (IntKind.i64.wrap ((((2 * ((q : Nat) : Int)) + 6) - ((blen (val BB d.m) : Nat) : Int)))))) (by kernel_rfl) (by rw [IntWalk.i64_in _ (by omega)])) ?_
            refine sat_prim (v := .int .i64 ((k0 : Nat) : Int)) (Eq.trans (b := some (.int .i64 (if (0 : Int) < (((2 * ((q : Nat) : Int)) + 6) - ((blen (val BB d.m) : Nat) : Int)) then (((2 * ((q : Nat) : Int)) + 6) - ((blen (val BB d.m) : Nat) : Int)) else 0))) (by kernel_rfl) (by rw [hk0]; split <;> congr 2 <;> omega)) ?_
            refine sat_prim (v := .int .i64 (d.e - ((k0 : Nat) : Int))) (Eq.trans (b := some (.int .i64 (IntKind.i64.wrap ((d.e - ((k0 : Nat) : Int)))))) (by kernel_rfl) (by rw [IntWalk.i64_in _ (by omega)])) ?_
            refine sat_prim (v := .int .i64 ((d.e - ((k0 : Nat) : Int)) % 2)) (Eq.trans (b := some (.int .i64 (bits .and .i64 (d.e - ((k0 : Nat) : Int)) 1))) (by kernel_rfl) (by rw [i64_and1])) ?_
            refine sat_prim (v := .bool ((((d.e - ((k0 : Nat) : Int)) % 2) : Int) != 0)) (by kernel_rfl) ?_
            cases hodd : ((((d.e - ((k0 : Nat) : Int)) % 2) : Int) != 0)
            · have hK : sqK (val BB d.m) q d.e = k0 := by unfold sqK; rw [← hk0, show decide ((d.e - ((k0 : Nat) : Int)) % 2 ≠ 0) = false by simpa using hodd]; rfl
              refine sat_false (by kernel_rfl) ?_
              refine sat_call #[.slice A_od n_od c_od, .int .i64 ((k0 : Nat) : Int)] (by kernel_rfl) fun w8 h8 => ?_
              refine (rshlB (h8.r16 r_od) (by omega) (k0) (by omega)).mono ?_
              rintro e v8 ⟨⟨A_s1, n_s1, c_s1, rfl, r_s1⟩, hb8⟩
              refine ⟨hb8, [.slice A_s1 n_s1 c_s1], _, rfl, by kernel_rfl, by kernel_rfl, fun g8 => ?_⟩
              replace r_d := g8.rdD r_d; replace r_od := g8.r16 r_od
              clear h8 hb8
              refine sat_call #[.slice A_s1 n_s1 c_s1] (by kernel_rfl) fun w9 h9 => ?_
              refine (rrootB (h9.r16 r_s1) (Nat.le_trans (blen_shift hb_d (by omega)) (by omega))).mono ?_
              rintro e v9 ⟨⟨A_q2, n_q2, c_q2, rfl, r_q2⟩, hb9⟩
              refine ⟨hb9, [.slice A_q2 n_q2 c_q2], _, rfl, by kernel_rfl, by kernel_rfl, fun g9 => ?_⟩
              replace r_d := g9.rdD r_d; replace r_od := g9.r16 r_od; replace r_s1 := g9.r16 r_s1
              clear h9 hb9
              refine sat_call #[.slice A_q2 n_q2 c_q2, .slice A_q2 n_q2 c_q2] (by kernel_rfl) fun w10 h10 => ?_
              refine (rmulB (h10.r16 r_q2) (h10.r16 r_q2) (Nat.le_trans (blen_root hb_d (by omega)) (by omega)) (Nat.le_trans (blen_root hb_d (by omega)) (by omega))).mono ?_
              rintro e v10 ⟨⟨A_m3, n_m3, c_m3, rfl, r_m3⟩, hb10⟩
              refine ⟨hb10, [.slice A_m3 n_m3 c_m3], _, rfl, by kernel_rfl, by kernel_rfl, fun g10 => ?_⟩
              replace r_d := g10.rdD r_d; replace r_od := g10.r16 r_od; replace r_s1 := g10.r16 r_s1; replace r_q2 := g10.r16 r_q2
              clear h10 hb10
              refine sat_call #[.slice A_m3 n_m3 c_m3, .slice A_s1 n_s1 c_s1] (by kernel_rfl) fun w11 h11 => ?_
              refine (rcmpR _ _ ((nroot ((val BB d.m) * 2 ^ (k0))) * (nroot ((val BB d.m) * 2 ^ (k0)))) ((val BB d.m) * 2 ^ (k0)) _ (h11.r16 r_m3) (h11.r16 r_s1)).mono ?_
              rintro e v11 ⟨rfl, hb11⟩
              refine ⟨hb11, [.int .i64 (cmpN ((nroot ((val BB d.m) * 2 ^ (k0))) * (nroot ((val BB d.m) * 2 ^ (k0)))) ((val BB d.m) * 2 ^ (k0)))], _, rfl, by kernel_rfl, by kernel_rfl, fun g11 => ?_⟩
              replace r_d := g11.rdD r_d; replace r_od := g11.r16 r_od; replace r_s1 := g11.r16 r_s1; replace r_q2 := g11.r16 r_q2; replace r_m3 := g11.r16 r_m3
              clear h11 hb11
              refine sat_prim (v := .bool (decide (nroot (val BB d.m * 2 ^ k0) * nroot (val BB d.m * 2 ^ k0) = val BB d.m * 2 ^ k0))) (Eq.trans (b := some (.bool (cmpN (nroot (val BB d.m * 2 ^ k0) * nroot (val BB d.m * 2 ^ k0)) (val BB d.m * 2 ^ k0) == 0))) (by kernel_rfl) (by rw [cmpN_eq])) ?_
              refine sat_call #[.slice A_q2 n_q2 c_q2, .int .i64 1] (by kernel_rfl) fun w12 h12 => ?_
              refine (rshlB (h12.r16 r_q2) (Nat.le_trans (blen_root hb_d (by omega)) (by omega)) 1 (by omega)).mono ?_
              rintro e v12 ⟨⟨A_s4, n_s4, c_s4, rfl, r_s4⟩, hb12⟩
              refine ⟨hb12, [.slice A_s4 n_s4 c_s4], _, rfl, by kernel_rfl, by kernel_rfl, fun g12 => ?_⟩
              replace r_d := g12.rdD r_d; replace r_od := g12.r16 r_od; replace r_s1 := g12.r16 r_s1; replace r_q2 := g12.r16 r_q2; replace r_m3 := g12.r16 r_m3
              clear h12 hb12
              refine sat_prim (v := .bool (!(decide (nroot (val BB d.m * 2 ^ k0) * nroot (val BB d.m * 2 ^ k0) = val BB d.m * 2 ^ k0)))) (by kernel_rfl) ?_
              cases hr0 : (decide (nroot (val BB d.m * 2 ^ k0) * nroot (val BB d.m * 2 ^ k0) = val BB d.m * 2 ^ k0))
              · refine sat_true (by kernel_rfl) ?_
                refine sat_row [.int .u32 1] (by kernel_rfl) (by intro x hx; cases hx) fun u1 h1 B1 => ?_
                replace r_d := h1.rdD r_d; replace r_od := h1.r16 r_od; replace r_s1 := h1.r16 r_s1; replace r_q2 := h1.r16 r_q2; replace r_m3 := h1.r16 r_m3; replace r_s4 := h1.r16 r_s4
                have r_1 := rd1u 1 B1 (by omega) (by decide)
                generalize u1.heap.size = NR at *
                generalize (u1.alloc _) = wR at *
                clear B1 h1
                refine sat_call #[.slice A_s4 n_s4 c_s4, .slice (some ⟨NR, 0, none⟩) 1 1] (by kernel_rfl) fun w14 h14 => ?_
                refine (raddB (h14.r16 r_s4) (h14.r16 r_1) (Nat.le_trans (blen_r2 hb_d (by omega)) (by omega)) (by decide)).mono ?_
                rintro e v14 ⟨⟨A_a5, n_a5, c_a5, rfl, r_a5⟩, hb14⟩
                refine ⟨hb14, [.slice A_a5 n_a5 c_a5], _, rfl, by kernel_rfl, by kernel_rfl, fun g14 => ?_⟩
                replace r_d := g14.rdD r_d; replace r_od := g14.r16 r_od; replace r_s1 := g14.r16 r_s1; replace r_q2 := g14.r16 r_q2; replace r_m3 := g14.r16 r_m3; replace r_s4 := g14.r16 r_s4; replace r_1 := g14.r16 r_1
                clear h14 hb14
                refine sat_prim (v := .int .i64 (d.e - ((k0 : Nat) : Int))) (Eq.trans (b := some (.int .i64 (IntKind.i64.wrap ((d.e - ((k0 : Nat) : Int)))))) (by kernel_rfl) (by rw [IntWalk.i64_in _ (by omega)])) ?_
                refine sat_prim (v := .int .i64 (Int.tdiv (d.e - ((k0 : Nat) : Int)) 2)) (Eq.trans (b := some (.int .i64 (IntKind.i64.wrap (Int.tdiv (d.e - ((k0 : Nat) : Int)) 2)))) (by kernel_rfl) (by rw [IntWalk.i64_in _ (by have := tdiv2 (x := d.e - ((k0 : Nat) : Int)) (a := 2000000) (by omega) (by omega); omega)])) ?_
                have hte := tdiv2 (x := d.e - ((k0 : Nat) : Int)) (a := 2000000) (by omega) (by omega)
                refine sat_prim (v := .int .i64 ((Int.tdiv (d.e - ((k0 : Nat) : Int)) 2) - 1)) (Eq.trans (b := some (.int .i64 (IntKind.i64.wrap (((Int.tdiv (d.e - ((k0 : Nat) : Int)) 2) - 1))))) (by kernel_rfl) (by rw [IntWalk.i64_in _ (by omega)])) ?_
                refine sat_chkB (by kernel_rfl) ?_
                have hte := tdiv2 (x := d.e - ((k0 : Nat) : Int)) (a := 2000000) (by omega) (by omega)
                refine sat_call #[.agg #[.bool false, .slice A_a5 n_a5 c_a5, .int .i64 ((Int.tdiv (d.e - ((k0 : Nat) : Int)) 2) - 1)], .int .i64 ((q : Nat) : Int), .bool up] (by kernel_rfl) fun w15 h15 => ?_
                refine (rcut_any false _ _ _ ((nroot ((val BB d.m) * 2 ^ (k0))) * 2 ^ 1 + 1) (((Int.tdiv (d.e - ((k0 : Nat) : Int)) 2) - 1)) q up _ (h15.r16 r_a5) (Nat.le_trans (blen_p1 (blen_r2 hb_d (by omega))) (by omega)) (by omega) (by omega) (by omega)).mono ?_
                rintro e v15 ⟨⟨A_z, n_z, c_z, rfl, r_z⟩, hb15⟩
                refine ⟨hb15, [.bool false, .slice A_z n_z c_z, .int .i64 (((Int.tdiv (d.e - ((k0 : Nat) : Int)) 2) - 1) + ((blen ((nroot ((val BB d.m) * 2 ^ (k0))) * 2 ^ 1 + 1) - q : Nat) : Int))], _, rfl, by kernel_rfl, by kernel_rfl, fun g15 => ?_⟩
                replace r_d := g15.rdD r_d; replace r_od := g15.r16 r_od; replace r_s1 := g15.r16 r_s1; replace r_q2 := g15.r16 r_q2; replace r_m3 := g15.r16 r_m3; replace r_s4 := g15.r16 r_s4; replace r_1 := g15.r16 r_1; replace r_a5 := g15.r16 r_a5
                clear h15 hb15
                have hbz : blen ((nroot ((val BB d.m) * 2 ^ (k0))) * 2 ^ 1 + 1) ≤ 400000 := (Nat.le_trans (blen_p1 (blen_r2 hb_d (by omega))) (by omega))
                refine sat_call #[.agg #[.bool false, .slice A_z n_z c_z, .int .i64 (((Int.tdiv (d.e - ((k0 : Nat) : Int)) 2) - 1) + ((blen ((nroot ((val BB d.m) * 2 ^ (k0))) * 2 ^ 1 + 1) - q : Nat) : Int))]] (by kernel_rfl) fun w16 h16 => ?_
                refine (rwide_any false _ _ _ (cutM false ((nroot ((val BB d.m) * 2 ^ (k0))) * 2 ^ 1 + 1) q up) (((Int.tdiv (d.e - ((k0 : Nat) : Int)) 2) - 1) + ((blen ((nroot ((val BB d.m) * 2 ^ (k0))) * 2 ^ 1 + 1) - q : Nat) : Int)) _ (h16.r16 r_z) (Nat.le_trans (cutM_blen hbz) (by omega)) (by omega) (by omega)).mono ?_
                rintro e v16 ⟨⟨d_f, x_f, A_f, n_f, c_f, h_f, rfl, r_f⟩, hb16⟩
                refine ⟨hb16, [.bool d_f.neg, .slice A_f n_f c_f, .int .i64 d_f.e, .int .i64 x_f], _, rfl, by kernel_rfl, by kernel_rfl, fun g16 => ?_⟩
                replace r_d := g16.rdD r_d; replace r_od := g16.r16 r_od; replace r_s1 := g16.r16 r_s1; replace r_q2 := g16.r16 r_q2; replace r_m3 := g16.r16 r_m3; replace r_s4 := g16.r16 r_s4; replace r_1 := g16.r16 r_1; replace r_a5 := g16.r16 r_a5; replace r_z := g16.r16 r_z
                clear h16 hb16
                refine sat_chkB (by kernel_rfl) ?_
                have hM : sqM (val BB d.m) q d.e = (nroot ((val BB d.m) * 2 ^ (k0))) * 2 ^ 1 + 1 := by unfold sqM; rw [hK, hr0]; rfl
                have hE : sqE (val BB d.m) q d.e = (d.e - ((k0 : Nat) : Int)).tdiv 2 - 1 := by unfold sqE; rw [hK]
                exact sat_ret (.tuple #[.agg #[.bool d_f.neg, .slice A_f n_f c_f, .int .i64 d_f.e], .int .i64 x_f]) (by kernel_rfl) fun w9 h9 => ⟨d_f, x_f, A_f, n_f, c_f, hide (h_f.out.trans (by rw [cutM_S]; unfold sqrtR; rw [hm, hneg, if_neg (by rw [r_d.length.1, hnd]; simpa using hd0), Int.toNat_natCast, hM, hE]; rfl)), rfl, h9.rdD r_f⟩
              · refine sat_false (by kernel_rfl) ?_
                refine sat_prim (v := .int .i64 (d.e - ((k0 : Nat) : Int))) (Eq.trans (b := some (.int .i64 (IntKind.i64.wrap ((d.e - ((k0 : Nat) : Int)))))) (by kernel_rfl) (by rw [IntWalk.i64_in _ (by omega)])) ?_
                refine sat_prim (v := .int .i64 (Int.tdiv (d.e - ((k0 : Nat) : Int)) 2)) (Eq.trans (b := some (.int .i64 (IntKind.i64.wrap (Int.tdiv (d.e - ((k0 : Nat) : Int)) 2)))) (by kernel_rfl) (by rw [IntWalk.i64_in _ (by have := tdiv2 (x := d.e - ((k0 : Nat) : Int)) (a := 2000000) (by omega) (by omega); omega)])) ?_
                have hte := tdiv2 (x := d.e - ((k0 : Nat) : Int)) (a := 2000000) (by omega) (by omega)
                refine sat_prim (v := .int .i64 ((Int.tdiv (d.e - ((k0 : Nat) : Int)) 2) - 1)) (Eq.trans (b := some (.int .i64 (IntKind.i64.wrap (((Int.tdiv (d.e - ((k0 : Nat) : Int)) 2) - 1))))) (by kernel_rfl) (by rw [IntWalk.i64_in _ (by omega)])) ?_
                refine sat_chkB (by kernel_rfl) ?_
                have hte := tdiv2 (x := d.e - ((k0 : Nat) : Int)) (a := 2000000) (by omega) (by omega)
                refine sat_call #[.agg #[.bool false, .slice A_s4 n_s4 c_s4, .int .i64 ((Int.tdiv (d.e - ((k0 : Nat) : Int)) 2) - 1)], .int .i64 ((q : Nat) : Int), .bool up] (by kernel_rfl) fun w14 h14 => ?_
                refine (rcut_any false _ _ _ ((nroot ((val BB d.m) * 2 ^ (k0))) * 2 ^ 1) (((Int.tdiv (d.e - ((k0 : Nat) : Int)) 2) - 1)) q up _ (h14.r16 r_s4) (Nat.le_trans (blen_r2 hb_d (by omega)) (by omega)) (by omega) (by omega) (by omega)).mono ?_
                rintro e v14 ⟨⟨A_z, n_z, c_z, rfl, r_z⟩, hb14⟩
                refine ⟨hb14, [.bool false, .slice A_z n_z c_z, .int .i64 (((Int.tdiv (d.e - ((k0 : Nat) : Int)) 2) - 1) + ((blen ((nroot ((val BB d.m) * 2 ^ (k0))) * 2 ^ 1) - q : Nat) : Int))], _, rfl, by kernel_rfl, by kernel_rfl, fun g14 => ?_⟩
                replace r_d := g14.rdD r_d; replace r_od := g14.r16 r_od; replace r_s1 := g14.r16 r_s1; replace r_q2 := g14.r16 r_q2; replace r_m3 := g14.r16 r_m3; replace r_s4 := g14.r16 r_s4
                clear h14 hb14
                have hbz : blen ((nroot ((val BB d.m) * 2 ^ (k0))) * 2 ^ 1) ≤ 400000 := (Nat.le_trans (blen_r2 hb_d (by omega)) (by omega))
                refine sat_call #[.agg #[.bool false, .slice A_z n_z c_z, .int .i64 (((Int.tdiv (d.e - ((k0 : Nat) : Int)) 2) - 1) + ((blen ((nroot ((val BB d.m) * 2 ^ (k0))) * 2 ^ 1) - q : Nat) : Int))]] (by kernel_rfl) fun w15 h15 => ?_
                refine (rwide_any false _ _ _ (cutM false ((nroot ((val BB d.m) * 2 ^ (k0))) * 2 ^ 1) q up) (((Int.tdiv (d.e - ((k0 : Nat) : Int)) 2) - 1) + ((blen ((nroot ((val BB d.m) * 2 ^ (k0))) * 2 ^ 1) - q : Nat) : Int)) _ (h15.r16 r_z) (Nat.le_trans (cutM_blen hbz) (by omega)) (by omega) (by omega)).mono ?_
                rintro e v15 ⟨⟨d_f, x_f, A_f, n_f, c_f, h_f, rfl, r_f⟩, hb15⟩
                refine ⟨hb15, [.bool d_f.neg, .slice A_f n_f c_f, .int .i64 d_f.e, .int .i64 x_f], _, rfl, by kernel_rfl, by kernel_rfl, fun g15 => ?_⟩
                replace r_d := g15.rdD r_d; replace r_od := g15.r16 r_od; replace r_s1 := g15.r16 r_s1; replace r_q2 := g15.r16 r_q2; replace r_m3 := g15.r16 r_m3; replace r_s4 := g15.r16 r_s4; replace r_z := g15.r16 r_z
                clear h15 hb15
                refine sat_chkB (by kernel_rfl) ?_
                have hM : sqM (val BB d.m) q d.e = (nroot ((val BB d.m) * 2 ^ (k0))) * 2 ^ 1 := by unfold sqM; rw [hK, hr0]; rfl
                have hE : sqE (val BB d.m) q d.e = (d.e - ((k0 : Nat) : Int)).tdiv 2 - 1 := by unfold sqE; rw [hK]
                exact sat_ret (.tuple #[.agg #[.bool d_f.neg, .slice A_f n_f c_f, .int .i64 d_f.e], .int .i64 x_f]) (by kernel_rfl) fun w9 h9 => ⟨d_f, x_f, A_f, n_f, c_f, hide (h_f.out.trans (by rw [cutM_S]; unfold sqrtR; rw [hm, hneg, if_neg (by rw [r_d.length.1, hnd]; simpa using hd0), Int.toNat_natCast, hM, hE]; rfl)), rfl, h9.rdD r_f⟩
            · have hK : sqK (val BB d.m) q d.e = k1 := by unfold sqK; rw [← hk0, show decide ((d.e - ((k0 : Nat) : Int)) % 2 ≠ 0) = true by simpa using hodd, hk1]; rfl
              refine sat_true (by kernel_rfl) ?_
              refine sat_prim (v := .int .i64 ((k1 : Nat) : Int)) (Eq.trans (b := some (.int .i64 (IntKind.i64.wrap (((k0 : Nat) : Int) + 1)))) (by kernel_rfl) (by rw [IntWalk.i64_in _ (by omega), hk1]; rfl)) ?_
              refine sat_call #[.slice A_od n_od c_od, .int .i64 ((k1 : Nat) : Int)] (by kernel_rfl) fun w8 h8 => ?_
              refine (rshlB (h8.r16 r_od) (by omega) (k1) (by omega)).mono ?_
              rintro e v8 ⟨⟨A_s1, n_s1, c_s1, rfl, r_s1⟩, hb8⟩
              refine ⟨hb8, [.slice A_s1 n_s1 c_s1], _, rfl, by kernel_rfl, by kernel_rfl, fun g8 => ?_⟩
              replace r_d := g8.rdD r_d; replace r_od := g8.r16 r_od
              clear h8 hb8
              refine sat_call #[.slice A_s1 n_s1 c_s1] (by kernel_rfl) fun w9 h9 => ?_
              refine (rrootB (h9.r16 r_s1) (Nat.le_trans (blen_shift hb_d (by omega)) (by omega))).mono ?_
              rintro e v9 ⟨⟨A_q2, n_q2, c_q2, rfl, r_q2⟩, hb9⟩
              refine ⟨hb9, [.slice A_q2 n_q2 c_q2], _, rfl, by kernel_rfl, by kernel_rfl, fun g9 => ?_⟩
              replace r_d := g9.rdD r_d; replace r_od := g9.r16 r_od; replace r_s1 := g9.r16 r_s1
              clear h9 hb9
              refine sat_call #[.slice A_q2 n_q2 c_q2, .slice A_q2 n_q2 c_q2] (by kernel_rfl) fun w10 h10 => ?_
              refine (rmulB (h10.r16 r_q2) (h10.r16 r_q2) (Nat.le_trans (blen_root hb_d (by omega)) (by omega)) (Nat.le_trans (blen_root hb_d (by omega)) (by omega))).mono ?_
              rintro e v10 ⟨⟨A_m3, n_m3, c_m3, rfl, r_m3⟩, hb10⟩
              refine ⟨hb10, [.slice A_m3 n_m3 c_m3], _, rfl, by kernel_rfl, by kernel_rfl, fun g10 => ?_⟩
              replace r_d := g10.rdD r_d; replace r_od := g10.r16 r_od; replace r_s1 := g10.r16 r_s1; replace r_q2 := g10.r16 r_q2
              clear h10 hb10
              refine sat_call #[.slice A_m3 n_m3 c_m3, .slice A_s1 n_s1 c_s1] (by kernel_rfl) fun w11 h11 => ?_
              refine (rcmpR _ _ ((nroot ((val BB d.m) * 2 ^ (k1))) * (nroot ((val BB d.m) * 2 ^ (k1)))) ((val BB d.m) * 2 ^ (k1)) _ (h11.r16 r_m3) (h11.r16 r_s1)).mono ?_
              rintro e v11 ⟨rfl, hb11⟩
              refine ⟨hb11, [.int .i64 (cmpN ((nroot ((val BB d.m) * 2 ^ (k1))) * (nroot ((val BB d.m) * 2 ^ (k1)))) ((val BB d.m) * 2 ^ (k1)))], _, rfl, by kernel_rfl, by kernel_rfl, fun g11 => ?_⟩
              replace r_d := g11.rdD r_d; replace r_od := g11.r16 r_od; replace r_s1 := g11.r16 r_s1; replace r_q2 := g11.r16 r_q2; replace r_m3 := g11.r16 r_m3
              clear h11 hb11
              refine sat_prim (v := .bool (decide (nroot (val BB d.m * 2 ^ k1) * nroot (val BB d.m * 2 ^ k1) = val BB d.m * 2 ^ k1))) (Eq.trans (b := some (.bool (cmpN (nroot (val BB d.m * 2 ^ k1) * nroot (val BB d.m * 2 ^ k1)) (val BB d.m * 2 ^ k1) == 0))) (by kernel_rfl) (by rw [cmpN_eq])) ?_
              refine sat_call #[.slice A_q2 n_q2 c_q2, .int .i64 1] (by kernel_rfl) fun w12 h12 => ?_
              refine (rshlB (h12.r16 r_q2) (Nat.le_trans (blen_root hb_d (by omega)) (by omega)) 1 (by omega)).mono ?_
              rintro e v12 ⟨⟨A_s4, n_s4, c_s4, rfl, r_s4⟩, hb12⟩
              refine ⟨hb12, [.slice A_s4 n_s4 c_s4], _, rfl, by kernel_rfl, by kernel_rfl, fun g12 => ?_⟩
              replace r_d := g12.rdD r_d; replace r_od := g12.r16 r_od; replace r_s1 := g12.r16 r_s1; replace r_q2 := g12.r16 r_q2; replace r_m3 := g12.r16 r_m3
              clear h12 hb12
              refine sat_prim (v := .bool (!(decide (nroot (val BB d.m * 2 ^ k1) * nroot (val BB d.m * 2 ^ k1) = val BB d.m * 2 ^ k1)))) (by kernel_rfl) ?_
              cases hr0 : (decide (nroot (val BB d.m * 2 ^ k1) * nroot (val BB d.m * 2 ^ k1) = val BB d.m * 2 ^ k1))
              · refine sat_true (by kernel_rfl) ?_
                refine sat_row [.int .u32 1] (by kernel_rfl) (by intro x hx; cases hx) fun u1 h1 B1 => ?_
                replace r_d := h1.rdD r_d; replace r_od := h1.r16 r_od; replace r_s1 := h1.r16 r_s1; replace r_q2 := h1.r16 r_q2; replace r_m3 := h1.r16 r_m3; replace r_s4 := h1.r16 r_s4
                have r_1 := rd1u 1 B1 (by omega) (by decide)
                generalize u1.heap.size = NR at *
                generalize (u1.alloc _) = wR at *
                clear B1 h1
                refine sat_call #[.slice A_s4 n_s4 c_s4, .slice (some ⟨NR, 0, none⟩) 1 1] (by kernel_rfl) fun w14 h14 => ?_
                refine (raddB (h14.r16 r_s4) (h14.r16 r_1) (Nat.le_trans (blen_r2 hb_d (by omega)) (by omega)) (by decide)).mono ?_
                rintro e v14 ⟨⟨A_a5, n_a5, c_a5, rfl, r_a5⟩, hb14⟩
                refine ⟨hb14, [.slice A_a5 n_a5 c_a5], _, rfl, by kernel_rfl, by kernel_rfl, fun g14 => ?_⟩
                replace r_d := g14.rdD r_d; replace r_od := g14.r16 r_od; replace r_s1 := g14.r16 r_s1; replace r_q2 := g14.r16 r_q2; replace r_m3 := g14.r16 r_m3; replace r_s4 := g14.r16 r_s4; replace r_1 := g14.r16 r_1
                clear h14 hb14
                refine sat_prim (v := .int .i64 (d.e - ((k1 : Nat) : Int))) (Eq.trans (b := some (.int .i64 (IntKind.i64.wrap ((d.e - ((k1 : Nat) : Int)))))) (by kernel_rfl) (by rw [IntWalk.i64_in _ (by omega)])) ?_
                refine sat_prim (v := .int .i64 (Int.tdiv (d.e - ((k1 : Nat) : Int)) 2)) (Eq.trans (b := some (.int .i64 (IntKind.i64.wrap (Int.tdiv (d.e - ((k1 : Nat) : Int)) 2)))) (by kernel_rfl) (by rw [IntWalk.i64_in _ (by have := tdiv2 (x := d.e - ((k1 : Nat) : Int)) (a := 2000000) (by omega) (by omega); omega)])) ?_
                have hte := tdiv2 (x := d.e - ((k1 : Nat) : Int)) (a := 2000000) (by omega) (by omega)
                refine sat_prim (v := .int .i64 ((Int.tdiv (d.e - ((k1 : Nat) : Int)) 2) - 1)) (Eq.trans (b := some (.int .i64 (IntKind.i64.wrap (((Int.tdiv (d.e - ((k1 : Nat) : Int)) 2) - 1))))) (by kernel_rfl) (by rw [IntWalk.i64_in _ (by omega)])) ?_
                refine sat_chkB (by kernel_rfl) ?_
                have hte := tdiv2 (x := d.e - ((k1 : Nat) : Int)) (a := 2000000) (by omega) (by omega)
                refine sat_call #[.agg #[.bool false, .slice A_a5 n_a5 c_a5, .int .i64 ((Int.tdiv (d.e - ((k1 : Nat) : Int)) 2) - 1)], .int .i64 ((q : Nat) : Int), .bool up] (by kernel_rfl) fun w15 h15 => ?_
                refine (rcut_any false _ _ _ ((nroot ((val BB d.m) * 2 ^ (k1))) * 2 ^ 1 + 1) (((Int.tdiv (d.e - ((k1 : Nat) : Int)) 2) - 1)) q up _ (h15.r16 r_a5) (Nat.le_trans (blen_p1 (blen_r2 hb_d (by omega))) (by omega)) (by omega) (by omega) (by omega)).mono ?_
                rintro e v15 ⟨⟨A_z, n_z, c_z, rfl, r_z⟩, hb15⟩
                refine ⟨hb15, [.bool false, .slice A_z n_z c_z, .int .i64 (((Int.tdiv (d.e - ((k1 : Nat) : Int)) 2) - 1) + ((blen ((nroot ((val BB d.m) * 2 ^ (k1))) * 2 ^ 1 + 1) - q : Nat) : Int))], _, rfl, by kernel_rfl, by kernel_rfl, fun g15 => ?_⟩
                replace r_d := g15.rdD r_d; replace r_od := g15.r16 r_od; replace r_s1 := g15.r16 r_s1; replace r_q2 := g15.r16 r_q2; replace r_m3 := g15.r16 r_m3; replace r_s4 := g15.r16 r_s4; replace r_1 := g15.r16 r_1; replace r_a5 := g15.r16 r_a5
                clear h15 hb15
                have hbz : blen ((nroot ((val BB d.m) * 2 ^ (k1))) * 2 ^ 1 + 1) ≤ 400000 := (Nat.le_trans (blen_p1 (blen_r2 hb_d (by omega))) (by omega))
                refine sat_call #[.agg #[.bool false, .slice A_z n_z c_z, .int .i64 (((Int.tdiv (d.e - ((k1 : Nat) : Int)) 2) - 1) + ((blen ((nroot ((val BB d.m) * 2 ^ (k1))) * 2 ^ 1 + 1) - q : Nat) : Int))]] (by kernel_rfl) fun w16 h16 => ?_
                refine (rwide_any false _ _ _ (cutM false ((nroot ((val BB d.m) * 2 ^ (k1))) * 2 ^ 1 + 1) q up) (((Int.tdiv (d.e - ((k1 : Nat) : Int)) 2) - 1) + ((blen ((nroot ((val BB d.m) * 2 ^ (k1))) * 2 ^ 1 + 1) - q : Nat) : Int)) _ (h16.r16 r_z) (Nat.le_trans (cutM_blen hbz) (by omega)) (by omega) (by omega)).mono ?_
                rintro e v16 ⟨⟨d_f, x_f, A_f, n_f, c_f, h_f, rfl, r_f⟩, hb16⟩
                refine ⟨hb16, [.bool d_f.neg, .slice A_f n_f c_f, .int .i64 d_f.e, .int .i64 x_f], _, rfl, by kernel_rfl, by kernel_rfl, fun g16 => ?_⟩
                replace r_d := g16.rdD r_d; replace r_od := g16.r16 r_od; replace r_s1 := g16.r16 r_s1; replace r_q2 := g16.r16 r_q2; replace r_m3 := g16.r16 r_m3; replace r_s4 := g16.r16 r_s4; replace r_1 := g16.r16 r_1; replace r_a5 := g16.r16 r_a5; replace r_z := g16.r16 r_z
                clear h16 hb16
                refine sat_chkB (by kernel_rfl) ?_
                have hM : sqM (val BB d.m) q d.e = (nroot ((val BB d.m) * 2 ^ (k1))) * 2 ^ 1 + 1 := by unfold sqM; rw [hK, hr0]; rfl
                have hE : sqE (val BB d.m) q d.e = (d.e - ((k1 : Nat) : Int)).tdiv 2 - 1 := by unfold sqE; rw [hK]
                exact sat_ret (.tuple #[.agg #[.bool d_f.neg, .slice A_f n_f c_f, .int .i64 d_f.e], .int .i64 x_f]) (by kernel_rfl) fun w9 h9 => ⟨d_f, x_f, A_f, n_f, c_f, hide (h_f.out.trans (by rw [cutM_S]; unfold sqrtR; rw [hm, hneg, if_neg (by rw [r_d.length.1, hnd]; simpa using hd0), Int.toNat_natCast, hM, hE]; rfl)), rfl, h9.rdD r_f⟩
              · refine sat_false (by kernel_rfl) ?_
                refine sat_prim (v := .int .i64 (d.e - ((k1 : Nat) : Int))) (Eq.trans (b := some (.int .i64 (IntKind.i64.wrap ((d.e - ((k1 : Nat) : Int)))))) (by kernel_rfl) (by rw [IntWalk.i64_in _ (by omega)])) ?_
                refine sat_prim (v := .int .i64 (Int.tdiv (d.e - ((k1 : Nat) : Int)) 2)) (Eq.trans (b := some (.int .i64 (IntKind.i64.wrap (Int.tdiv (d.e - ((k1 : Nat) : Int)) 2)))) (by kernel_rfl) (by rw [IntWalk.i64_in _ (by have := tdiv2 (x := d.e - ((k1 : Nat) : Int)) (a := 2000000) (by omega) (by omega); omega)])) ?_
                have hte := tdiv2 (x := d.e - ((k1 : Nat) : Int)) (a := 2000000) (by omega) (by omega)
                refine sat_prim (v := .int .i64 ((Int.tdiv (d.e - ((k1 : Nat) : Int)) 2) - 1)) (Eq.trans (b := some (.int .i64 (IntKind.i64.wrap (((Int.tdiv (d.e - ((k1 : Nat) : Int)) 2) - 1))))) (by kernel_rfl) (by rw [IntWalk.i64_in _ (by omega)])) ?_
                refine sat_chkB (by kernel_rfl) ?_
                have hte := tdiv2 (x := d.e - ((k1 : Nat) : Int)) (a := 2000000) (by omega) (by omega)
                refine sat_call #[.agg #[.bool false, .slice A_s4 n_s4 c_s4, .int .i64 ((Int.tdiv (d.e - ((k1 : Nat) : Int)) 2) - 1)], .int .i64 ((q : Nat) : Int), .bool up] (by kernel_rfl) fun w14 h14 => ?_
                refine (rcut_any false _ _ _ ((nroot ((val BB d.m) * 2 ^ (k1))) * 2 ^ 1) (((Int.tdiv (d.e - ((k1 : Nat) : Int)) 2) - 1)) q up _ (h14.r16 r_s4) (Nat.le_trans (blen_r2 hb_d (by omega)) (by omega)) (by omega) (by omega) (by omega)).mono ?_
                rintro e v14 ⟨⟨A_z, n_z, c_z, rfl, r_z⟩, hb14⟩
                refine ⟨hb14, [.bool false, .slice A_z n_z c_z, .int .i64 (((Int.tdiv (d.e - ((k1 : Nat) : Int)) 2) - 1) + ((blen ((nroot ((val BB d.m) * 2 ^ (k1))) * 2 ^ 1) - q : Nat) : Int))], _, rfl, by kernel_rfl, by kernel_rfl, fun g14 => ?_⟩
                replace r_d := g14.rdD r_d; replace r_od := g14.r16 r_od; replace r_s1 := g14.r16 r_s1; replace r_q2 := g14.r16 r_q2; replace r_m3 := g14.r16 r_m3; replace r_s4 := g14.r16 r_s4
                clear h14 hb14
                have hbz : blen ((nroot ((val BB d.m) * 2 ^ (k1))) * 2 ^ 1) ≤ 400000 := (Nat.le_trans (blen_r2 hb_d (by omega)) (by omega))
                refine sat_call #[.agg #[.bool false, .slice A_z n_z c_z, .int .i64 (((Int.tdiv (d.e - ((k1 : Nat) : Int)) 2) - 1) + ((blen ((nroot ((val BB d.m) * 2 ^ (k1))) * 2 ^ 1) - q : Nat) : Int))]] (by kernel_rfl) fun w15 h15 => ?_
                refine (rwide_any false _ _ _ (cutM false ((nroot ((val BB d.m) * 2 ^ (k1))) * 2 ^ 1) q up) (((Int.tdiv (d.e - ((k1 : Nat) : Int)) 2) - 1) + ((blen ((nroot ((val BB d.m) * 2 ^ (k1))) * 2 ^ 1) - q : Nat) : Int)) _ (h15.r16 r_z) (Nat.le_trans (cutM_blen hbz) (by omega)) (by omega) (by omega)).mono ?_
                rintro e v15 ⟨⟨d_f, x_f, A_f, n_f, c_f, h_f, rfl, r_f⟩, hb15⟩
                refine ⟨hb15, [.bool d_f.neg, .slice A_f n_f c_f, .int .i64 d_f.e, .int .i64 x_f], _, rfl, by kernel_rfl, by kernel_rfl, fun g15 => ?_⟩
                replace r_d := g15.rdD r_d; replace r_od := g15.r16 r_od; replace r_s1 := g15.r16 r_s1; replace r_q2 := g15.r16 r_q2; replace r_m3 := g15.r16 r_m3; replace r_s4 := g15.r16 r_s4; replace r_z := g15.r16 r_z
                clear h15 hb15
                refine sat_chkB (by kernel_rfl) ?_
                have hM : sqM (val BB d.m) q d.e = (nroot ((val BB d.m) * 2 ^ (k1))) * 2 ^ 1 := by unfold sqM; rw [hK, hr0]; rfl
                have hE : sqE (val BB d.m) q d.e = (d.e - ((k1 : Nat) : Int)).tdiv 2 - 1 := by unfold sqE; rw [hK]
                exact sat_ret (.tuple #[.agg #[.bool d_f.neg, .slice A_f n_f c_f, .int .i64 d_f.e], .int .i64 x_f]) (by kernel_rfl) fun w9 h9 => ⟨d_f, x_f, A_f, n_f, c_f, hide (h_f.out.trans (by rw [cutM_S]; unfold sqrtR; rw [hm, hneg, if_neg (by rw [r_d.length.1, hnd]; simpa using hd0), Int.toNat_natCast, hM, hE]; rfl)), rfl, h9.rdD r_f⟩
          · refine sat_true (by kernel_rfl) ?_
            refine sat_chkB (by kernel_rfl) ?_
            exact sat_ret (.tuple #[.agg #[.bool d.neg, .slice A_d n_d c_d, .int .i64 d.e], .int .i64 0]) (by kernel_rfl) fun w9 h9 => ⟨d, 0, A_d, n_d, c_d, hide (by unfold sqrtR; rw [mayS_y hp1 hp2 (by simp [hd]), hneg, if_pos (by rw [r_d.length.1, hnd]; simpa using hd0)]; rfl), rfl, h9.rdD r_d⟩
      · refine sat_true (by kernel_rfl) ?_
        exact sat_ret (.tuple #[.agg #[.bool false, .slice none 0 0, .int .i64 0], .int .i64 1]) (by kernel_rfl) fun w9 h9 => DyTup.zero (by unfold sqrtR; rw [mayS_no2 hp2]; rfl)
    · refine sat_true (by kernel_rfl) ?_
      exact sat_ret (.tuple #[.agg #[.bool false, .slice none 0 0, .int .i64 0], .int .i64 1]) (by kernel_rfl) fun w9 h9 => DyTup.zero (by unfold sqrtR; rw [mayS_no1 hp1]; rfl)

end Go.Proofs.YteodljieiloebaaDoor
namespace Go.Proofs.YteodljieiloebaaDoor
open Go.RowKit Pl

theorem blen_low {n : Nat} (h : n ≠ 0) : 2 ^ (blen n - 1) ≤ n := by
  have h1 := blen_pos.2 h
  refine Nat.le_of_not_lt fun hlt => ?_
  have := blen_le.2 hlt
  omega
theorem blen_ge {n k : Nat} (h : 2 ^ k ≤ n) : k + 1 ≤ blen n := by
  refine Nat.le_of_not_lt fun hlt => ?_
  have := blen_le.1 (show blen n ≤ k by omega)
  omega
theorem blen_btw {n k : Nat} (h1 : 2 ^ k ≤ n) (h2 : n < 2 ^ (k + 1)) : blen n = k + 1 := blen_eq h1 h2
/-- What is cut of a quotient: the quotient by more. -/
theorem cutS_rat {neg : Bool} {A B : Nat} {e : Int} {P : Nat} {up : Bool} (hB : 0 < B) :
    cutS neg (A / B) e (decide (A % B ≠ 0)) P up = fitS neg (A / (B * 2 ^ (blen (A / B) - P)) + (bif decide (A % (B * 2 ^ (blen (A / B) - P)) ≠ 0) && (!(up == neg)) then 1 else 0)) (e + ((blen (A / B) - P : Nat) : Int)) := by
  unfold cutS
  generalize blen (A / B) - P = n
  rw [Nat.div_div_eq_div_mul]
  have h : (decide (A % B ≠ 0) || decide (A / B % 2 ^ n ≠ 0)) = decide (A % (B * 2 ^ n) ≠ 0) := by
    rw [Nat.mod_mul, ← Bool.decide_or, decide_eq_decide]
    have : B * (A / B % 2 ^ n) = 0 ↔ A / B % 2 ^ n = 0 := by rw [Nat.mul_eq_zero]; omega
    omega
  rw [h]
/-- The same of a number with a sticky bit. -/
theorem cutS_sticky {neg : Bool} {Q t : Nat} {e : Int} {P m : Nat} {up : Bool} (ht : t ≤ 1) (hn : blen (Q * 2 ^ 1 + t) - P = m + 1) :
    cutS neg (Q * 2 ^ 1 + t) e false P up = fitS neg (Q / 2 ^ m + (bif (decide (t ≠ 0) || decide (Q % 2 ^ m ≠ 0)) && (!(up == neg)) then 1 else 0)) (e + ((m + 1 : Nat) : Int)) := by
  unfold cutS
  rw [hn, Bool.false_or]
  have h1 : (Q * 2 ^ 1 + t) / 2 ^ (m + 1) = Q / 2 ^ m := by
    rw [show 2 ^ (m + 1) = 2 * 2 ^ m by rw [Nat.pow_succ, Nat.mul_comm], ← Nat.div_div_eq_div_mul]
    congr 1
    omega
  have h2 : decide ((Q * 2 ^ 1 + t) % 2 ^ (m + 1) ≠ 0) = (decide (t ≠ 0) || decide (Q % 2 ^ m ≠ 0)) := by
    rw [show 2 ^ (m + 1) = 2 * 2 ^ m by rw [Nat.pow_succ, Nat.mul_comm], Nat.mod_mul, ← Bool.decide_or, decide_eq_decide]
    have e1 : (Q * 2 ^ 1 + t) % 2 = t := by omega
    have e2 : (Q * 2 ^ 1 + t) / 2 = Q := by omega
    rw [e1, e2]
    omega
  rw [h1, h2]
theorem blen_two {Q t : Nat} (ht : t ≤ 1) (hQ : Q ≠ 0) : blen (Q * 2 ^ 1 + t) = blen Q + 1 := by
  have h1 := blen_low hQ
  have h2 := blen_lt_pow Q
  have h3 := blen_pos.2 hQ
  obtain ⟨c, hc⟩ : ∃ c, blen Q = c + 1 := ⟨blen Q - 1, by omega⟩
  rw [hc] at h1 h2 ⊢
  refine blen_eq ?_ ?_
  · rw [Nat.add_sub_cancel] at h1; rw [Nat.pow_succ]; omega
  · rw [Nat.pow_succ 2 (c + 1)]; omega
theorem div_shift {A B j : Nat} : A * 2 ^ j / (B * 2 ^ j) = A / B := Nat.mul_div_mul_right _ _ (Nat.two_pow_pos j)
theorem blen_div {A B j : Nat} (hB : 0 < B) (h : A / B ≠ 0) : blen (A * 2 ^ j / B) = blen (A / B) + j := by
  have h1 := blen_low h
  have h2 := blen_lt_pow (A / B)
  have h3 := blen_pos.2 h
  obtain ⟨c, hc⟩ : ∃ c, blen (A / B) = c + 1 := ⟨blen (A / B) - 1, by omega⟩
  rw [hc] at h1 h2 ⊢
  rw [Nat.add_sub_cancel, Nat.le_div_iff_mul_le hB] at h1
  rw [Nat.div_lt_iff_lt_mul hB] at h2
  rw [show c + 1 + j = c + j + 1 by omega]
  refine blen_eq ?_ ?_
  · rw [Nat.le_div_iff_mul_le hB, Nat.pow_add, Nat.mul_right_comm]
    exact Nat.mul_le_mul_right _ h1
  · rw [Nat.div_lt_iff_lt_mul hB, show c + j + 1 = c + 1 + j by omega, Nat.pow_add, Nat.mul_right_comm]
    exact Nat.mul_lt_mul_of_pos_right h2 (Nat.two_pow_pos j)
theorem quot_core {neg : Bool} {X Y P : Nat} {e : Int} {up : Bool} (hX : X ≠ 0) (hY : 0 < Y) :
    cutS neg (X * 2 ^ quotK X Y P / Y) (e - (quotK X Y P : Int)) (decide (X * 2 ^ quotK X Y P % Y ≠ 0)) P up = cutS neg (partM X Y P) (e - ((P + 3 + blen Y - blen X : Nat) : Int) - 1) false P up := by
  obtain ⟨k, hk⟩ : ∃ k, k = quotK X Y P := ⟨_, rfl⟩
  obtain ⟨j, hj⟩ : ∃ j, P + 3 + blen Y - blen X = k + j := ⟨P + 3 + blen Y - blen X - k, by unfold quotK at hk; omega⟩
  unfold partM
  rw [← hk, hj, cutS_rat hY]
  have hq : 2 ^ P ≤ X * 2 ^ k / Y := by
    rw [Nat.le_div_iff_mul_le hY]
    have h1 := blen_low hX
    have h2 := blen_lt_pow Y
    have h3 := blen_pos.2 hX
    refine Nat.le_trans (Nat.mul_le_mul_left _ (Nat.le_of_lt h2)) (Nat.le_trans ?_ (Nat.mul_le_mul_right _ h1))
    rw [← Nat.pow_add, ← Nat.pow_add]
    refine Nat.pow_le_pow_right (by omega) ?_
    unfold quotK at hk
    omega
  have hb := blen_ge hq
  have hq0 : X * 2 ^ k / Y ≠ 0 := by have := Nat.two_pow_pos P; omega
  have hA : X * 2 ^ (k + j) = X * 2 ^ k * 2 ^ j := by rw [Nat.pow_add, Nat.mul_assoc]
  rw [hA]
  generalize X * 2 ^ k = A at *
  have hbj := blen_div (j := j) hY hq0
  have hqj : A * 2 ^ j / Y ≠ 0 := by
    intro h0
    rw [h0, blen_zero] at hbj
    omega
  obtain ⟨t, ht⟩ : ∃ t, t = (bif decide (A * 2 ^ j % Y = 0) then 0 else 1) := ⟨_, rfl⟩
  have ht1 : t ≤ 1 := by rw [ht]; cases decide (A * 2 ^ j % Y = 0) <;> simp
  have ht0 : decide (t ≠ 0) = decide (A * 2 ^ j % Y ≠ 0) := by
    rw [ht, decide_eq_decide]
    by_cases h0 : A * 2 ^ j % Y = 0 <;> simp [h0]
  rw [← ht, cutS_sticky (m := blen (A / Y) - P + j) ht1 (by rw [blen_two ht1 hqj, hbj]; omega)]
  have e1 : A * 2 ^ j / Y / 2 ^ (blen (A / Y) - P + j) = A / (Y * 2 ^ (blen (A / Y) - P)) := by
    rw [Nat.div_div_eq_div_mul, Nat.pow_add, ← Nat.mul_assoc, div_shift]
  have e2 : (decide (A * 2 ^ j % Y ≠ 0) || decide (A * 2 ^ j / Y % 2 ^ (blen (A / Y) - P + j) ≠ 0)) = decide (A % (Y * 2 ^ (blen (A / Y) - P)) ≠ 0) := by
    have h1 : A * 2 ^ j % (Y * 2 ^ (blen (A / Y) - P + j)) = A % (Y * 2 ^ (blen (A / Y) - P)) * 2 ^ j := by
      rw [Nat.pow_add, ← Nat.mul_assoc, Nat.mul_mod_mul_right]
    have h2 := Nat.mod_mul (x := A * 2 ^ j) (a := Y) (b := 2 ^ (blen (A / Y) - P + j))
    rw [h1] at h2
    have h3 : A % (Y * 2 ^ (blen (A / Y) - P)) * 2 ^ j = 0 ↔ A % (Y * 2 ^ (blen (A / Y) - P)) = 0 := by
      have := Nat.two_pow_pos j
      rw [Nat.mul_eq_zero]; omega
    have h4 : Y * (A * 2 ^ j / Y % 2 ^ (blen (A / Y) - P + j)) = 0 ↔ A * 2 ^ j / Y % 2 ^ (blen (A / Y) - P + j) = 0 := by rw [Nat.mul_eq_zero]; omega
    rw [← Bool.decide_or, decide_eq_decide]
    omega
  rw [e1, ht0, e2]
  congr 1
  omega
theorem cutS_nil {neg : Bool} {e : Int} {P : Nat} {up : Bool} : cutS neg 0 e false P up = (Dy.zero, 0) := by
  unfold cutS
  simp [fitS_zero]
theorem quotS_R {a b : Dy} {p : Int} {up : Bool} (_ : Lim BB a.m) (hb : Lim BB b.m) : quotS a b p up = quotR a b p up := by
  unfold quotS quotR
  cases hm : mayS p [a, b] with
  | false => rfl
  | true =>
    simp only [cond_true]
    cases hy : decide ((0 : Int) < (b.m.length : Int)) with
    | false => rfl
    | true =>
      simp only [cond_true]
      have hY := val_pos hb (mayS_all hm b (by simp)) hy
      by_cases hX : val BB a.m = 0
      · rw [if_pos hX, hX, Nat.zero_mul, Nat.zero_div, Nat.zero_mod]
        exact cutS_nil
      · rw [if_neg hX]
        exact quot_core hX hY
/-! Roots. -/
theorem nroot_shift (A j : Nat) : nroot (A * 2 ^ (2 * j)) / 2 ^ j = nroot A ∧ nroot A * 2 ^ j ≤ nroot (A * 2 ^ (2 * j)) ∧ nroot (A * 2 ^ (2 * j)) < (nroot A + 1) * 2 ^ j := by
  obtain ⟨h1, h2⟩ := nroot_spec A
  obtain ⟨h3, h4⟩ := nroot_spec (A * 2 ^ (2 * j))
  have hp : 2 ^ (2 * j) = 2 ^ j * 2 ^ j := by rw [← Nat.pow_add]; congr 1; omega
  have hj := Nat.two_pow_pos j
  generalize nroot (A * 2 ^ (2 * j)) = r' at *
  generalize nroot A = r at *
  rw [hp] at h3 h4
  have a1 : r * 2 ^ j < r' + 1 := by
    refine Nat.mul_self_lt_mul_self_iff.1 (Nat.lt_of_le_of_lt ?_ h4)
    calc r * 2 ^ j * (r * 2 ^ j) = r * r * (2 ^ j * 2 ^ j) := by ac_rfl
      _ ≤ A * (2 ^ j * 2 ^ j) := Nat.mul_le_mul_right _ h1
  have a2 : r' < (r + 1) * 2 ^ j := by
    refine Nat.mul_self_lt_mul_self_iff.1 (Nat.lt_of_le_of_lt h3 ?_)
    calc A * (2 ^ j * 2 ^ j) < (r + 1) * (r + 1) * (2 ^ j * 2 ^ j) := Nat.mul_lt_mul_of_pos_right h2 (Nat.mul_pos hj hj)
      _ = (r + 1) * 2 ^ j * ((r + 1) * 2 ^ j) := by ac_rfl
  exact ⟨Nat.div_eq_of_lt_le (by omega) a2, by omega, a2⟩
theorem root_core {X P : Nat} {E : Int} {up : Bool} (hX : X ≠ 0) :
    cutS false (nroot (X * 2 ^ rootK X P E)) ((E - (rootK X P E : Int)).tdiv 2) (decide (nroot (X * 2 ^ rootK X P E) * nroot (X * 2 ^ rootK X P E) ≠ X * 2 ^ rootK X P E)) P up = cutS false (sqM X P E) (sqE X P E) false P up := by
  have hXp := blen_pos.2 hX
  obtain ⟨k, hk⟩ : ∃ k, k = rootK X P E := ⟨_, rfl⟩
  obtain ⟨s, hs⟩ : ∃ s, s = sqK X P E := ⟨_, rfl⟩
  have hkE : (E - (k : Int)) % 2 = 0 ∧ 2 * P + 2 ≤ blen X + k := by
    rw [hk]
    unfold rootK
    obtain ⟨k0, hk0⟩ : ∃ k0, k0 = 2 * P + 2 - blen X := ⟨_, rfl⟩
    rw [← hk0]
    by_cases h : (E - (k0 : Int)).tmod 2 ≠ 0
    · rw [decide_eq_true h]
      simp only [cond_true]
      have : (E - (k0 : Int)) % 2 ≠ 0 := fun h0 => h (Int.tmod_eq_zero_of_dvd (Int.dvd_of_emod_eq_zero h0))
      omega
    · rw [decide_eq_false h]
      simp only [cond_false]
      have h0 : (E - (k0 : Int)).tmod 2 = 0 := by simpa using h
      have := Int.emod_eq_zero_of_dvd (Int.dvd_of_tmod_eq_zero h0)
      omega
  have hsE : (E - (s : Int)) % 2 = 0 := by
    rw [hs]
    unfold sqK
    obtain ⟨k0, hk0⟩ : ∃ k0, k0 = 2 * P + 6 - blen X := ⟨_, rfl⟩
    rw [← hk0]
    by_cases h : (E - (k0 : Int)) % 2 ≠ 0
    · rw [decide_eq_true h]; simp only [cond_true]; omega
    · rw [decide_eq_false h]; simp only [cond_false]; omega
  have hks : k ≤ s := by
    rw [hk, hs]
    unfold rootK sqK
    rcases Nat.lt_or_ge (2 * P + 2 - blen X) (2 * P + 6 - blen X) with h | h
    · cases decide ((E - ((2 * P + 2 - blen X : Nat) : Int)).tmod 2 ≠ 0) <;> simp only [cond_true, cond_false] <;> omega
    · have e : 2 * P + 6 - blen X = 2 * P + 2 - blen X := by omega
      rw [e]
      have e2 : decide ((E - ((2 * P + 2 - blen X : Nat) : Int)).tmod 2 ≠ 0) = decide ((E - ((2 * P + 2 - blen X : Nat) : Int)) % 2 ≠ 0) := by
        rw [decide_eq_decide]
        constructor
        · exact fun h h0 => h (Int.tmod_eq_zero_of_dvd (Int.dvd_of_emod_eq_zero h0))
        · exact fun h h0 => h (Int.emod_eq_zero_of_dvd (Int.dvd_of_tmod_eq_zero h0))
      rw [e2]
      exact Nat.le_refl _
  obtain ⟨j, hj⟩ : ∃ j, s = k + 2 * j := ⟨(s - k) / 2, by omega⟩
  unfold sqM sqE
  rw [← hk, ← hs, hj, show X * 2 ^ (k + 2 * j) = X * 2 ^ k * 2 ^ (2 * j) by rw [Nat.pow_add, Nat.mul_assoc]]
  have hA : 2 ^ P * 2 ^ P ≤ X * 2 ^ k := by
    refine Nat.le_trans ?_ (Nat.mul_le_mul_right _ (blen_low hX))
    rw [← Nat.pow_add, ← Nat.pow_add]
    exact Nat.pow_le_pow_right (by omega) (by omega)
  generalize X * 2 ^ k = A at *
  have hr : 2 ^ P ≤ nroot A := by
    have h2 := (nroot_spec A).2
    have := Nat.mul_self_lt_mul_self_iff.1 (Nat.lt_of_le_of_lt hA h2)
    omega
  have hb := blen_ge hr
  obtain ⟨g1, g2, g3⟩ := nroot_shift A j
  have s1 := nroot_spec A
  have s2 := nroot_spec (A * 2 ^ (2 * j))
  have hp : 2 ^ (2 * j) = 2 ^ j * 2 ^ j := by rw [← Nat.pow_add]; congr 1; omega
  have hjp := Nat.two_pow_pos j
  have hsq : (nroot (A * 2 ^ (2 * j)) * nroot (A * 2 ^ (2 * j)) ≠ A * 2 ^ (2 * j) ∨ nroot (A * 2 ^ (2 * j)) % 2 ^ j ≠ 0) ↔ nroot A * nroot A ≠ A := by
    constructor
    · intro h h0
      have e : nroot (A * 2 ^ (2 * j)) = nroot A * 2 ^ j := by
        refine nroot_of ?_ ?_
        · rw [hp]; calc nroot A * 2 ^ j * (nroot A * 2 ^ j) = nroot A * nroot A * (2 ^ j * 2 ^ j) := by ac_rfl
            _ ≤ A * (2 ^ j * 2 ^ j) := Nat.mul_le_mul_right _ s1.1
        · have h5 : A * 2 ^ (2 * j) = nroot A * 2 ^ j * (nroot A * 2 ^ j) := by
            rw [hp]; conv => lhs; rw [← h0]
            ac_rfl
          rw [h5]
          exact Nat.mul_self_lt_mul_self_iff.2 (by omega)
      rcases h with h | h
      · apply h
        rw [e, hp]
        conv => rhs; rw [← h0]
        ac_rfl
      · apply h
        rw [e, Nat.mul_mod_left]
    · intro h
      by_cases h1 : nroot (A * 2 ^ (2 * j)) % 2 ^ j = 0
      · left
        intro h0
        apply h
        have e : nroot (A * 2 ^ (2 * j)) = nroot A * 2 ^ j := by
          have := Nat.div_add_mod (nroot (A * 2 ^ (2 * j))) (2 ^ j)
          rw [h1, g1, Nat.add_zero, Nat.mul_comm] at this
          exact this.symm
        rw [e, hp] at h0
        refine Nat.eq_of_mul_eq_mul_right (Nat.mul_pos hjp hjp) (Eq.trans ?_ h0)
        ac_rfl
      · exact .inr h1
  generalize hr' : nroot (A * 2 ^ (2 * j)) = r' at *
  generalize nroot A = r at *
  have hr0 : r ≠ 0 := by have := Nat.two_pow_pos P; omega
  have hbr : blen r' = blen r + j := by
    have h1 := blen_low hr0
    have h2 := blen_lt_pow r
    obtain ⟨c, hc⟩ : ∃ c, blen r = c + 1 := ⟨blen r - 1, by omega⟩
    rw [hc] at h1 h2 ⊢
    rw [Nat.add_sub_cancel] at h1
    rw [show c + 1 + j = c + j + 1 by omega]
    refine blen_eq ?_ ?_
    · rw [Nat.pow_add]; exact Nat.le_trans (Nat.mul_le_mul_right _ h1) g2
    · rw [show c + j + 1 = c + 1 + j by omega, Nat.pow_add]; exact Nat.lt_of_lt_of_le g3 (Nat.mul_le_mul_right _ h2)
  have hr'0 : r' ≠ 0 := by
    intro h0
    rw [h0, blen_zero] at hbr
    omega
  obtain ⟨t, ht⟩ : ∃ t, t = (bif decide (r' * r' = A * 2 ^ (2 * j)) then 0 else 1) := ⟨_, rfl⟩
  have ht1 : t ≤ 1 := by rw [ht]; cases decide (r' * r' = A * 2 ^ (2 * j)) <;> simp
  have ht0 : t ≠ 0 ↔ r' * r' ≠ A * 2 ^ (2 * j) := by
    rw [ht]
    by_cases h0 : r' * r' = A * 2 ^ (2 * j) <;> simp [h0]
  rw [← ht, cutS_sticky (m := blen r - P + j) ht1 (by rw [blen_two ht1 hr'0, hbr]; omega)]
  unfold cutS
  have e1 : r' / 2 ^ (blen r - P + j) = r / 2 ^ (blen r - P) := by
    rw [Nat.add_comm, Nat.pow_add, ← Nat.div_div_eq_div_mul, g1]
  have e2 : (decide (t ≠ 0) || decide (r' % 2 ^ (blen r - P + j) ≠ 0)) = (decide (r * r ≠ A) || decide (r % 2 ^ (blen r - P) ≠ 0)) := by
    have h2 := Nat.mod_mul (x := r') (a := 2 ^ j) (b := 2 ^ (blen r - P))
    rw [g1, ← Nat.pow_add, Nat.add_comm j] at h2
    have h4 : 2 ^ j * (r % 2 ^ (blen r - P)) = 0 ↔ r % 2 ^ (blen r - P) = 0 := by rw [Nat.mul_eq_zero]; omega
    rw [← Bool.decide_or, ← Bool.decide_or, decide_eq_decide, ← hsq, ht0, h2]
    generalize (r' * r' ≠ A * 2 ^ (2 * j)) = Z
    constructor
    · rintro (h | h)
      · exact .inl (.inl h)
      · by_cases h5 : r' % 2 ^ j = 0
        · right; omega
        · exact .inl (.inr h5)
    · rintro ((h | h) | h)
      · exact .inl h
      · right; omega
      · right; omega
  rw [e1, e2]
  congr 1
  obtain ⟨u, hu⟩ : ∃ u, E - (k : Int) = 2 * u := ⟨(E - (k : Int)) / 2, by omega⟩
  have u1 : (E - (k : Int)).tdiv 2 = u := by rw [hu]; exact Int.mul_tdiv_cancel_left _ (by omega)
  have u2 : (E - ((k + 2 * j : Nat) : Int)).tdiv 2 = u - j := by
    rw [show E - ((k + 2 * j : Nat) : Int) = 2 * (u - j) by omega]; exact Int.mul_tdiv_cancel_left _ (by omega)
  rw [u1, u2]
  omega
theorem mayD_nil {d : Dy} (h : mayD d = true) (h0 : d.m.length = 0) : d = Dy.zero := by
  unfold mayD at h
  rw [if_pos h0] at h
  simp only [Bool.and_eq_true, Bool.not_eq_true', decide_eq_true_eq] at h
  obtain ⟨neg, m, e⟩ := d
  simp only at h h0
  obtain ⟨rfl, rfl⟩ := h
  rw [List.length_eq_zero_iff.1 h0]
  rfl
theorem rootS_R {d : Dy} {p : Int} {up : Bool} (hd : Lim BB d.m) : rootS d p up = sqrtR d p up := by
  unfold rootS sqrtR
  cases hm : mayS p [d] with
  | false => rfl
  | true =>
    simp only [cond_true]
    cases hn : d.neg with
    | true => rfl
    | false =>
      simp only [cond_false]
      have hmd := mayS_all hm d (by simp)
      by_cases h0 : d.m.length = 0
      · rw [if_pos h0, mayD_nil hmd h0]
        have hz : nroot (val BB Dy.zero.m * 2 ^ rootK (val BB Dy.zero.m) p.toNat Dy.zero.e) = 0 := by
          rw [show val BB Dy.zero.m = 0 from rfl, Nat.zero_mul]
          rfl
        rw [hz, show val BB Dy.zero.m = 0 from rfl, Nat.zero_mul, show decide (0 ≠ 0 * 2 ^ rootK 0 p.toNat Dy.zero.e) = false by simp]
        exact cutS_nil
      · rw [if_neg h0]
        have hX := val_pos hd hmd (by simp; omega)
        exact root_core (by omega)
end Go.Proofs.YteodljieiloebaaDoor
