/- The closures of round.directed, round.Quot, round.Root, by their trees. Printed by wip/mk_RnE.py. round.directed, Quot, Root, Down, Up. Printed by wip/mk_RnF.py. -/
import Derived.Test.YteodljieiloebaaDoorRnDx
import Derived.Test.YteodljieiloebaaDoorRnCx
import Derived.Test.YteodljieiloebaaDoorQuAx
import Derived.Test.YteodljieiloebaaDoorSqAx
namespace Go.Proofs.YteodljieiloebaaDoor
open Go.RowKit Pl
open Sx (sat_call sat_chk sat_prim sat_ite sat_true sat_false sat_trueP sat_falseP sat_ret sat_row sat_callP sat_loop sat_back sat_idx sat_el sat_elf sat_load sat_rowN sat_capA sat_cap1 rows_one rows_two all_nil all_cons okB okS okI)

/-- What is not above and not below 'is so', and is a Dyad of so many bits. -/
def dirS (d : Dy) (p : Int) (up : Bool) : Dy × Int := bif mayS p [d] then cutS d.neg (val BB d.m) d.e false p.toNat up else (Dy.zero, 1)
def quotK (X Y p : Nat) : Nat := p + 1 + blen Y - blen X
def quotS (a b : Dy) (p : Int) (up : Bool) : Dy × Int :=
  bif mayS p [a, b] then (bif decide ((0 : Int) < (b.m.length : Int)) then
    cutS (!(a.neg == b.neg)) (val BB a.m * 2 ^ quotK (val BB a.m) (val BB b.m) p.toNat / val BB b.m) (a.e - b.e - (quotK (val BB a.m) (val BB b.m) p.toNat : Int))
      (decide (val BB a.m * 2 ^ quotK (val BB a.m) (val BB b.m) p.toNat % val BB b.m ≠ 0)) p.toNat up else (Dy.zero, 4)) else (Dy.zero, 1)
def rootK (X p : Nat) (e : Int) : Nat := (2 * p + 2 - blen X) + (bif decide ((e - ((2 * p + 2 - blen X : Nat) : Int)).tmod 2 ≠ 0) then 1 else 0)
def rootS (d : Dy) (p : Int) (up : Bool) : Dy × Int :=
  bif mayS p [d] then (bif d.neg then (Dy.zero, 4) else
    cutS false (nroot (val BB d.m * 2 ^ rootK (val BB d.m) p.toNat d.e)) ((d.e - (rootK (val BB d.m) p.toNat d.e : Int)).tdiv 2)
      (decide (nroot (val BB d.m * 2 ^ rootK (val BB d.m) p.toNat d.e) * nroot (val BB d.m * 2 ^ rootK (val BB d.m) p.toNat d.e) ≠ val BB d.m * 2 ^ rootK (val BB d.m) p.toNat d.e)) p.toNat up) else (Dy.zero, 1)
theorem mayS_nat {p : Int} {l : List Dy} (h : mayS p l = true) : ∃ q : Nat, p = (q : Int) ∧ 1 ≤ q ∧ q ≤ 2000 := by
  unfold mayS at h
  simp only [Bool.and_eq_true, decide_eq_true_eq] at h
  exact ⟨p.toNat, by omega, by omega, by omega⟩
theorem mayS_all {p : Int} {l : List Dy} (h : mayS p l = true) : ∀ d ∈ l, mayD d = true := by
  unfold mayS at h
  simp only [Bool.and_eq_true] at h
  exact fun d hd => List.all_eq_true.1 h.2 d hd
section
variable {p : Int} {l : List Dy} {A : Option Addr} {n c : Nat} {w : World} (hR : Sx.Rows Sx.kD (fun _ => True) w A n c l)
include hR in
theorem mayR_yes (hm : mayS p l = true) : Calls Tryd.prog 64 #[.int .i64 p, .slice A n c] w fun e w' => e = .returned (.tuple #[]) ∧ Below w.heap.size w w' := by
  obtain rfl := hR.len
  exact (mayR_any A c p l w hR).mono fun _ _ ⟨hb, h⟩ => h.elim (fun h => ⟨h.2, hb⟩) (fun h => by rw [hm] at h; cases h.1)
include hR in
theorem mayR_no (hm : mayS p l = false) : Calls Tryd.prog 64 #[.int .i64 p, .slice A n c] w fun e w' => e = .panicked (failDR 1) ∧ Below w.heap.size w w' := by
  obtain rfl := hR.len
  exact (mayR_any A c p l w hR).mono fun _ _ ⟨hb, h⟩ => h.elim (fun h => by rw [hm] at h; cases h.1) (fun h => ⟨h.2, hb⟩)
end
section
variable (neg : Bool) (u : Value) (X : Nat) (e : Int) (rest : Bool) (p : Nat) (up : Bool) (w : World) (h : R64 w u X) (hX : blen X ≤ 400000) (hp : p ≤ 100000) (he1 : -1000000000000 ≤ e) (he2 : e ≤ 1000000000000) (hT : TabAt w)
include h hX hp he1 he2 hT in
theorem cut_yes (hz : (cutS neg X e rest p up).2 = 0) : Calls Tryd.prog 68 #[.bool neg, u, .int .i64 e, .bool rest, .int .i64 (p : Int), .bool up] w fun y w' => DyRet w' y (cutS neg X e rest p up).1 ∧ Below w.heap.size w w' :=
  (cut_any neg u X e rest p up w h hX hp he1 he2 hT).mono fun _ _ ⟨hb, hh⟩ => hh.elim (fun ⟨_, v, hv, hr⟩ => ⟨DyRet.of ⟨v, hv, hr⟩, hb⟩) (fun ⟨hn, _⟩ => absurd hz hn)
include h hX hp he1 he2 hT in
theorem cut_no (hz : (cutS neg X e rest p up).2 ≠ 0) : Calls Tryd.prog 68 #[.bool neg, u, .int .i64 e, .bool rest, .int .i64 (p : Int), .bool up] w fun y w' => y = .panicked (failDR (cutS neg X e rest p up).2) ∧ Below w.heap.size w w' :=
  (cut_any neg u X e rest p up w h hX hp he1 he2 hT).mono fun _ _ ⟨hb, hh⟩ => hh.elim (fun ⟨hn, _⟩ => absurd hn hz) (fun ⟨_, _, hv⟩ => ⟨hv, hb⟩)
end
theorem cutS_err {neg : Bool} {X : Nat} {e : Int} {rest : Bool} {p : Nat} {up : Bool} (h : (cutS neg X e rest p up).2 ≠ 0) : (cutS neg X e rest p up).1 = Dy.zero := fitS_err h
theorem blen_m {d : Dy} {w : World} {u : Value} (r : RdD w u d) (h : mayD d = true) : blen (val BB d.m) ≤ 4096 := mayD_blen r.lim h
theorem blen_shift {X k : Nat} (h : blen X ≤ 4096) (hk : k ≤ 20000) : blen (X * 2 ^ k) ≤ 24096 := by
  rcases Nat.eq_zero_or_pos X with rfl | h0
  · rw [Nat.zero_mul, blen_zero]; omega
  · rw [blen_mul_pow (by omega)]; omega
theorem val_pos {d : Dy} (hl : Lim BB d.m) (hm : mayD d = true) (h : decide ((0 : Int) < (d.m.length : Int)) = true) : 0 < val BB d.m := by
  rcases Nat.eq_zero_or_pos (val BB d.m) with h0 | h0
  · have hc := (mayD_limbs hm).1
    have := of_decide_eq_true h
    have h2 := limbs_of BB_gt1 hl hc rfl
    rw [h0, limbs_zero] at h2
    rw [← h2] at this
    simp at this
  · exact h0

def tr_rdir1 : Sx.Tree := .load 3 (.lf 0) .one (.load 26 (.lf 1) (.ag 3) (.row 26 [.lf 4, .lf 5, .lf 6] 1 [] (.call 64 [.one (.lf 3), .one (.lf 7)] (.tup []) (.prim (.fld 0) [.lf 1] (.load 4 (.lf 8) .one (.prim (.fld 1) [.lf 1] (.load 24 (.lf 10) .one (.prim (.fld 2) [.lf 1] (.load 3 (.lf 12) .one (.load 3 (.lf 0) .one (.load 4 (.lf 2) .one (.call 68 [.one (.lf 9), .one (.lf 11), .one (.lf 13), .one (.bit false), .one (.lf 14), .one (.lf 15)] (.ag 3) (.chk [.lf 16, .lf 17, .lf 18] (.ret (.ag [.lf 16, .lf 17, .lf 18])))))))))))))))
theorem tr_rdir1_eq : Sx.treeAt Tryd.prog 90 [] [] [(false, 1), (false, 1), (false, 1)] = some tr_rdir1 := by kernel_rfl

set_option maxRecDepth 100000 in
set_option maxHeartbeats 4000000 in
theorem directed1_any (gg1 : Nat) (t_gg1 : TypeId) (gg2 : Nat) (t_gg2 : TypeId) (gg3 : Nat) (t_gg3 : TypeId) (p : Int) (d : Dy) (up : Bool) (A : Option Addr) (n c : Nat) (W : World) (B1 : Box W gg1 [.int .i64 p] t_gg1) (B2 : Box W gg2 [.bool d.neg, .slice A n c, .int .i64 d.e] t_gg2) (B3 : Box W gg3 [.bool up] t_gg3) (r_d : RdD W (.agg #[.bool d.neg, .slice A n c, .int .i64 d.e]) d) (hT : TabAt W) :
    Calls Tryd.prog 90 #[.pointer (some ⟨gg1, 0, none⟩), .pointer (some ⟨gg2, 0, none⟩), .pointer (some ⟨gg3, 0, none⟩)] W (FitPostR W (dirS d (p) up)) := by
  have fin : ∀ (x : Ending) (w' : World), (Below W.heap.size W w' ∧ ((∃ v, x = .returned v ∧ ((dirS d (p) up).2 = 0 ∧ RdD w' v (dirS d (p) up).1)) ∨ ∃ c, x = .panicked c ∧ ((dirS d (p) up).2 ≠ 0 ∧ (dirS d (p) up).1 = Dy.zero ∧ c = failDR (dirS d (p) up).2))) → FitPostR W (dirS d (p) up) x w' := by
    rintro x w' ⟨hb, ⟨v, rfl, h1, h2⟩ | ⟨c, rfl, h1, h2, rfl⟩⟩
    · exact ⟨hb, .inl ⟨h1, v, rfl, h2⟩⟩
    · exact ⟨hb, .inr ⟨h1, h2, rfl⟩⟩
  cases hm : mayS p [d]
  · have hS : dirS d p up = (Dy.zero, 1) := by unfold dirS; rw [hm]; rfl
    refine (Sx.runAt [] [] (ls := [.pointer (some ⟨gg1, 0, none⟩), .pointer (some ⟨gg2, 0, none⟩), .pointer (some ⟨gg3, 0, none⟩)]) (shs := [(false, 1), (false, 1), (false, 1)]) (R := fun v w' => (dirS d (p) up).2 = 0 ∧ RdD w' v (dirS d (p) up).1) (Pn := fun c _ => (dirS d (p) up).2 ≠ 0 ∧ (dirS d (p) up).1 = Dy.zero ∧ c = failDR (dirS d (p) up).2) tr_rdir1_eq rfl (by decide) (fun q h => by cases h) ?_).mono fin
    clear fin
    unfold tr_rdir1
    refine sat_cap1 (off := 0) (.int .i64 p) B1 (by kernel_rfl) (by kernel_rfl) (by kernel_rfl) ?_
    refine sat_capA (off := 0) [.bool d.neg, .slice A n c, .int .i64 d.e] B2 (by kernel_rfl) (by kernel_rfl) rfl (by kernel_rfl) (by kernel_rfl) ?_
    refine sat_rowN [.bool d.neg, .slice A n c, .int .i64 d.e] (by kernel_rfl) (by intro x hx; cases hx) fun u1 h1 B1 N1 => ?_
    replace r_d := h1.rdD r_d
    have F_R1 : Sx.Rows Sx.kD (Sx.NB _) _ (some ⟨u1.heap.size, 0, none⟩) 1 1 [d] := rows_one (k := Sx.kD) B1 N1 ⟨_, _, _, rfl, r_d⟩
    generalize u1.heap.size = N_R1 at *
    generalize (u1.alloc _) = w_R1 at *
    clear B1 h1 N1
    refine sat_callP #[.int .i64 p, .slice (some ⟨N_R1, 0, none⟩) 1 1] (by kernel_rfl) fun w1 h1 => ?_
    exact (mayR_no ((F_R1.mv h1.mv).any) hm).mono fun e w2 ⟨he, hb⟩ => ⟨_, he, hb, by rw [hS]; exact ⟨by decide, rfl, rfl⟩⟩
  · obtain ⟨q, rfl, hq1, hq2⟩ := mayS_nat hm
    have hm_d := mayS_all hm d (by simp)
    have hbd := blen_m r_d hm_d
    have hed := (mayD_limbs hm_d).2.2
    have hS : dirS d ((q : Nat) : Int) up = cutS d.neg (val BB d.m) d.e false q up := by unfold dirS; rw [hm]; rfl
    refine (Sx.runAt [] [] (ls := [.pointer (some ⟨gg1, 0, none⟩), .pointer (some ⟨gg2, 0, none⟩), .pointer (some ⟨gg3, 0, none⟩)]) (shs := [(false, 1), (false, 1), (false, 1)]) (R := fun v w' => (dirS d (((q : Nat) : Int)) up).2 = 0 ∧ RdD w' v (dirS d (((q : Nat) : Int)) up).1) (Pn := fun c _ => (dirS d (((q : Nat) : Int)) up).2 ≠ 0 ∧ (dirS d (((q : Nat) : Int)) up).1 = Dy.zero ∧ c = failDR (dirS d (((q : Nat) : Int)) up).2) tr_rdir1_eq rfl (by decide) (fun q h => by cases h) ?_).mono fin
    clear fin
    unfold tr_rdir1
    refine sat_cap1 (off := 0) (.int .i64 ((q : Nat) : Int)) B1 (by kernel_rfl) (by kernel_rfl) (by kernel_rfl) ?_
    refine sat_capA (off := 0) [.bool d.neg, .slice A n c, .int .i64 d.e] B2 (by kernel_rfl) (by kernel_rfl) rfl (by kernel_rfl) (by kernel_rfl) ?_
    refine sat_rowN [.bool d.neg, .slice A n c, .int .i64 d.e] (by kernel_rfl) (by intro x hx; cases hx) fun u1 h1 B1 N1 => ?_
    replace r_d := h1.rdD r_d
    have F_R1 : Sx.Rows Sx.kD (Sx.NB _) _ (some ⟨u1.heap.size, 0, none⟩) 1 1 [d] := rows_one (k := Sx.kD) B1 N1 ⟨_, _, _, rfl, r_d⟩
    generalize u1.heap.size = N_R1 at *
    generalize (u1.alloc _) = w_R1 at *
    clear B1 h1 N1
    refine sat_call #[.int .i64 ((q : Nat) : Int), .slice (some ⟨N_R1, 0, none⟩) 1 1] (by kernel_rfl) fun w1 h1 => ?_
    refine (mayR_yes ((F_R1.mv h1.mv).any) hm).mono ?_
    rintro e v1 ⟨rfl, hb1⟩
    refine ⟨hb1, [], _, rfl, by kernel_rfl, by kernel_rfl, fun g1 => ?_⟩
    replace r_d := g1.rdD r_d; replace F_R1 := F_R1.mv g1.mv
    clear h1 hb1
    refine sat_prim (v := .pointer (some ⟨gg2, 0, none⟩)) (by kernel_rfl) ?_
    refine sat_cap1 (off := 0) (.bool d.neg) B2 (by kernel_rfl) (by kernel_rfl) (by kernel_rfl) ?_
    refine sat_prim (v := .pointer (some ⟨gg2, 1, none⟩)) (by kernel_rfl) ?_
    refine sat_cap1 (off := 1) (.slice A n c) B2 (by kernel_rfl) (by kernel_rfl) (by kernel_rfl) ?_
    refine sat_prim (v := .pointer (some ⟨gg2, 2, none⟩)) (by kernel_rfl) ?_
    refine sat_cap1 (off := 2) (.int .i64 d.e) B2 (by kernel_rfl) (by kernel_rfl) (by kernel_rfl) ?_
    refine sat_cap1 (off := 0) (.int .i64 ((q : Nat) : Int)) B1 (by kernel_rfl) (by kernel_rfl) (by kernel_rfl) ?_
    refine sat_cap1 (off := 0) (.bool up) B3 (by kernel_rfl) (by kernel_rfl) (by kernel_rfl) ?_
    have r_m := mayD_rd r_d.length.2 r_d.lim hm_d
    cases hz0 : decide ((cutS d.neg (val BB d.m) (d.e) (false) q up).2 = 0)
    · have hz := of_decide_eq_false hz0
      refine sat_callP #[.bool d.neg, .slice A n c, .int .i64 d.e, .bool false, .int .i64 ((q : Nat) : Int), .bool up] (by kernel_rfl) fun w1 h1 => ?_
      exact (cut_no d.neg _ (val BB d.m) (d.e) (false) q up _ (h1.r64 r_m) (by omega) (by omega) (by omega) (by omega) (h1.tab hT) hz).mono fun e w2 ⟨he, hb⟩ => ⟨_, he, hb, by rw [hS]; exact ⟨hz, cutS_err hz, rfl⟩⟩
    · have hz := of_decide_eq_true hz0
      refine sat_call #[.bool d.neg, .slice A n c, .int .i64 d.e, .bool false, .int .i64 ((q : Nat) : Int), .bool up] (by kernel_rfl) fun w2 h2 => ?_
      refine (cut_yes d.neg _ (val BB d.m) (d.e) (false) q up _ (h2.r64 r_m) (by omega) (by omega) (by omega) (by omega) (h2.tab hT) hz).mono ?_
      rintro e v2 ⟨⟨A_z, n_z, c_z, rfl, r_z⟩, hb2⟩
      refine ⟨hb2, [.bool (cutS d.neg (val BB d.m) (d.e) (false) q up).1.neg, .slice A_z n_z c_z, .int .i64 (cutS d.neg (val BB d.m) (d.e) (false) q up).1.e], _, rfl, by kernel_rfl, by kernel_rfl, fun g2 => ?_⟩
      replace r_d := g2.rdD r_d; replace r_m := g2.r64 r_m
      clear h2 hb2
      refine sat_chkB (by kernel_rfl) ?_
      exact sat_ret (.agg #[.bool (cutS d.neg (val BB d.m) (d.e) (false) q up).1.neg, .slice A_z n_z c_z, .int .i64 (cutS d.neg (val BB d.m) (d.e) (false) q up).1.e]) (by kernel_rfl) fun w9 h9 => ⟨by rw [hS]; exact hz, by rw [hS]; exact h9.rdD r_z⟩

theorem R64.zero_iff {w : World} {A : Option Addr} {n c X : Nat} (h : R64 w (.slice A n c) X) : 0 < n ↔ X ≠ 0 := by
  obtain ⟨A', n', c', e, hr, hl⟩ := h.limb
  injection e with e1 e2 e3
  subst e1 e2 e3
  rw [← hl]
  constructor
  · intro h0 h1
    rw [h1, limbs_zero] at h0
    simp at h0
  · intro h0
    rcases Nat.eq_zero_or_pos (limbs BB X).length with h1 | h1
    · exfalso
      apply h0
      rw [← limbs_val BB_gt1 X, List.length_eq_zero_iff.1 h1]
      rfl
    · exact h1
theorem rest_dec {n X : Nat} (h : 0 < n ↔ X ≠ 0) : decide ((0 : Int) < (n : Int)) = decide (X ≠ 0) := by
  rw [decide_eq_decide, ← h]
  omega

theorem two_slc {w : World} {e : Ending} {X Y : Nat} (h : Two w e X Y) : ∃ A n c B m d, e = .returned (.tuple #[.slice A n c, .slice B m d]) ∧ R64 w (.slice A n c) X ∧ R64 w (.slice B m d) Y := by
  obtain ⟨u, v, he, h1, h2⟩ := h
  have k1 := h1
  have k2 := h2
  obtain ⟨A, n, c, rfl, _⟩ := h1
  obtain ⟨B, m, d, rfl, _⟩ := h2
  exact ⟨A, n, c, B, m, d, he, k1, k2⟩

def tr_rquot1 : Sx.Tree := .load 3 (.lf 0) .one (.load 26 (.lf 1) (.ag 3) (.load 26 (.lf 2) (.ag 3) (.row 26 [.lf 5, .lf 6, .lf 7, .lf 8, .lf 9, .lf 10] 2 [] (.call 64 [.one (.lf 4), .one (.lf 11)] (.tup []) (.prim (.fld 1) [.lf 2] (.load 24 (.lf 12) .one (.prim .len [.lf 13] (.prim (.bin .gtr) [.lf 14, .num .i64 0] (.call 65 [.one (.lf 15), .one (.num .i64 4)] (.tup []) (.load 3 (.lf 0) .one (.prim (.bin .add) [.lf 16, .num .i64 1] (.prim (.fld 1) [.lf 2] (.load 24 (.lf 18) .one (.prim (.fld 1) [.lf 1] (.load 24 (.lf 20) .one (.call 53 [.one (.lf 19)] .one (.prim (.bin .add) [.lf 17, .lf 22] (.call 53 [.one (.lf 21)] .one (.prim (.bin .sub) [.lf 23, .lf 24] (.prim .max [.num .i64 0, .lf 25] (.prim (.fld 1) [.lf 1] (.load 24 (.lf 27) .one (.prim (.fld 1) [.lf 2] (.load 24 (.lf 29) .one (.call 67 [.one (.lf 28), .one (.lf 26)] .one (.call 66 [.one (.lf 31), .one (.lf 30)] (.tup [(false, 1), (false, 1)]) (.prim (.fld 0) [.lf 1] (.load 4 (.lf 34) .one (.prim (.fld 0) [.lf 2] (.load 4 (.lf 36) .one (.prim (.bbin .neq) [.lf 35, .lf 37] (.prim (.fld 2) [.lf 1] (.load 3 (.lf 39) .one (.prim (.fld 2) [.lf 2] (.load 3 (.lf 41) .one (.prim (.bin .sub) [.lf 40, .lf 42] (.prim (.bin .sub) [.lf 43, .lf 26] (.prim .len [.lf 33] (.prim (.bin .gtr) [.lf 45, .num .i64 0] (.load 3 (.lf 0) .one (.load 4 (.lf 3) .one (.call 68 [.one (.lf 38), .one (.lf 32), .one (.lf 44), .one (.lf 46), .one (.lf 47), .one (.lf 48)] (.ag 3) (.chk [.lf 49, .lf 50, .lf 51] (.ret (.ag [.lf 49, .lf 50, .lf 51])))))))))))))))))))))))))))))))))))))))))))))
theorem tr_rquot1_eq : Sx.treeAt Tryd.prog 63 [] [] [(false, 1), (false, 1), (false, 1), (false, 1)] = some tr_rquot1 := by kernel_rfl

set_option maxRecDepth 100000 in
set_option maxHeartbeats 4000000 in
theorem quot1_any (gg1 : Nat) (t_gg1 : TypeId) (gg2 : Nat) (t_gg2 : TypeId) (gg3 : Nat) (t_gg3 : TypeId) (gg4 : Nat) (t_gg4 : TypeId) (p : Int) (a b : Dy) (up : Bool) (Aa : Option Addr) (na ca : Nat) (Ab : Option Addr) (nb cb : Nat) (W : World) (B1 : Box W gg1 [.int .i64 p] t_gg1) (B2 : Box W gg2 [.bool a.neg, .slice Aa na ca, .int .i64 a.e] t_gg2) (B3 : Box W gg3 [.bool b.neg, .slice Ab nb cb, .int .i64 b.e] t_gg3) (B4 : Box W gg4 [.bool up] t_gg4) (r_a : RdD W (.agg #[.bool a.neg, .slice Aa na ca, .int .i64 a.e]) a) (r_b : RdD W (.agg #[.bool b.neg, .slice Ab nb cb, .int .i64 b.e]) b) (hT : TabAt W) :
    Calls Tryd.prog 63 #[.pointer (some ⟨gg1, 0, none⟩), .pointer (some ⟨gg2, 0, none⟩), .pointer (some ⟨gg3, 0, none⟩), .pointer (some ⟨gg4, 0, none⟩)] W (FitPostR W (quotS a b (p) up)) := by
  have fin : ∀ (x : Ending) (w' : World), (Below W.heap.size W w' ∧ ((∃ v, x = .returned v ∧ ((quotS a b (p) up).2 = 0 ∧ RdD w' v (quotS a b (p) up).1)) ∨ ∃ c, x = .panicked c ∧ ((quotS a b (p) up).2 ≠ 0 ∧ (quotS a b (p) up).1 = Dy.zero ∧ c = failDR (quotS a b (p) up).2))) → FitPostR W (quotS a b (p) up) x w' := by
    rintro x w' ⟨hb, ⟨v, rfl, h1, h2⟩ | ⟨c, rfl, h1, h2, rfl⟩⟩
    · exact ⟨hb, .inl ⟨h1, v, rfl, h2⟩⟩
    · exact ⟨hb, .inr ⟨h1, h2, rfl⟩⟩
  cases hm : mayS p [a, b]
  · have hS : quotS a b p up = (Dy.zero, 1) := by unfold quotS; rw [hm]; rfl
    refine (Sx.runAt [] [] (ls := [.pointer (some ⟨gg1, 0, none⟩), .pointer (some ⟨gg2, 0, none⟩), .pointer (some ⟨gg3, 0, none⟩), .pointer (some ⟨gg4, 0, none⟩)]) (shs := [(false, 1), (false, 1), (false, 1), (false, 1)]) (R := fun v w' => (quotS a b (p) up).2 = 0 ∧ RdD w' v (quotS a b (p) up).1) (Pn := fun c _ => (quotS a b (p) up).2 ≠ 0 ∧ (quotS a b (p) up).1 = Dy.zero ∧ c = failDR (quotS a b (p) up).2) tr_rquot1_eq rfl (by decide) (fun q h => by cases h) ?_).mono fin
    clear fin
    unfold tr_rquot1
    refine sat_cap1 (off := 0) (.int .i64 p) B1 (by kernel_rfl) (by kernel_rfl) (by kernel_rfl) ?_
    refine sat_capA (off := 0) [.bool a.neg, .slice Aa na ca, .int .i64 a.e] B2 (by kernel_rfl) (by kernel_rfl) rfl (by kernel_rfl) (by kernel_rfl) ?_
    refine sat_capA (off := 0) [.bool b.neg, .slice Ab nb cb, .int .i64 b.e] B3 (by kernel_rfl) (by kernel_rfl) rfl (by kernel_rfl) (by kernel_rfl) ?_
    refine sat_rowN [.bool a.neg, .slice Aa na ca, .int .i64 a.e, .bool b.neg, .slice Ab nb cb, .int .i64 b.e] (by kernel_rfl) (by intro x hx; cases hx) fun u1 h1 B1 N1 => ?_
    replace r_a := h1.rdD r_a; replace r_b := h1.rdD r_b
    have F_R1 : Sx.Rows Sx.kD (Sx.NB _) _ (some ⟨u1.heap.size, 0, none⟩) 2 2 [a, b] := rows_two (k := Sx.kD) (cs := [.bool a.neg, .slice Aa na ca, .int .i64 a.e]) B1 N1 ⟨_, _, _, rfl, r_a⟩ ⟨_, _, _, rfl, r_b⟩
    generalize u1.heap.size = N_R1 at *
    generalize (u1.alloc _) = w_R1 at *
    clear B1 h1 N1
    refine sat_callP #[.int .i64 p, .slice (some ⟨N_R1, 0, none⟩) 2 2] (by kernel_rfl) fun w1 h1 => ?_
    exact (mayR_no ((F_R1.mv h1.mv).any) hm).mono fun e w2 ⟨he, hb⟩ => ⟨_, he, hb, by rw [hS]; exact ⟨by decide, rfl, rfl⟩⟩
  · obtain ⟨q, rfl, hq1, hq2⟩ := mayS_nat hm
    have hm_a := mayS_all hm a (by simp)
    have hm_b := mayS_all hm b (by simp)
    have hba := blen_m r_a hm_a
    have hbb := blen_m r_b hm_b
    have hea := (mayD_limbs hm_a).2.2
    have heb := (mayD_limbs hm_b).2.2
    have hnb := r_b.length.1
    obtain ⟨k, hk⟩ : ∃ k, k = quotK (val BB a.m) (val BB b.m) q := ⟨_, rfl⟩
    have hk2 : k ≤ 20000 := by rw [hk]; unfold quotK; omega
    have hS0 : decide ((0 : Int) < (b.m.length : Int)) = false → quotS a b ((q : Nat) : Int) up = (Dy.zero, 4) := by intro hy; unfold quotS; rw [hm, hy]; rfl
    have hS1 : decide ((0 : Int) < (b.m.length : Int)) = true → quotS a b ((q : Nat) : Int) up = cutS (!(a.neg == b.neg)) (val BB a.m * 2 ^ k / val BB b.m) (a.e - b.e - (k : Int)) (decide (val BB a.m * 2 ^ k % val BB b.m ≠ 0)) q up := by intro hy; unfold quotS; rw [hm, hy, hk]; rfl
    unfold quotK at hk
    refine (Sx.runAt [] [] (ls := [.pointer (some ⟨gg1, 0, none⟩), .pointer (some ⟨gg2, 0, none⟩), .pointer (some ⟨gg3, 0, none⟩), .pointer (some ⟨gg4, 0, none⟩)]) (shs := [(false, 1), (false, 1), (false, 1), (false, 1)]) (R := fun v w' => (quotS a b (((q : Nat) : Int)) up).2 = 0 ∧ RdD w' v (quotS a b (((q : Nat) : Int)) up).1) (Pn := fun c _ => (quotS a b (((q : Nat) : Int)) up).2 ≠ 0 ∧ (quotS a b (((q : Nat) : Int)) up).1 = Dy.zero ∧ c = failDR (quotS a b (((q : Nat) : Int)) up).2) tr_rquot1_eq rfl (by decide) (fun q h => by cases h) ?_).mono fin
    clear fin
    unfold tr_rquot1
    refine sat_cap1 (off := 0) (.int .i64 ((q : Nat) : Int)) B1 (by kernel_rfl) (by kernel_rfl) (by kernel_rfl) ?_
    refine sat_capA (off := 0) [.bool a.neg, .slice Aa na ca, .int .i64 a.e] B2 (by kernel_rfl) (by kernel_rfl) rfl (by kernel_rfl) (by kernel_rfl) ?_
    refine sat_capA (off := 0) [.bool b.neg, .slice Ab nb cb, .int .i64 b.e] B3 (by kernel_rfl) (by kernel_rfl) rfl (by kernel_rfl) (by kernel_rfl) ?_
    refine sat_rowN [.bool a.neg, .slice Aa na ca, .int .i64 a.e, .bool b.neg, .slice Ab nb cb, .int .i64 b.e] (by kernel_rfl) (by intro x hx; cases hx) fun u1 h1 B1 N1 => ?_
    replace r_a := h1.rdD r_a; replace r_b := h1.rdD r_b
    have F_R1 : Sx.Rows Sx.kD (Sx.NB _) _ (some ⟨u1.heap.size, 0, none⟩) 2 2 [a, b] := rows_two (k := Sx.kD) (cs := [.bool a.neg, .slice Aa na ca, .int .i64 a.e]) B1 N1 ⟨_, _, _, rfl, r_a⟩ ⟨_, _, _, rfl, r_b⟩
    generalize u1.heap.size = N_R1 at *
    generalize (u1.alloc _) = w_R1 at *
    clear B1 h1 N1
    refine sat_call #[.int .i64 ((q : Nat) : Int), .slice (some ⟨N_R1, 0, none⟩) 2 2] (by kernel_rfl) fun w1 h1 => ?_
    refine (mayR_yes ((F_R1.mv h1.mv).any) hm).mono ?_
    rintro e v1 ⟨rfl, hb1⟩
    refine ⟨hb1, [], _, rfl, by kernel_rfl, by kernel_rfl, fun g1 => ?_⟩
    replace r_a := g1.rdD r_a; replace r_b := g1.rdD r_b; replace F_R1 := F_R1.mv g1.mv
    clear h1 hb1
    refine sat_prim (v := .pointer (some ⟨gg3, 1, none⟩)) (by kernel_rfl) ?_
    refine sat_cap1 (off := 1) (.slice Ab nb cb) B3 (by kernel_rfl) (by kernel_rfl) (by kernel_rfl) ?_
    refine sat_prim (v := .int .i64 ((b.m.length : Nat) : Int)) (Eq.trans (b := some (.int .i64 ((nb : Nat) : Int))) (by kernel_rfl) (by rw [hnb])) ?_
    refine sat_prim (v := .bool (decide ((0 : Int) < ((b.m.length : Nat) : Int)))) (by kernel_rfl) ?_
    cases hy : (decide ((0 : Int) < ((b.m.length : Nat) : Int)))
    · refine sat_callP #[.bool false, .int .i64 4] (by kernel_rfl) fun w1 h1 => ?_
      exact (must_noR _ _).mono fun e w2 ⟨he, hw⟩ => ⟨_, he, hw ▸ Below.refl _ _, by rw [hS0 hy]; exact ⟨by decide, rfl, rfl⟩⟩
    · have hY0 := val_pos r_b.lim hm_b hy
      have hS := hS1 hy
      clear hS1
      refine sat_call #[.bool true, .int .i64 4] (by kernel_rfl) fun w2 h2 => ?_
      refine (must_yesB _ _).mono ?_
      rintro e v2 ⟨rfl, hb2⟩
      refine ⟨hb2, [], _, rfl, by kernel_rfl, by kernel_rfl, fun g2 => ?_⟩
      replace r_a := g2.rdD r_a; replace r_b := g2.rdD r_b
      clear h2 hb2
      refine sat_cap1 (off := 0) (.int .i64 ((q : Nat) : Int)) B1 (by kernel_rfl) (by kernel_rfl) (by kernel_rfl) ?_
      refine sat_prim (v := .int .i64 (((q : Nat) : Int) + 1)) (Eq.trans (b := some (.int .i64 (IntKind.i64.wrap ((((q : Nat) : Int) + 1))))) (by kernel_rfl) (by rw [IntWalk.i64_in _ (by omega)])) ?_
      refine sat_prim (v := .pointer (some ⟨gg3, 1, none⟩)) (by kernel_rfl) ?_
      refine sat_cap1 (off := 1) (.slice Ab nb cb) B3 (by kernel_rfl) (by kernel_rfl) (by kernel_rfl) ?_
      refine sat_prim (v := .pointer (some ⟨gg2, 1, none⟩)) (by kernel_rfl) ?_
      refine sat_cap1 (off := 1) (.slice Aa na ca) B2 (by kernel_rfl) (by kernel_rfl) (by kernel_rfl) ?_
      refine sat_call #[.slice Ab nb cb] (by kernel_rfl) fun w3 h3 => ?_
      refine (sizeB (mayD_rd (h3.rdD r_b).length.2 (h3.rdD r_b).lim hm_b) (by omega)).mono ?_
      rintro e v3 ⟨rfl, hb3⟩
      refine ⟨hb3, [.int .i64 ((blen (val BB b.m) : Nat) : Int)], _, rfl, by kernel_rfl, by kernel_rfl, fun g3 => ?_⟩
      replace r_a := g3.rdD r_a; replace r_b := g3.rdD r_b
      clear h3 hb3
      refine sat_prim (v := .int .i64 ((((q : Nat) : Int) + 1) + ((blen (val BB b.m) : Nat) : Int))) (Eq.trans (b := some (.int .i64 (IntKind.i64.wrap (((((q : Nat) : Int) + 1) + ((blen (val BB b.m) : Nat) : Int)))))) (by kernel_rfl) (by rw [IntWalk.i64_in _ (by omega)])) ?_
      refine sat_call #[.slice Aa na ca] (by kernel_rfl) fun w4 h4 => ?_
      refine (sizeB (mayD_rd (h4.rdD r_a).length.2 (h4.rdD r_a).lim hm_a) (by omega)).mono ?_
      rintro e v4 ⟨rfl, hb4⟩
      refine ⟨hb4, [.int .i64 ((blen (val BB a.m) : Nat) : Int)], _, rfl, by kernel_rfl, by kernel_rfl, fun g4 => ?_⟩
      replace r_a := g4.rdD r_a; replace r_b := g4.rdD r_b
      clear h4 hb4
      refine sat_prim (v := .int .i64 (((((q : Nat) : Int) + 1) + ((blen (val BB b.m) : Nat) : Int)) - ((blen (val BB a.m) : Nat) : Int))) (Eq.trans (b := some (.int .i64 (IntKind.i64.wrap ((((((q : Nat) : Int) + 1) + ((blen (val BB b.m) : Nat) : Int)) - ((blen (val BB a.m) : Nat) : Int)))))) (by kernel_rfl) (by rw [IntWalk.i64_in _ (by omega)])) ?_
      refine sat_prim (v := .int .i64 ((k : Nat) : Int)) (Eq.trans (b := some (.int .i64 (if (0 : Int) < (((((q : Nat) : Int) + 1) + ((blen (val BB b.m) : Nat) : Int)) - ((blen (val BB a.m) : Nat) : Int)) then (((((q : Nat) : Int) + 1) + ((blen (val BB b.m) : Nat) : Int)) - ((blen (val BB a.m) : Nat) : Int)) else 0))) (by kernel_rfl) (by rw [hk]; split <;> congr 2 <;> omega)) ?_
      refine sat_prim (v := .pointer (some ⟨gg2, 1, none⟩)) (by kernel_rfl) ?_
      refine sat_cap1 (off := 1) (.slice Aa na ca) B2 (by kernel_rfl) (by kernel_rfl) (by kernel_rfl) ?_
      refine sat_prim (v := .pointer (some ⟨gg3, 1, none⟩)) (by kernel_rfl) ?_
      refine sat_cap1 (off := 1) (.slice Ab nb cb) B3 (by kernel_rfl) (by kernel_rfl) (by kernel_rfl) ?_
      refine sat_call #[.slice Aa na ca, .int .i64 ((k : Nat) : Int)] (by kernel_rfl) fun w5 h5 => ?_
      refine (((leftI _ (val BB a.m) _ (mayD_rd (h5.rdD r_a).length.2 (h5.rdD r_a).lim hm_a) (by omega) k (by omega)).mono fun _ _ h => And.intro (slc h.1) h.2)).mono ?_
      rintro e v5 ⟨⟨A_q, n_q, c_q, rfl, r_q⟩, hb5⟩
      refine ⟨hb5, [.slice A_q n_q c_q], _, rfl, by kernel_rfl, by kernel_rfl, fun g5 => ?_⟩
      replace r_a := g5.rdD r_a; replace r_b := g5.rdD r_b
      clear h5 hb5
      refine sat_call #[.slice A_q n_q c_q, .slice Ab nb cb] (by kernel_rfl) fun w6 h6 => ?_
      refine (((quoI _ _ (val BB a.m * 2 ^ k) (val BB b.m) _ (h6.r64 r_q) (mayD_rd (h6.rdD r_b).length.2 (h6.rdD r_b).lim hm_b) (Nat.le_trans (blen_shift hba hk2) (by omega)) hY0).mono fun _ _ h => And.intro (two_slc h.1) h.2)).mono ?_
      rintro e v6 ⟨⟨A_d, n_d, c_d, A_r, n_r, c_r, rfl, r_d, r_r⟩, hb6⟩
      refine ⟨hb6, [.slice A_d n_d c_d, .slice A_r n_r c_r], _, rfl, by kernel_rfl, by kernel_rfl, fun g6 => ?_⟩
      replace r_a := g6.rdD r_a; replace r_b := g6.rdD r_b; replace r_q := g6.r64 r_q
      clear h6 hb6
      refine sat_prim (v := .pointer (some ⟨gg2, 0, none⟩)) (by kernel_rfl) ?_
      refine sat_cap1 (off := 0) (.bool a.neg) B2 (by kernel_rfl) (by kernel_rfl) (by kernel_rfl) ?_
      refine sat_prim (v := .pointer (some ⟨gg3, 0, none⟩)) (by kernel_rfl) ?_
      refine sat_cap1 (off := 0) (.bool b.neg) B3 (by kernel_rfl) (by kernel_rfl) (by kernel_rfl) ?_
      refine sat_prim (v := .bool (!(a.neg == b.neg))) (by kernel_rfl) ?_
      refine sat_prim (v := .pointer (some ⟨gg2, 2, none⟩)) (by kernel_rfl) ?_
      refine sat_cap1 (off := 2) (.int .i64 a.e) B2 (by kernel_rfl) (by kernel_rfl) (by kernel_rfl) ?_
      refine sat_prim (v := .pointer (some ⟨gg3, 2, none⟩)) (by kernel_rfl) ?_
      refine sat_cap1 (off := 2) (.int .i64 b.e) B3 (by kernel_rfl) (by kernel_rfl) (by kernel_rfl) ?_
      refine sat_prim (v := .int .i64 (a.e - b.e)) (Eq.trans (b := some (.int .i64 (IntKind.i64.wrap ((a.e - b.e))))) (by kernel_rfl) (by rw [IntWalk.i64_in _ (by omega)])) ?_
      refine sat_prim (v := .int .i64 ((a.e - b.e) - ((k : Nat) : Int))) (Eq.trans (b := some (.int .i64 (IntKind.i64.wrap (((a.e - b.e) - ((k : Nat) : Int)))))) (by kernel_rfl) (by rw [IntWalk.i64_in _ (by omega)])) ?_
      refine sat_prim (v := .int .i64 ((n_r : Nat) : Int)) (by kernel_rfl) ?_
      refine sat_prim (v := .bool (decide (val BB a.m * 2 ^ k % val BB b.m ≠ 0))) (Eq.trans (b := some (.bool (decide ((0 : Int) < ((n_r : Nat) : Int))))) (by kernel_rfl) (by rw [rest_dec r_r.zero_iff])) ?_
      refine sat_cap1 (off := 0) (.int .i64 ((q : Nat) : Int)) B1 (by kernel_rfl) (by kernel_rfl) (by kernel_rfl) ?_
      refine sat_cap1 (off := 0) (.bool up) B4 (by kernel_rfl) (by kernel_rfl) (by kernel_rfl) ?_
      cases hz0 : decide ((cutS (!(a.neg == b.neg)) (val BB a.m * 2 ^ k / val BB b.m) (a.e - b.e - (k : Int)) (decide (val BB a.m * 2 ^ k % val BB b.m ≠ 0)) q up).2 = 0)
      · have hz := of_decide_eq_false hz0
        refine sat_callP #[.bool (!(a.neg == b.neg)), .slice A_d n_d c_d, .int .i64 ((a.e - b.e) - ((k : Nat) : Int)), .bool (decide (val BB a.m * 2 ^ k % val BB b.m ≠ 0)), .int .i64 ((q : Nat) : Int), .bool up] (by kernel_rfl) fun w1 h1 => ?_
        exact (cut_no (!(a.neg == b.neg)) _ (val BB a.m * 2 ^ k / val BB b.m) (a.e - b.e - (k : Int)) (decide (val BB a.m * 2 ^ k % val BB b.m ≠ 0)) q up _ (h1.r64 r_d) (Nat.le_trans (blen_mono (Nat.div_le_self _ _)) (Nat.le_trans (blen_shift hba hk2) (by omega))) (by omega) (by omega) (by omega) (h1.tab hT) hz).mono fun e w2 ⟨he, hb⟩ => ⟨_, he, hb, by rw [hS]; exact ⟨hz, cutS_err hz, rfl⟩⟩
      · have hz := of_decide_eq_true hz0
        refine sat_call #[.bool (!(a.neg == b.neg)), .slice A_d n_d c_d, .int .i64 ((a.e - b.e) - ((k : Nat) : Int)), .bool (decide (val BB a.m * 2 ^ k % val BB b.m ≠ 0)), .int .i64 ((q : Nat) : Int), .bool up] (by kernel_rfl) fun w7 h7 => ?_
        refine (cut_yes (!(a.neg == b.neg)) _ (val BB a.m * 2 ^ k / val BB b.m) (a.e - b.e - (k : Int)) (decide (val BB a.m * 2 ^ k % val BB b.m ≠ 0)) q up _ (h7.r64 r_d) (Nat.le_trans (blen_mono (Nat.div_le_self _ _)) (Nat.le_trans (blen_shift hba hk2) (by omega))) (by omega) (by omega) (by omega) (h7.tab hT) hz).mono ?_
        rintro e v7 ⟨⟨A_z, n_z, c_z, rfl, r_z⟩, hb7⟩
        refine ⟨hb7, [.bool (cutS (!(a.neg == b.neg)) (val BB a.m * 2 ^ k / val BB b.m) (a.e - b.e - (k : Int)) (decide (val BB a.m * 2 ^ k % val BB b.m ≠ 0)) q up).1.neg, .slice A_z n_z c_z, .int .i64 (cutS (!(a.neg == b.neg)) (val BB a.m * 2 ^ k / val BB b.m) (a.e - b.e - (k : Int)) (decide (val BB a.m * 2 ^ k % val BB b.m ≠ 0)) q up).1.e], _, rfl, by kernel_rfl, by kernel_rfl, fun g7 => ?_⟩
        replace r_a := g7.rdD r_a; replace r_b := g7.rdD r_b; replace r_q := g7.r64 r_q; replace r_d := g7.r64 r_d; replace r_r := g7.r64 r_r
        clear h7 hb7
        refine sat_chkB (by kernel_rfl) ?_
        exact sat_ret (.agg #[.bool (cutS (!(a.neg == b.neg)) (val BB a.m * 2 ^ k / val BB b.m) (a.e - b.e - (k : Int)) (decide (val BB a.m * 2 ^ k % val BB b.m ≠ 0)) q up).1.neg, .slice A_z n_z c_z, .int .i64 (cutS (!(a.neg == b.neg)) (val BB a.m * 2 ^ k / val BB b.m) (a.e - b.e - (k : Int)) (decide (val BB a.m * 2 ^ k % val BB b.m ≠ 0)) q up).1.e]) (by kernel_rfl) fun w9 h9 => ⟨by rw [hS]; exact hz, by rw [hS]; exact h9.rdD r_z⟩

theorem cmpN_ne (X Y : Nat) : (cmpN X Y != 0) = decide (X ≠ Y) := by
  unfold cmpN
  repeat' split
  all_goals simp_all <;> omega
theorem tdiv2 {x a : Int} (h1 : -a ≤ x) (h2 : x ≤ a) : -a ≤ x.tdiv 2 ∧ x.tdiv 2 ≤ a := by
  rcases Int.le_total 0 x with h | h
  · rw [Int.tdiv_eq_ediv_of_nonneg h]; omega
  · have e : x = -(-x) := by omega
    rw [e, Int.neg_tdiv, Int.tdiv_eq_ediv_of_nonneg (by omega)]; omega
theorem blen_root {X k : Nat} (h : blen X ≤ 4096) (hk : k ≤ 20000) : blen (nroot (X * 2 ^ k)) ≤ 24096 := by
  refine Nat.le_trans (blen_mono ?_) (blen_shift h hk)
  have := (nroot_spec (X * 2 ^ k)).1
  rcases Nat.eq_zero_or_pos (nroot (X * 2 ^ k)) with h0 | h0
  · omega
  · exact Nat.le_trans (Nat.le_mul_of_pos_left _ h0) this

def tr_rroot1 : Sx.Tree := .load 3 (.lf 0) .one (.load 26 (.lf 1) (.ag 3) (.row 26 [.lf 4, .lf 5, .lf 6] 1 [] (.call 64 [.one (.lf 3), .one (.lf 7)] (.tup []) (.prim (.fld 0) [.lf 1] (.load 4 (.lf 8) .one (.prim .not [.lf 9] (.call 65 [.one (.lf 10), .one (.num .i64 4)] (.tup []) (.load 3 (.lf 0) .one (.prim (.bin .mul) [.num .i64 2, .lf 11] (.prim (.bin .add) [.lf 12, .num .i64 2] (.prim (.fld 1) [.lf 1] (.load 24 (.lf 14) .one (.call 53 [.one (.lf 15)] .one (.prim (.bin .sub) [.lf 13, .lf 16] (.prim .max [.num .i64 0, .lf 17] (.prim (.fld 2) [.lf 1] (.load 3 (.lf 19) .one (.prim (.bin .sub) [.lf 20, .lf 18] (.prim (.bin .rem) [.lf 21, .num .i64 2] (.prim (.bin .neq) [.lf 22, .num .i64 0] (.ite (.lf 23) (.prim (.bin .add) [.lf 18, .num .i64 1] (.prim (.fld 1) [.lf 1] (.load 24 (.lf 25) .one (.call 67 [.one (.lf 26), .one (.lf 24)] .one (.call 72 [.one (.lf 27)] .one (.prim (.fld 2) [.lf 1] (.load 3 (.lf 29) .one (.prim (.bin .sub) [.lf 30, .lf 24] (.prim (.bin .quo) [.lf 31, .num .i64 2] (.load 3 (.lf 0) .one (.load 4 (.lf 2) .one (.call 74 [.one (.lf 28), .one (.lf 28)] .one (.call 73 [.one (.lf 35), .one (.lf 27)] .one (.prim (.bin .neq) [.lf 36, .num .i64 0] (.call 68 [.one (.bit false), .one (.lf 28), .one (.lf 32), .one (.lf 37), .one (.lf 33), .one (.lf 34)] (.ag 3) (.chk [.lf 38, .lf 39, .lf 40] (.ret (.ag [.lf 38, .lf 39, .lf 40])))))))))))))))))) (.prim (.fld 1) [.lf 1] (.load 24 (.lf 24) .one (.call 67 [.one (.lf 25), .one (.lf 18)] .one (.call 72 [.one (.lf 26)] .one (.prim (.fld 2) [.lf 1] (.load 3 (.lf 28) .one (.prim (.bin .sub) [.lf 29, .lf 18] (.prim (.bin .quo) [.lf 30, .num .i64 2] (.load 3 (.lf 0) .one (.load 4 (.lf 2) .one (.call 74 [.one (.lf 27), .one (.lf 27)] .one (.call 73 [.one (.lf 34), .one (.lf 26)] .one (.prim (.bin .neq) [.lf 35, .num .i64 0] (.call 68 [.one (.bit false), .one (.lf 27), .one (.lf 31), .one (.lf 36), .one (.lf 32), .one (.lf 33)] (.ag 3) (.chk [.lf 37, .lf 38, .lf 39] (.ret (.ag [.lf 37, .lf 38, .lf 39]))))))))))))))))))))))))))))))))))))))
theorem tr_rroot1_eq : Sx.treeAt Tryd.prog 71 [] [] [(false, 1), (false, 1), (false, 1)] = some tr_rroot1 := by kernel_rfl

set_option maxRecDepth 100000 in
set_option maxHeartbeats 4000000 in
theorem root1_any (gg1 : Nat) (t_gg1 : TypeId) (gg2 : Nat) (t_gg2 : TypeId) (gg3 : Nat) (t_gg3 : TypeId) (p : Int) (d : Dy) (up : Bool) (A : Option Addr) (n c : Nat) (W : World) (B1 : Box W gg1 [.int .i64 p] t_gg1) (B2 : Box W gg2 [.bool d.neg, .slice A n c, .int .i64 d.e] t_gg2) (B3 : Box W gg3 [.bool up] t_gg3) (r_d : RdD W (.agg #[.bool d.neg, .slice A n c, .int .i64 d.e]) d) (hT : TabAt W) :
    Calls Tryd.prog 71 #[.pointer (some ⟨gg1, 0, none⟩), .pointer (some ⟨gg2, 0, none⟩), .pointer (some ⟨gg3, 0, none⟩)] W (FitPostR W (rootS d (p) up)) := by
  have fin : ∀ (x : Ending) (w' : World), (Below W.heap.size W w' ∧ ((∃ v, x = .returned v ∧ ((rootS d (p) up).2 = 0 ∧ RdD w' v (rootS d (p) up).1)) ∨ ∃ c, x = .panicked c ∧ ((rootS d (p) up).2 ≠ 0 ∧ (rootS d (p) up).1 = Dy.zero ∧ c = failDR (rootS d (p) up).2))) → FitPostR W (rootS d (p) up) x w' := by
    rintro x w' ⟨hb, ⟨v, rfl, h1, h2⟩ | ⟨c, rfl, h1, h2, rfl⟩⟩
    · exact ⟨hb, .inl ⟨h1, v, rfl, h2⟩⟩
    · exact ⟨hb, .inr ⟨h1, h2, rfl⟩⟩
  cases hm : mayS p [d]
  · have hS : rootS d p up = (Dy.zero, 1) := by unfold rootS; rw [hm]; rfl
    refine (Sx.runAt [] [] (ls := [.pointer (some ⟨gg1, 0, none⟩), .pointer (some ⟨gg2, 0, none⟩), .pointer (some ⟨gg3, 0, none⟩)]) (shs := [(false, 1), (false, 1), (false, 1)]) (R := fun v w' => (rootS d (p) up).2 = 0 ∧ RdD w' v (rootS d (p) up).1) (Pn := fun c _ => (rootS d (p) up).2 ≠ 0 ∧ (rootS d (p) up).1 = Dy.zero ∧ c = failDR (rootS d (p) up).2) tr_rroot1_eq rfl (by decide) (fun q h => by cases h) ?_).mono fin
    clear fin
    unfold tr_rroot1
    refine sat_cap1 (off := 0) (.int .i64 p) B1 (by kernel_rfl) (by kernel_rfl) (by kernel_rfl) ?_
    refine sat_capA (off := 0) [.bool d.neg, .slice A n c, .int .i64 d.e] B2 (by kernel_rfl) (by kernel_rfl) rfl (by kernel_rfl) (by kernel_rfl) ?_
    refine sat_rowN [.bool d.neg, .slice A n c, .int .i64 d.e] (by kernel_rfl) (by intro x hx; cases hx) fun u1 h1 B1 N1 => ?_
    replace r_d := h1.rdD r_d
    have F_R1 : Sx.Rows Sx.kD (Sx.NB _) _ (some ⟨u1.heap.size, 0, none⟩) 1 1 [d] := rows_one (k := Sx.kD) B1 N1 ⟨_, _, _, rfl, r_d⟩
    generalize u1.heap.size = N_R1 at *
    generalize (u1.alloc _) = w_R1 at *
    clear B1 h1 N1
    refine sat_callP #[.int .i64 p, .slice (some ⟨N_R1, 0, none⟩) 1 1] (by kernel_rfl) fun w1 h1 => ?_
    exact (mayR_no ((F_R1.mv h1.mv).any) hm).mono fun e w2 ⟨he, hb⟩ => ⟨_, he, hb, by rw [hS]; exact ⟨by decide, rfl, rfl⟩⟩
  · obtain ⟨q, rfl, hq1, hq2⟩ := mayS_nat hm
    have hm_d := mayS_all hm d (by simp)
    have hbd := blen_m r_d hm_d
    have hed := (mayD_limbs hm_d).2.2
    obtain ⟨k0, hk0⟩ : ∃ k0, k0 = 2 * q + 2 - blen (val BB d.m) := ⟨_, rfl⟩
    obtain ⟨k1, hk1⟩ : ∃ k1, k1 = k0 + 1 := ⟨_, rfl⟩
    have hSN : d.neg = true → rootS d ((q : Nat) : Int) up = (Dy.zero, 4) := by intro hy; unfold rootS; rw [hm, hy]; rfl
    have hSE : d.neg = false → ((d.e - ((k0 : Nat) : Int)).tmod 2 != 0) = false → rootS d ((q : Nat) : Int) up = cutS false (nroot (val BB d.m * 2 ^ k0)) ((d.e - ((k0 : Nat) : Int)).tdiv 2) (decide (nroot (val BB d.m * 2 ^ k0) * nroot (val BB d.m * 2 ^ k0) ≠ val BB d.m * 2 ^ k0)) q up := by
        intro hy ho
        have hK : rootK (val BB d.m) ((q : Nat) : Int).toNat d.e = k0 := by
          unfold rootK
          rw [Int.toNat_natCast, ← hk0, show decide ((d.e - ((k0 : Nat) : Int)).tmod 2 ≠ 0) = false by simpa using ho]
          rfl
        unfold rootS
        rw [hm, hy, hK]
        rfl
    have hSO : d.neg = false → ((d.e - ((k0 : Nat) : Int)).tmod 2 != 0) = true → rootS d ((q : Nat) : Int) up = cutS false (nroot (val BB d.m * 2 ^ k1)) ((d.e - ((k1 : Nat) : Int)).tdiv 2) (decide (nroot (val BB d.m * 2 ^ k1) * nroot (val BB d.m * 2 ^ k1) ≠ val BB d.m * 2 ^ k1)) q up := by
        intro hy ho
        have hK : rootK (val BB d.m) ((q : Nat) : Int).toNat d.e = k1 := by
          unfold rootK
          rw [Int.toNat_natCast, ← hk0, show decide ((d.e - ((k0 : Nat) : Int)).tmod 2 ≠ 0) = true by simpa using ho, hk1]
          rfl
        unfold rootS
        rw [hm, hy, hK]
        rfl
    refine (Sx.runAt [] [] (ls := [.pointer (some ⟨gg1, 0, none⟩), .pointer (some ⟨gg2, 0, none⟩), .pointer (some ⟨gg3, 0, none⟩)]) (shs := [(false, 1), (false, 1), (false, 1)]) (R := fun v w' => (rootS d (((q : Nat) : Int)) up).2 = 0 ∧ RdD w' v (rootS d (((q : Nat) : Int)) up).1) (Pn := fun c _ => (rootS d (((q : Nat) : Int)) up).2 ≠ 0 ∧ (rootS d (((q : Nat) : Int)) up).1 = Dy.zero ∧ c = failDR (rootS d (((q : Nat) : Int)) up).2) tr_rroot1_eq rfl (by decide) (fun q h => by cases h) ?_).mono fin
    clear fin
    unfold tr_rroot1
    refine sat_cap1 (off := 0) (.int .i64 ((q : Nat) : Int)) B1 (by kernel_rfl) (by kernel_rfl) (by kernel_rfl) ?_
    refine sat_capA (off := 0) [.bool d.neg, .slice A n c, .int .i64 d.e] B2 (by kernel_rfl) (by kernel_rfl) rfl (by kernel_rfl) (by kernel_rfl) ?_
    refine sat_rowN [.bool d.neg, .slice A n c, .int .i64 d.e] (by kernel_rfl) (by intro x hx; cases hx) fun u1 h1 B1 N1 => ?_
    replace r_d := h1.rdD r_d
    have F_R1 : Sx.Rows Sx.kD (Sx.NB _) _ (some ⟨u1.heap.size, 0, none⟩) 1 1 [d] := rows_one (k := Sx.kD) B1 N1 ⟨_, _, _, rfl, r_d⟩
    generalize u1.heap.size = N_R1 at *
    generalize (u1.alloc _) = w_R1 at *
    clear B1 h1 N1
    refine sat_call #[.int .i64 ((q : Nat) : Int), .slice (some ⟨N_R1, 0, none⟩) 1 1] (by kernel_rfl) fun w1 h1 => ?_
    refine (mayR_yes ((F_R1.mv h1.mv).any) hm).mono ?_
    rintro e v1 ⟨rfl, hb1⟩
    refine ⟨hb1, [], _, rfl, by kernel_rfl, by kernel_rfl, fun g1 => ?_⟩
    replace r_d := g1.rdD r_d; replace F_R1 := F_R1.mv g1.mv
    clear h1 hb1
    refine sat_prim (v := .pointer (some ⟨gg2, 0, none⟩)) (by kernel_rfl) ?_
    refine sat_cap1 (off := 0) (.bool d.neg) B2 (by kernel_rfl) (by kernel_rfl) (by kernel_rfl) ?_
    refine sat_prim (v := .bool (!d.neg)) (by kernel_rfl) ?_
    cases hy : (!d.neg)
    · replace hy : d.neg = true := by simpa using hy
      refine sat_callP #[.bool false, .int .i64 4] (by kernel_rfl) fun w1 h1 => ?_
      exact (must_noR _ _).mono fun e w2 ⟨he, hw⟩ => ⟨_, he, hw ▸ Below.refl _ _, by rw [hSN hy]; exact ⟨by decide, rfl, rfl⟩⟩
    · replace hy : d.neg = false := by simpa using hy
      have hS0 := fun h => hSE hy h
      have hS1 := fun h => hSO hy h
      clear hSE hSO hSN
      refine sat_call #[.bool true, .int .i64 4] (by kernel_rfl) fun w2 h2 => ?_
      refine (must_yesB _ _).mono ?_
      rintro e v2 ⟨rfl, hb2⟩
      refine ⟨hb2, [], _, rfl, by kernel_rfl, by kernel_rfl, fun g2 => ?_⟩
      replace r_d := g2.rdD r_d
      clear h2 hb2
      refine sat_cap1 (off := 0) (.int .i64 ((q : Nat) : Int)) B1 (by kernel_rfl) (by kernel_rfl) (by kernel_rfl) ?_
      refine sat_prim (v := .int .i64 (2 * ((q : Nat) : Int))) (Eq.trans (b := some (.int .i64 (IntKind.i64.wrap ((2 * ((q : Nat) : Int)))))) (by kernel_rfl) (by rw [IntWalk.i64_in _ (by omega)])) ?_
      refine sat_prim (v := .int .i64 ((2 * ((q : Nat) : Int)) + 2)) (Eq.trans (b := some (.int .i64 (IntKind.i64.wrap (((2 * ((q : Nat) : Int)) + 2))))) (by kernel_rfl) (by rw [IntWalk.i64_in _ (by omega)])) ?_
      refine sat_prim (v := .pointer (some ⟨gg2, 1, none⟩)) (by kernel_rfl) ?_
      refine sat_cap1 (off := 1) (.slice A n c) B2 (by kernel_rfl) (by kernel_rfl) (by kernel_rfl) ?_
      refine sat_call #[.slice A n c] (by kernel_rfl) fun w3 h3 => ?_
      refine (sizeB (mayD_rd (h3.rdD r_d).length.2 (h3.rdD r_d).lim hm_d) (by omega)).mono ?_
      rintro e v3 ⟨rfl, hb3⟩
      refine ⟨hb3, [.int .i64 ((blen (val BB d.m) : Nat) : Int)], _, rfl, by kernel_rfl, by kernel_rfl, fun g3 => ?_⟩
      replace r_d := g3.rdD r_d
      clear h3 hb3
      refine sat_prim (v := .int .i64 (((2 * ((q : Nat) : Int)) + 2) - ((blen (val BB d.m) : Nat) : Int))) (Eq.trans (b := some (.int .i64 (IntKind.i64.wrap ((((2 * ((q : Nat) : Int)) + 2) - ((blen (val BB d.m) : Nat) : Int)))))) (by kernel_rfl) (by rw [IntWalk.i64_in _ (by omega)])) ?_
      refine sat_prim (v := .int .i64 ((k0 : Nat) : Int)) (Eq.trans (b := some (.int .i64 (if (0 : Int) < (((2 * ((q : Nat) : Int)) + 2) - ((blen (val BB d.m) : Nat) : Int)) then (((2 * ((q : Nat) : Int)) + 2) - ((blen (val BB d.m) : Nat) : Int)) else 0))) (by kernel_rfl) (by rw [hk0]; split <;> congr 2 <;> omega)) ?_
      refine sat_prim (v := .pointer (some ⟨gg2, 2, none⟩)) (by kernel_rfl) ?_
      refine sat_cap1 (off := 2) (.int .i64 d.e) B2 (by kernel_rfl) (by kernel_rfl) (by kernel_rfl) ?_
      refine sat_prim (v := .int .i64 (d.e - ((k0 : Nat) : Int))) (Eq.trans (b := some (.int .i64 (IntKind.i64.wrap ((d.e - ((k0 : Nat) : Int)))))) (by kernel_rfl) (by rw [IntWalk.i64_in _ (by omega)])) ?_
      refine sat_prim (v := .int .i64 ((d.e - ((k0 : Nat) : Int)).tmod 2)) (by kernel_rfl) ?_
      refine sat_prim (v := .bool ((((d.e - ((k0 : Nat) : Int)).tmod 2) : Int) != 0)) (by kernel_rfl) ?_
      cases hodd : ((((d.e - ((k0 : Nat) : Int)).tmod 2) : Int) != 0)
      · have hS := hS0 hodd
        clear hS0 hS1
        refine sat_false (by kernel_rfl) ?_
        refine sat_prim (v := .pointer (some ⟨gg2, 1, none⟩)) (by kernel_rfl) ?_
        refine sat_cap1 (off := 1) (.slice A n c) B2 (by kernel_rfl) (by kernel_rfl) (by kernel_rfl) ?_
        refine sat_call #[.slice A n c, .int .i64 ((k0 : Nat) : Int)] (by kernel_rfl) fun w4 h4 => ?_
        refine (((leftI _ (val BB d.m) _ (mayD_rd (h4.rdD r_d).length.2 (h4.rdD r_d).lim hm_d) (by omega) k0 (by omega)).mono fun _ _ h => And.intro (slc h.1) h.2)).mono ?_
        rintro e v4 ⟨⟨A_q, n_q, c_q, rfl, r_q⟩, hb4⟩
        refine ⟨hb4, [.slice A_q n_q c_q], _, rfl, by kernel_rfl, by kernel_rfl, fun g4 => ?_⟩
        replace r_d := g4.rdD r_d
        clear h4 hb4
        refine sat_call #[.slice A_q n_q c_q] (by kernel_rfl) fun w5 h5 => ?_
        refine (((squareI _ (val BB d.m * 2 ^ k0) _ (h5.r64 r_q) (Nat.le_trans (blen_shift hbd (by omega)) (by omega))).mono fun _ _ h => And.intro (slc h.1) h.2)).mono ?_
        rintro e v5 ⟨⟨A_r, n_r, c_r, rfl, r_r⟩, hb5⟩
        refine ⟨hb5, [.slice A_r n_r c_r], _, rfl, by kernel_rfl, by kernel_rfl, fun g5 => ?_⟩
        replace r_d := g5.rdD r_d; replace r_q := g5.r64 r_q
        clear h5 hb5
        refine sat_prim (v := .pointer (some ⟨gg2, 2, none⟩)) (by kernel_rfl) ?_
        refine sat_cap1 (off := 2) (.int .i64 d.e) B2 (by kernel_rfl) (by kernel_rfl) (by kernel_rfl) ?_
        refine sat_prim (v := .int .i64 (d.e - ((k0 : Nat) : Int))) (Eq.trans (b := some (.int .i64 (IntKind.i64.wrap ((d.e - ((k0 : Nat) : Int)))))) (by kernel_rfl) (by rw [IntWalk.i64_in _ (by omega)])) ?_
        refine sat_prim (v := .int .i64 ((d.e - ((k0 : Nat) : Int)).tdiv 2)) (Eq.trans (b := some (.int .i64 (IntKind.i64.wrap ((d.e - ((k0 : Nat) : Int)).tdiv 2)))) (by kernel_rfl) (by rw [IntWalk.i64_in _ (by have := tdiv2 (x := (d.e - ((k0 : Nat) : Int))) (a := 2000000) (by omega) (by omega); omega)])) ?_
        refine sat_cap1 (off := 0) (.int .i64 ((q : Nat) : Int)) B1 (by kernel_rfl) (by kernel_rfl) (by kernel_rfl) ?_
        refine sat_cap1 (off := 0) (.bool up) B3 (by kernel_rfl) (by kernel_rfl) (by kernel_rfl) ?_
        refine sat_call #[.slice A_r n_r c_r, .slice A_r n_r c_r] (by kernel_rfl) fun w6 h6 => ?_
        refine (((timesI _ _ (nroot (val BB d.m * 2 ^ k0)) (nroot (val BB d.m * 2 ^ k0)) _ (h6.r64 r_r) (h6.r64 r_r) (Nat.le_trans (blen_root hbd (by omega)) (by omega)) (Nat.le_trans (blen_root hbd (by omega)) (by omega))).mono fun _ _ h => And.intro (slc h.1) h.2)).mono ?_
        rintro e v6 ⟨⟨A_t, n_t, c_t, rfl, r_t⟩, hb6⟩
        refine ⟨hb6, [.slice A_t n_t c_t], _, rfl, by kernel_rfl, by kernel_rfl, fun g6 => ?_⟩
        replace r_d := g6.rdD r_d; replace r_q := g6.r64 r_q; replace r_r := g6.r64 r_r
        clear h6 hb6
        refine sat_call #[.slice A_t n_t c_t, .slice A_q n_q c_q] (by kernel_rfl) fun w7 h7 => ?_
        refine (orderI _ _ (nroot (val BB d.m * 2 ^ k0) * nroot (val BB d.m * 2 ^ k0)) (val BB d.m * 2 ^ k0) _ (h7.r64 r_t) (h7.r64 r_q)).mono ?_
        rintro e v7 ⟨rfl, hb7⟩
        refine ⟨hb7, [.int .i64 (cmpN (nroot (val BB d.m * 2 ^ k0) * nroot (val BB d.m * 2 ^ k0)) (val BB d.m * 2 ^ k0))], _, rfl, by kernel_rfl, by kernel_rfl, fun g7 => ?_⟩
        replace r_d := g7.rdD r_d; replace r_q := g7.r64 r_q; replace r_r := g7.r64 r_r; replace r_t := g7.r64 r_t
        clear h7 hb7
        refine sat_prim (v := .bool (decide (nroot (val BB d.m * 2 ^ k0) * nroot (val BB d.m * 2 ^ k0) ≠ val BB d.m * 2 ^ k0))) (Eq.trans (b := some (.bool (cmpN (nroot (val BB d.m * 2 ^ k0) * nroot (val BB d.m * 2 ^ k0)) (val BB d.m * 2 ^ k0) != 0))) (by kernel_rfl) (by rw [cmpN_ne])) ?_
        have hte := tdiv2 (x := (d.e - ((k0 : Nat) : Int))) (a := 2000000) (by omega) (by omega)
        cases hz0 : decide ((cutS false (nroot (val BB d.m * 2 ^ k0)) ((d.e - ((k0 : Nat) : Int)).tdiv 2) (decide (nroot (val BB d.m * 2 ^ k0) * nroot (val BB d.m * 2 ^ k0) ≠ val BB d.m * 2 ^ k0)) q up).2 = 0)
        · have hz := of_decide_eq_false hz0
          refine sat_callP #[.bool false, .slice A_r n_r c_r, .int .i64 ((d.e - ((k0 : Nat) : Int)).tdiv 2), .bool (decide (nroot (val BB d.m * 2 ^ k0) * nroot (val BB d.m * 2 ^ k0) ≠ val BB d.m * 2 ^ k0)), .int .i64 ((q : Nat) : Int), .bool up] (by kernel_rfl) fun w1 h1 => ?_
          exact (cut_no false _ (nroot (val BB d.m * 2 ^ k0)) ((d.e - ((k0 : Nat) : Int)).tdiv 2) (decide (nroot (val BB d.m * 2 ^ k0) * nroot (val BB d.m * 2 ^ k0) ≠ val BB d.m * 2 ^ k0)) q up _ (h1.r64 r_r) (Nat.le_trans (blen_root hbd (by omega)) (by omega)) (by omega) (by omega) (by omega) (h1.tab hT) hz).mono fun e w2 ⟨he, hb⟩ => ⟨_, he, hb, by rw [hS]; exact ⟨hz, cutS_err hz, rfl⟩⟩
        · have hz := of_decide_eq_true hz0
          refine sat_call #[.bool false, .slice A_r n_r c_r, .int .i64 ((d.e - ((k0 : Nat) : Int)).tdiv 2), .bool (decide (nroot (val BB d.m * 2 ^ k0) * nroot (val BB d.m * 2 ^ k0) ≠ val BB d.m * 2 ^ k0)), .int .i64 ((q : Nat) : Int), .bool up] (by kernel_rfl) fun w8 h8 => ?_
          refine (cut_yes false _ (nroot (val BB d.m * 2 ^ k0)) ((d.e - ((k0 : Nat) : Int)).tdiv 2) (decide (nroot (val BB d.m * 2 ^ k0) * nroot (val BB d.m * 2 ^ k0) ≠ val BB d.m * 2 ^ k0)) q up _ (h8.r64 r_r) (Nat.le_trans (blen_root hbd (by omega)) (by omega)) (by omega) (by omega) (by omega) (h8.tab hT) hz).mono ?_
          rintro e v8 ⟨⟨A_z, n_z, c_z, rfl, r_z⟩, hb8⟩
          refine ⟨hb8, [.bool (cutS false (nroot (val BB d.m * 2 ^ k0)) ((d.e - ((k0 : Nat) : Int)).tdiv 2) (decide (nroot (val BB d.m * 2 ^ k0) * nroot (val BB d.m * 2 ^ k0) ≠ val BB d.m * 2 ^ k0)) q up).1.neg, .slice A_z n_z c_z, .int .i64 (cutS false (nroot (val BB d.m * 2 ^ k0)) ((d.e - ((k0 : Nat) : Int)).tdiv 2) (decide (nroot (val BB d.m * 2 ^ k0) * nroot (val BB d.m * 2 ^ k0) ≠ val BB d.m * 2 ^ k0)) q up).1.e], _, rfl, by kernel_rfl, by kernel_rfl, fun g8 => ?_⟩
          replace r_d := g8.rdD r_d; replace r_q := g8.r64 r_q; replace r_r := g8.r64 r_r; replace r_t := g8.r64 r_t
          clear h8 hb8
          refine sat_chkB (by kernel_rfl) ?_
          exact sat_ret (.agg #[.bool (cutS false (nroot (val BB d.m * 2 ^ k0)) ((d.e - ((k0 : Nat) : Int)).tdiv 2) (decide (nroot (val BB d.m * 2 ^ k0) * nroot (val BB d.m * 2 ^ k0) ≠ val BB d.m * 2 ^ k0)) q up).1.neg, .slice A_z n_z c_z, .int .i64 (cutS false (nroot (val BB d.m * 2 ^ k0)) ((d.e - ((k0 : Nat) : Int)).tdiv 2) (decide (nroot (val BB d.m * 2 ^ k0) * nroot (val BB d.m * 2 ^ k0) ≠ val BB d.m * 2 ^ k0)) q up).1.e]) (by kernel_rfl) fun w9 h9 => ⟨by rw [hS]; exact hz, by rw [hS]; exact h9.rdD r_z⟩
      · have hS := hS1 hodd
        clear hS0 hS1
        refine sat_true (by kernel_rfl) ?_
        refine sat_prim (v := .int .i64 ((k1 : Nat) : Int)) (Eq.trans (b := some (.int .i64 (IntKind.i64.wrap (((k0 : Nat) : Int) + 1)))) (by kernel_rfl) (by rw [IntWalk.i64_in _ (by omega), hk1]; rfl)) ?_
        refine sat_prim (v := .pointer (some ⟨gg2, 1, none⟩)) (by kernel_rfl) ?_
        refine sat_cap1 (off := 1) (.slice A n c) B2 (by kernel_rfl) (by kernel_rfl) (by kernel_rfl) ?_
        refine sat_call #[.slice A n c, .int .i64 ((k1 : Nat) : Int)] (by kernel_rfl) fun w4 h4 => ?_
        refine (((leftI _ (val BB d.m) _ (mayD_rd (h4.rdD r_d).length.2 (h4.rdD r_d).lim hm_d) (by omega) k1 (by omega)).mono fun _ _ h => And.intro (slc h.1) h.2)).mono ?_
        rintro e v4 ⟨⟨A_q, n_q, c_q, rfl, r_q⟩, hb4⟩
        refine ⟨hb4, [.slice A_q n_q c_q], _, rfl, by kernel_rfl, by kernel_rfl, fun g4 => ?_⟩
        replace r_d := g4.rdD r_d
        clear h4 hb4
        refine sat_call #[.slice A_q n_q c_q] (by kernel_rfl) fun w5 h5 => ?_
        refine (((squareI _ (val BB d.m * 2 ^ k1) _ (h5.r64 r_q) (Nat.le_trans (blen_shift hbd (by omega)) (by omega))).mono fun _ _ h => And.intro (slc h.1) h.2)).mono ?_
        rintro e v5 ⟨⟨A_r, n_r, c_r, rfl, r_r⟩, hb5⟩
        refine ⟨hb5, [.slice A_r n_r c_r], _, rfl, by kernel_rfl, by kernel_rfl, fun g5 => ?_⟩
        replace r_d := g5.rdD r_d; replace r_q := g5.r64 r_q
        clear h5 hb5
        refine sat_prim (v := .pointer (some ⟨gg2, 2, none⟩)) (by kernel_rfl) ?_
        refine sat_cap1 (off := 2) (.int .i64 d.e) B2 (by kernel_rfl) (by kernel_rfl) (by kernel_rfl) ?_
        refine sat_prim (v := .int .i64 (d.e - ((k1 : Nat) : Int))) (Eq.trans (b := some (.int .i64 (IntKind.i64.wrap ((d.e - ((k1 : Nat) : Int)))))) (by kernel_rfl) (by rw [IntWalk.i64_in _ (by omega)])) ?_
        refine sat_prim (v := .int .i64 ((d.e - ((k1 : Nat) : Int)).tdiv 2)) (Eq.trans (b := some (.int .i64 (IntKind.i64.wrap ((d.e - ((k1 : Nat) : Int)).tdiv 2)))) (by kernel_rfl) (by rw [IntWalk.i64_in _ (by have := tdiv2 (x := (d.e - ((k1 : Nat) : Int))) (a := 2000000) (by omega) (by omega); omega)])) ?_
        refine sat_cap1 (off := 0) (.int .i64 ((q : Nat) : Int)) B1 (by kernel_rfl) (by kernel_rfl) (by kernel_rfl) ?_
        refine sat_cap1 (off := 0) (.bool up) B3 (by kernel_rfl) (by kernel_rfl) (by kernel_rfl) ?_
        refine sat_call #[.slice A_r n_r c_r, .slice A_r n_r c_r] (by kernel_rfl) fun w6 h6 => ?_
        refine (((timesI _ _ (nroot (val BB d.m * 2 ^ k1)) (nroot (val BB d.m * 2 ^ k1)) _ (h6.r64 r_r) (h6.r64 r_r) (Nat.le_trans (blen_root hbd (by omega)) (by omega)) (Nat.le_trans (blen_root hbd (by omega)) (by omega))).mono fun _ _ h => And.intro (slc h.1) h.2)).mono ?_
        rintro e v6 ⟨⟨A_t, n_t, c_t, rfl, r_t⟩, hb6⟩
        refine ⟨hb6, [.slice A_t n_t c_t], _, rfl, by kernel_rfl, by kernel_rfl, fun g6 => ?_⟩
        replace r_d := g6.rdD r_d; replace r_q := g6.r64 r_q; replace r_r := g6.r64 r_r
        clear h6 hb6
        refine sat_call #[.slice A_t n_t c_t, .slice A_q n_q c_q] (by kernel_rfl) fun w7 h7 => ?_
        refine (orderI _ _ (nroot (val BB d.m * 2 ^ k1) * nroot (val BB d.m * 2 ^ k1)) (val BB d.m * 2 ^ k1) _ (h7.r64 r_t) (h7.r64 r_q)).mono ?_
        rintro e v7 ⟨rfl, hb7⟩
        refine ⟨hb7, [.int .i64 (cmpN (nroot (val BB d.m * 2 ^ k1) * nroot (val BB d.m * 2 ^ k1)) (val BB d.m * 2 ^ k1))], _, rfl, by kernel_rfl, by kernel_rfl, fun g7 => ?_⟩
        replace r_d := g7.rdD r_d; replace r_q := g7.r64 r_q; replace r_r := g7.r64 r_r; replace r_t := g7.r64 r_t
        clear h7 hb7
        refine sat_prim (v := .bool (decide (nroot (val BB d.m * 2 ^ k1) * nroot (val BB d.m * 2 ^ k1) ≠ val BB d.m * 2 ^ k1))) (Eq.trans (b := some (.bool (cmpN (nroot (val BB d.m * 2 ^ k1) * nroot (val BB d.m * 2 ^ k1)) (val BB d.m * 2 ^ k1) != 0))) (by kernel_rfl) (by rw [cmpN_ne])) ?_
        have hte := tdiv2 (x := (d.e - ((k1 : Nat) : Int))) (a := 2000000) (by omega) (by omega)
        cases hz0 : decide ((cutS false (nroot (val BB d.m * 2 ^ k1)) ((d.e - ((k1 : Nat) : Int)).tdiv 2) (decide (nroot (val BB d.m * 2 ^ k1) * nroot (val BB d.m * 2 ^ k1) ≠ val BB d.m * 2 ^ k1)) q up).2 = 0)
        · have hz := of_decide_eq_false hz0
          refine sat_callP #[.bool false, .slice A_r n_r c_r, .int .i64 ((d.e - ((k1 : Nat) : Int)).tdiv 2), .bool (decide (nroot (val BB d.m * 2 ^ k1) * nroot (val BB d.m * 2 ^ k1) ≠ val BB d.m * 2 ^ k1)), .int .i64 ((q : Nat) : Int), .bool up] (by kernel_rfl) fun w1 h1 => ?_
          exact (cut_no false _ (nroot (val BB d.m * 2 ^ k1)) ((d.e - ((k1 : Nat) : Int)).tdiv 2) (decide (nroot (val BB d.m * 2 ^ k1) * nroot (val BB d.m * 2 ^ k1) ≠ val BB d.m * 2 ^ k1)) q up _ (h1.r64 r_r) (Nat.le_trans (blen_root hbd (by omega)) (by omega)) (by omega) (by omega) (by omega) (h1.tab hT) hz).mono fun e w2 ⟨he, hb⟩ => ⟨_, he, hb, by rw [hS]; exact ⟨hz, cutS_err hz, rfl⟩⟩
        · have hz := of_decide_eq_true hz0
          refine sat_call #[.bool false, .slice A_r n_r c_r, .int .i64 ((d.e - ((k1 : Nat) : Int)).tdiv 2), .bool (decide (nroot (val BB d.m * 2 ^ k1) * nroot (val BB d.m * 2 ^ k1) ≠ val BB d.m * 2 ^ k1)), .int .i64 ((q : Nat) : Int), .bool up] (by kernel_rfl) fun w8 h8 => ?_
          refine (cut_yes false _ (nroot (val BB d.m * 2 ^ k1)) ((d.e - ((k1 : Nat) : Int)).tdiv 2) (decide (nroot (val BB d.m * 2 ^ k1) * nroot (val BB d.m * 2 ^ k1) ≠ val BB d.m * 2 ^ k1)) q up _ (h8.r64 r_r) (Nat.le_trans (blen_root hbd (by omega)) (by omega)) (by omega) (by omega) (by omega) (h8.tab hT) hz).mono ?_
          rintro e v8 ⟨⟨A_z, n_z, c_z, rfl, r_z⟩, hb8⟩
          refine ⟨hb8, [.bool (cutS false (nroot (val BB d.m * 2 ^ k1)) ((d.e - ((k1 : Nat) : Int)).tdiv 2) (decide (nroot (val BB d.m * 2 ^ k1) * nroot (val BB d.m * 2 ^ k1) ≠ val BB d.m * 2 ^ k1)) q up).1.neg, .slice A_z n_z c_z, .int .i64 (cutS false (nroot (val BB d.m * 2 ^ k1)) ((d.e - ((k1 : Nat) : Int)).tdiv 2) (decide (nroot (val BB d.m * 2 ^ k1) * nroot (val BB d.m * 2 ^ k1) ≠ val BB d.m * 2 ^ k1)) q up).1.e], _, rfl, by kernel_rfl, by kernel_rfl, fun g8 => ?_⟩
          replace r_d := g8.rdD r_d; replace r_q := g8.r64 r_q; replace r_r := g8.r64 r_r; replace r_t := g8.r64 r_t
          clear h8 hb8
          refine sat_chkB (by kernel_rfl) ?_
          exact sat_ret (.agg #[.bool (cutS false (nroot (val BB d.m * 2 ^ k1)) ((d.e - ((k1 : Nat) : Int)).tdiv 2) (decide (nroot (val BB d.m * 2 ^ k1) * nroot (val BB d.m * 2 ^ k1) ≠ val BB d.m * 2 ^ k1)) q up).1.neg, .slice A_z n_z c_z, .int .i64 (cutS false (nroot (val BB d.m * 2 ^ k1)) ((d.e - ((k1 : Nat) : Int)).tdiv 2) (decide (nroot (val BB d.m * 2 ^ k1) * nroot (val BB d.m * 2 ^ k1) ≠ val BB d.m * 2 ^ k1)) q up).1.e]) (by kernel_rfl) fun w9 h9 => ⟨by rw [hS]; exact hz, by rw [hS]; exact h9.rdD r_z⟩

end Go.Proofs.YteodljieiloebaaDoor
namespace Go.Proofs.YteodljieiloebaaDoor
open Go.RowKit Pl

theorem enters0 {f : FuncId} {fn : Func} {c : Code} (hf : Tryd.prog.funcs[f]? = some fn) (hname : (fn.name == "runtime.NumGoroutine") = false) (hb : fn.body = some c) (args : Array Value) (w : World) :
    (callFunc f args).run Tryd.prog w = .ok (.enter f args) w := by
  have h1 : fn.name ≠ "runtime.NumGoroutine" := by simpa using hname
  simp [callFunc, hf, h1, hb, mark]

set_option maxRecDepth 100000 in
set_option maxHeartbeats 2000000 in
theorem directed_any (v_d : Value) (d : Dy) (p : Int) (up : Bool) (w : World) (h_d : RdD w v_d d) (hT : TabAt w) :
    Calls Tryd.prog 55 #[v_d, .int .i64 p, .bool up] w (FacePost w (dirS d p up)) := by
  have hmf : ∀ (fn : Fn) (first cap : Array Value) (w : World), (Instr.makeFunc fn first cap).run Tryd.prog w = .ok (.func fn first cap) w := fun _ _ _ _ => rfl
  obtain ⟨A_d, n_d, c_d, rfl, hr_d, hl_d, he1_d, he2_d⟩ := h_d
  have hlen_d := hr_d.len
  subst hlen_d
  go_enter Tryd.func55, Tryd.ntmps55
  go_wp2_with fail
  refine (face_anyR 90 _ (dirS d p up) _ (enters0 Tryd.func90 (by kernel_rfl) rfl) ?_).mono ?_
  · intro W hW
    have hb : Below w.heap.size w W := (by go_grown : Below w.heap.size w ((((w.alloc (.cells #[.bool d.neg, .slice A_d d.m.length c_d, .int .i64 d.e] 26)).alloc (.cells #[.int .i64 p] 3)).alloc (.cells #[.bool up] 4)).alloc (.cells #[.bool false, .slice none 0 0, .int .i64 0] 26))).trans (hW.mono (by simp <;> omega))
    have b_d : Box W (w.heap.size) [.bool d.neg, .slice A_d d.m.length c_d, .int .i64 d.e] 26 := by
      have h1 : Box (w.alloc (.cells #[.bool d.neg, .slice A_d d.m.length c_d, .int .i64 d.e] 26)) (w.heap.size) [.bool d.neg, .slice A_d d.m.length c_d, .int .i64 d.e] 26 := by simpa using Box.new w [.bool d.neg, .slice A_d d.m.length c_d, .int .i64 d.e] 26
      exact (h1.keep (by go_grown : Below (w.alloc (.cells #[.bool d.neg, .slice A_d d.m.length c_d, .int .i64 d.e] 26)).heap.size (w.alloc (.cells #[.bool d.neg, .slice A_d d.m.length c_d, .int .i64 d.e] 26)) ((((w.alloc (.cells #[.bool d.neg, .slice A_d d.m.length c_d, .int .i64 d.e] 26)).alloc (.cells #[.int .i64 p] 3)).alloc (.cells #[.bool up] 4)).alloc (.cells #[.bool false, .slice none 0 0, .int .i64 0] 26)))).keep hW
    have b_p : Box W (w.heap.size + 1) [.int .i64 p] 3 := by
      have h1 : Box ((w.alloc (.cells #[.bool d.neg, .slice A_d d.m.length c_d, .int .i64 d.e] 26)).alloc (.cells #[.int .i64 p] 3)) (w.heap.size + 1) [.int .i64 p] 3 := by simpa using Box.new (w.alloc (.cells #[.bool d.neg, .slice A_d d.m.length c_d, .int .i64 d.e] 26)) [.int .i64 p] 3
      exact (h1.keep (by go_grown : Below ((w.alloc (.cells #[.bool d.neg, .slice A_d d.m.length c_d, .int .i64 d.e] 26)).alloc (.cells #[.int .i64 p] 3)).heap.size ((w.alloc (.cells #[.bool d.neg, .slice A_d d.m.length c_d, .int .i64 d.e] 26)).alloc (.cells #[.int .i64 p] 3)) ((((w.alloc (.cells #[.bool d.neg, .slice A_d d.m.length c_d, .int .i64 d.e] 26)).alloc (.cells #[.int .i64 p] 3)).alloc (.cells #[.bool up] 4)).alloc (.cells #[.bool false, .slice none 0 0, .int .i64 0] 26)))).keep hW
    have b_up : Box W (w.heap.size + 1 + 1) [.bool up] 4 := by
      have h1 : Box (((w.alloc (.cells #[.bool d.neg, .slice A_d d.m.length c_d, .int .i64 d.e] 26)).alloc (.cells #[.int .i64 p] 3)).alloc (.cells #[.bool up] 4)) (w.heap.size + 1 + 1) [.bool up] 4 := by simpa using Box.new ((w.alloc (.cells #[.bool d.neg, .slice A_d d.m.length c_d, .int .i64 d.e] 26)).alloc (.cells #[.int .i64 p] 3)) [.bool up] 4
      exact (h1.keep (by go_grown : Below (((w.alloc (.cells #[.bool d.neg, .slice A_d d.m.length c_d, .int .i64 d.e] 26)).alloc (.cells #[.int .i64 p] 3)).alloc (.cells #[.bool up] 4)).heap.size (((w.alloc (.cells #[.bool d.neg, .slice A_d d.m.length c_d, .int .i64 d.e] 26)).alloc (.cells #[.int .i64 p] 3)).alloc (.cells #[.bool up] 4)) ((((w.alloc (.cells #[.bool d.neg, .slice A_d d.m.length c_d, .int .i64 d.e] 26)).alloc (.cells #[.int .i64 p] 3)).alloc (.cells #[.bool up] 4)).alloc (.cells #[.bool false, .slice none 0 0, .int .i64 0] 26)))).keep hW
    exact directed1_any _ _ _ _ _ _ p d up A_d _ c_d W b_p b_d b_up ⟨A_d, _, c_d, rfl, hr_d.below hb, hl_d, he1_d, he2_d⟩ (hT.below hb)
  rintro e1 w2 ⟨hb2, v, rfl, hv⟩
  obtain ⟨A', n', c', rfl, hv1, hv2, hv3⟩ := hv
  obtain ⟨hcc, hff⟩ := bcell hb2
  obtain ⟨s1, s2, q0, q1, q2⟩ := store_dy (N := w.heap.size + 1 + 1 + 1) (v0 := .bool (dirS d p up).1.neg) (v1 := .slice A' n' c') (v2 := .int .i64 (dirS d p up).1.e) (by simp) hb2
  have S2 := hide s2
  clear s2 hb2
  go_wp2
  refine bodyPost_ret (v := .tuple #[.agg #[.bool (dirS d p up).1.neg, .slice A' n' c', .int .i64 (dirS d p up).1.e], .int .i64 (dirS d p up).2]) (by simp [results, Tryd.results55, go_sem, q0, q1, q2]) rfl ⟨?_, _, rfl, _, _, _, rfl, s1 hv1, hv2, hv3⟩
  exact (by go_grown : Below w.heap.size w (((w.alloc (.cells #[.bool d.neg, .slice A_d d.m.length c_d, .int .i64 d.e] 26)).alloc (.cells #[.int .i64 p] 3)).alloc (.cells #[.bool up] 4))).trans (S2.out.mono (by simp <;> omega))

set_option maxRecDepth 100000 in
set_option maxHeartbeats 2000000 in
theorem quot_any (v_a : Value) (v_b : Value) (a : Dy) (b : Dy) (p : Int) (up : Bool) (w : World) (h_a : RdD w v_a a) (h_b : RdD w v_b b) (hT : TabAt w) :
    Calls Tryd.prog 32 #[v_a, v_b, .int .i64 p, .bool up] w (FacePost w (quotS a b p up)) := by
  have hmf : ∀ (fn : Fn) (first cap : Array Value) (w : World), (Instr.makeFunc fn first cap).run Tryd.prog w = .ok (.func fn first cap) w := fun _ _ _ _ => rfl
  obtain ⟨A_a, n_a, c_a, rfl, hr_a, hl_a, he1_a, he2_a⟩ := h_a
  have hlen_a := hr_a.len
  subst hlen_a
  obtain ⟨A_b, n_b, c_b, rfl, hr_b, hl_b, he1_b, he2_b⟩ := h_b
  have hlen_b := hr_b.len
  subst hlen_b
  go_enter Tryd.func32, Tryd.ntmps32
  go_wp2_with fail
  refine (face_anyR 63 _ (quotS a b p up) _ (enters0 Tryd.func63 (by kernel_rfl) rfl) ?_).mono ?_
  · intro W hW
    have hb : Below w.heap.size w W := (by go_grown : Below w.heap.size w (((((w.alloc (.cells #[.bool a.neg, .slice A_a a.m.length c_a, .int .i64 a.e] 26)).alloc (.cells #[.bool b.neg, .slice A_b b.m.length c_b, .int .i64 b.e] 26)).alloc (.cells #[.int .i64 p] 3)).alloc (.cells #[.bool up] 4)).alloc (.cells #[.bool false, .slice none 0 0, .int .i64 0] 26))).trans (hW.mono (by simp <;> omega))
    have b_a : Box W (w.heap.size) [.bool a.neg, .slice A_a a.m.length c_a, .int .i64 a.e] 26 := by
      have h1 : Box (w.alloc (.cells #[.bool a.neg, .slice A_a a.m.length c_a, .int .i64 a.e] 26)) (w.heap.size) [.bool a.neg, .slice A_a a.m.length c_a, .int .i64 a.e] 26 := by simpa using Box.new w [.bool a.neg, .slice A_a a.m.length c_a, .int .i64 a.e] 26
      exact (h1.keep (by go_grown : Below (w.alloc (.cells #[.bool a.neg, .slice A_a a.m.length c_a, .int .i64 a.e] 26)).heap.size (w.alloc (.cells #[.bool a.neg, .slice A_a a.m.length c_a, .int .i64 a.e] 26)) (((((w.alloc (.cells #[.bool a.neg, .slice A_a a.m.length c_a, .int .i64 a.e] 26)).alloc (.cells #[.bool b.neg, .slice A_b b.m.length c_b, .int .i64 b.e] 26)).alloc (.cells #[.int .i64 p] 3)).alloc (.cells #[.bool up] 4)).alloc (.cells #[.bool false, .slice none 0 0, .int .i64 0] 26)))).keep hW
    have b_b : Box W (w.heap.size + 1) [.bool b.neg, .slice A_b b.m.length c_b, .int .i64 b.e] 26 := by
      have h1 : Box ((w.alloc (.cells #[.bool a.neg, .slice A_a a.m.length c_a, .int .i64 a.e] 26)).alloc (.cells #[.bool b.neg, .slice A_b b.m.length c_b, .int .i64 b.e] 26)) (w.heap.size + 1) [.bool b.neg, .slice A_b b.m.length c_b, .int .i64 b.e] 26 := by simpa using Box.new (w.alloc (.cells #[.bool a.neg, .slice A_a a.m.length c_a, .int .i64 a.e] 26)) [.bool b.neg, .slice A_b b.m.length c_b, .int .i64 b.e] 26
      exact (h1.keep (by go_grown : Below ((w.alloc (.cells #[.bool a.neg, .slice A_a a.m.length c_a, .int .i64 a.e] 26)).alloc (.cells #[.bool b.neg, .slice A_b b.m.length c_b, .int .i64 b.e] 26)).heap.size ((w.alloc (.cells #[.bool a.neg, .slice A_a a.m.length c_a, .int .i64 a.e] 26)).alloc (.cells #[.bool b.neg, .slice A_b b.m.length c_b, .int .i64 b.e] 26)) (((((w.alloc (.cells #[.bool a.neg, .slice A_a a.m.length c_a, .int .i64 a.e] 26)).alloc (.cells #[.bool b.neg, .slice A_b b.m.length c_b, .int .i64 b.e] 26)).alloc (.cells #[.int .i64 p] 3)).alloc (.cells #[.bool up] 4)).alloc (.cells #[.bool false, .slice none 0 0, .int .i64 0] 26)))).keep hW
    have b_p : Box W (w.heap.size + 1 + 1) [.int .i64 p] 3 := by
      have h1 : Box (((w.alloc (.cells #[.bool a.neg, .slice A_a a.m.length c_a, .int .i64 a.e] 26)).alloc (.cells #[.bool b.neg, .slice A_b b.m.length c_b, .int .i64 b.e] 26)).alloc (.cells #[.int .i64 p] 3)) (w.heap.size + 1 + 1) [.int .i64 p] 3 := by simpa using Box.new ((w.alloc (.cells #[.bool a.neg, .slice A_a a.m.length c_a, .int .i64 a.e] 26)).alloc (.cells #[.bool b.neg, .slice A_b b.m.length c_b, .int .i64 b.e] 26)) [.int .i64 p] 3
      exact (h1.keep (by go_grown : Below (((w.alloc (.cells #[.bool a.neg, .slice A_a a.m.length c_a, .int .i64 a.e] 26)).alloc (.cells #[.bool b.neg, .slice A_b b.m.length c_b, .int .i64 b.e] 26)).alloc (.cells #[.int .i64 p] 3)).heap.size (((w.alloc (.cells #[.bool a.neg, .slice A_a a.m.length c_a, .int .i64 a.e] 26)).alloc (.cells #[.bool b.neg, .slice A_b b.m.length c_b, .int .i64 b.e] 26)).alloc (.cells #[.int .i64 p] 3)) (((((w.alloc (.cells #[.bool a.neg, .slice A_a a.m.length c_a, .int .i64 a.e] 26)).alloc (.cells #[.bool b.neg, .slice A_b b.m.length c_b, .int .i64 b.e] 26)).alloc (.cells #[.int .i64 p] 3)).alloc (.cells #[.bool up] 4)).alloc (.cells #[.bool false, .slice none 0 0, .int .i64 0] 26)))).keep hW
    have b_up : Box W (w.heap.size + 1 + 1 + 1) [.bool up] 4 := by
      have h1 : Box ((((w.alloc (.cells #[.bool a.neg, .slice A_a a.m.length c_a, .int .i64 a.e] 26)).alloc (.cells #[.bool b.neg, .slice A_b b.m.length c_b, .int .i64 b.e] 26)).alloc (.cells #[.int .i64 p] 3)).alloc (.cells #[.bool up] 4)) (w.heap.size + 1 + 1 + 1) [.bool up] 4 := by simpa using Box.new (((w.alloc (.cells #[.bool a.neg, .slice A_a a.m.length c_a, .int .i64 a.e] 26)).alloc (.cells #[.bool b.neg, .slice A_b b.m.length c_b, .int .i64 b.e] 26)).alloc (.cells #[.int .i64 p] 3)) [.bool up] 4
      exact (h1.keep (by go_grown : Below ((((w.alloc (.cells #[.bool a.neg, .slice A_a a.m.length c_a, .int .i64 a.e] 26)).alloc (.cells #[.bool b.neg, .slice A_b b.m.length c_b, .int .i64 b.e] 26)).alloc (.cells #[.int .i64 p] 3)).alloc (.cells #[.bool up] 4)).heap.size ((((w.alloc (.cells #[.bool a.neg, .slice A_a a.m.length c_a, .int .i64 a.e] 26)).alloc (.cells #[.bool b.neg, .slice A_b b.m.length c_b, .int .i64 b.e] 26)).alloc (.cells #[.int .i64 p] 3)).alloc (.cells #[.bool up] 4)) (((((w.alloc (.cells #[.bool a.neg, .slice A_a a.m.length c_a, .int .i64 a.e] 26)).alloc (.cells #[.bool b.neg, .slice A_b b.m.length c_b, .int .i64 b.e] 26)).alloc (.cells #[.int .i64 p] 3)).alloc (.cells #[.bool up] 4)).alloc (.cells #[.bool false, .slice none 0 0, .int .i64 0] 26)))).keep hW
    exact quot1_any _ _ _ _ _ _ _ _ p a b up A_a _ c_a A_b _ c_b W b_p b_a b_b b_up ⟨A_a, _, c_a, rfl, hr_a.below hb, hl_a, he1_a, he2_a⟩ ⟨A_b, _, c_b, rfl, hr_b.below hb, hl_b, he1_b, he2_b⟩ (hT.below hb)
  rintro e1 w2 ⟨hb2, v, rfl, hv⟩
  obtain ⟨A', n', c', rfl, hv1, hv2, hv3⟩ := hv
  obtain ⟨hcc, hff⟩ := bcell hb2
  obtain ⟨s1, s2, q0, q1, q2⟩ := store_dy (N := w.heap.size + 1 + 1 + 1 + 1) (v0 := .bool (quotS a b p up).1.neg) (v1 := .slice A' n' c') (v2 := .int .i64 (quotS a b p up).1.e) (by simp) hb2
  have S2 := hide s2
  clear s2 hb2
  go_wp2
  refine bodyPost_ret (v := .tuple #[.agg #[.bool (quotS a b p up).1.neg, .slice A' n' c', .int .i64 (quotS a b p up).1.e], .int .i64 (quotS a b p up).2]) (by simp [results, Tryd.results32, go_sem, q0, q1, q2]) rfl ⟨?_, _, rfl, _, _, _, rfl, s1 hv1, hv2, hv3⟩
  exact (by go_grown : Below w.heap.size w ((((w.alloc (.cells #[.bool a.neg, .slice A_a a.m.length c_a, .int .i64 a.e] 26)).alloc (.cells #[.bool b.neg, .slice A_b b.m.length c_b, .int .i64 b.e] 26)).alloc (.cells #[.int .i64 p] 3)).alloc (.cells #[.bool up] 4))).trans (S2.out.mono (by simp <;> omega))

set_option maxRecDepth 100000 in
set_option maxHeartbeats 2000000 in
theorem root_any (v_d : Value) (d : Dy) (p : Int) (up : Bool) (w : World) (h_d : RdD w v_d d) (hT : TabAt w) :
    Calls Tryd.prog 34 #[v_d, .int .i64 p, .bool up] w (FacePost w (rootS d p up)) := by
  have hmf : ∀ (fn : Fn) (first cap : Array Value) (w : World), (Instr.makeFunc fn first cap).run Tryd.prog w = .ok (.func fn first cap) w := fun _ _ _ _ => rfl
  obtain ⟨A_d, n_d, c_d, rfl, hr_d, hl_d, he1_d, he2_d⟩ := h_d
  have hlen_d := hr_d.len
  subst hlen_d
  go_enter Tryd.func34, Tryd.ntmps34
  go_wp2_with fail
  refine (face_anyR 71 _ (rootS d p up) _ (enters0 Tryd.func71 (by kernel_rfl) rfl) ?_).mono ?_
  · intro W hW
    have hb : Below w.heap.size w W := (by go_grown : Below w.heap.size w ((((w.alloc (.cells #[.bool d.neg, .slice A_d d.m.length c_d, .int .i64 d.e] 26)).alloc (.cells #[.int .i64 p] 3)).alloc (.cells #[.bool up] 4)).alloc (.cells #[.bool false, .slice none 0 0, .int .i64 0] 26))).trans (hW.mono (by simp <;> omega))
    have b_d : Box W (w.heap.size) [.bool d.neg, .slice A_d d.m.length c_d, .int .i64 d.e] 26 := by
      have h1 : Box (w.alloc (.cells #[.bool d.neg, .slice A_d d.m.length c_d, .int .i64 d.e] 26)) (w.heap.size) [.bool d.neg, .slice A_d d.m.length c_d, .int .i64 d.e] 26 := by simpa using Box.new w [.bool d.neg, .slice A_d d.m.length c_d, .int .i64 d.e] 26
      exact (h1.keep (by go_grown : Below (w.alloc (.cells #[.bool d.neg, .slice A_d d.m.length c_d, .int .i64 d.e] 26)).heap.size (w.alloc (.cells #[.bool d.neg, .slice A_d d.m.length c_d, .int .i64 d.e] 26)) ((((w.alloc (.cells #[.bool d.neg, .slice A_d d.m.length c_d, .int .i64 d.e] 26)).alloc (.cells #[.int .i64 p] 3)).alloc (.cells #[.bool up] 4)).alloc (.cells #[.bool false, .slice none 0 0, .int .i64 0] 26)))).keep hW
    have b_p : Box W (w.heap.size + 1) [.int .i64 p] 3 := by
      have h1 : Box ((w.alloc (.cells #[.bool d.neg, .slice A_d d.m.length c_d, .int .i64 d.e] 26)).alloc (.cells #[.int .i64 p] 3)) (w.heap.size + 1) [.int .i64 p] 3 := by simpa using Box.new (w.alloc (.cells #[.bool d.neg, .slice A_d d.m.length c_d, .int .i64 d.e] 26)) [.int .i64 p] 3
      exact (h1.keep (by go_grown : Below ((w.alloc (.cells #[.bool d.neg, .slice A_d d.m.length c_d, .int .i64 d.e] 26)).alloc (.cells #[.int .i64 p] 3)).heap.size ((w.alloc (.cells #[.bool d.neg, .slice A_d d.m.length c_d, .int .i64 d.e] 26)).alloc (.cells #[.int .i64 p] 3)) ((((w.alloc (.cells #[.bool d.neg, .slice A_d d.m.length c_d, .int .i64 d.e] 26)).alloc (.cells #[.int .i64 p] 3)).alloc (.cells #[.bool up] 4)).alloc (.cells #[.bool false, .slice none 0 0, .int .i64 0] 26)))).keep hW
    have b_up : Box W (w.heap.size + 1 + 1) [.bool up] 4 := by
      have h1 : Box (((w.alloc (.cells #[.bool d.neg, .slice A_d d.m.length c_d, .int .i64 d.e] 26)).alloc (.cells #[.int .i64 p] 3)).alloc (.cells #[.bool up] 4)) (w.heap.size + 1 + 1) [.bool up] 4 := by simpa using Box.new ((w.alloc (.cells #[.bool d.neg, .slice A_d d.m.length c_d, .int .i64 d.e] 26)).alloc (.cells #[.int .i64 p] 3)) [.bool up] 4
      exact (h1.keep (by go_grown : Below (((w.alloc (.cells #[.bool d.neg, .slice A_d d.m.length c_d, .int .i64 d.e] 26)).alloc (.cells #[.int .i64 p] 3)).alloc (.cells #[.bool up] 4)).heap.size (((w.alloc (.cells #[.bool d.neg, .slice A_d d.m.length c_d, .int .i64 d.e] 26)).alloc (.cells #[.int .i64 p] 3)).alloc (.cells #[.bool up] 4)) ((((w.alloc (.cells #[.bool d.neg, .slice A_d d.m.length c_d, .int .i64 d.e] 26)).alloc (.cells #[.int .i64 p] 3)).alloc (.cells #[.bool up] 4)).alloc (.cells #[.bool false, .slice none 0 0, .int .i64 0] 26)))).keep hW
    exact root1_any _ _ _ _ _ _ p d up A_d _ c_d W b_p b_d b_up ⟨A_d, _, c_d, rfl, hr_d.below hb, hl_d, he1_d, he2_d⟩ (hT.below hb)
  rintro e1 w2 ⟨hb2, v, rfl, hv⟩
  obtain ⟨A', n', c', rfl, hv1, hv2, hv3⟩ := hv
  obtain ⟨hcc, hff⟩ := bcell hb2
  obtain ⟨s1, s2, q0, q1, q2⟩ := store_dy (N := w.heap.size + 1 + 1 + 1) (v0 := .bool (rootS d p up).1.neg) (v1 := .slice A' n' c') (v2 := .int .i64 (rootS d p up).1.e) (by simp) hb2
  have S2 := hide s2
  clear s2 hb2
  go_wp2
  refine bodyPost_ret (v := .tuple #[.agg #[.bool (rootS d p up).1.neg, .slice A' n' c', .int .i64 (rootS d p up).1.e], .int .i64 (rootS d p up).2]) (by simp [results, Tryd.results34, go_sem, q0, q1, q2]) rfl ⟨?_, _, rfl, _, _, _, rfl, s1 hv1, hv2, hv3⟩
  exact (by go_grown : Below w.heap.size w (((w.alloc (.cells #[.bool d.neg, .slice A_d d.m.length c_d, .int .i64 d.e] 26)).alloc (.cells #[.int .i64 p] 3)).alloc (.cells #[.bool up] 4))).trans (S2.out.mono (by simp <;> omega))

end Go.Proofs.YteodljieiloebaaDoor
