/- sluicewaylaw2: Few, told. Printed by wip/mk_L2A.py. -/
import Derived.Test.YtaifjldpjkabjaaDoorDyQ
import Derived.Test.YtaifjldpjkabjaaDoorRfB
namespace Go.Proofs.YtaifjldpjkabjaaDoor
open Go.RowKit Pl

set_option maxHeartbeats 1000000 in
theorem few2_any (u : Value) (d : Dy) (w : World) (h : RdD w u d) :
    Calls Tryd.prog 13 #[u] w fun e w' => e = .returned (.bool (decide (d.m.length ≤ 70))) ∧ Below w.heap.size w w' := by
  obtain ⟨A, n, c, rfl, hr, hl, he1, he2⟩ := h
  have hlen := hr.len
  by_cases h7 : n ≤ 70
  · have d1 : decide ((n : Int) ≤ 70) = true := decide_eq_true (by omega)
    have HD : Hid (decide (d.m.length ≤ 70) = true) := decide_eq_true (by omega)
    obtain ⟨hA, hb0⟩ := box_1 w [.bool d.neg, .slice A n c, .int .i64 d.e] 24
    have a1 := hA.cell 1 rfl
    clear h7
    go_enter Tryd.func13, Tryd.ntmps13
    go_upto_region 1 with fail
    generalize w.alloc (.cells #[.bool d.neg, .slice A n c, .int .i64 d.e] 24) = W at *
    go_wp2
    go_ret
    exact ⟨ret_bool HD.out.symm, hb0⟩
  · have d1 : decide ((n : Int) ≤ 70) = false := decide_eq_false (by omega)
    have HD : Hid (decide (d.m.length ≤ 70) = false) := decide_eq_false (by omega)
    obtain ⟨hA, hb0⟩ := box_1 w [.bool d.neg, .slice A n c, .int .i64 d.e] 24
    have a1 := hA.cell 1 rfl
    clear h7
    go_enter Tryd.func13, Tryd.ntmps13
    go_upto_region 1 with fail
    generalize w.alloc (.cells #[.bool d.neg, .slice A n c, .int .i64 d.e] 24) = W at *
    go_wp2
    go_ret
    exact ⟨ret_bool HD.out.symm, hb0⟩
theorem limb1 {x : Nat} (h0 : 0 < x) (h : x < BB) : limbs BB x = [x] := limbs_of BB_gt1 (Lim.cons h Lim.nil) (by simp [Cnl]; omega) (by simp [val])
theorem fit1 {neg : Bool} {n k x : Nat} {e : Int} (hn : n = 2 ^ k * x) (ho : x % 2 = 1) (hx : x < BB) (h1 : -1048576 ≤ e + (k : Int)) (h2 : e + (k : Int) ≤ 1048576) : fitS neg n e = (⟨neg, [x], e + (k : Int)⟩, 0) := by
  have h0 : x ≠ 0 := by omega
  have hn0 : n ≠ 0 := by rw [hn]; have := Nat.mul_pos (Nat.two_pow_pos k) (Nat.pos_of_ne_zero h0); omega
  have ht : tz n = k := tz_of hn ho
  have hd : n / 2 ^ k = x := by rw [hn, Nat.mul_div_cancel_left _ (Nat.two_pow_pos k)]
  rw [fitS_eq hn0, ht, hd, limb1 (by omega) hx, if_neg (by simp), if_pos ⟨h1, h2⟩]
theorem of_six : ofS 6 0 = (⟨false, [3], 1⟩, 0) := fit1 (neg := false) (n := 6) (e := 0) (k := 1) (x := 3) rfl rfl (by unfold BB; omega) (by decide) (by decide)
theorem of_half : ofS (-1) (-1) = (⟨true, [1], -1⟩, 0) := fit1 (neg := true) (n := 1) (e := -1) (k := 0) (x := 1) rfl rfl (by unfold BB; omega) (by decide) (by decide)
theorem of_far : ofS 1 1048577 = (Dy.zero, 3) := by
  unfold ofS
  rw [fitS_eq (by decide), show (1 : Int).natAbs = 1 from rfl, show tz 1 = 0 from rfl, Nat.pow_zero, Nat.div_one, limb1 (by omega) BB_gt1, if_neg (by decide), if_neg (by decide)]
theorem sum_told : twoS ⟨false, [3], 1⟩ ⟨true, [1], -1⟩ (sumS ⟨false, [3], 1⟩ ⟨true, [1], -1⟩) = (⟨false, [11], -1⟩, 0) := by
  rw [twoS_of (by decide) (by decide)]
  exact fit1 (neg := false) (e := -1) (n := 11) (k := 0) (x := 11) rfl rfl (by unfold BB; omega) (by decide) (by decide)
theorem mul_told : twoS ⟨false, [3], 1⟩ ⟨true, [1], -1⟩ (mulS ⟨false, [3], 1⟩ ⟨true, [1], -1⟩) = (⟨true, [3], 0⟩, 0) := by
  rw [twoS_of (by decide) (by decide)]
  exact fit1 (neg := true) (e := 0) (n := 3) (k := 0) (x := 3) rfl rfl (by unfold BB; omega) (by decide) (by decide)
theorem zd_told1 : ZD ⟨true, [1], -1⟩ < ZD ⟨false, [3], 1⟩ := by
  have h1 := magD_pos (d := ⟨true, [1], -1⟩) (by decide) (by decide)
  have h2 := magD_pos (d := ⟨false, [3], 1⟩) (by decide) (by decide)
  rw [ZD_mag, ZD_mag]
  generalize magD ⟨true, [1], -1⟩ = x at *
  generalize magD ⟨false, [3], 1⟩ = y at *
  simp only [sgI, if_true, Bool.false_eq_true, if_false]
  omega
theorem cmp_toldL : cmpD ⟨false, [3], 1⟩ ⟨true, [1], -1⟩ = 1 := by
  rw [cmpD_Z (by decide) (Lim.cons (by unfold BB; omega) Lim.nil) (by decide) (Lim.cons (by unfold BB; omega) Lim.nil)]
  unfold cmpI
  have := zd_told1
  rw [if_neg (by omega), if_pos this]
/-- One limb, and where it lies. -/
theorem RdD.one {w : World} {d : Dy} {A : Option Addr} {n c x : Nat} (h : RdD w (.agg #[.bool d.neg, .slice A n c, .int .i64 d.e]) d) (hm : d.m = [x]) : ∃ b off, A = some ⟨b, off, none⟩ ∧ n = 1 ∧ w.cell? ⟨b, off, none⟩ = some (.int .u64 (x : Int)) ∧ n ≤ c ∧ c ≤ 9223372036854775807 := by
  obtain ⟨A', n', c', e, hr, _⟩ := h
  injection e with e
  have := congrArg Array.toList e
  simp only [List.cons.injEq, Value.slice.injEq, and_true, true_and] at this
  obtain ⟨rfl, rfl, rfl⟩ := this
  have hl := hr.len
  rw [hm] at hl hr
  obtain rfl : n = 1 := hl.symm
  obtain ⟨b, off, rfl, _, hc⟩ := hr.at_ (by omega)
  have h0 := hc 0 (by omega)
  have hmx := hr.max
  unfold maxLen at hmx
  exact ⟨b, off, rfl, rfl, by rw [Nat.add_zero] at h0; exact h0, hr.cap, by omega⟩

set_option maxRecDepth 100000 in
set_option maxHeartbeats 8000000 in
theorem told2_any (w : World) (hT : TabAt w) :
    Calls Tryd.prog 14 #[] w fun x w' => x = .returned (.bool true) ∧ Below w.heap.size w w' := by
  have HT := hide hT
  clear hT
  have hbz : Below w.heap.size w w := Below.refl _ _
  go_enter Tryd.func14, Tryd.ntmps14
  go_wp2_with fail
  with_reducible refine (ofT 6 0 _ (by omega) (by omega) (by omega) (by omega) HT.out).mono ?_
  rintro e w1 ⟨⟨d_a, x_a, A_a, n_a, c_a, h_a, rfl, r_a⟩, hb1⟩
  have HT_1 := hide (HT.out.below hb1)
  have hbs1 := below_then hbz hb1
  clear HT hbz hb1
  have z_a := h_a.out
  obtain ⟨e1_a, e2_a⟩ := Prod.mk.inj (z_a.trans of_six)
  have E_a := hide e1_a
  clear e1_a h_a z_a
  subst e2_a
  obtain ⟨b_a_n2, hb2⟩ := box_1 w1 [.bool d_a.neg, .slice A_a n_a c_a, .int .i64 d_a.e] 24
  go_upto_region 2 with fail
  generalize (w1.alloc (.cells #[.bool d_a.neg, .slice A_a n_a c_a, .int .i64 d_a.e] 24)) = w2 at *
  have HT_2 := hide (HT_1.out.below hb2)
  have r_a_2 := r_a.below hb2
  have hbs2 := below_then hbs1 hb2
  clear HT_1 r_a hbs1 hb2
  go_wp2_with fail
  with_reducible refine (ofT (-1) (-1) _ (by omega) (by omega) (by omega) (by omega) HT_2.out).mono ?_
  rintro e w3 ⟨⟨d_b, x_b, A_b, n_b, c_b, h_b, rfl, r_b⟩, hb3⟩
  have HT_3 := hide (HT_2.out.below hb3)
  have r_a_3 := r_a_2.below hb3
  have b_a_3 := b_a_n2.keep hb3
  have hbs3 := below_then hbs2 hb3
  clear HT_2 r_a_2 b_a_n2 hbs2 hb3
  have z_b := h_b.out
  obtain ⟨e1_b, e2_b⟩ := Prod.mk.inj (z_b.trans of_half)
  have E_b := hide e1_b
  clear e1_b h_b z_b
  subst e2_b
  obtain ⟨b_b_n4, hb4⟩ := box_1 w3 [.bool d_b.neg, .slice A_b n_b c_b, .int .i64 d_b.e] 24
  go_upto_region 3 with fail
  generalize (w3.alloc (.cells #[.bool d_b.neg, .slice A_b n_b c_b, .int .i64 d_b.e] 24)) = w4 at *
  have HT_4 := hide (HT_3.out.below hb4)
  have r_a_4 := r_a_3.below hb4
  have b_a_4 := b_a_3.keep hb4
  have r_b_4 := r_b.below hb4
  have hbs4 := below_then hbs3 hb4
  clear HT_3 r_a_3 b_a_3 r_b hbs3 hb4
  have q_a0 := b_a_4.cell 0 rfl
  have q_a1 := b_a_4.cell 1 rfl
  have q_a2 := b_a_4.cell 2 rfl
  have q_b0 := b_b_n4.cell 0 rfl
  have q_b1 := b_b_n4.cell 1 rfl
  have q_b2 := b_b_n4.cell 2 rfl
  go_wp2_with fail
  clear q_a0 q_a1 q_a2 q_b0 q_b1 q_b2
  with_reducible refine (addT _ _ d_a d_b _ r_a_4 r_b_4 HT_4.out).mono ?_
  rintro e w5 ⟨⟨d_c, x_c, A_c, n_c, c_c, h_c, rfl, r_c⟩, hb5⟩
  have HT_5 := hide (HT_4.out.below hb5)
  have r_a_5 := r_a_4.below hb5
  have b_a_5 := b_a_4.keep hb5
  have r_b_5 := r_b_4.below hb5
  have b_b_5 := b_b_n4.keep hb5
  have hbs5 := below_then hbs4 hb5
  clear HT_4 r_a_4 b_a_4 r_b_4 b_b_n4 hbs4 hb5
  have z_c := h_c.out
  rw [E_a.out, E_b.out] at z_c
  obtain ⟨e1_c, e2_c⟩ := Prod.mk.inj (z_c.trans sum_told)
  have E_c := hide e1_c
  clear e1_c h_c z_c
  subst e2_c
  obtain ⟨b_c_n6, hb6⟩ := box_1 w5 [.bool d_c.neg, .slice A_c n_c c_c, .int .i64 d_c.e] 24
  go_upto_region 4 with fail
  generalize (w5.alloc (.cells #[.bool d_c.neg, .slice A_c n_c c_c, .int .i64 d_c.e] 24)) = w6 at *
  have HT_6 := hide (HT_5.out.below hb6)
  have r_a_6 := r_a_5.below hb6
  have b_a_6 := b_a_5.keep hb6
  have r_b_6 := r_b_5.below hb6
  have b_b_6 := b_b_5.keep hb6
  have r_c_6 := r_c.below hb6
  have hbs6 := below_then hbs5 hb6
  clear HT_5 r_a_5 b_a_5 r_b_5 b_b_5 r_c hbs5 hb6
  have q_a0 := b_a_6.cell 0 rfl
  have q_a1 := b_a_6.cell 1 rfl
  have q_a2 := b_a_6.cell 2 rfl
  have q_b0 := b_b_6.cell 0 rfl
  have q_b1 := b_b_6.cell 1 rfl
  have q_b2 := b_b_6.cell 2 rfl
  go_wp2_with fail
  clear q_a0 q_a1 q_a2 q_b0 q_b1 q_b2
  with_reducible refine (mulT _ _ d_a d_b _ r_a_6 r_b_6 HT_6.out).mono ?_
  rintro e w7 ⟨⟨d_d, x_d, A_d, n_d, c_d, h_d, rfl, r_d⟩, hb7⟩
  have HT_7 := hide (HT_6.out.below hb7)
  have r_a_7 := r_a_6.below hb7
  have b_a_7 := b_a_6.keep hb7
  have r_b_7 := r_b_6.below hb7
  have b_b_7 := b_b_6.keep hb7
  have r_c_7 := r_c_6.below hb7
  have b_c_7 := b_c_n6.keep hb7
  have hbs7 := below_then hbs6 hb7
  clear HT_6 r_a_6 b_a_6 r_b_6 b_b_6 r_c_6 b_c_n6 hbs6 hb7
  have z_d := h_d.out
  rw [E_a.out, E_b.out] at z_d
  obtain ⟨e1_d, e2_d⟩ := Prod.mk.inj (z_d.trans mul_told)
  have E_d := hide e1_d
  clear e1_d h_d z_d
  subst e2_d
  obtain ⟨b_d_n8, hb8⟩ := box_1 w7 [.bool d_d.neg, .slice A_d n_d c_d, .int .i64 d_d.e] 24
  go_upto_region 5 with fail
  generalize (w7.alloc (.cells #[.bool d_d.neg, .slice A_d n_d c_d, .int .i64 d_d.e] 24)) = w8 at *
  have HT_8 := hide (HT_7.out.below hb8)
  have r_a_8 := r_a_7.below hb8
  have b_a_8 := b_a_7.keep hb8
  have r_b_8 := r_b_7.below hb8
  have b_b_8 := b_b_7.keep hb8
  have r_c_8 := r_c_7.below hb8
  have b_c_8 := b_c_7.keep hb8
  have r_d_8 := r_d.below hb8
  have hbs8 := below_then hbs7 hb8
  clear HT_7 r_a_7 b_a_7 r_b_7 b_b_7 r_c_7 b_c_7 r_d hbs7 hb8
  go_wp2_with fail
  with_reducible refine (ofT 1 1048577 _ (by omega) (by omega) (by omega) (by omega) HT_8.out).mono ?_
  rintro e w9 ⟨⟨d_f, x_f, A_f, n_f, c_f, h_f, rfl, r_f⟩, hb9⟩
  have HT_9 := hide (HT_8.out.below hb9)
  have r_a_9 := r_a_8.below hb9
  have b_a_9 := b_a_8.keep hb9
  have r_b_9 := r_b_8.below hb9
  have b_b_9 := b_b_8.keep hb9
  have r_c_9 := r_c_8.below hb9
  have b_c_9 := b_c_8.keep hb9
  have r_d_9 := r_d_8.below hb9
  have b_d_9 := b_d_n8.keep hb9
  have hbs9 := below_then hbs8 hb9
  clear HT_8 r_a_8 b_a_8 r_b_8 b_b_8 r_c_8 b_c_8 r_d_8 b_d_n8 hbs8 hb9
  have z_f := h_f.out
  obtain ⟨e1_f, e2_f⟩ := Prod.mk.inj (z_f.trans of_far)
  have E_f := hide e1_f
  clear e1_f h_f z_f
  subst e2_f
  obtain ⟨b_fn, hb10⟩ := box_1 w9 [.bool d_f.neg, .slice A_f n_f c_f, .int .i64 d_f.e] 24
  clear b_fn
  have HT_10 := hide (HT_9.out.below hb10)
  have r_a_10 := r_a_9.below hb10
  have b_a_10 := b_a_9.keep hb10
  have r_b_10 := r_b_9.below hb10
  have b_b_10 := b_b_9.keep hb10
  have r_c_10 := r_c_9.below hb10
  have b_c_10 := b_c_9.keep hb10
  have r_d_10 := r_d_9.below hb10
  have b_d_10 := b_d_9.keep hb10
  have r_f_10 := r_f.below hb10
  have hbs10 := below_then hbs9 hb10
  clear HT_9 r_a_9 b_a_9 r_b_9 b_b_9 r_c_9 b_c_9 r_d_9 b_d_9 r_f hbs9 hb10
  obtain ⟨bb_a, off_a, rfl, rfl, hc_a, hcap_a, hmax_a⟩ := r_a_10.one (x := 3) (by rw [E_a.out])
  obtain ⟨bb_c, off_c, rfl, rfl, hc_c, hcap_c, hmax_c⟩ := r_c_10.one (x := 11) (by rw [E_c.out])
  obtain ⟨bb_d, off_d, rfl, rfl, hc_d, hcap_d, hmax_d⟩ := r_d_10.one (x := 3) (by rw [E_d.out])
  have he_a : d_a.e = 1 := by rw [E_a.out]
  have he_c : d_c.e = -1 := by rw [E_c.out]
  have he_d : d_d.e = 0 := by rw [E_d.out]
  have hs_d : d_d.neg = true := by rw [E_d.out]
  have q_a0 := b_a_10.cell 0 rfl
  have q_a1 := b_a_10.cell 1 rfl
  have q_a2 := b_a_10.cell 2 rfl
  have q_b0 := b_b_10.cell 0 rfl
  have q_b1 := b_b_10.cell 1 rfl
  have q_b2 := b_b_10.cell 2 rfl
  have q_c0 := b_c_10.cell 0 rfl
  have q_c1 := b_c_10.cell 1 rfl
  have q_c2 := b_c_10.cell 2 rfl
  have q_d0 := b_d_10.cell 0 rfl
  have q_d1 := b_d_10.cell 1 rfl
  have q_d2 := b_d_10.cell 2 rfl
  go_wp2_with fail
  clear q_a0 q_a1 q_a2 q_b0 q_b1 q_b2 q_c0 q_c1 q_c2 q_d0 q_d1 q_d2
  clear he_a he_c he_d hs_d
  generalize (w9.alloc (.cells #[.bool d_f.neg, .slice A_f n_f c_f, .int .i64 d_f.e] 24)) = w10 at *
  clear r_c_10
  clear r_d_10
  clear r_f_10
  clear b_c_10
  clear b_d_10
  with_reducible refine (signD_any _ d_b _ r_b_10).mono ?_
  rw [show signD d_b = -1 by rw [E_b.out]; decide]
  rintro e w11 ⟨rfl, hb11⟩
  have HT_11 := hide (HT_10.out.below hb11)
  have r_a_11 := r_a_10.below hb11
  have b_a_11 := b_a_10.keep hb11
  have r_b_11 := r_b_10.below hb11
  have b_b_11 := b_b_10.keep hb11
  have hbs11 := below_then hbs10 hb11
  clear HT_10 r_a_10 b_a_10 r_b_10 b_b_10 hbs10 hb11
  have q_a0 := b_a_11.cell 0 rfl
  have q_a1 := b_a_11.cell 1 rfl
  have q_a2 := b_a_11.cell 2 rfl
  have q_b0 := b_b_11.cell 0 rfl
  have q_b1 := b_b_11.cell 1 rfl
  have q_b2 := b_b_11.cell 2 rfl
  go_wp2_with fail
  clear q_a0 q_a1 q_a2 q_b0 q_b1 q_b2
  with_reducible refine (cmpD_any _ _ d_a d_b _ r_a_11 r_b_11).mono ?_
  rw [show cmpD d_a d_b = 1 by rw [E_a.out, E_b.out]; exact cmp_toldL]
  rintro e w12 ⟨rfl, hb12⟩
  have HT_12 := hide (HT_11.out.below hb12)
  have r_a_12 := r_a_11.below hb12
  have b_a_12 := b_a_11.keep hb12
  have r_b_12 := r_b_11.below hb12
  have b_b_12 := b_b_11.keep hb12
  have hbs12 := below_then hbs11 hb12
  clear HT_11 r_a_11 b_a_11 r_b_11 b_b_11 hbs11 hb12
  clear r_a_12
  clear r_b_12
  clear b_a_12
  clear b_b_12
  clear HT_12
  go_wp2_with fail
  with_reducible refine (mayD_any _ Dy.zero _ (RdD.zero _)).mono ?_
  rw [show mayD Dy.zero = true by decide]
  rintro e w13 ⟨rfl, hb13⟩
  have hbs13 := below_then hbs12 hb13
  clear hbs12 hb13
  obtain ⟨b_two_n14, hb14⟩ := box_1 w13 [.int .u64 2] 38
  go_wp2_with fail
  generalize (w13.alloc (.cells #[.int .u64 2] 38)) = w14 at *
  have hbs14 := below_then hbs13 hb14
  clear hbs13 hb14
  have r_two : RdD w14 (.agg #[.bool false, .slice (some ⟨w13.heap.size, 0, none⟩) 1 1, .int .i64 0]) ⟨false, [2], 0⟩ := ⟨_, _, _, rfl, ⟨rfl, Nat.le_refl _, by unfold maxLen; omega, fun _ => ⟨_, 0, rfl, b_two_n14.lt, fun k hk => by
    obtain rfl : k = 0 := by omega
    exact b_two_n14.cell 0 rfl⟩⟩, Lim.cons (by unfold BB; omega) Lim.nil, by decide, by decide⟩
  with_reducible refine (mayD_any _ _ _ r_two).mono ?_
  rw [show mayD ⟨false, [2], 0⟩ = false by decide]
  rintro e w15 ⟨rfl, hb15⟩
  have b_two_15 := b_two_n14.keep hb15
  have hbs15 := below_then hbs14 hb15
  clear b_two_n14 hbs14 hb15
  go_wp2_with fail
  go_ret
  exact ⟨rfl, hbs15⟩
end Go.Proofs.YtaifjldpjkabjaaDoor
