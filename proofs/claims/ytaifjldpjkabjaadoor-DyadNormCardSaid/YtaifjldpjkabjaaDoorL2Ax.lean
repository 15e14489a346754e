/- sluicewaylaw2: Few, told. Printed by wip/mk_L2A.py. sluicewaylaw2: the walk of DyadRing. Printed by wip/mk_L2B.py. -/
import Derived.Test.YtaifjldpjkabjaaDoorDyMx
import Derived.Test.YtaifjldpjkabjaaDoorRfBx
namespace Go.Proofs.YtaifjldpjkabjaaDoor
open Go.RowKit Pl

set_option maxHeartbeats 1000000 in
theorem few2_any (u : Value) (d : Dy) (w : World) (h : RdD w u d) :
    Calls Tryd.prog 13 #[u] w fun e w' => e = .returned (.bool (decide (d.m.length ≤ 70))) ∧ Below w.heap.size w w' := by
  obtain ⟨A, n, c, rfl, hr, hl, he1, he2⟩ := h
  have hlen := hr.len
  by_cases h7 : n ≤ 70
  · have d1 : decide ((n : Int) ≤ 70) = true := decide_eq_true (by omega)
    have HD : Hid (decide (d.m.length ≤ 70) = true) := decide_eq_true (by omega)
    obtain ⟨hA, hb0⟩ := box_1 w [.bool d.neg, .slice A n c, .int .i64 d.e] 24
    have a1 := hA.cell 1 rfl
    clear h7
    go_enter Tryd.func13, Tryd.ntmps13
    go_upto_region 1 with fail
    generalize w.alloc (.cells #[.bool d.neg, .slice A n c, .int .i64 d.e] 24) = W at *
    go_wp2
    go_ret
    exact ⟨ret_bool HD.out.symm, hb0⟩
  · have d1 : decide ((n : Int) ≤ 70) = false := decide_eq_false (by omega)
    have HD : Hid (decide (d.m.length ≤ 70) = false) := decide_eq_false (by omega)
    obtain ⟨hA, hb0⟩ := box_1 w [.bool d.neg, .slice A n c, .int .i64 d.e] 24
    have a1 := hA.cell 1 rfl
    clear h7
    go_enter Tryd.func13, Tryd.ntmps13
    go_upto_region 1 with fail
    generalize w.alloc (.cells #[.bool d.neg, .slice A n c, .int .i64 d.e] 24) = W at *
    go_wp2
    go_ret
    exact ⟨ret_bool HD.out.symm, hb0⟩
theorem limb1 {x : Nat} (h0 : 0 < x) (h : x < BB) : limbs BB x = [x] := limbs_of BB_gt1 (Lim.cons h Lim.nil) (by simp [Cnl]; omega) (by simp [val])
theorem fit1 {neg : Bool} {n k x : Nat} {e : Int} (hn : n = 2 ^ k * x) (ho : x % 2 = 1) (hx : x < BB) (h1 : -1048576 ≤ e + (k : Int)) (h2 : e + (k : Int) ≤ 1048576) : fitS neg n e = (⟨neg, [x], e + (k : Int)⟩, 0) := by
  have h0 : x ≠ 0 := by omega
  have hn0 : n ≠ 0 := by rw [hn]; have := Nat.mul_pos (Nat.two_pow_pos k) (Nat.pos_of_ne_zero h0); omega
  have ht : tz n = k := tz_of hn ho
  have hd : n / 2 ^ k = x := by rw [hn, Nat.mul_div_cancel_left _ (Nat.two_pow_pos k)]
  rw [fitS_eq hn0, ht, hd, limb1 (by omega) hx, if_neg (by simp), if_pos ⟨h1, h2⟩]
theorem of_six : ofS 6 0 = (⟨false, [3], 1⟩, 0) := fit1 (neg := false) (n := 6) (e := 0) (k := 1) (x := 3) rfl rfl (by unfold BB; omega) (by decide) (by decide)
theorem of_half : ofS (-1) (-1) = (⟨true, [1], -1⟩, 0) := fit1 (neg := true) (n := 1) (e := -1) (k := 0) (x := 1) rfl rfl (by unfold BB; omega) (by decide) (by decide)
theorem of_far : ofS 1 1048577 = (Dy.zero, 3) := by
  unfold ofS
  rw [fitS_eq (by decide), show (1 : Int).natAbs = 1 from rfl, show tz 1 = 0 from rfl, Nat.pow_zero, Nat.div_one, limb1 (by omega) BB_gt1, if_neg (by decide), if_neg (by decide)]
theorem sum_told : twoS ⟨false, [3], 1⟩ ⟨true, [1], -1⟩ (sumS ⟨false, [3], 1⟩ ⟨true, [1], -1⟩) = (⟨false, [11], -1⟩, 0) := by
  rw [twoS_of (by decide) (by decide)]
  exact fit1 (neg := false) (e := -1) (n := 11) (k := 0) (x := 11) rfl rfl (by unfold BB; omega) (by decide) (by decide)
theorem mul_told : twoS ⟨false, [3], 1⟩ ⟨true, [1], -1⟩ (mulS ⟨false, [3], 1⟩ ⟨true, [1], -1⟩) = (⟨true, [3], 0⟩, 0) := by
  rw [twoS_of (by decide) (by decide)]
  exact fit1 (neg := true) (e := 0) (n := 3) (k := 0) (x := 3) rfl rfl (by unfold BB; omega) (by decide) (by decide)
theorem zd_told1 : ZD ⟨true, [1], -1⟩ < ZD ⟨false, [3], 1⟩ := by
  have h1 := magD_pos (d := ⟨true, [1], -1⟩) (by decide) (by decide)
  have h2 := magD_pos (d := ⟨false, [3], 1⟩) (by decide) (by decide)
  rw [ZD_mag, ZD_mag]
  generalize magD ⟨true, [1], -1⟩ = x at *
  generalize magD ⟨false, [3], 1⟩ = y at *
  simp only [sgI, if_true, Bool.false_eq_true, if_false]
  omega
theorem cmp_toldL : cmpD ⟨false, [3], 1⟩ ⟨true, [1], -1⟩ = 1 := by
  rw [cmpD_Z (by decide) (Lim.cons (by unfold BB; omega) Lim.nil) (by decide) (Lim.cons (by unfold BB; omega) Lim.nil)]
  unfold cmpI
  have := zd_told1
  rw [if_neg (by omega), if_pos this]
/-- One limb, and where it lies. -/
theorem RdD.one {w : World} {d : Dy} {A : Option Addr} {n c x : Nat} (h : RdD w (.agg #[.bool d.neg, .slice A n c, .int .i64 d.e]) d) (hm : d.m = [x]) : ∃ b off, A = some ⟨b, off, none⟩ ∧ n = 1 ∧ w.cell? ⟨b, off, none⟩ = some (.int .u64 (x : Int)) ∧ n ≤ c ∧ c ≤ 9223372036854775807 := by
  obtain ⟨A', n', c', e, hr, _⟩ := h
  injection e with e
  have := congrArg Array.toList e
  simp only [List.cons.injEq, Value.slice.injEq, and_true, true_and] at this
  obtain ⟨rfl, rfl, rfl⟩ := this
  have hl := hr.len
  rw [hm] at hl hr
  obtain rfl : n = 1 := hl.symm
  obtain ⟨b, off, rfl, _, hc⟩ := hr.at_ (by omega)
  have h0 := hc 0 (by omega)
  have hmx := hr.max
  unfold maxLen at hmx
  exact ⟨b, off, rfl, rfl, by rw [Nat.add_zero] at h0; exact h0, hr.cap, by omega⟩

set_option maxRecDepth 100000 in
set_option maxHeartbeats 8000000 in
theorem told2_any (w : World) (hT : TabAt w) :
    Calls Tryd.prog 14 #[] w fun x w' => x = .returned (.bool true) ∧ Below w.heap.size w w' := by
  have HT := hide hT
  clear hT
  have hbz : Below w.heap.size w w := Below.refl _ _
  go_enter Tryd.func14, Tryd.ntmps14
  go_wp2_with fail
  with_reducible refine (ofT 6 0 _ (by omega) (by omega) (by omega) (by omega) HT.out).mono ?_
  rintro e w1 ⟨⟨d_a, x_a, A_a, n_a, c_a, h_a, rfl, r_a⟩, hb1⟩
  have HT_1 := hide (HT.out.below hb1)
  have hbs1 := below_then hbz hb1
  clear HT hbz hb1
  have z_a := h_a.out
  obtain ⟨e1_a, e2_a⟩ := Prod.mk.inj (z_a.trans of_six)
  have E_a := hide e1_a
  clear e1_a h_a z_a
  subst e2_a
  obtain ⟨b_a_n2, hb2⟩ := box_1 w1 [.bool d_a.neg, .slice A_a n_a c_a, .int .i64 d_a.e] 24
  go_upto_region 2 with fail
  generalize (w1.alloc (.cells #[.bool d_a.neg, .slice A_a n_a c_a, .int .i64 d_a.e] 24)) = w2 at *
  have HT_2 := hide (HT_1.out.below hb2)
  have r_a_2 := r_a.below hb2
  have hbs2 := below_then hbs1 hb2
  clear HT_1 r_a hbs1 hb2
  go_wp2_with fail
  with_reducible refine (ofT (-1) (-1) _ (by omega) (by omega) (by omega) (by omega) HT_2.out).mono ?_
  rintro e w3 ⟨⟨d_b, x_b, A_b, n_b, c_b, h_b, rfl, r_b⟩, hb3⟩
  have HT_3 := hide (HT_2.out.below hb3)
  have r_a_3 := r_a_2.below hb3
  have b_a_3 := b_a_n2.keep hb3
  have hbs3 := below_then hbs2 hb3
  clear HT_2 r_a_2 b_a_n2 hbs2 hb3
  have z_b := h_b.out
  obtain ⟨e1_b, e2_b⟩ := Prod.mk.inj (z_b.trans of_half)
  have E_b := hide e1_b
  clear e1_b h_b z_b
  subst e2_b
  obtain ⟨b_b_n4, hb4⟩ := box_1 w3 [.bool d_b.neg, .slice A_b n_b c_b, .int .i64 d_b.e] 24
  go_upto_region 3 with fail
  generalize (w3.alloc (.cells #[.bool d_b.neg, .slice A_b n_b c_b, .int .i64 d_b.e] 24)) = w4 at *
  have HT_4 := hide (HT_3.out.below hb4)
  have r_a_4 := r_a_3.below hb4
  have b_a_4 := b_a_3.keep hb4
  have r_b_4 := r_b.below hb4
  have hbs4 := below_then hbs3 hb4
  clear HT_3 r_a_3 b_a_3 r_b hbs3 hb4
  have q_a0 := b_a_4.cell 0 rfl
  have q_a1 := b_a_4.cell 1 rfl
  have q_a2 := b_a_4.cell 2 rfl
  have q_b0 := b_b_n4.cell 0 rfl
  have q_b1 := b_b_n4.cell 1 rfl
  have q_b2 := b_b_n4.cell 2 rfl
  go_wp2_with fail
  clear q_a0 q_a1 q_a2 q_b0 q_b1 q_b2
  with_reducible refine (addT _ _ d_a d_b _ r_a_4 r_b_4 HT_4.out).mono ?_
  rintro e w5 ⟨⟨d_c, x_c, A_c, n_c, c_c, h_c, rfl, r_c⟩, hb5⟩
  have HT_5 := hide (HT_4.out.below hb5)
  have r_a_5 := r_a_4.below hb5
  have b_a_5 := b_a_4.keep hb5
  have r_b_5 := r_b_4.below hb5
  have b_b_5 := b_b_n4.keep hb5
  have hbs5 := below_then hbs4 hb5
  clear HT_4 r_a_4 b_a_4 r_b_4 b_b_n4 hbs4 hb5
  have z_c := h_c.out
  rw [E_a.out, E_b.out] at z_c
  obtain ⟨e1_c, e2_c⟩ := Prod.mk.inj (z_c.trans sum_told)
  have E_c := hide e1_c
  clear e1_c h_c z_c
  subst e2_c
  obtain ⟨b_c_n6, hb6⟩ := box_1 w5 [.bool d_c.neg, .slice A_c n_c c_c, .int .i64 d_c.e] 24
  go_upto_region 4 with fail
  generalize (w5.alloc (.cells #[.bool d_c.neg, .slice A_c n_c c_c, .int .i64 d_c.e] 24)) = w6 at *
  have HT_6 := hide (HT_5.out.below hb6)
  have r_a_6 := r_a_5.below hb6
  have b_a_6 := b_a_5.keep hb6
  have r_b_6 := r_b_5.below hb6
  have b_b_6 := b_b_5.keep hb6
  have r_c_6 := r_c.below hb6
  have hbs6 := below_then hbs5 hb6
  clear HT_5 r_a_5 b_a_5 r_b_5 b_b_5 r_c hbs5 hb6
  have q_a0 := b_a_6.cell 0 rfl
  have q_a1 := b_a_6.cell 1 rfl
  have q_a2 := b_a_6.cell 2 rfl
  have q_b0 := b_b_6.cell 0 rfl
  have q_b1 := b_b_6.cell 1 rfl
  have q_b2 := b_b_6.cell 2 rfl
  go_wp2_with fail
  clear q_a0 q_a1 q_a2 q_b0 q_b1 q_b2
  with_reducible refine (mulT _ _ d_a d_b _ r_a_6 r_b_6 HT_6.out).mono ?_
  rintro e w7 ⟨⟨d_d, x_d, A_d, n_d, c_d, h_d, rfl, r_d⟩, hb7⟩
  have HT_7 := hide (HT_6.out.below hb7)
  have r_a_7 := r_a_6.below hb7
  have b_a_7 := b_a_6.keep hb7
  have r_b_7 := r_b_6.below hb7
  have b_b_7 := b_b_6.keep hb7
  have r_c_7 := r_c_6.below hb7
  have b_c_7 := b_c_n6.keep hb7
  have hbs7 := below_then hbs6 hb7
  clear HT_6 r_a_6 b_a_6 r_b_6 b_b_6 r_c_6 b_c_n6 hbs6 hb7
  have z_d := h_d.out
  rw [E_a.out, E_b.out] at z_d
  obtain ⟨e1_d, e2_d⟩ := Prod.mk.inj (z_d.trans mul_told)
  have E_d := hide e1_d
  clear e1_d h_d z_d
  subst e2_d
  obtain ⟨b_d_n8, hb8⟩ := box_1 w7 [.bool d_d.neg, .slice A_d n_d c_d, .int .i64 d_d.e] 24
  go_upto_region 5 with fail
  generalize (w7.alloc (.cells #[.bool d_d.neg, .slice A_d n_d c_d, .int .i64 d_d.e] 24)) = w8 at *
  have HT_8 := hide (HT_7.out.below hb8)
  have r_a_8 := r_a_7.below hb8
  have b_a_8 := b_a_7.keep hb8
  have r_b_8 := r_b_7.below hb8
  have b_b_8 := b_b_7.keep hb8
  have r_c_8 := r_c_7.below hb8
  have b_c_8 := b_c_7.keep hb8
  have r_d_8 := r_d.below hb8
  have hbs8 := below_then hbs7 hb8
  clear HT_7 r_a_7 b_a_7 r_b_7 b_b_7 r_c_7 b_c_7 r_d hbs7 hb8
  go_wp2_with fail
  with_reducible refine (ofT 1 1048577 _ (by omega) (by omega) (by omega) (by omega) HT_8.out).mono ?_
  rintro e w9 ⟨⟨d_f, x_f, A_f, n_f, c_f, h_f, rfl, r_f⟩, hb9⟩
  have HT_9 := hide (HT_8.out.below hb9)
  have r_a_9 := r_a_8.below hb9
  have b_a_9 := b_a_8.keep hb9
  have r_b_9 := r_b_8.below hb9
  have b_b_9 := b_b_8.keep hb9
  have r_c_9 := r_c_8.below hb9
  have b_c_9 := b_c_8.keep hb9
  have r_d_9 := r_d_8.below hb9
  have b_d_9 := b_d_n8.keep hb9
  have hbs9 := below_then hbs8 hb9
  clear HT_8 r_a_8 b_a_8 r_b_8 b_b_8 r_c_8 b_c_8 r_d_8 b_d_n8 hbs8 hb9
  have z_f := h_f.out
  obtain ⟨e1_f, e2_f⟩ := Prod.mk.inj (z_f.trans of_far)
  have E_f := hide e1_f
  clear e1_f h_f z_f
  subst e2_f
  obtain ⟨b_fn, hb10⟩ := box_1 w9 [.bool d_f.neg, .slice A_f n_f c_f, .int .i64 d_f.e] 24
  clear b_fn
  have HT_10 := hide (HT_9.out.below hb10)
  have r_a_10 := r_a_9.below hb10
  have b_a_10 := b_a_9.keep hb10
  have r_b_10 := r_b_9.below hb10
  have b_b_10 := b_b_9.keep hb10
  have r_c_10 := r_c_9.below hb10
  have b_c_10 := b_c_9.keep hb10
  have r_d_10 := r_d_9.below hb10
  have b_d_10 := b_d_9.keep hb10
  have r_f_10 := r_f.below hb10
  have hbs10 := below_then hbs9 hb10
  clear HT_9 r_a_9 b_a_9 r_b_9 b_b_9 r_c_9 b_c_9 r_d_9 b_d_9 r_f hbs9 hb10
  obtain ⟨bb_a, off_a, rfl, rfl, hc_a, hcap_a, hmax_a⟩ := r_a_10.one (x := 3) (by rw [E_a.out])
  obtain ⟨bb_c, off_c, rfl, rfl, hc_c, hcap_c, hmax_c⟩ := r_c_10.one (x := 11) (by rw [E_c.out])
  obtain ⟨bb_d, off_d, rfl, rfl, hc_d, hcap_d, hmax_d⟩ := r_d_10.one (x := 3) (by rw [E_d.out])
  have he_a : d_a.e = 1 := by rw [E_a.out]
  have he_c : d_c.e = -1 := by rw [E_c.out]
  have he_d : d_d.e = 0 := by rw [E_d.out]
  have hs_d : d_d.neg = true := by rw [E_d.out]
  have q_a0 := b_a_10.cell 0 rfl
  have q_a1 := b_a_10.cell 1 rfl
  have q_a2 := b_a_10.cell 2 rfl
  have q_b0 := b_b_10.cell 0 rfl
  have q_b1 := b_b_10.cell 1 rfl
  have q_b2 := b_b_10.cell 2 rfl
  have q_c0 := b_c_10.cell 0 rfl
  have q_c1 := b_c_10.cell 1 rfl
  have q_c2 := b_c_10.cell 2 rfl
  have q_d0 := b_d_10.cell 0 rfl
  have q_d1 := b_d_10.cell 1 rfl
  have q_d2 := b_d_10.cell 2 rfl
  go_wp2_with fail
  clear q_a0 q_a1 q_a2 q_b0 q_b1 q_b2 q_c0 q_c1 q_c2 q_d0 q_d1 q_d2
  clear he_a he_c he_d hs_d
  generalize (w9.alloc (.cells #[.bool d_f.neg, .slice A_f n_f c_f, .int .i64 d_f.e] 24)) = w10 at *
  clear r_c_10
  clear r_d_10
  clear r_f_10
  clear b_c_10
  clear b_d_10
  with_reducible refine (signD_any _ d_b _ r_b_10).mono ?_
  rw [show signD d_b = -1 by rw [E_b.out]; decide]
  rintro e w11 ⟨rfl, hb11⟩
  have HT_11 := hide (HT_10.out.below hb11)
  have r_a_11 := r_a_10.below hb11
  have b_a_11 := b_a_10.keep hb11
  have r_b_11 := r_b_10.below hb11
  have b_b_11 := b_b_10.keep hb11
  have hbs11 := below_then hbs10 hb11
  clear HT_10 r_a_10 b_a_10 r_b_10 b_b_10 hbs10 hb11
  have q_a0 := b_a_11.cell 0 rfl
  have q_a1 := b_a_11.cell 1 rfl
  have q_a2 := b_a_11.cell 2 rfl
  have q_b0 := b_b_11.cell 0 rfl
  have q_b1 := b_b_11.cell 1 rfl
  have q_b2 := b_b_11.cell 2 rfl
  go_wp2_with fail
  clear q_a0 q_a1 q_a2 q_b0 q_b1 q_b2
  with_reducible refine (cmpD_any _ _ d_a d_b _ r_a_11 r_b_11).mono ?_
  rw [show cmpD d_a d_b = 1 by rw [E_a.out, E_b.out]; exact cmp_toldL]
  rintro e w12 ⟨rfl, hb12⟩
  have HT_12 := hide (HT_11.out.below hb12)
  have r_a_12 := r_a_11.below hb12
  have b_a_12 := b_a_11.keep hb12
  have r_b_12 := r_b_11.below hb12
  have b_b_12 := b_b_11.keep hb12
  have hbs12 := below_then hbs11 hb12
  clear HT_11 r_a_11 b_a_11 r_b_11 b_b_11 hbs11 hb12
  clear r_a_12
  clear r_b_12
  clear b_a_12
  clear b_b_12
  clear HT_12
  go_wp2_with fail
  with_reducible refine (mayD_any _ Dy.zero _ (RdD.zero _)).mono ?_
  rw [show mayD Dy.zero = true by decide]
  rintro e w13 ⟨rfl, hb13⟩
  have hbs13 := below_then hbs12 hb13
  clear hbs12 hb13
  obtain ⟨b_two_n14, hb14⟩ := box_1 w13 [.int .u64 2] 38
  go_wp2_with fail
  generalize (w13.alloc (.cells #[.int .u64 2] 38)) = w14 at *
  have hbs14 := below_then hbs13 hb14
  clear hbs13 hb14
  have r_two : RdD w14 (.agg #[.bool false, .slice (some ⟨w13.heap.size, 0, none⟩) 1 1, .int .i64 0]) ⟨false, [2], 0⟩ := ⟨_, _, _, rfl, ⟨rfl, Nat.le_refl _, by unfold maxLen; omega, fun _ => ⟨_, 0, rfl, b_two_n14.lt, fun k hk => by
    obtain rfl : k = 0 := by omega
    exact b_two_n14.cell 0 rfl⟩⟩, Lim.cons (by unfold BB; omega) Lim.nil, by decide, by decide⟩
  with_reducible refine (mayD_any _ _ _ r_two).mono ?_
  rw [show mayD ⟨false, [2], 0⟩ = false by decide]
  rintro e w15 ⟨rfl, hb15⟩
  have b_two_15 := b_two_n14.keep hb15
  have hbs15 := below_then hbs14 hb15
  clear b_two_n14 hbs14 hb15
  go_wp2_with fail
  go_ret
  exact ⟨rfl, hbs15⟩
end Go.Proofs.YtaifjldpjkabjaaDoor
namespace Go.Proofs.YtaifjldpjkabjaaDoor
open Go.RowKit Pl

theorem RdD.lim {w : World} {v : Value} {d : Dy} (h : RdD w v d) : Lim BB d.m := by obtain ⟨A, n, c, _, _, hl, _⟩ := h; exact hl
theorem RdD.few {w : World} {d : Dy} {A : Option Addr} {n c : Nat} (h : RdD w (.agg #[.bool d.neg, .slice A n c, .int .i64 d.e]) d) : d.m.length = n := by
  obtain ⟨A', n', c', e, hr, _⟩ := h
  injection e with e
  have := congrArg Array.toList e
  simp only [List.cons.injEq, Value.slice.injEq, and_true, true_and] at this
  obtain ⟨rfl, rfl, rfl⟩ := this
  exact hr.len
theorem ring_law {a b c s p q r t : Dy} (ha : mayD a = true) (la : Lim BB a.m) (hb : mayD b = true) (lb : Lim BB b.m) (hc : mayD c = true)
    (hs : twoS a b (sumS a b) = (s, 0)) (hp : twoS s c (mulS s c) = (p, 0)) (hq : twoS a c (mulS a c) = (q, 0)) (hr : twoS b c (mulS b c) = (r, 0)) (ht : twoS q r (sumS q r) = (t, 0)) :
    p = t ∧ twoS s b (subS s b) = (a, 0) ∧ twoS b a (sumS b a) = (s, 0) ∧ mayD s = true ∧ mayD p = true := by
  rw [twoS_of ha hb, sumS_Z ha la hb lb] at hs
  obtain ⟨s1, s2, s3⟩ := fitZ_post hs
  rw [twoS_of s1 hc] at hp
  rw [twoS_of ha hc] at hq
  rw [twoS_of hb hc] at hr
  obtain ⟨p1, p2, p3⟩ := mulS_post s1 hc hp
  obtain ⟨q1, q2, q3⟩ := mulS_post ha hc hq
  obtain ⟨r1, r2, r3⟩ := mulS_post hb hc hr
  rw [twoS_of q1 r1, sumS_Z q1 q2 r1 r2] at ht
  obtain ⟨t1, t2, t3⟩ := fitZ_post ht
  have hP : (0 : Int) < ((2 ^ SS : Nat) : Int) := by have := Nat.two_pow_pos SS; omega
  refine ⟨ZD_inj p1 p2 t1 t2 ?_, ?_, ?_, s1, p1⟩
  · refine Int.eq_of_mul_eq_mul_right (by omega) (p3.trans ?_)
    rw [t3, s3, Int.add_mul, Int.add_mul, q3, r3]
  · rw [twoS_of s1 hb, subS_Z s1 s2 hb lb, s3, show ZD a + ZD b - ZD b = ZD a by omega, fit_Z la ha]
  · rw [twoS_of hb ha, sumS_Z hb lb ha la, Int.add_comm]
    exact hs

set_option maxRecDepth 100000 in
set_option maxHeartbeats 8000000 in
theorem dyadRing_any (u v z : Value) (a b c : Dy) (w : World) (h : RdD w u a) (k : RdD w v b) (l : RdD w z c) (hT : TabAt w) :
    Calls Tryd.prog 5 #[u, v, z] w fun x w' => x = .returned (.bool true) ∧ Below w.heap.size w w' := by
  have r_a := h
  have r_b := k
  have r_c := l
  have la := hide h.lim
  have lb := hide k.lim
  obtain ⟨A_a, n_a, c_a, rfl, _⟩ := h
  obtain ⟨A_b, n_b, c_b, rfl, _⟩ := k
  obtain ⟨A_c, n_c, c_c, rfl, _⟩ := l
  have HT := hide hT
  clear hT
  cases hf_a : decide (a.m.length ≤ 70)
  · skip
    have hbz : Below w.heap.size w w := Below.refl _ _
    obtain ⟨b_a, b_b, b_c, hb0⟩ := box_3 w [.bool a.neg, .slice A_a n_a c_a, .int .i64 a.e] [.bool b.neg, .slice A_b n_b c_b, .int .i64 b.e] [.bool c.neg, .slice A_c n_c c_c, .int .i64 c.e] 24 24 24
    have r_a := r_a.below hb0
    have r_b := r_b.below hb0
    have r_c := r_c.below hb0
    have HT := hide (HT.out.below hb0)
    go_enter Tryd.func5, Tryd.ntmps5
    go_upto_region 1 with fail
    generalize ((w.alloc (.cells #[.bool a.neg, .slice A_a n_a c_a, .int .i64 a.e] 24)).alloc (.cells #[.bool b.neg, .slice A_b n_b c_b, .int .i64 b.e] 24)).alloc (.cells #[.bool c.neg, .slice A_c n_c c_c, .int .i64 c.e] 24) = w0 at *
    clear hbz
    have q_a0 := b_a.cell 0 rfl
    have q_a1 := b_a.cell 1 rfl
    have q_a2 := b_a.cell 2 rfl
    go_wp2_with fail
    clear q_a0 q_a1 q_a2
    with_reducible refine (few2_any _ a _ r_a).mono ?_
    rw [hf_a]
    rintro e w1 ⟨rfl, hb1⟩
    have r_a_1 := r_a.below hb1
    have b_a_1 := b_a.keep hb1
    have r_b_1 := r_b.below hb1
    have b_b_1 := b_b.keep hb1
    have r_c_1 := r_c.below hb1
    have b_c_1 := b_c.keep hb1
    have HT_1 := hide (HT.out.below hb1)
    have hbs1 := below_then hb0 hb1
    clear r_a b_a r_b b_b r_c b_c HT hb0 hb1
    go_wp2_with fail
    with_reducible refine (told2_any _ HT_1.out).mono ?_
    rintro e w2 ⟨rfl, hb2⟩
    have r_a_2 := r_a_1.below hb2
    have b_a_2 := b_a_1.keep hb2
    have r_b_2 := r_b_1.below hb2
    have b_b_2 := b_b_1.keep hb2
    have r_c_2 := r_c_1.below hb2
    have b_c_2 := b_c_1.keep hb2
    have HT_2 := hide (HT_1.out.below hb2)
    have hbs2 := below_then hbs1 hb2
    clear r_a_1 b_a_1 r_b_1 b_b_1 r_c_1 b_c_1 HT_1 hbs1 hb2
    go_wp2_with fail
    go_ret
    exact ⟨rfl, hbs2⟩
  cases hf_b : decide (b.m.length ≤ 70)
  · skip
    have hbz : Below w.heap.size w w := Below.refl _ _
    obtain ⟨b_a, b_b, b_c, hb0⟩ := box_3 w [.bool a.neg, .slice A_a n_a c_a, .int .i64 a.e] [.bool b.neg, .slice A_b n_b c_b, .int .i64 b.e] [.bool c.neg, .slice A_c n_c c_c, .int .i64 c.e] 24 24 24
    have r_a := r_a.below hb0
    have r_b := r_b.below hb0
    have r_c := r_c.below hb0
    have HT := hide (HT.out.below hb0)
    go_enter Tryd.func5, Tryd.ntmps5
    go_upto_region 1 with fail
    generalize ((w.alloc (.cells #[.bool a.neg, .slice A_a n_a c_a, .int .i64 a.e] 24)).alloc (.cells #[.bool b.neg, .slice A_b n_b c_b, .int .i64 b.e] 24)).alloc (.cells #[.bool c.neg, .slice A_c n_c c_c, .int .i64 c.e] 24) = w0 at *
    clear hbz
    have q_a0 := b_a.cell 0 rfl
    have q_a1 := b_a.cell 1 rfl
    have q_a2 := b_a.cell 2 rfl
    go_wp2_with fail
    clear q_a0 q_a1 q_a2
    with_reducible refine (few2_any _ a _ r_a).mono ?_
    rw [hf_a]
    rintro e w1 ⟨rfl, hb1⟩
    have r_a_1 := r_a.below hb1
    have b_a_1 := b_a.keep hb1
    have r_b_1 := r_b.below hb1
    have b_b_1 := b_b.keep hb1
    have r_c_1 := r_c.below hb1
    have b_c_1 := b_c.keep hb1
    have HT_1 := hide (HT.out.below hb1)
    have hbs1 := below_then hb0 hb1
    clear r_a b_a r_b b_b r_c b_c HT hb0 hb1
    have q_b0 := b_b_1.cell 0 rfl
    have q_b1 := b_b_1.cell 1 rfl
    have q_b2 := b_b_1.cell 2 rfl
    go_wp2_with fail
    clear q_b0 q_b1 q_b2
    with_reducible refine (few2_any _ b _ r_b_1).mono ?_
    rw [hf_b]
    rintro e w2 ⟨rfl, hb2⟩
    have r_a_2 := r_a_1.below hb2
    have b_a_2 := b_a_1.keep hb2
    have r_b_2 := r_b_1.below hb2
    have b_b_2 := b_b_1.keep hb2
    have r_c_2 := r_c_1.below hb2
    have b_c_2 := b_c_1.keep hb2
    have HT_2 := hide (HT_1.out.below hb2)
    have hbs2 := below_then hbs1 hb2
    clear r_a_1 b_a_1 r_b_1 b_b_1 r_c_1 b_c_1 HT_1 hbs1 hb2
    go_wp2_with fail
    with_reducible refine (told2_any _ HT_2.out).mono ?_
    rintro e w3 ⟨rfl, hb3⟩
    have r_a_3 := r_a_2.below hb3
    have b_a_3 := b_a_2.keep hb3
    have r_b_3 := r_b_2.below hb3
    have b_b_3 := b_b_2.keep hb3
    have r_c_3 := r_c_2.below hb3
    have b_c_3 := b_c_2.keep hb3
    have HT_3 := hide (HT_2.out.below hb3)
    have hbs3 := below_then hbs2 hb3
    clear r_a_2 b_a_2 r_b_2 b_b_2 r_c_2 b_c_2 HT_2 hbs2 hb3
    go_wp2_with fail
    go_ret
    exact ⟨rfl, hbs3⟩
  cases hf_c : decide (c.m.length ≤ 70)
  · skip
    have hbz : Below w.heap.size w w := Below.refl _ _
    obtain ⟨b_a, b_b, b_c, hb0⟩ := box_3 w [.bool a.neg, .slice A_a n_a c_a, .int .i64 a.e] [.bool b.neg, .slice A_b n_b c_b, .int .i64 b.e] [.bool c.neg, .slice A_c n_c c_c, .int .i64 c.e] 24 24 24
    have r_a := r_a.below hb0
    have r_b := r_b.below hb0
    have r_c := r_c.below hb0
    have HT := hide (HT.out.below hb0)
    go_enter Tryd.func5, Tryd.ntmps5
    go_upto_region 1 with fail
    generalize ((w.alloc (.cells #[.bool a.neg, .slice A_a n_a c_a, .int .i64 a.e] 24)).alloc (.cells #[.bool b.neg, .slice A_b n_b c_b, .int .i64 b.e] 24)).alloc (.cells #[.bool c.neg, .slice A_c n_c c_c, .int .i64 c.e] 24) = w0 at *
    clear hbz
    have q_a0 := b_a.cell 0 rfl
    have q_a1 := b_a.cell 1 rfl
    have q_a2 := b_a.cell 2 rfl
    go_wp2_with fail
    clear q_a0 q_a1 q_a2
    with_reducible refine (few2_any _ a _ r_a).mono ?_
    rw [hf_a]
    rintro e w1 ⟨rfl, hb1⟩
    have r_a_1 := r_a.below hb1
    have b_a_1 := b_a.keep hb1
    have r_b_1 := r_b.below hb1
    have b_b_1 := b_b.keep hb1
    have r_c_1 := r_c.below hb1
    have b_c_1 := b_c.keep hb1
    have HT_1 := hide (HT.out.below hb1)
    have hbs1 := below_then hb0 hb1
    clear r_a b_a r_b b_b r_c b_c HT hb0 hb1
    have q_b0 := b_b_1.cell 0 rfl
    have q_b1 := b_b_1.cell 1 rfl
    have q_b2 := b_b_1.cell 2 rfl
    go_wp2_with fail
    clear q_b0 q_b1 q_b2
    with_reducible refine (few2_any _ b _ r_b_1).mono ?_
    rw [hf_b]
    rintro e w2 ⟨rfl, hb2⟩
    have r_a_2 := r_a_1.below hb2
    have b_a_2 := b_a_1.keep hb2
    have r_b_2 := r_b_1.below hb2
    have b_b_2 := b_b_1.keep hb2
    have r_c_2 := r_c_1.below hb2
    have b_c_2 := b_c_1.keep hb2
    have HT_2 := hide (HT_1.out.below hb2)
    have hbs2 := below_then hbs1 hb2
    clear r_a_1 b_a_1 r_b_1 b_b_1 r_c_1 b_c_1 HT_1 hbs1 hb2
    have q_c0 := b_c_2.cell 0 rfl
    have q_c1 := b_c_2.cell 1 rfl
    have q_c2 := b_c_2.cell 2 rfl
    go_wp2_with fail
    clear q_c0 q_c1 q_c2
    with_reducible refine (few2_any _ c _ r_c_2).mono ?_
    rw [hf_c]
    rintro e w3 ⟨rfl, hb3⟩
    have r_a_3 := r_a_2.below hb3
    have b_a_3 := b_a_2.keep hb3
    have r_b_3 := r_b_2.below hb3
    have b_b_3 := b_b_2.keep hb3
    have r_c_3 := r_c_2.below hb3
    have b_c_3 := b_c_2.keep hb3
    have HT_3 := hide (HT_2.out.below hb3)
    have hbs3 := below_then hbs2 hb3
    clear r_a_2 b_a_2 r_b_2 b_b_2 r_c_2 b_c_2 HT_2 hbs2 hb3
    go_wp2_with fail
    with_reducible refine (told2_any _ HT_3.out).mono ?_
    rintro e w4 ⟨rfl, hb4⟩
    have r_a_4 := r_a_3.below hb4
    have b_a_4 := b_a_3.keep hb4
    have r_b_4 := r_b_3.below hb4
    have b_b_4 := b_b_3.keep hb4
    have r_c_4 := r_c_3.below hb4
    have b_c_4 := b_c_3.keep hb4
    have HT_4 := hide (HT_3.out.below hb4)
    have hbs4 := below_then hbs3 hb4
    clear r_a_3 b_a_3 r_b_3 b_b_3 r_c_3 b_c_3 HT_3 hbs3 hb4
    go_wp2_with fail
    go_ret
    exact ⟨rfl, hbs4⟩
  cases hm_a : mayD a
  · skip
    have hbz : Below w.heap.size w w := Below.refl _ _
    obtain ⟨b_a, b_b, b_c, hb0⟩ := box_3 w [.bool a.neg, .slice A_a n_a c_a, .int .i64 a.e] [.bool b.neg, .slice A_b n_b c_b, .int .i64 b.e] [.bool c.neg, .slice A_c n_c c_c, .int .i64 c.e] 24 24 24
    have r_a := r_a.below hb0
    have r_b := r_b.below hb0
    have r_c := r_c.below hb0
    have HT := hide (HT.out.below hb0)
    go_enter Tryd.func5, Tryd.ntmps5
    go_upto_region 1 with fail
    generalize ((w.alloc (.cells #[.bool a.neg, .slice A_a n_a c_a, .int .i64 a.e] 24)).alloc (.cells #[.bool b.neg, .slice A_b n_b c_b, .int .i64 b.e] 24)).alloc (.cells #[.bool c.neg, .slice A_c n_c c_c, .int .i64 c.e] 24) = w0 at *
    clear hbz
    have q_a0 := b_a.cell 0 rfl
    have q_a1 := b_a.cell 1 rfl
    have q_a2 := b_a.cell 2 rfl
    go_wp2_with fail
    clear q_a0 q_a1 q_a2
    with_reducible refine (few2_any _ a _ r_a).mono ?_
    rw [hf_a]
    rintro e w1 ⟨rfl, hb1⟩
    have r_a_1 := r_a.below hb1
    have b_a_1 := b_a.keep hb1
    have r_b_1 := r_b.below hb1
    have b_b_1 := b_b.keep hb1
    have r_c_1 := r_c.below hb1
    have b_c_1 := b_c.keep hb1
    have HT_1 := hide (HT.out.below hb1)
    have hbs1 := below_then hb0 hb1
    clear r_a b_a r_b b_b r_c b_c HT hb0 hb1
    have q_b0 := b_b_1.cell 0 rfl
    have q_b1 := b_b_1.cell 1 rfl
    have q_b2 := b_b_1.cell 2 rfl
    go_wp2_with fail
    clear q_b0 q_b1 q_b2
    with_reducible refine (few2_any _ b _ r_b_1).mono ?_
    rw [hf_b]
    rintro e w2 ⟨rfl, hb2⟩
    have r_a_2 := r_a_1.below hb2
    have b_a_2 := b_a_1.keep hb2
    have r_b_2 := r_b_1.below hb2
    have b_b_2 := b_b_1.keep hb2
    have r_c_2 := r_c_1.below hb2
    have b_c_2 := b_c_1.keep hb2
    have HT_2 := hide (HT_1.out.below hb2)
    have hbs2 := below_then hbs1 hb2
    clear r_a_1 b_a_1 r_b_1 b_b_1 r_c_1 b_c_1 HT_1 hbs1 hb2
    have q_c0 := b_c_2.cell 0 rfl
    have q_c1 := b_c_2.cell 1 rfl
    have q_c2 := b_c_2.cell 2 rfl
    go_wp2_with fail
    clear q_c0 q_c1 q_c2
    with_reducible refine (few2_any _ c _ r_c_2).mono ?_
    rw [hf_c]
    rintro e w3 ⟨rfl, hb3⟩
    have r_a_3 := r_a_2.below hb3
    have b_a_3 := b_a_2.keep hb3
    have r_b_3 := r_b_2.below hb3
    have b_b_3 := b_b_2.keep hb3
    have r_c_3 := r_c_2.below hb3
    have b_c_3 := b_c_2.keep hb3
    have HT_3 := hide (HT_2.out.below hb3)
    have hbs3 := below_then hbs2 hb3
    clear r_a_2 b_a_2 r_b_2 b_b_2 r_c_2 b_c_2 HT_2 hbs2 hb3
    have q_a0 := b_a_3.cell 0 rfl
    have q_a1 := b_a_3.cell 1 rfl
    have q_a2 := b_a_3.cell 2 rfl
    go_wp2_with fail
    clear q_a0 q_a1 q_a2
    with_reducible refine (mayD_any _ a _ r_a_3).mono ?_
    rw [hm_a]
    rintro e w4 ⟨rfl, hb4⟩
    have r_a_4 := r_a_3.below hb4
    have b_a_4 := b_a_3.keep hb4
    have r_b_4 := r_b_3.below hb4
    have b_b_4 := b_b_3.keep hb4
    have r_c_4 := r_c_3.below hb4
    have b_c_4 := b_c_3.keep hb4
    have HT_4 := hide (HT_3.out.below hb4)
    have hbs4 := below_then hbs3 hb4
    clear r_a_3 b_a_3 r_b_3 b_b_3 r_c_3 b_c_3 HT_3 hbs3 hb4
    go_wp2_with fail
    with_reducible refine (told2_any _ HT_4.out).mono ?_
    rintro e w5 ⟨rfl, hb5⟩
    have r_a_5 := r_a_4.below hb5
    have b_a_5 := b_a_4.keep hb5
    have r_b_5 := r_b_4.below hb5
    have b_b_5 := b_b_4.keep hb5
    have r_c_5 := r_c_4.below hb5
    have b_c_5 := b_c_4.keep hb5
    have HT_5 := hide (HT_4.out.below hb5)
    have hbs5 := below_then hbs4 hb5
    clear r_a_4 b_a_4 r_b_4 b_b_4 r_c_4 b_c_4 HT_4 hbs4 hb5
    go_wp2_with fail
    go_ret
    exact ⟨rfl, hbs5⟩
  cases hm_b : mayD b
  · skip
    have hbz : Below w.heap.size w w := Below.refl _ _
    obtain ⟨b_a, b_b, b_c, hb0⟩ := box_3 w [.bool a.neg, .slice A_a n_a c_a, .int .i64 a.e] [.bool b.neg, .slice A_b n_b c_b, .int .i64 b.e] [.bool c.neg, .slice A_c n_c c_c, .int .i64 c.e] 24 24 24
    have r_a := r_a.below hb0
    have r_b := r_b.below hb0
    have r_c := r_c.below hb0
    have HT := hide (HT.out.below hb0)
    go_enter Tryd.func5, Tryd.ntmps5
    go_upto_region 1 with fail
    generalize ((w.alloc (.cells #[.bool a.neg, .slice A_a n_a c_a, .int .i64 a.e] 24)).alloc (.cells #[.bool b.neg, .slice A_b n_b c_b, .int .i64 b.e] 24)).alloc (.cells #[.bool c.neg, .slice A_c n_c c_c, .int .i64 c.e] 24) = w0 at *
    clear hbz
    have q_a0 := b_a.cell 0 rfl
    have q_a1 := b_a.cell 1 rfl
    have q_a2 := b_a.cell 2 rfl
    go_wp2_with fail
    clear q_a0 q_a1 q_a2
    with_reducible refine (few2_any _ a _ r_a).mono ?_
    rw [hf_a]
    rintro e w1 ⟨rfl, hb1⟩
    have r_a_1 := r_a.below hb1
    have b_a_1 := b_a.keep hb1
    have r_b_1 := r_b.below hb1
    have b_b_1 := b_b.keep hb1
    have r_c_1 := r_c.below hb1
    have b_c_1 := b_c.keep hb1
    have HT_1 := hide (HT.out.below hb1)
    have hbs1 := below_then hb0 hb1
    clear r_a b_a r_b b_b r_c b_c HT hb0 hb1
    have q_b0 := b_b_1.cell 0 rfl
    have q_b1 := b_b_1.cell 1 rfl
    have q_b2 := b_b_1.cell 2 rfl
    go_wp2_with fail
    clear q_b0 q_b1 q_b2
    with_reducible refine (few2_any _ b _ r_b_1).mono ?_
    rw [hf_b]
    rintro e w2 ⟨rfl, hb2⟩
    have r_a_2 := r_a_1.below hb2
    have b_a_2 := b_a_1.keep hb2
    have r_b_2 := r_b_1.below hb2
    have b_b_2 := b_b_1.keep hb2
    have r_c_2 := r_c_1.below hb2
    have b_c_2 := b_c_1.keep hb2
    have HT_2 := hide (HT_1.out.below hb2)
    have hbs2 := below_then hbs1 hb2
    clear r_a_1 b_a_1 r_b_1 b_b_1 r_c_1 b_c_1 HT_1 hbs1 hb2
    have q_c0 := b_c_2.cell 0 rfl
    have q_c1 := b_c_2.cell 1 rfl
    have q_c2 := b_c_2.cell 2 rfl
    go_wp2_with fail
    clear q_c0 q_c1 q_c2
    with_reducible refine (few2_any _ c _ r_c_2).mono ?_
    rw [hf_c]
    rintro e w3 ⟨rfl, hb3⟩
    have r_a_3 := r_a_2.below hb3
    have b_a_3 := b_a_2.keep hb3
    have r_b_3 := r_b_2.below hb3
    have b_b_3 := b_b_2.keep hb3
    have r_c_3 := r_c_2.below hb3
    have b_c_3 := b_c_2.keep hb3
    have HT_3 := hide (HT_2.out.below hb3)
    have hbs3 := below_then hbs2 hb3
    clear r_a_2 b_a_2 r_b_2 b_b_2 r_c_2 b_c_2 HT_2 hbs2 hb3
    have q_a0 := b_a_3.cell 0 rfl
    have q_a1 := b_a_3.cell 1 rfl
    have q_a2 := b_a_3.cell 2 rfl
    go_wp2_with fail
    clear q_a0 q_a1 q_a2
    with_reducible refine (mayD_any _ a _ r_a_3).mono ?_
    rw [hm_a]
    rintro e w4 ⟨rfl, hb4⟩
    have r_a_4 := r_a_3.below hb4
    have b_a_4 := b_a_3.keep hb4
    have r_b_4 := r_b_3.below hb4
    have b_b_4 := b_b_3.keep hb4
    have r_c_4 := r_c_3.below hb4
    have b_c_4 := b_c_3.keep hb4
    have HT_4 := hide (HT_3.out.below hb4)
    have hbs4 := below_then hbs3 hb4
    clear r_a_3 b_a_3 r_b_3 b_b_3 r_c_3 b_c_3 HT_3 hbs3 hb4
    have q_b0 := b_b_4.cell 0 rfl
    have q_b1 := b_b_4.cell 1 rfl
    have q_b2 := b_b_4.cell 2 rfl
    go_wp2_with fail
    clear q_b0 q_b1 q_b2
    with_reducible refine (mayD_any _ b _ r_b_4).mono ?_
    rw [hm_b]
    rintro e w5 ⟨rfl, hb5⟩
    have r_a_5 := r_a_4.below hb5
    have b_a_5 := b_a_4.keep hb5
    have r_b_5 := r_b_4.below hb5
    have b_b_5 := b_b_4.keep hb5
    have r_c_5 := r_c_4.below hb5
    have b_c_5 := b_c_4.keep hb5
    have HT_5 := hide (HT_4.out.below hb5)
    have hbs5 := below_then hbs4 hb5
    clear r_a_4 b_a_4 r_b_4 b_b_4 r_c_4 b_c_4 HT_4 hbs4 hb5
    go_wp2_with fail
    with_reducible refine (told2_any _ HT_5.out).mono ?_
    rintro e w6 ⟨rfl, hb6⟩
    have r_a_6 := r_a_5.below hb6
    have b_a_6 := b_a_5.keep hb6
    have r_b_6 := r_b_5.below hb6
    have b_b_6 := b_b_5.keep hb6
    have r_c_6 := r_c_5.below hb6
    have b_c_6 := b_c_5.keep hb6
    have HT_6 := hide (HT_5.out.below hb6)
    have hbs6 := below_then hbs5 hb6
    clear r_a_5 b_a_5 r_b_5 b_b_5 r_c_5 b_c_5 HT_5 hbs5 hb6
    go_wp2_with fail
    go_ret
    exact ⟨rfl, hbs6⟩
  cases hm_c : mayD c
  · skip
    have hbz : Below w.heap.size w w := Below.refl _ _
    obtain ⟨b_a, b_b, b_c, hb0⟩ := box_3 w [.bool a.neg, .slice A_a n_a c_a, .int .i64 a.e] [.bool b.neg, .slice A_b n_b c_b, .int .i64 b.e] [.bool c.neg, .slice A_c n_c c_c, .int .i64 c.e] 24 24 24
    have r_a := r_a.below hb0
    have r_b := r_b.below hb0
    have r_c := r_c.below hb0
    have HT := hide (HT.out.below hb0)
    go_enter Tryd.func5, Tryd.ntmps5
    go_upto_region 1 with fail
    generalize ((w.alloc (.cells #[.bool a.neg, .slice A_a n_a c_a, .int .i64 a.e] 24)).alloc (.cells #[.bool b.neg, .slice A_b n_b c_b, .int .i64 b.e] 24)).alloc (.cells #[.bool c.neg, .slice A_c n_c c_c, .int .i64 c.e] 24) = w0 at *
    clear hbz
    have q_a0 := b_a.cell 0 rfl
    have q_a1 := b_a.cell 1 rfl
    have q_a2 := b_a.cell 2 rfl
    go_wp2_with fail
    clear q_a0 q_a1 q_a2
    with_reducible refine (few2_any _ a _ r_a).mono ?_
    rw [hf_a]
    rintro e w1 ⟨rfl, hb1⟩
    have r_a_1 := r_a.below hb1
    have b_a_1 := b_a.keep hb1
    have r_b_1 := r_b.below hb1
    have b_b_1 := b_b.keep hb1
    have r_c_1 := r_c.below hb1
    have b_c_1 := b_c.keep hb1
    have HT_1 := hide (HT.out.below hb1)
    have hbs1 := below_then hb0 hb1
    clear r_a b_a r_b b_b r_c b_c HT hb0 hb1
    have q_b0 := b_b_1.cell 0 rfl
    have q_b1 := b_b_1.cell 1 rfl
    have q_b2 := b_b_1.cell 2 rfl
    go_wp2_with fail
    clear q_b0 q_b1 q_b2
    with_reducible refine (few2_any _ b _ r_b_1).mono ?_
    rw [hf_b]
    rintro e w2 ⟨rfl, hb2⟩
    have r_a_2 := r_a_1.below hb2
    have b_a_2 := b_a_1.keep hb2
    have r_b_2 := r_b_1.below hb2
    have b_b_2 := b_b_1.keep hb2
    have r_c_2 := r_c_1.below hb2
    have b_c_2 := b_c_1.keep hb2
    have HT_2 := hide (HT_1.out.below hb2)
    have hbs2 := below_then hbs1 hb2
    clear r_a_1 b_a_1 r_b_1 b_b_1 r_c_1 b_c_1 HT_1 hbs1 hb2
    have q_c0 := b_c_2.cell 0 rfl
    have q_c1 := b_c_2.cell 1 rfl
    have q_c2 := b_c_2.cell 2 rfl
    go_wp2_with fail
    clear q_c0 q_c1 q_c2
    with_reducible refine (few2_any _ c _ r_c_2).mono ?_
    rw [hf_c]
    rintro e w3 ⟨rfl, hb3⟩
    have r_a_3 := r_a_2.below hb3
    have b_a_3 := b_a_2.keep hb3
    have r_b_3 := r_b_2.below hb3
    have b_b_3 := b_b_2.keep hb3
    have r_c_3 := r_c_2.below hb3
    have b_c_3 := b_c_2.keep hb3
    have HT_3 := hide (HT_2.out.below hb3)
    have hbs3 := below_then hbs2 hb3
    clear r_a_2 b_a_2 r_b_2 b_b_2 r_c_2 b_c_2 HT_2 hbs2 hb3
    have q_a0 := b_a_3.cell 0 rfl
    have q_a1 := b_a_3.cell 1 rfl
    have q_a2 := b_a_3.cell 2 rfl
    go_wp2_with fail
    clear q_a0 q_a1 q_a2
    with_reducible refine (mayD_any _ a _ r_a_3).mono ?_
    rw [hm_a]
    rintro e w4 ⟨rfl, hb4⟩
    have r_a_4 := r_a_3.below hb4
    have b_a_4 := b_a_3.keep hb4
    have r_b_4 := r_b_3.below hb4
    have b_b_4 := b_b_3.keep hb4
    have r_c_4 := r_c_3.below hb4
    have b_c_4 := b_c_3.keep hb4
    have HT_4 := hide (HT_3.out.below hb4)
    have hbs4 := below_then hbs3 hb4
    clear r_a_3 b_a_3 r_b_3 b_b_3 r_c_3 b_c_3 HT_3 hbs3 hb4
    have q_b0 := b_b_4.cell 0 rfl
    have q_b1 := b_b_4.cell 1 rfl
    have q_b2 := b_b_4.cell 2 rfl
    go_wp2_with fail
    clear q_b0 q_b1 q_b2
    with_reducible refine (mayD_any _ b _ r_b_4).mono ?_
    rw [hm_b]
    rintro e w5 ⟨rfl, hb5⟩
    have r_a_5 := r_a_4.below hb5
    have b_a_5 := b_a_4.keep hb5
    have r_b_5 := r_b_4.below hb5
    have b_b_5 := b_b_4.keep hb5
    have r_c_5 := r_c_4.below hb5
    have b_c_5 := b_c_4.keep hb5
    have HT_5 := hide (HT_4.out.below hb5)
    have hbs5 := below_then hbs4 hb5
    clear r_a_4 b_a_4 r_b_4 b_b_4 r_c_4 b_c_4 HT_4 hbs4 hb5
    have q_c0 := b_c_5.cell 0 rfl
    have q_c1 := b_c_5.cell 1 rfl
    have q_c2 := b_c_5.cell 2 rfl
    go_wp2_with fail
    clear q_c0 q_c1 q_c2
    with_reducible refine (mayD_any _ c _ r_c_5).mono ?_
    rw [hm_c]
    rintro e w6 ⟨rfl, hb6⟩
    have r_a_6 := r_a_5.below hb6
    have b_a_6 := b_a_5.keep hb6
    have r_b_6 := r_b_5.below hb6
    have b_b_6 := b_b_5.keep hb6
    have r_c_6 := r_c_5.below hb6
    have b_c_6 := b_c_5.keep hb6
    have HT_6 := hide (HT_5.out.below hb6)
    have hbs6 := below_then hbs5 hb6
    clear r_a_5 b_a_5 r_b_5 b_b_5 r_c_5 b_c_5 HT_5 hbs5 hb6
    go_wp2_with fail
    with_reducible refine (told2_any _ HT_6.out).mono ?_
    rintro e w7 ⟨rfl, hb7⟩
    have r_a_7 := r_a_6.below hb7
    have b_a_7 := b_a_6.keep hb7
    have r_b_7 := r_b_6.below hb7
    have b_b_7 := b_b_6.keep hb7
    have r_c_7 := r_c_6.below hb7
    have b_c_7 := b_c_6.keep hb7
    have HT_7 := hide (HT_6.out.below hb7)
    have hbs7 := below_then hbs6 hb7
    clear r_a_6 b_a_6 r_b_6 b_b_6 r_c_6 b_c_6 HT_6 hbs6 hb7
    go_wp2_with fail
    go_ret
    exact ⟨rfl, hbs7⟩
  have hbz : Below w.heap.size w w := Below.refl _ _
  obtain ⟨b_a, b_b, b_c, hb0⟩ := box_3 w [.bool a.neg, .slice A_a n_a c_a, .int .i64 a.e] [.bool b.neg, .slice A_b n_b c_b, .int .i64 b.e] [.bool c.neg, .slice A_c n_c c_c, .int .i64 c.e] 24 24 24
  have r_a := r_a.below hb0
  have r_b := r_b.below hb0
  have r_c := r_c.below hb0
  have HT := hide (HT.out.below hb0)
  go_enter Tryd.func5, Tryd.ntmps5
  go_upto_region 1 with fail
  generalize ((w.alloc (.cells #[.bool a.neg, .slice A_a n_a c_a, .int .i64 a.e] 24)).alloc (.cells #[.bool b.neg, .slice A_b n_b c_b, .int .i64 b.e] 24)).alloc (.cells #[.bool c.neg, .slice A_c n_c c_c, .int .i64 c.e] 24) = w0 at *
  clear hbz
  have q_a0 := b_a.cell 0 rfl
  have q_a1 := b_a.cell 1 rfl
  have q_a2 := b_a.cell 2 rfl
  go_wp2_with fail
  clear q_a0 q_a1 q_a2
  with_reducible refine (few2_any _ a _ r_a).mono ?_
  rw [hf_a]
  rintro e w1 ⟨rfl, hb1⟩
  have r_a_1 := r_a.below hb1
  have b_a_1 := b_a.keep hb1
  have r_b_1 := r_b.below hb1
  have b_b_1 := b_b.keep hb1
  have r_c_1 := r_c.below hb1
  have b_c_1 := b_c.keep hb1
  have HT_1 := hide (HT.out.below hb1)
  have hbs1 := below_then hb0 hb1
  clear r_a b_a r_b b_b r_c b_c HT hb0 hb1
  have q_b0 := b_b_1.cell 0 rfl
  have q_b1 := b_b_1.cell 1 rfl
  have q_b2 := b_b_1.cell 2 rfl
  go_wp2_with fail
  clear q_b0 q_b1 q_b2
  with_reducible refine (few2_any _ b _ r_b_1).mono ?_
  rw [hf_b]
  rintro e w2 ⟨rfl, hb2⟩
  have r_a_2 := r_a_1.below hb2
  have b_a_2 := b_a_1.keep hb2
  have r_b_2 := r_b_1.below hb2
  have b_b_2 := b_b_1.keep hb2
  have r_c_2 := r_c_1.below hb2
  have b_c_2 := b_c_1.keep hb2
  have HT_2 := hide (HT_1.out.below hb2)
  have hbs2 := below_then hbs1 hb2
  clear r_a_1 b_a_1 r_b_1 b_b_1 r_c_1 b_c_1 HT_1 hbs1 hb2
  have q_c0 := b_c_2.cell 0 rfl
  have q_c1 := b_c_2.cell 1 rfl
  have q_c2 := b_c_2.cell 2 rfl
  go_wp2_with fail
  clear q_c0 q_c1 q_c2
  with_reducible refine (few2_any _ c _ r_c_2).mono ?_
  rw [hf_c]
  rintro e w3 ⟨rfl, hb3⟩
  have r_a_3 := r_a_2.below hb3
  have b_a_3 := b_a_2.keep hb3
  have r_b_3 := r_b_2.below hb3
  have b_b_3 := b_b_2.keep hb3
  have r_c_3 := r_c_2.below hb3
  have b_c_3 := b_c_2.keep hb3
  have HT_3 := hide (HT_2.out.below hb3)
  have hbs3 := below_then hbs2 hb3
  clear r_a_2 b_a_2 r_b_2 b_b_2 r_c_2 b_c_2 HT_2 hbs2 hb3
  have q_a0 := b_a_3.cell 0 rfl
  have q_a1 := b_a_3.cell 1 rfl
  have q_a2 := b_a_3.cell 2 rfl
  go_wp2_with fail
  clear q_a0 q_a1 q_a2
  with_reducible refine (mayD_any _ a _ r_a_3).mono ?_
  rw [hm_a]
  rintro e w4 ⟨rfl, hb4⟩
  have r_a_4 := r_a_3.below hb4
  have b_a_4 := b_a_3.keep hb4
  have r_b_4 := r_b_3.below hb4
  have b_b_4 := b_b_3.keep hb4
  have r_c_4 := r_c_3.below hb4
  have b_c_4 := b_c_3.keep hb4
  have HT_4 := hide (HT_3.out.below hb4)
  have hbs4 := below_then hbs3 hb4
  clear r_a_3 b_a_3 r_b_3 b_b_3 r_c_3 b_c_3 HT_3 hbs3 hb4
  have q_b0 := b_b_4.cell 0 rfl
  have q_b1 := b_b_4.cell 1 rfl
  have q_b2 := b_b_4.cell 2 rfl
  go_wp2_with fail
  clear q_b0 q_b1 q_b2
  with_reducible refine (mayD_any _ b _ r_b_4).mono ?_
  rw [hm_b]
  rintro e w5 ⟨rfl, hb5⟩
  have r_a_5 := r_a_4.below hb5
  have b_a_5 := b_a_4.keep hb5
  have r_b_5 := r_b_4.below hb5
  have b_b_5 := b_b_4.keep hb5
  have r_c_5 := r_c_4.below hb5
  have b_c_5 := b_c_4.keep hb5
  have HT_5 := hide (HT_4.out.below hb5)
  have hbs5 := below_then hbs4 hb5
  clear r_a_4 b_a_4 r_b_4 b_b_4 r_c_4 b_c_4 HT_4 hbs4 hb5
  have q_c0 := b_c_5.cell 0 rfl
  have q_c1 := b_c_5.cell 1 rfl
  have q_c2 := b_c_5.cell 2 rfl
  go_wp2_with fail
  clear q_c0 q_c1 q_c2
  with_reducible refine (mayD_any _ c _ r_c_5).mono ?_
  rw [hm_c]
  rintro e w6 ⟨rfl, hb6⟩
  have r_a_6 := r_a_5.below hb6
  have b_a_6 := b_a_5.keep hb6
  have r_b_6 := r_b_5.below hb6
  have b_b_6 := b_b_5.keep hb6
  have r_c_6 := r_c_5.below hb6
  have b_c_6 := b_c_5.keep hb6
  have HT_6 := hide (HT_5.out.below hb6)
  have hbs6 := below_then hbs5 hb6
  clear r_a_5 b_a_5 r_b_5 b_b_5 r_c_5 b_c_5 HT_5 hbs5 hb6
  have q_a0 := b_a_6.cell 0 rfl
  have q_a1 := b_a_6.cell 1 rfl
  have q_a2 := b_a_6.cell 2 rfl
  have q_b0 := b_b_6.cell 0 rfl
  have q_b1 := b_b_6.cell 1 rfl
  have q_b2 := b_b_6.cell 2 rfl
  go_wp2_with fail
  clear q_a0 q_a1 q_a2 q_b0 q_b1 q_b2
  with_reducible refine (addT _ _ a b _ r_a_6 r_b_6 HT_6.out).mono ?_
  rintro e w7 ⟨⟨d_s, x_s, A_s, n_s, c_s, h_s, rfl, r_s⟩, hb7⟩
  have r_a_7 := r_a_6.below hb7
  have b_a_7 := b_a_6.keep hb7
  have r_b_7 := r_b_6.below hb7
  have b_b_7 := b_b_6.keep hb7
  have r_c_7 := r_c_6.below hb7
  have b_c_7 := b_c_6.keep hb7
  have HT_7 := hide (HT_6.out.below hb7)
  have hbs7 := below_then hbs6 hb7
  clear r_a_6 b_a_6 r_b_6 b_b_6 r_c_6 b_c_6 HT_6 hbs6 hb7
  obtain ⟨b_s_n8, hb8⟩ := box_1 w7 [.bool d_s.neg, .slice A_s n_s c_s, .int .i64 d_s.e] 24
  go_upto_region 4 with fail
  generalize (w7.alloc (.cells #[.bool d_s.neg, .slice A_s n_s c_s, .int .i64 d_s.e] 24)) = w8 at *
  have r_a_8 := r_a_7.below hb8
  have b_a_8 := b_a_7.keep hb8
  have r_b_8 := r_b_7.below hb8
  have b_b_8 := b_b_7.keep hb8
  have r_c_8 := r_c_7.below hb8
  have b_c_8 := b_c_7.keep hb8
  have HT_8 := hide (HT_7.out.below hb8)
  have r_s_8 := r_s.below hb8
  have hbs8 := below_then hbs7 hb8
  clear r_a_7 b_a_7 r_b_7 b_b_7 r_c_7 b_c_7 HT_7 r_s hbs7 hb8
  have q_s0 := b_s_n8.cell 0 rfl
  have q_s1 := b_s_n8.cell 1 rfl
  have q_s2 := b_s_n8.cell 2 rfl
  have q_c0 := b_c_8.cell 0 rfl
  have q_c1 := b_c_8.cell 1 rfl
  have q_c2 := b_c_8.cell 2 rfl
  go_wp2_with fail
  clear q_s0 q_s1 q_s2 q_c0 q_c1 q_c2
  with_reducible refine (mulT _ _ d_s c _ r_s_8 r_c_8 HT_8.out).mono ?_
  rintro e w9 ⟨⟨d_p, x_p, A_p, n_p, c_p, h_p, rfl, r_p⟩, hb9⟩
  have r_a_9 := r_a_8.below hb9
  have b_a_9 := b_a_8.keep hb9
  have r_b_9 := r_b_8.below hb9
  have b_b_9 := b_b_8.keep hb9
  have r_c_9 := r_c_8.below hb9
  have b_c_9 := b_c_8.keep hb9
  have HT_9 := hide (HT_8.out.below hb9)
  have r_s_9 := r_s_8.below hb9
  have b_s_9 := b_s_n8.keep hb9
  have hbs9 := below_then hbs8 hb9
  clear r_a_8 b_a_8 r_b_8 b_b_8 r_c_8 b_c_8 HT_8 r_s_8 b_s_n8 hbs8 hb9
  obtain ⟨b_p_n10, hb10⟩ := box_1 w9 [.bool d_p.neg, .slice A_p n_p c_p, .int .i64 d_p.e] 24
  go_upto_region 5 with fail
  generalize (w9.alloc (.cells #[.bool d_p.neg, .slice A_p n_p c_p, .int .i64 d_p.e] 24)) = w10 at *
  have r_a_10 := r_a_9.below hb10
  have b_a_10 := b_a_9.keep hb10
  have r_b_10 := r_b_9.below hb10
  have b_b_10 := b_b_9.keep hb10
  have r_c_10 := r_c_9.below hb10
  have b_c_10 := b_c_9.keep hb10
  have HT_10 := hide (HT_9.out.below hb10)
  have r_s_10 := r_s_9.below hb10
  have b_s_10 := b_s_9.keep hb10
  have r_p_10 := r_p.below hb10
  have hbs10 := below_then hbs9 hb10
  clear r_a_9 b_a_9 r_b_9 b_b_9 r_c_9 b_c_9 HT_9 r_s_9 b_s_9 r_p hbs9 hb10
  have q_a0 := b_a_10.cell 0 rfl
  have q_a1 := b_a_10.cell 1 rfl
  have q_a2 := b_a_10.cell 2 rfl
  have q_c0 := b_c_10.cell 0 rfl
  have q_c1 := b_c_10.cell 1 rfl
  have q_c2 := b_c_10.cell 2 rfl
  go_wp2_with fail
  clear q_a0 q_a1 q_a2 q_c0 q_c1 q_c2
  with_reducible refine (mulT _ _ a c _ r_a_10 r_c_10 HT_10.out).mono ?_
  rintro e w11 ⟨⟨d_q, x_q, A_q, n_q, c_q, h_q, rfl, r_q⟩, hb11⟩
  have r_a_11 := r_a_10.below hb11
  have b_a_11 := b_a_10.keep hb11
  have r_b_11 := r_b_10.below hb11
  have b_b_11 := b_b_10.keep hb11
  have r_c_11 := r_c_10.below hb11
  have b_c_11 := b_c_10.keep hb11
  have HT_11 := hide (HT_10.out.below hb11)
  have r_s_11 := r_s_10.below hb11
  have b_s_11 := b_s_10.keep hb11
  have r_p_11 := r_p_10.below hb11
  have b_p_11 := b_p_n10.keep hb11
  have hbs11 := below_then hbs10 hb11
  clear r_a_10 b_a_10 r_b_10 b_b_10 r_c_10 b_c_10 HT_10 r_s_10 b_s_10 r_p_10 b_p_n10 hbs10 hb11
  obtain ⟨b_q_n12, hb12⟩ := box_1 w11 [.bool d_q.neg, .slice A_q n_q c_q, .int .i64 d_q.e] 24
  go_upto_region 6 with fail
  generalize (w11.alloc (.cells #[.bool d_q.neg, .slice A_q n_q c_q, .int .i64 d_q.e] 24)) = w12 at *
  have r_a_12 := r_a_11.below hb12
  have b_a_12 := b_a_11.keep hb12
  have r_b_12 := r_b_11.below hb12
  have b_b_12 := b_b_11.keep hb12
  have r_c_12 := r_c_11.below hb12
  have b_c_12 := b_c_11.keep hb12
  have HT_12 := hide (HT_11.out.below hb12)
  have r_s_12 := r_s_11.below hb12
  have b_s_12 := b_s_11.keep hb12
  have r_p_12 := r_p_11.below hb12
  have b_p_12 := b_p_11.keep hb12
  have r_q_12 := r_q.below hb12
  have hbs12 := below_then hbs11 hb12
  clear r_a_11 b_a_11 r_b_11 b_b_11 r_c_11 b_c_11 HT_11 r_s_11 b_s_11 r_p_11 b_p_11 r_q hbs11 hb12
  have q_b0 := b_b_12.cell 0 rfl
  have q_b1 := b_b_12.cell 1 rfl
  have q_b2 := b_b_12.cell 2 rfl
  have q_c0 := b_c_12.cell 0 rfl
  have q_c1 := b_c_12.cell 1 rfl
  have q_c2 := b_c_12.cell 2 rfl
  go_wp2_with fail
  clear q_b0 q_b1 q_b2 q_c0 q_c1 q_c2
  with_reducible refine (mulT _ _ b c _ r_b_12 r_c_12 HT_12.out).mono ?_
  rintro e w13 ⟨⟨d_r, x_r, A_r, n_r, c_r, h_r, rfl, r_r⟩, hb13⟩
  have r_a_13 := r_a_12.below hb13
  have b_a_13 := b_a_12.keep hb13
  have r_b_13 := r_b_12.below hb13
  have b_b_13 := b_b_12.keep hb13
  have r_c_13 := r_c_12.below hb13
  have b_c_13 := b_c_12.keep hb13
  have HT_13 := hide (HT_12.out.below hb13)
  have r_s_13 := r_s_12.below hb13
  have b_s_13 := b_s_12.keep hb13
  have r_p_13 := r_p_12.below hb13
  have b_p_13 := b_p_12.keep hb13
  have r_q_13 := r_q_12.below hb13
  have b_q_13 := b_q_n12.keep hb13
  have hbs13 := below_then hbs12 hb13
  clear r_a_12 b_a_12 r_b_12 b_b_12 r_c_12 b_c_12 HT_12 r_s_12 b_s_12 r_p_12 b_p_12 r_q_12 b_q_n12 hbs12 hb13
  obtain ⟨b_r_n14, hb14⟩ := box_1 w13 [.bool d_r.neg, .slice A_r n_r c_r, .int .i64 d_r.e] 24
  go_upto_region 7 with fail
  generalize (w13.alloc (.cells #[.bool d_r.neg, .slice A_r n_r c_r, .int .i64 d_r.e] 24)) = w14 at *
  have r_a_14 := r_a_13.below hb14
  have b_a_14 := b_a_13.keep hb14
  have r_b_14 := r_b_13.below hb14
  have b_b_14 := b_b_13.keep hb14
  have r_c_14 := r_c_13.below hb14
  have b_c_14 := b_c_13.keep hb14
  have HT_14 := hide (HT_13.out.below hb14)
  have r_s_14 := r_s_13.below hb14
  have b_s_14 := b_s_13.keep hb14
  have r_p_14 := r_p_13.below hb14
  have b_p_14 := b_p_13.keep hb14
  have r_q_14 := r_q_13.below hb14
  have b_q_14 := b_q_13.keep hb14
  have r_r_14 := r_r.below hb14
  have hbs14 := below_then hbs13 hb14
  clear r_a_13 b_a_13 r_b_13 b_b_13 r_c_13 b_c_13 HT_13 r_s_13 b_s_13 r_p_13 b_p_13 r_q_13 b_q_13 r_r hbs13 hb14
  have q_q0 := b_q_14.cell 0 rfl
  have q_q1 := b_q_14.cell 1 rfl
  have q_q2 := b_q_14.cell 2 rfl
  have q_r0 := b_r_n14.cell 0 rfl
  have q_r1 := b_r_n14.cell 1 rfl
  have q_r2 := b_r_n14.cell 2 rfl
  go_wp2_with fail
  clear q_q0 q_q1 q_q2 q_r0 q_r1 q_r2
  with_reducible refine (addT _ _ d_q d_r _ r_q_14 r_r_14 HT_14.out).mono ?_
  rintro e w15 ⟨⟨d_t, x_t, A_t, n_t, c_t, h_t, rfl, r_t⟩, hb15⟩
  have r_a_15 := r_a_14.below hb15
  have b_a_15 := b_a_14.keep hb15
  have r_b_15 := r_b_14.below hb15
  have b_b_15 := b_b_14.keep hb15
  have r_c_15 := r_c_14.below hb15
  have b_c_15 := b_c_14.keep hb15
  have HT_15 := hide (HT_14.out.below hb15)
  have r_s_15 := r_s_14.below hb15
  have b_s_15 := b_s_14.keep hb15
  have r_p_15 := r_p_14.below hb15
  have b_p_15 := b_p_14.keep hb15
  have r_q_15 := r_q_14.below hb15
  have b_q_15 := b_q_14.keep hb15
  have r_r_15 := r_r_14.below hb15
  have b_r_15 := b_r_n14.keep hb15
  have hbs15 := below_then hbs14 hb15
  clear r_a_14 b_a_14 r_b_14 b_b_14 r_c_14 b_c_14 HT_14 r_s_14 b_s_14 r_p_14 b_p_14 r_q_14 b_q_14 r_r_14 b_r_n14 hbs14 hb15
  obtain ⟨b_t_n16, hb16⟩ := box_1 w15 [.bool d_t.neg, .slice A_t n_t c_t, .int .i64 d_t.e] 24
  go_upto_region 8 with fail
  generalize (w15.alloc (.cells #[.bool d_t.neg, .slice A_t n_t c_t, .int .i64 d_t.e] 24)) = w16 at *
  have r_a_16 := r_a_15.below hb16
  have b_a_16 := b_a_15.keep hb16
  have r_b_16 := r_b_15.below hb16
  have b_b_16 := b_b_15.keep hb16
  have r_c_16 := r_c_15.below hb16
  have b_c_16 := b_c_15.keep hb16
  have HT_16 := hide (HT_15.out.below hb16)
  have r_s_16 := r_s_15.below hb16
  have b_s_16 := b_s_15.keep hb16
  have r_p_16 := r_p_15.below hb16
  have b_p_16 := b_p_15.keep hb16
  have r_q_16 := r_q_15.below hb16
  have b_q_16 := b_q_15.keep hb16
  have r_r_16 := r_r_15.below hb16
  have b_r_16 := b_r_15.keep hb16
  have r_t_16 := r_t.below hb16
  have hbs16 := below_then hbs15 hb16
  clear r_a_15 b_a_15 r_b_15 b_b_15 r_c_15 b_c_15 HT_15 r_s_15 b_s_15 r_p_15 b_p_15 r_q_15 b_q_15 r_r_15 b_r_15 r_t hbs15 hb16
  by_cases z_s : x_s = 0
  rotate_left
  · have e_s : (x_s != 0) = true := by rw [bne_iff_ne]; exact z_s
    clear z_s
    go_wp2_with fail
    with_reducible refine (told2_any _ HT_16.out).mono ?_
    rintro e w17 ⟨rfl, hb17⟩
    have r_a_17 := r_a_16.below hb17
    have b_a_17 := b_a_16.keep hb17
    have r_b_17 := r_b_16.below hb17
    have b_b_17 := b_b_16.keep hb17
    have r_c_17 := r_c_16.below hb17
    have b_c_17 := b_c_16.keep hb17
    have HT_17 := hide (HT_16.out.below hb17)
    have r_s_17 := r_s_16.below hb17
    have b_s_17 := b_s_16.keep hb17
    have r_p_17 := r_p_16.below hb17
    have b_p_17 := b_p_16.keep hb17
    have r_q_17 := r_q_16.below hb17
    have b_q_17 := b_q_16.keep hb17
    have r_r_17 := r_r_16.below hb17
    have b_r_17 := b_r_16.keep hb17
    have r_t_17 := r_t_16.below hb17
    have b_t_17 := b_t_n16.keep hb17
    have hbs17 := below_then hbs16 hb17
    clear r_a_16 b_a_16 r_b_16 b_b_16 r_c_16 b_c_16 HT_16 r_s_16 b_s_16 r_p_16 b_p_16 r_q_16 b_q_16 r_r_16 b_r_16 r_t_16 b_t_n16 hbs16 hb17
    go_wp2_with fail
    go_ret
    exact ⟨rfl, hbs17⟩
  subst z_s
  by_cases z_p : x_p = 0
  rotate_left
  · have e_p : (x_p != 0) = true := by rw [bne_iff_ne]; exact z_p
    clear z_p
    go_wp2_with fail
    with_reducible refine (told2_any _ HT_16.out).mono ?_
    rintro e w17 ⟨rfl, hb17⟩
    have r_a_17 := r_a_16.below hb17
    have b_a_17 := b_a_16.keep hb17
    have r_b_17 := r_b_16.below hb17
    have b_b_17 := b_b_16.keep hb17
    have r_c_17 := r_c_16.below hb17
    have b_c_17 := b_c_16.keep hb17
    have HT_17 := hide (HT_16.out.below hb17)
    have r_s_17 := r_s_16.below hb17
    have b_s_17 := b_s_16.keep hb17
    have r_p_17 := r_p_16.below hb17
    have b_p_17 := b_p_16.keep hb17
    have r_q_17 := r_q_16.below hb17
    have b_q_17 := b_q_16.keep hb17
    have r_r_17 := r_r_16.below hb17
    have b_r_17 := b_r_16.keep hb17
    have r_t_17 := r_t_16.below hb17
    have b_t_17 := b_t_n16.keep hb17
    have hbs17 := below_then hbs16 hb17
    clear r_a_16 b_a_16 r_b_16 b_b_16 r_c_16 b_c_16 HT_16 r_s_16 b_s_16 r_p_16 b_p_16 r_q_16 b_q_16 r_r_16 b_r_16 r_t_16 b_t_n16 hbs16 hb17
    go_wp2_with fail
    go_ret
    exact ⟨rfl, hbs17⟩
  subst z_p
  by_cases z_q : x_q = 0
  rotate_left
  · have e_q : (x_q != 0) = true := by rw [bne_iff_ne]; exact z_q
    clear z_q
    go_wp2_with fail
    with_reducible refine (told2_any _ HT_16.out).mono ?_
    rintro e w17 ⟨rfl, hb17⟩
    have r_a_17 := r_a_16.below hb17
    have b_a_17 := b_a_16.keep hb17
    have r_b_17 := r_b_16.below hb17
    have b_b_17 := b_b_16.keep hb17
    have r_c_17 := r_c_16.below hb17
    have b_c_17 := b_c_16.keep hb17
    have HT_17 := hide (HT_16.out.below hb17)
    have r_s_17 := r_s_16.below hb17
    have b_s_17 := b_s_16.keep hb17
    have r_p_17 := r_p_16.below hb17
    have b_p_17 := b_p_16.keep hb17
    have r_q_17 := r_q_16.below hb17
    have b_q_17 := b_q_16.keep hb17
    have r_r_17 := r_r_16.below hb17
    have b_r_17 := b_r_16.keep hb17
    have r_t_17 := r_t_16.below hb17
    have b_t_17 := b_t_n16.keep hb17
    have hbs17 := below_then hbs16 hb17
    clear r_a_16 b_a_16 r_b_16 b_b_16 r_c_16 b_c_16 HT_16 r_s_16 b_s_16 r_p_16 b_p_16 r_q_16 b_q_16 r_r_16 b_r_16 r_t_16 b_t_n16 hbs16 hb17
    go_wp2_with fail
    go_ret
    exact ⟨rfl, hbs17⟩
  subst z_q
  by_cases z_r : x_r = 0
  rotate_left
  · have e_r : (x_r != 0) = true := by rw [bne_iff_ne]; exact z_r
    clear z_r
    go_wp2_with fail
    with_reducible refine (told2_any _ HT_16.out).mono ?_
    rintro e w17 ⟨rfl, hb17⟩
    have r_a_17 := r_a_16.below hb17
    have b_a_17 := b_a_16.keep hb17
    have r_b_17 := r_b_16.below hb17
    have b_b_17 := b_b_16.keep hb17
    have r_c_17 := r_c_16.below hb17
    have b_c_17 := b_c_16.keep hb17
    have HT_17 := hide (HT_16.out.below hb17)
    have r_s_17 := r_s_16.below hb17
    have b_s_17 := b_s_16.keep hb17
    have r_p_17 := r_p_16.below hb17
    have b_p_17 := b_p_16.keep hb17
    have r_q_17 := r_q_16.below hb17
    have b_q_17 := b_q_16.keep hb17
    have r_r_17 := r_r_16.below hb17
    have b_r_17 := b_r_16.keep hb17
    have r_t_17 := r_t_16.below hb17
    have b_t_17 := b_t_n16.keep hb17
    have hbs17 := below_then hbs16 hb17
    clear r_a_16 b_a_16 r_b_16 b_b_16 r_c_16 b_c_16 HT_16 r_s_16 b_s_16 r_p_16 b_p_16 r_q_16 b_q_16 r_r_16 b_r_16 r_t_16 b_t_n16 hbs16 hb17
    go_wp2_with fail
    go_ret
    exact ⟨rfl, hbs17⟩
  subst z_r
  by_cases z_t : x_t = 0
  rotate_left
  · have e_t : (x_t != 0) = true := by rw [bne_iff_ne]; exact z_t
    clear z_t
    go_wp2_with fail
    with_reducible refine (told2_any _ HT_16.out).mono ?_
    rintro e w17 ⟨rfl, hb17⟩
    have r_a_17 := r_a_16.below hb17
    have b_a_17 := b_a_16.keep hb17
    have r_b_17 := r_b_16.below hb17
    have b_b_17 := b_b_16.keep hb17
    have r_c_17 := r_c_16.below hb17
    have b_c_17 := b_c_16.keep hb17
    have HT_17 := hide (HT_16.out.below hb17)
    have r_s_17 := r_s_16.below hb17
    have b_s_17 := b_s_16.keep hb17
    have r_p_17 := r_p_16.below hb17
    have b_p_17 := b_p_16.keep hb17
    have r_q_17 := r_q_16.below hb17
    have b_q_17 := b_q_16.keep hb17
    have r_r_17 := r_r_16.below hb17
    have b_r_17 := b_r_16.keep hb17
    have r_t_17 := r_t_16.below hb17
    have b_t_17 := b_t_n16.keep hb17
    have hbs17 := below_then hbs16 hb17
    clear r_a_16 b_a_16 r_b_16 b_b_16 r_c_16 b_c_16 HT_16 r_s_16 b_s_16 r_p_16 b_p_16 r_q_16 b_q_16 r_r_16 b_r_16 r_t_16 b_t_n16 hbs16 hb17
    go_wp2_with fail
    go_ret
    exact ⟨rfl, hbs17⟩
  subst z_t
  obtain ⟨E1, E2, E3, E4, E5⟩ := ring_law hm_a la.out hm_b lb.out hm_c h_s.out.symm h_p.out.symm h_q.out.symm h_r.out.symm h_t.out.symm
  have H1 := hide E1
  have H2 := hide E2
  have H3 := hide E3
  have H4 := hide E4
  have H5 := hide E5
  clear E1 E2 E3 E4 E5 h_s h_p h_q h_r h_t
  have q_s0 := b_s_16.cell 0 rfl
  have q_s1 := b_s_16.cell 1 rfl
  have q_s2 := b_s_16.cell 2 rfl
  have q_b0 := b_b_16.cell 0 rfl
  have q_b1 := b_b_16.cell 1 rfl
  have q_b2 := b_b_16.cell 2 rfl
  go_wp2_with fail
  clear q_s0 q_s1 q_s2 q_b0 q_b1 q_b2
  with_reducible refine (subT _ _ d_s b _ r_s_16 r_b_16 HT_16.out).mono ?_
  rintro e w17 ⟨⟨d_d, x_d, A_d, n_d, c_d, h_d, rfl, r_d⟩, hb17⟩
  have r_a_17 := r_a_16.below hb17
  have b_a_17 := b_a_16.keep hb17
  have r_b_17 := r_b_16.below hb17
  have b_b_17 := b_b_16.keep hb17
  have r_c_17 := r_c_16.below hb17
  have b_c_17 := b_c_16.keep hb17
  have HT_17 := hide (HT_16.out.below hb17)
  have r_s_17 := r_s_16.below hb17
  have b_s_17 := b_s_16.keep hb17
  have r_p_17 := r_p_16.below hb17
  have b_p_17 := b_p_16.keep hb17
  have r_q_17 := r_q_16.below hb17
  have b_q_17 := b_q_16.keep hb17
  have r_r_17 := r_r_16.below hb17
  have b_r_17 := b_r_16.keep hb17
  have r_t_17 := r_t_16.below hb17
  have b_t_17 := b_t_n16.keep hb17
  have hbs17 := below_then hbs16 hb17
  clear r_a_16 b_a_16 r_b_16 b_b_16 r_c_16 b_c_16 HT_16 r_s_16 b_s_16 r_p_16 b_p_16 r_q_16 b_q_16 r_r_16 b_r_16 r_t_16 b_t_n16 hbs16 hb17
  obtain ⟨e1, e2⟩ := Prod.mk.inj (h_d.out.trans H2.out)
  have D1 := hide e1
  clear e1 h_d
  subst e2
  obtain ⟨b_d_n18, hb18⟩ := box_1 w17 [.bool d_d.neg, .slice A_d n_d c_d, .int .i64 d_d.e] 24
  go_upto_region 11 with fail
  generalize (w17.alloc (.cells #[.bool d_d.neg, .slice A_d n_d c_d, .int .i64 d_d.e] 24)) = w18 at *
  have r_a_18 := r_a_17.below hb18
  have b_a_18 := b_a_17.keep hb18
  have r_b_18 := r_b_17.below hb18
  have b_b_18 := b_b_17.keep hb18
  have r_c_18 := r_c_17.below hb18
  have b_c_18 := b_c_17.keep hb18
  have HT_18 := hide (HT_17.out.below hb18)
  have r_s_18 := r_s_17.below hb18
  have b_s_18 := b_s_17.keep hb18
  have r_p_18 := r_p_17.below hb18
  have b_p_18 := b_p_17.keep hb18
  have r_q_18 := r_q_17.below hb18
  have b_q_18 := b_q_17.keep hb18
  have r_r_18 := r_r_17.below hb18
  have b_r_18 := b_r_17.keep hb18
  have r_t_18 := r_t_17.below hb18
  have b_t_18 := b_t_17.keep hb18
  have r_d_18 := r_d.below hb18
  have hbs18 := below_then hbs17 hb18
  clear r_a_17 b_a_17 r_b_17 b_b_17 r_c_17 b_c_17 HT_17 r_s_17 b_s_17 r_p_17 b_p_17 r_q_17 b_q_17 r_r_17 b_r_17 r_t_17 b_t_17 r_d hbs17 hb18
  have q_b0 := b_b_18.cell 0 rfl
  have q_b1 := b_b_18.cell 1 rfl
  have q_b2 := b_b_18.cell 2 rfl
  have q_a0 := b_a_18.cell 0 rfl
  have q_a1 := b_a_18.cell 1 rfl
  have q_a2 := b_a_18.cell 2 rfl
  go_wp2_with fail
  clear q_b0 q_b1 q_b2 q_a0 q_a1 q_a2
  with_reducible refine (addT _ _ b a _ r_b_18 r_a_18 HT_18.out).mono ?_
  rintro e w19 ⟨⟨d_u, x_u, A_u, n_u, c_u, h_u, rfl, r_u⟩, hb19⟩
  have r_a_19 := r_a_18.below hb19
  have b_a_19 := b_a_18.keep hb19
  have r_b_19 := r_b_18.below hb19
  have b_b_19 := b_b_18.keep hb19
  have r_c_19 := r_c_18.below hb19
  have b_c_19 := b_c_18.keep hb19
  have HT_19 := hide (HT_18.out.below hb19)
  have r_s_19 := r_s_18.below hb19
  have b_s_19 := b_s_18.keep hb19
  have r_p_19 := r_p_18.below hb19
  have b_p_19 := b_p_18.keep hb19
  have r_q_19 := r_q_18.below hb19
  have b_q_19 := b_q_18.keep hb19
  have r_r_19 := r_r_18.below hb19
  have b_r_19 := b_r_18.keep hb19
  have r_t_19 := r_t_18.below hb19
  have b_t_19 := b_t_18.keep hb19
  have r_d_19 := r_d_18.below hb19
  have b_d_19 := b_d_n18.keep hb19
  have hbs19 := below_then hbs18 hb19
  clear r_a_18 b_a_18 r_b_18 b_b_18 r_c_18 b_c_18 HT_18 r_s_18 b_s_18 r_p_18 b_p_18 r_q_18 b_q_18 r_r_18 b_r_18 r_t_18 b_t_18 r_d_18 b_d_n18 hbs18 hb19
  obtain ⟨e1, e2⟩ := Prod.mk.inj (h_u.out.trans H3.out)
  have D2 := hide e1
  clear e1 h_u
  subst e2
  obtain ⟨b_u_n20, hb20⟩ := box_1 w19 [.bool d_u.neg, .slice A_u n_u c_u, .int .i64 d_u.e] 24
  go_upto_region 12 with fail
  generalize (w19.alloc (.cells #[.bool d_u.neg, .slice A_u n_u c_u, .int .i64 d_u.e] 24)) = w20 at *
  have r_a_20 := r_a_19.below hb20
  have b_a_20 := b_a_19.keep hb20
  have r_b_20 := r_b_19.below hb20
  have b_b_20 := b_b_19.keep hb20
  have r_c_20 := r_c_19.below hb20
  have b_c_20 := b_c_19.keep hb20
  have HT_20 := hide (HT_19.out.below hb20)
  have r_s_20 := r_s_19.below hb20
  have b_s_20 := b_s_19.keep hb20
  have r_p_20 := r_p_19.below hb20
  have b_p_20 := b_p_19.keep hb20
  have r_q_20 := r_q_19.below hb20
  have b_q_20 := b_q_19.keep hb20
  have r_r_20 := r_r_19.below hb20
  have b_r_20 := b_r_19.keep hb20
  have r_t_20 := r_t_19.below hb20
  have b_t_20 := b_t_19.keep hb20
  have r_d_20 := r_d_19.below hb20
  have b_d_20 := b_d_19.keep hb20
  have r_u_20 := r_u.below hb20
  have hbs20 := below_then hbs19 hb20
  clear r_a_19 b_a_19 r_b_19 b_b_19 r_c_19 b_c_19 HT_19 r_s_19 b_s_19 r_p_19 b_p_19 r_q_19 b_q_19 r_r_19 b_r_19 r_t_19 b_t_19 r_d_19 b_d_19 r_u hbs19 hb20
  go_wp2_with fail
  with_reducible refine (told2_any _ HT_20.out).mono ?_
  rintro e w21 ⟨rfl, hb21⟩
  have r_a_21 := r_a_20.below hb21
  have b_a_21 := b_a_20.keep hb21
  have r_b_21 := r_b_20.below hb21
  have b_b_21 := b_b_20.keep hb21
  have r_c_21 := r_c_20.below hb21
  have b_c_21 := b_c_20.keep hb21
  have HT_21 := hide (HT_20.out.below hb21)
  have r_s_21 := r_s_20.below hb21
  have b_s_21 := b_s_20.keep hb21
  have r_p_21 := r_p_20.below hb21
  have b_p_21 := b_p_20.keep hb21
  have r_q_21 := r_q_20.below hb21
  have b_q_21 := b_q_20.keep hb21
  have r_r_21 := r_r_20.below hb21
  have b_r_21 := b_r_20.keep hb21
  have r_t_21 := r_t_20.below hb21
  have b_t_21 := b_t_20.keep hb21
  have r_d_21 := r_d_20.below hb21
  have b_d_21 := b_d_20.keep hb21
  have r_u_21 := r_u_20.below hb21
  have b_u_21 := b_u_n20.keep hb21
  have hbs21 := below_then hbs20 hb21
  clear r_a_20 b_a_20 r_b_20 b_b_20 r_c_20 b_c_20 HT_20 r_s_20 b_s_20 r_p_20 b_p_20 r_q_20 b_q_20 r_r_20 b_r_20 r_t_20 b_t_20 r_d_20 b_d_20 r_u_20 b_u_n20 hbs20 hb21
  have q_p0 := b_p_21.cell 0 rfl
  have q_p1 := b_p_21.cell 1 rfl
  have q_p2 := b_p_21.cell 2 rfl
  have q_t0 := b_t_21.cell 0 rfl
  have q_t1 := b_t_21.cell 1 rfl
  have q_t2 := b_t_21.cell 2 rfl
  go_wp2_with fail
  clear q_p0 q_p1 q_p2 q_t0 q_t1 q_t2
  with_reducible refine (sameD_any _ _ d_p d_t _ r_p_21 r_t_21).mono ?_
  rw [show sameD d_p d_t = true by rw [H1.out]; exact sameD_self _]
  rintro e w22 ⟨rfl, hb22⟩
  have r_a_22 := r_a_21.below hb22
  have b_a_22 := b_a_21.keep hb22
  have r_b_22 := r_b_21.below hb22
  have b_b_22 := b_b_21.keep hb22
  have r_c_22 := r_c_21.below hb22
  have b_c_22 := b_c_21.keep hb22
  have HT_22 := hide (HT_21.out.below hb22)
  have r_s_22 := r_s_21.below hb22
  have b_s_22 := b_s_21.keep hb22
  have r_p_22 := r_p_21.below hb22
  have b_p_22 := b_p_21.keep hb22
  have r_q_22 := r_q_21.below hb22
  have b_q_22 := b_q_21.keep hb22
  have r_r_22 := r_r_21.below hb22
  have b_r_22 := b_r_21.keep hb22
  have r_t_22 := r_t_21.below hb22
  have b_t_22 := b_t_21.keep hb22
  have r_d_22 := r_d_21.below hb22
  have b_d_22 := b_d_21.keep hb22
  have r_u_22 := r_u_21.below hb22
  have b_u_22 := b_u_21.keep hb22
  have hbs22 := below_then hbs21 hb22
  clear r_a_21 b_a_21 r_b_21 b_b_21 r_c_21 b_c_21 HT_21 r_s_21 b_s_21 r_p_21 b_p_21 r_q_21 b_q_21 r_r_21 b_r_21 r_t_21 b_t_21 r_d_21 b_d_21 r_u_21 b_u_21 hbs21 hb22
  have q_d0 := b_d_22.cell 0 rfl
  have q_d1 := b_d_22.cell 1 rfl
  have q_d2 := b_d_22.cell 2 rfl
  have q_a0 := b_a_22.cell 0 rfl
  have q_a1 := b_a_22.cell 1 rfl
  have q_a2 := b_a_22.cell 2 rfl
  go_wp2_with fail
  clear q_d0 q_d1 q_d2 q_a0 q_a1 q_a2
  with_reducible refine (sameD_any _ _ d_d a _ r_d_22 r_a_22).mono ?_
  rw [show sameD d_d a = true by rw [D1.out]; exact sameD_self _]
  rintro e w23 ⟨rfl, hb23⟩
  have r_a_23 := r_a_22.below hb23
  have b_a_23 := b_a_22.keep hb23
  have r_b_23 := r_b_22.below hb23
  have b_b_23 := b_b_22.keep hb23
  have r_c_23 := r_c_22.below hb23
  have b_c_23 := b_c_22.keep hb23
  have HT_23 := hide (HT_22.out.below hb23)
  have r_s_23 := r_s_22.below hb23
  have b_s_23 := b_s_22.keep hb23
  have r_p_23 := r_p_22.below hb23
  have b_p_23 := b_p_22.keep hb23
  have r_q_23 := r_q_22.below hb23
  have b_q_23 := b_q_22.keep hb23
  have r_r_23 := r_r_22.below hb23
  have b_r_23 := b_r_22.keep hb23
  have r_t_23 := r_t_22.below hb23
  have b_t_23 := b_t_22.keep hb23
  have r_d_23 := r_d_22.below hb23
  have b_d_23 := b_d_22.keep hb23
  have r_u_23 := r_u_22.below hb23
  have b_u_23 := b_u_22.keep hb23
  have hbs23 := below_then hbs22 hb23
  clear r_a_22 b_a_22 r_b_22 b_b_22 r_c_22 b_c_22 HT_22 r_s_22 b_s_22 r_p_22 b_p_22 r_q_22 b_q_22 r_r_22 b_r_22 r_t_22 b_t_22 r_d_22 b_d_22 r_u_22 b_u_22 hbs22 hb23
  have q_u0 := b_u_23.cell 0 rfl
  have q_u1 := b_u_23.cell 1 rfl
  have q_u2 := b_u_23.cell 2 rfl
  have q_s0 := b_s_23.cell 0 rfl
  have q_s1 := b_s_23.cell 1 rfl
  have q_s2 := b_s_23.cell 2 rfl
  go_wp2_with fail
  clear q_u0 q_u1 q_u2 q_s0 q_s1 q_s2
  with_reducible refine (sameD_any _ _ d_u d_s _ r_u_23 r_s_23).mono ?_
  rw [show sameD d_u d_s = true by rw [D2.out]; exact sameD_self _]
  rintro e w24 ⟨rfl, hb24⟩
  have r_a_24 := r_a_23.below hb24
  have b_a_24 := b_a_23.keep hb24
  have r_b_24 := r_b_23.below hb24
  have b_b_24 := b_b_23.keep hb24
  have r_c_24 := r_c_23.below hb24
  have b_c_24 := b_c_23.keep hb24
  have HT_24 := hide (HT_23.out.below hb24)
  have r_s_24 := r_s_23.below hb24
  have b_s_24 := b_s_23.keep hb24
  have r_p_24 := r_p_23.below hb24
  have b_p_24 := b_p_23.keep hb24
  have r_q_24 := r_q_23.below hb24
  have b_q_24 := b_q_23.keep hb24
  have r_r_24 := r_r_23.below hb24
  have b_r_24 := b_r_23.keep hb24
  have r_t_24 := r_t_23.below hb24
  have b_t_24 := b_t_23.keep hb24
  have r_d_24 := r_d_23.below hb24
  have b_d_24 := b_d_23.keep hb24
  have r_u_24 := r_u_23.below hb24
  have b_u_24 := b_u_23.keep hb24
  have hbs24 := below_then hbs23 hb24
  clear r_a_23 b_a_23 r_b_23 b_b_23 r_c_23 b_c_23 HT_23 r_s_23 b_s_23 r_p_23 b_p_23 r_q_23 b_q_23 r_r_23 b_r_23 r_t_23 b_t_23 r_d_23 b_d_23 r_u_23 b_u_23 hbs23 hb24
  have q_s0 := b_s_24.cell 0 rfl
  have q_s1 := b_s_24.cell 1 rfl
  have q_s2 := b_s_24.cell 2 rfl
  go_wp2_with fail
  clear q_s0 q_s1 q_s2
  with_reducible refine (mayD_any _ d_s _ r_s_24).mono ?_
  rw [H4.out]
  rintro e w25 ⟨rfl, hb25⟩
  have r_a_25 := r_a_24.below hb25
  have b_a_25 := b_a_24.keep hb25
  have r_b_25 := r_b_24.below hb25
  have b_b_25 := b_b_24.keep hb25
  have r_c_25 := r_c_24.below hb25
  have b_c_25 := b_c_24.keep hb25
  have HT_25 := hide (HT_24.out.below hb25)
  have r_s_25 := r_s_24.below hb25
  have b_s_25 := b_s_24.keep hb25
  have r_p_25 := r_p_24.below hb25
  have b_p_25 := b_p_24.keep hb25
  have r_q_25 := r_q_24.below hb25
  have b_q_25 := b_q_24.keep hb25
  have r_r_25 := r_r_24.below hb25
  have b_r_25 := b_r_24.keep hb25
  have r_t_25 := r_t_24.below hb25
  have b_t_25 := b_t_24.keep hb25
  have r_d_25 := r_d_24.below hb25
  have b_d_25 := b_d_24.keep hb25
  have r_u_25 := r_u_24.below hb25
  have b_u_25 := b_u_24.keep hb25
  have hbs25 := below_then hbs24 hb25
  clear r_a_24 b_a_24 r_b_24 b_b_24 r_c_24 b_c_24 HT_24 r_s_24 b_s_24 r_p_24 b_p_24 r_q_24 b_q_24 r_r_24 b_r_24 r_t_24 b_t_24 r_d_24 b_d_24 r_u_24 b_u_24 hbs24 hb25
  have q_p0 := b_p_25.cell 0 rfl
  have q_p1 := b_p_25.cell 1 rfl
  have q_p2 := b_p_25.cell 2 rfl
  go_wp2_with fail
  clear q_p0 q_p1 q_p2
  with_reducible refine (mayD_any _ d_p _ r_p_25).mono ?_
  rw [H5.out]
  rintro e w26 ⟨rfl, hb26⟩
  have r_a_26 := r_a_25.below hb26
  have b_a_26 := b_a_25.keep hb26
  have r_b_26 := r_b_25.below hb26
  have b_b_26 := b_b_25.keep hb26
  have r_c_26 := r_c_25.below hb26
  have b_c_26 := b_c_25.keep hb26
  have HT_26 := hide (HT_25.out.below hb26)
  have r_s_26 := r_s_25.below hb26
  have b_s_26 := b_s_25.keep hb26
  have r_p_26 := r_p_25.below hb26
  have b_p_26 := b_p_25.keep hb26
  have r_q_26 := r_q_25.below hb26
  have b_q_26 := b_q_25.keep hb26
  have r_r_26 := r_r_25.below hb26
  have b_r_26 := b_r_25.keep hb26
  have r_t_26 := r_t_25.below hb26
  have b_t_26 := b_t_25.keep hb26
  have r_d_26 := r_d_25.below hb26
  have b_d_26 := b_d_25.keep hb26
  have r_u_26 := r_u_25.below hb26
  have b_u_26 := b_u_25.keep hb26
  have hbs26 := below_then hbs25 hb26
  clear r_a_25 b_a_25 r_b_25 b_b_25 r_c_25 b_c_25 HT_25 r_s_25 b_s_25 r_p_25 b_p_25 r_q_25 b_q_25 r_r_25 b_r_25 r_t_25 b_t_25 r_d_25 b_d_25 r_u_25 b_u_25 hbs25 hb26
  go_wp2_with fail
  go_ret
  exact ⟨rfl, hbs26⟩
end Go.Proofs.YtaifjldpjkabjaaDoor
